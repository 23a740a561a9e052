/- The texts Yg, Yh of this proof, one behind the other. -/
import Derived.Test.YtchkiegehejfmaaGreatDoorMsas
import Derived.Test.YtchkiegehejfmaaGreatDoorMsar
set_option linter.unusedSimpArgs false
set_option maxHeartbeats 16000000
set_option maxRecDepth 100000
set_option linter.unusedVariables false
namespace Go.Proofs.YtchkiegehejfmaaGreatDoor
open Go.RowKit Go.Lib
theorem De (S : ByteArray) (w : World) (hs : S.size ≤ 1000000) : Calls Tryz.prog 171 #[.string S] w fun e w' => e = .returned (nmV (Pr.numP S.data.toList)) ∧ Below w.heap.size w w' := by
 have hlen := Am S;have HAT : Hid (∀ k (h : k < S.size), S.data.toList[k]? = some S[k]) := hid (AN S);obtain ⟨R, hR⟩ : ∃ R, Pr.numP S.data.toList = R := ⟨_, rfl⟩;rw [hR];by_cases h0 : S.size = 0
 ·have HE : Hid (R = none) := hid (by rw [← hR]; exact Pr.numP_short (.inl (by
   have e : S.data.toList = [] := List.eq_nil_of_length_eq_zero (by omega)
   rw [e]; rfl)))
  have hz : ((S.size : Int) == 0) = true := by rw [beq_iff_eq]; omega
  clear hR h0 hlen;go_enter Tryz.func171, Tryz.ntmps171;go_wp2_with fail
  go_ret2
  exact ⟨AG HE.out, Below.refl _ _⟩
 have hz : ((S.size : Int) == 0) = false := by rw [beq_eq_false_iff_ne]; omega
 by_cases h14 : 14 < S.size
 ·have HE : Hid (R = none) := hid (by rw [← hR]; exact Pr.numP_short (.inr (by have := Pr.sgnL_le S.data.toList; omega)));clear hR hlen;go_enter Tryz.func171, Tryz.ntmps171;go_wp2_with fail
  go_ret2
  exact ⟨AG HE.out, Below.refl _ _⟩
 have HLEN := hid hlen;have HR := hid hR;have hp0 : 0 < S.size := by omega
 have HD0 : Hid (Pr.sgnL S.data.toList = if S[0]'hp0 = 45 then 1 else 0) := hid (by
  have h1 := HAT.out 0 hp0;unfold Pr.sgnL
  cases hL : S.data.toList with
  | nil => rw [hL] at h1; cases h1
  | cons c r =>
   rw [hL] at h1;injection h1 with h1;rw [← h1];by_cases hc : c = 45
   ·rw [if_pos hc, hc]; rfl
   ·rw [if_neg hc]; exact if_neg (fun e => hc (by injection e)))
 have HSV := hid (Pr.sval_eq S.data.toList);obtain ⟨d, hd⟩ : ∃ d, Pr.sgnL S.data.toList = d := ⟨_, rfl⟩;have HBAD : Hid ((∃ c ∈ S.data.toList.drop d, Ar.isDig c = false) → R = none) := hid (fun h => by rw [← HR.out]; exact Pr.numP_bad (by rw [hd]; exact h));rw [hd] at HD0 HSV;have hd1 : d = 0 ∨ d = 1 := by have := Pr.sgnL_le S.data.toList; omega
 have HNL : Hid (S.size - d ≤ 14) := hid (by omega);clear hd hlen hR h0;go_enter Tryz.func171, Tryz.ntmps171;go_wp2_with fail
 go_loop [4, 17] (fun n ix => ∃ k m : Nat, k ≤ S.size ∧ n = .int .i64 (m : Int) ∧ ix = .int .i64 (k : Int) ∧ Hid (DgS S.data.toList d k m)) (fun _ ix => S.size - (RowKit.intOf ix).toNat)
 case atStart => exact ⟨0, 0, Nat.zero_le _, rfl, rfl, hid ⟨by simp [Ar.val10], by simp⟩⟩
 case round =>
  obtain ⟨k, m, hk, rfl, rfl, hdg⟩ := hrel;have hmlt := hdg.out.lt (by omega);by_cases hlt : k < S.size
  ·have HC := hid (HAT.out k hlt);by_cases hk0 : k = 0 ∧ d = 1
   ·obtain ⟨rfl, rfl⟩ := hk0;have h45 : S[0]'hp0 = 45 := by
     have := HD0.out;by_cases h : S[0]'hp0 = 45
     ·exact h
     ·rw [if_neg h] at this; omega
    have hy := u8_eq (n := 45) rfl h45
    have HN : Hid (DgS S.data.toList 1 1 m) := hid (by
     obtain ⟨a, b⟩ := hdg.out;have e1 : (S.data.toList.take 0).drop 1 = [] := by simp
     have e2 : (S.data.toList.take 1).drop 1 = [] := List.drop_eq_nil_of_le (by rw [List.length_take]; omega);rw [e1] at a
     exact ⟨by rw [e2]; exact a, by rw [e2]; simp⟩)
    clear h45;go_wp2_with fail
    go_round
    case rel => exact ⟨1, m, by omega, rfl, by go_num, HN⟩
    case measure => simp [RowKit.intOf]; omega
   ·have hdk : d ≤ k := by omega
    have HB0 : Hid (¬ (48 ≤ (S[k]'hlt).toNat ∧ (S[k]'hlt).toNat ≤ 57) → R = none) := hid (fun h => HBAD.out (E2 HC.out hdk h));have HN0 : Hid (48 ≤ (S[k]'hlt).toNat ∧ (S[k]'hlt).toNat ≤ 57 → DgS S.data.toList d (k + 1) (10 * m + ((S[k]'hlt).toNat - 48))) := hid (fun h => hdg.out.next HC.out hdk (decide_eq_true h));have hcl := (S[k]'hlt).toNat_lt;by_cases hkz : k = 0
    ·subst hkz;have hkz2 : (((S[0]'hlt).toNat : Int) == 45) = false := by
      have hd0 : d = 0 := by omega
      have := HD0.out;exact u8_ne (n := 45) rfl (fun e => by rw [if_pos e] at this; omega)
     clear HC HD0;generalize hnc : (S[0]'hlt).toNat = nc at *;by_cases ha : nc < 48
     ·have HE := hid (HB0.out (by omega));go_wp2_with fail
      go_ret2
      exact ⟨AG HE.out, Below.refl _ _⟩
     ·by_cases hb : 57 < nc
      ·have HE := hid (HB0.out (by omega));go_wp2_with fail
       go_ret2
       exact ⟨AG HE.out, Below.refl _ _⟩
      ·have HN := hid (HN0.out ⟨by omega, by omega⟩);have hw1 : IntKind.i64.wrap (10 * (m : Int)) = 10 * (m : Int) := IntWalk.i64_in _ (by omega);have hw2 : IntKind.u8.wrap ((nc : Int) - 48) = (nc : Int) - 48 := by rw [IntKind.wrap_u8]; omega
       have hw3 : IntKind.i64.wrap (10 * (m : Int) + ((nc : Int) - 48)) = 10 * (m : Int) + ((nc : Int) - 48) := IntWalk.i64_in _ (by omega);go_wp2_with fail
       go_round
       case rel => exact ⟨1, 10 * m + (nc - 48), by omega, by go_num, by go_num, HN⟩
       case measure => simp [RowKit.intOf]; omega
    ·have hkz1 : ((k : Int) == 0) = false := by rw [beq_eq_false_iff_ne]; omega
     clear HC;generalize hnc : (S[k]'hlt).toNat = nc at *;by_cases ha : nc < 48
     ·have HE := hid (HB0.out (by omega));go_wp2_with fail
      go_ret2
      exact ⟨AG HE.out, Below.refl _ _⟩
     ·by_cases hb : 57 < nc
      ·have HE := hid (HB0.out (by omega));go_wp2_with fail
       go_ret2
       exact ⟨AG HE.out, Below.refl _ _⟩
      ·have HN := hid (HN0.out ⟨by omega, by omega⟩);have hw1 : IntKind.i64.wrap (10 * (m : Int)) = 10 * (m : Int) := IntWalk.i64_in _ (by omega);have hw2 : IntKind.u8.wrap ((nc : Int) - 48) = (nc : Int) - 48 := by rw [IntKind.wrap_u8]; omega
       have hw3 : IntKind.i64.wrap (10 * (m : Int) + ((nc : Int) - 48)) = 10 * (m : Int) + ((nc : Int) - 48) := IntWalk.i64_in _ (by omega);go_wp2_with fail
       go_round
       case rel => exact ⟨k + 1, 10 * m + (nc - 48), by omega, by go_num, by go_num, HN⟩
       case measure => simp [RowKit.intOf]; omega
  ·obtain rfl : k = S.size := by omega
   have HV : Hid (Pr.sval S.data.toList = Pr.sgnd d m) := hid (by
    rw [HSV.out];have := hdg.out;rw [HLEN.out] at this
    rw [this.all])
   have HW := hid (fun W => EJ (Pr.sgnd d m) W);have HMI : Hid (Ar.inInt (Pr.sgnd d m)) := hid (by unfold Pr.sgnd Ar.inInt; split <;> omega);have HT := hid (fun W => B0 (Pr.sgnd d m) W HMI.out);have hd2 : (S[0]'hp0 = 45 ∧ Pr.sgnd d m = -(m : Int)) ∨ (S[0]'hp0 ≠ 45 ∧ Pr.sgnd d m = (m : Int)) := by
    have := HD0.out;by_cases h : S[0]'hp0 = 45
    ·rw [if_pos h] at this;subst this;exact .inl ⟨h, rfl⟩
    ·rw [if_neg h] at this;subst this;exact .inr ⟨h, rfl⟩
   obtain ⟨q, hq⟩ : ∃ q, Pr.sgnd d m = q := ⟨_, rfl⟩;rw [hq] at HV HW HT hd2;rcases hd2 with ⟨h45, hqm⟩ | ⟨h45, hqm⟩
   ·have hy := u8_eq (n := 45) rfl h45;have hw64 : IntKind.i64.wrap (-(m : Int)) = q := by rw [← hqm]; exact IntWalk.i64_in _ (by omega)
    have HQM := hid hqm;clear h45 hqm hdg;by_cases hin : -1000000000000 ≤ q ∧ q ≤ 1000000000000
    ·rw [decide_eq_true hin] at HW;by_cases heq : Ar.itoa q = S.data.toList
     ·have HE : Hid (R = some q) := hid (by rw [← HR.out]; exact Pr.numP_yes HV.out hin.1 hin.2 heq);have hcmp : ((bstr (Ar.itoa q)).toList == S.toList) = true := by rw [AD, Lib.toList_data, beq_iff_eq]; exact heq
      have hcmn : ((bstr (Ar.itoa q)).toList != S.toList) = false := by rw [bne, hcmp]; rfl
      clear heq hin
      go_wp2_with (first
       | (go_at_call 175; refine (HW.out _).mono ?_; rintro e w1 ⟨rfl, hb1⟩; have HB1 := hid hb1; clear hb1)
       | (go_at_call 75; refine (HT.out _).mono ?_; rintro e w2 ⟨rfl, hb2⟩; have HB2 := hid hb2; clear hb2))
      go_ret2
      exact ⟨CR HE.out, HB1.out.trans (HB2.out.mono HB1.out.size)⟩
     ·have HE : Hid (R = none) := hid (by rw [← HR.out]; exact Pr.numP_no HV.out (.inr (.inr heq)));have hcmp : ((bstr (Ar.itoa q)).toList == S.toList) = false := by rw [AD, Lib.toList_data, beq_eq_false_iff_ne]; exact heq
      have hcmn : ((bstr (Ar.itoa q)).toList != S.toList) = true := by rw [bne, hcmp]; rfl
      clear heq hin
      go_wp2_with (first
       | (go_at_call 175; refine (HW.out _).mono ?_; rintro e w1 ⟨rfl, hb1⟩; have HB1 := hid hb1; clear hb1)
       | (go_at_call 75; refine (HT.out _).mono ?_; rintro e w2 ⟨rfl, hb2⟩; have HB2 := hid hb2; clear hb2))
      go_ret2
      exact ⟨AG HE.out, HB1.out.trans (HB2.out.mono HB1.out.size)⟩
    ·have HE : Hid (R = none) := hid (by rw [← HR.out]; exact Pr.numP_no HV.out (by omega));rw [decide_eq_false hin] at HW;clear hin;go_wp2_with (go_at_call 175; refine (HW.out _).mono ?_; rintro e w1 ⟨rfl, hb1⟩; have HB1 := hid hb1; clear hb1)
     go_ret2
     exact ⟨AG HE.out, HB1.out⟩
   ·have hy := u8_ne (n := 45) rfl h45;obtain rfl : q = (m : Int) := hqm;clear h45 hdg;by_cases hin : -1000000000000 ≤ (m : Int) ∧ (m : Int) ≤ 1000000000000
    ·rw [decide_eq_true hin] at HW;by_cases heq : Ar.itoa (m : Int) = S.data.toList
     ·have HE : Hid (R = some (m : Int)) := hid (by rw [← HR.out]; exact Pr.numP_yes HV.out hin.1 hin.2 heq);have hcmp : ((bstr (Ar.itoa (m : Int))).toList == S.toList) = true := by rw [AD, Lib.toList_data, beq_iff_eq]; exact heq
      have hcmn : ((bstr (Ar.itoa (m : Int))).toList != S.toList) = false := by rw [bne, hcmp]; rfl
      clear heq hin
      go_wp2_with (first
       | (go_at_call 175; refine (HW.out _).mono ?_; rintro e w1 ⟨rfl, hb1⟩; have HB1 := hid hb1; clear hb1)
       | (go_at_call 75; refine (HT.out _).mono ?_; rintro e w2 ⟨rfl, hb2⟩; have HB2 := hid hb2; clear hb2))
      go_ret2
      exact ⟨CR HE.out, HB1.out.trans (HB2.out.mono HB1.out.size)⟩
     ·have HE : Hid (R = none) := hid (by rw [← HR.out]; exact Pr.numP_no HV.out (.inr (.inr heq)));have hcmp : ((bstr (Ar.itoa (m : Int))).toList == S.toList) = false := by rw [AD, Lib.toList_data, beq_eq_false_iff_ne]; exact heq
      have hcmn : ((bstr (Ar.itoa (m : Int))).toList != S.toList) = true := by rw [bne, hcmp]; rfl
      clear heq hin
      go_wp2_with (first
       | (go_at_call 175; refine (HW.out _).mono ?_; rintro e w1 ⟨rfl, hb1⟩; have HB1 := hid hb1; clear hb1)
       | (go_at_call 75; refine (HT.out _).mono ?_; rintro e w2 ⟨rfl, hb2⟩; have HB2 := hid hb2; clear hb2))
      go_ret2
      exact ⟨AG HE.out, HB1.out.trans (HB2.out.mono HB1.out.size)⟩
    ·have HE : Hid (R = none) := hid (by rw [← HR.out]; exact Pr.numP_no HV.out (by omega));rw [decide_eq_false hin] at HW;clear hin;go_wp2_with (go_at_call 175; refine (HW.out _).mono ?_; rintro e w1 ⟨rfl, hb1⟩; have HB1 := hid hb1; clear hb1)
     go_ret2
     exact ⟨AG HE.out, HB1.out⟩
end Go.Proofs.YtchkiegehejfmaaGreatDoor
namespace Pr
theorem fieldP_text {o : Int} (ho : o = 6 ∨ o = 7 ∨ o = 8) (r : List Tk) : fieldP o r = match takeF 2 r with
  | none => none
  | some (t, q) => some (.mk o t 0 [], q) := by unfold fieldP; rw [if_pos ho]; rfl
def fieldT (o : Int) (t : Str) (q : List Tk) : Option (Cn × List Tk) := if o = 9 then some (.mk o t 0 [], q) else if o = 5 then (match idxOf t kindL with
  | none => none
  | some k => some (.mk o [] (1 + k) [], q))
 else (match numP t with
  | none => none
  | some n => some (.mk o [] n [], q))
theorem fieldP_word {o : Int} (ho : ¬ (o = 6 ∨ o = 7 ∨ o = 8)) (r : List Tk) : fieldP o r = match takeF 1 r with
  | none => none
  | some (t, q) => fieldT o t q := by unfold fieldP; rw [if_neg ho]; rfl
theorem tail_at {L : List Tk} {i : Nat} : (L.drop i).tail = L.drop (i + 1) := by rw [List.tail_drop]
end Pr
namespace Go.Proofs.YtchkiegehejfmaaGreatDoor
open Go.RowKit Go.Lib
structure FdM (w0 : World) (g : Nat) (o : Int) (t : ByteArray) (n : Int) (wr : World) : Prop where
 lt : g < w0.heap.size
 res : Blk wr w0.heap.size 36 zCn
 cnd : Blk wr (w0.heap.size + 1) 36 #[.int .i64 o, .string t, .int .i64 n, .slice none 0 0]
 grown : w0.grownBy wr (some g)
theorem FdM.by_ {w0 wr w' : World} {g : Nat} {o : Int} {t : ByteArray} {n : Int} (h : FdM w0 g o t n wr) (hg : wr.grownBy w' (some g)) : FdM w0 g o t n w' := by
 have h1 := h.lt;exact ⟨h1, h.res.grown hg (fun e => by injection e with e; omega), h.cnd.grown hg (fun e => by injection e with e; omega), At h.grown hg⟩
theorem FdM.set1 {w0 wr : World} {g : Nat} {o : Int} {t : ByteArray} {n : Int} (h : FdM w0 g o t n wr) (s : ByteArray) : FdM w0 g o s n (wr.setCell ⟨w0.heap.size + 1, 1, none⟩ (.string s)) :=
 ⟨h.lt, h.res.far (by show w0.heap.size ≠ w0.heap.size + 1; omega) _, h.cnd.set_ 1 _, AA h.grown ((Below.refl _ _).setCell (by show w0.heap.size ≤ w0.heap.size + 1; omega) _)⟩
theorem FdM.set2 {w0 wr : World} {g : Nat} {o : Int} {t : ByteArray} {n : Int} (h : FdM w0 g o t n wr) (m : Int) : FdM w0 g o t m (wr.setCell ⟨w0.heap.size + 1, 2, none⟩ (.int .i64 m)) :=
 ⟨h.lt, h.res.far (by show w0.heap.size ≠ w0.heap.size + 1; omega) _, h.cnd.set_ 2 _, AA h.grown ((Below.refl _ _).setCell (by show w0.heap.size ≤ w0.heap.size + 1; omega) _)⟩
theorem PSt.low {w0 w w' : World} {g : Nat} {A : Option Addr} {cap : Nat} {L : List Pr.Tk} {i o : Nat} (h : PSt w g A cap L i o) (hg : g < w0.heap.size) (hA : ∀ a, A = some a → a.block < w0.heap.size) (hb : Below w0.heap.size w w') : PSt w' g A cap L i o := h.keepB hg hA (fun k hk => hb.block k hk)
theorem E3 (op : Int) (h5 : 5 ≤ op) (h12 : op ≤ 12) (g : Nat) (A : Option Addr) (cap : Nat) (L : List Pr.Tk) (i o : Nat) (w : World) (h : PSt w g A cap L i o) (hi : i ≤ L.length) (hL : L.length ≤ 1000000) (hT : ∀ t ∈ L, t.text.length ≤ 1000000) :
  Calls Tryz.prog 163 #[.pointer (some ⟨g, 0, none⟩), .int .i64 op] w (CdA w g A cap L o (Pr.fieldP op (L.drop i))) := by
 have hlt := h.lt;have HAL := hid h.rowlt;have hz1 : Below w.heap.size w (w.alloc (.cells zCn 36)) := (Below.refl w.heap.size w).alloc (Nat.le_refl _) (.cells zCn 36);have hs1 : (w.alloc (.cells zCn 36)).heap.size = w.heap.size + 1 := World.size_alloc ..
 have hz2 : Below w.heap.size w ((w.alloc (.cells zCn 36)).alloc (.cells #[.int .i64 op, .string ⟨#[]⟩, .int .i64 0, .slice none 0 0] 36)) := hz1.alloc (by omega) _;have HP1 := hid (h.bel hz2)
 have HM1 : Hid (FdM w g op ⟨#[]⟩ 0 ((w.alloc (.cells zCn 36)).alloc (.cells #[.int .i64 op, .string ⟨#[]⟩, .int .i64 0, .slice none 0 0] 36))) := hid (by
  refine ⟨hlt, (Blk.new w 36 zCn).alloc _, ?_, As hz2⟩;have := Blk.new (w.alloc (.cells zCn 36)) 36 #[.int .i64 op, .string ⟨#[]⟩, .int .i64 0, .slice none 0 0]
  rwa [hs1] at this)
 have HSX := hid (fun (t : ByteArray) (n : Int) => (by rw [Aa]; rfl : (Tryz.prog.info? 36).map (·.size) = some (#[.int .i64 op, .string t, .int .i64 n, .slice none 0 0] : Array Value).size));have HTKW := hid (fun f W (hP : PSt W g A cap L i o) => Bg f g A cap L i o W hP hi hL);have HTK := hid (fun f => HTKW.out f _ HP1.out);have HTL : Hid (∀ t q, Pr.takeF 1 (L.drop i) = some (t, q) → t.length ≤ 1000000) := hid (fun t q ht => hT ⟨1, t⟩ (List.mem_of_mem_drop (i := i) (by rw [Pr.takeF_of ht]; exact List.mem_cons_self ..)));obtain ⟨RES, hRES⟩ : ∃ R, Pr.fieldP op (L.drop i) = R := ⟨_, rfl⟩;have HRES := hid hRES;rw [hRES];clear h hz1 hz2 hs1 hRES hT;by_cases ho : op = 6 ∨ op = 7 ∨ op = 8
 ·have HTK2 := hid (HTK.out 2);by_cases hf : (Pr.hdT (L.drop i)).form = 2
  ·have hil := Pr.hd_lt (L := L) (i := i) (by rw [hf]; decide);have HE : Hid (RES = some (.mk op (Pr.hdT (L.drop i)).text 0 [], L.drop (i + 1))) := hid (by rw [← HRES.out, Pr.fieldP_text ho, Pr.takeF_yes (by decide) hf, Pr.tail_at]);rw [hf] at HTK2;simp only [if_true] at HTK2;generalize (Pr.hdT (L.drop i)).text = t at *;clear hf;obtain ho | ho | ho := ho
   ·subst ho;clear HTK;go_enter Tryz.func163, Tryz.ntmps163
    go_upto_region 18 with (go_at_call 62; refine HTK2.out.mono ?_; rintro e w3 ⟨⟨rfl, hp3⟩, hg3⟩; have HP3 := hid hp3; have HM3 := hid (HM1.out.by_ hg3); have hf3 := HM3.out.cnd.frozen 1; have hc3 := HM3.out.cnd.cell 1; (simp only [List.getElem?_toArray, List.getElem?_cons_succ, List.getElem?_cons_zero] at hc3); clear hp3 hg3)
    have HM4 := hid (HM3.out.set1 (bstr t));have HP4 : Hid (PSt (w3.setCell ⟨w.heap.size + 1, 1, none⟩ (.string (bstr t))) g A cap L (i + 1) o) := hid (HP3.out.low hlt HAL.out ((Below.refl _ _).setCell (by show w.heap.size ≤ w.heap.size + 1; omega) _));generalize hw4 : w3.setCell ⟨w.heap.size + 1, 1, none⟩ (.string (bstr t)) = w4 at *;have HB4 := hid HM4.out.cnd;have HR4 := hid HM4.out.res;have HS4 := hid (HSX.out (bstr t) 0)
    go_wp2_with (first
     | (refine Ac (by rfl) 36 _ rfl (w.heap.size + 1) rfl 36 _ (0, 0) _ rfl HB4.out Tryz.underlying36 HS4.out ?_)
     | ((with_reducible refine Ab rfl 36 _ _ rfl w.heap.size #[.int .i64 6, .string (bstr t), .int .i64 0, .slice none 0 0] ?_ ?_ 36 _ HR4.out HS4.out rfl (AJ _ _ _ _ _ _) ?_); rfl; rfl; intro w5 hk5 hs5 hbl5 hoth5))
    have HG5 : Hid (w.grownBy w5 (some g)) := hid (AA HM4.out.grown (hbl5 w.heap.size (Nat.le_refl _)));have HP5 : Hid (PSt w5 g A cap L (i + 1) o) := hid (HP4.out.low hlt HAL.out (hbl5 w.heap.size (Nat.le_refl _)));exact bodyPost_ret (v := .agg #[.int .i64 6, .string (bstr t), .int .i64 0, .slice none 0 0]) (results_cell_row rfl _ _ w.heap.size 36 _ (0, 0) _ rfl hk5 Tryz.underlying36 rfl HS4.out) rfl (CdA.good HE.out (by omega) (CnV.make (ks := []) (A := none) (cap := 0) CnRow.nil) HP5.out HG5.out)
   ·subst ho;clear HTK;go_enter Tryz.func163, Tryz.ntmps163
    go_upto_region 18 with (go_at_call 62; refine HTK2.out.mono ?_; rintro e w3 ⟨⟨rfl, hp3⟩, hg3⟩; have HP3 := hid hp3; have HM3 := hid (HM1.out.by_ hg3); have hf3 := HM3.out.cnd.frozen 1; have hc3 := HM3.out.cnd.cell 1; (simp only [List.getElem?_toArray, List.getElem?_cons_succ, List.getElem?_cons_zero] at hc3); clear hp3 hg3)
    have HM4 := hid (HM3.out.set1 (bstr t));have HP4 : Hid (PSt (w3.setCell ⟨w.heap.size + 1, 1, none⟩ (.string (bstr t))) g A cap L (i + 1) o) := hid (HP3.out.low hlt HAL.out ((Below.refl _ _).setCell (by show w.heap.size ≤ w.heap.size + 1; omega) _));generalize hw4 : w3.setCell ⟨w.heap.size + 1, 1, none⟩ (.string (bstr t)) = w4 at *;have HB4 := hid HM4.out.cnd;have HR4 := hid HM4.out.res;have HS4 := hid (HSX.out (bstr t) 0)
    go_wp2_with (first
     | (refine Ac (by rfl) 36 _ rfl (w.heap.size + 1) rfl 36 _ (0, 0) _ rfl HB4.out Tryz.underlying36 HS4.out ?_)
     | ((with_reducible refine Ab rfl 36 _ _ rfl w.heap.size #[.int .i64 7, .string (bstr t), .int .i64 0, .slice none 0 0] ?_ ?_ 36 _ HR4.out HS4.out rfl (AJ _ _ _ _ _ _) ?_); rfl; rfl; intro w5 hk5 hs5 hbl5 hoth5))
    have HG5 : Hid (w.grownBy w5 (some g)) := hid (AA HM4.out.grown (hbl5 w.heap.size (Nat.le_refl _)));have HP5 : Hid (PSt w5 g A cap L (i + 1) o) := hid (HP4.out.low hlt HAL.out (hbl5 w.heap.size (Nat.le_refl _)));exact bodyPost_ret (v := .agg #[.int .i64 7, .string (bstr t), .int .i64 0, .slice none 0 0]) (results_cell_row rfl _ _ w.heap.size 36 _ (0, 0) _ rfl hk5 Tryz.underlying36 rfl HS4.out) rfl (CdA.good HE.out (by omega) (CnV.make (ks := []) (A := none) (cap := 0) CnRow.nil) HP5.out HG5.out)
   ·subst ho;clear HTK;go_enter Tryz.func163, Tryz.ntmps163
    go_upto_region 18 with (go_at_call 62; refine HTK2.out.mono ?_; rintro e w3 ⟨⟨rfl, hp3⟩, hg3⟩; have HP3 := hid hp3; have HM3 := hid (HM1.out.by_ hg3); have hf3 := HM3.out.cnd.frozen 1; have hc3 := HM3.out.cnd.cell 1; (simp only [List.getElem?_toArray, List.getElem?_cons_succ, List.getElem?_cons_zero] at hc3); clear hp3 hg3)
    have HM4 := hid (HM3.out.set1 (bstr t));have HP4 : Hid (PSt (w3.setCell ⟨w.heap.size + 1, 1, none⟩ (.string (bstr t))) g A cap L (i + 1) o) := hid (HP3.out.low hlt HAL.out ((Below.refl _ _).setCell (by show w.heap.size ≤ w.heap.size + 1; omega) _));generalize hw4 : w3.setCell ⟨w.heap.size + 1, 1, none⟩ (.string (bstr t)) = w4 at *;have HB4 := hid HM4.out.cnd;have HR4 := hid HM4.out.res;have HS4 := hid (HSX.out (bstr t) 0)
    go_wp2_with (first
     | (refine Ac (by rfl) 36 _ rfl (w.heap.size + 1) rfl 36 _ (0, 0) _ rfl HB4.out Tryz.underlying36 HS4.out ?_)
     | ((with_reducible refine Ab rfl 36 _ _ rfl w.heap.size #[.int .i64 8, .string (bstr t), .int .i64 0, .slice none 0 0] ?_ ?_ 36 _ HR4.out HS4.out rfl (AJ _ _ _ _ _ _) ?_); rfl; rfl; intro w5 hk5 hs5 hbl5 hoth5))
    have HG5 : Hid (w.grownBy w5 (some g)) := hid (AA HM4.out.grown (hbl5 w.heap.size (Nat.le_refl _)));have HP5 : Hid (PSt w5 g A cap L (i + 1) o) := hid (HP4.out.low hlt HAL.out (hbl5 w.heap.size (Nat.le_refl _)));exact bodyPost_ret (v := .agg #[.int .i64 8, .string (bstr t), .int .i64 0, .slice none 0 0]) (results_cell_row rfl _ _ w.heap.size 36 _ (0, 0) _ rfl hk5 Tryz.underlying36 rfl HS4.out) rfl (CdA.good HE.out (by omega) (CnV.make (ks := []) (A := none) (cap := 0) CnRow.nil) HP5.out HG5.out)
  ·have HE : Hid (RES = none) := hid (by rw [← HRES.out, Pr.fieldP_text ho, Pr.takeF_no hf]);simp only [if_neg hf] at HTK2;clear hf;obtain ho | ho | ho := ho
   ·subst ho;clear HTK;go_enter Tryz.func163, Tryz.ntmps163;go_wp2_with (go_at_call 62; refine HTK2.out.mono ?_; rintro e w3 ⟨rfl, hg3⟩; have HM3 := hid (HM1.out.by_ hg3); clear hg3);exact ⟨rfl, CdA.bad HE.out HM3.out.grown⟩
   ·subst ho;clear HTK;go_enter Tryz.func163, Tryz.ntmps163;go_wp2_with (go_at_call 62; refine HTK2.out.mono ?_; rintro e w3 ⟨rfl, hg3⟩; have HM3 := hid (HM1.out.by_ hg3); clear hg3);exact ⟨rfl, CdA.bad HE.out HM3.out.grown⟩
   ·subst ho;clear HTK;go_enter Tryz.func163, Tryz.ntmps163;go_wp2_with (go_at_call 62; refine HTK2.out.mono ?_; rintro e w3 ⟨rfl, hg3⟩; have HM3 := hid (HM1.out.by_ hg3); clear hg3);exact ⟨rfl, CdA.bad HE.out HM3.out.grown⟩
 ·by_cases hf : (Pr.hdT (L.drop i)).form = 1
  ·have HTK1 := hid (HTK.out 1);have HTK5 := hid (HTKW.out 1);have hil := Pr.hd_lt (L := L) (i := i) (by rw [hf]; decide);have HTT := hid (Pr.takeF_yes (f := 1) (by decide) hf);have htl := HTL.out _ _ HTT.out;rw [Pr.tail_at] at HTT;rw [hf] at HTK1 HTK5;simp only [if_true] at HTK1 HTK5;generalize (Pr.hdT (L.drop i)).text = t at *;have HRT : Hid (RES = Pr.fieldT op t (L.drop (i + 1))) := hid (by rw [← HRES.out, Pr.fieldP_word ho, HTT.out]);clear hf HTK HTT HRES HTKW;by_cases h9 : op = 9
   ·subst h9;have HE : Hid (RES = some (.mk 9 t 0 [], L.drop (i + 1))) := hid (by rw [HRT.out]; rfl);go_enter Tryz.func163, Tryz.ntmps163
    go_upto_region 18 with (go_at_call 62; refine HTK1.out.mono ?_; rintro e w3 ⟨⟨rfl, hp3⟩, hg3⟩; have HP3 := hid hp3; have HM3 := hid (HM1.out.by_ hg3); have hf3 := HM3.out.cnd.frozen 1; have hc3 := HM3.out.cnd.cell 1; (simp only [List.getElem?_toArray, List.getElem?_cons_succ, List.getElem?_cons_zero] at hc3); clear hp3 hg3)
    have HM4 := hid (HM3.out.set1 (bstr t));have HP4 : Hid (PSt (w3.setCell ⟨w.heap.size + 1, 1, none⟩ (.string (bstr t))) g A cap L (i + 1) o) := hid (HP3.out.low hlt HAL.out ((Below.refl _ _).setCell (by show w.heap.size ≤ w.heap.size + 1; omega) _));generalize hw4 : w3.setCell ⟨w.heap.size + 1, 1, none⟩ (.string (bstr t)) = w4 at *;have HB4 := hid HM4.out.cnd;have HR4 := hid HM4.out.res;have HS4 := hid (HSX.out (bstr t) 0)
    go_wp2_with (first
     | (refine Ac (by rfl) 36 _ rfl (w.heap.size + 1) rfl 36 _ (0, 0) _ rfl HB4.out Tryz.underlying36 HS4.out ?_)
     | ((with_reducible refine Ab rfl 36 _ _ rfl w.heap.size #[.int .i64 9, .string (bstr t), .int .i64 0, .slice none 0 0] ?_ ?_ 36 _ HR4.out HS4.out rfl (AJ _ _ _ _ _ _) ?_); rfl; rfl; intro w5 hk5 hs5 hbl5 hoth5))
    have HG5 : Hid (w.grownBy w5 (some g)) := hid (AA HM4.out.grown (hbl5 w.heap.size (Nat.le_refl _)));have HP5 : Hid (PSt w5 g A cap L (i + 1) o) := hid (HP4.out.low hlt HAL.out (hbl5 w.heap.size (Nat.le_refl _)));exact bodyPost_ret (v := .agg #[.int .i64 9, .string (bstr t), .int .i64 0, .slice none 0 0]) (results_cell_row rfl _ _ w.heap.size 36 _ (0, 0) _ rfl hk5 Tryz.underlying36 rfl HS4.out) rfl (CdA.good HE.out (by omega) (CnV.make (ks := []) (A := none) (cap := 0) CnRow.nil) HP5.out HG5.out)
   ·by_cases h5' : op = 5
    ·subst h5';have HKN := hid (fun W => Bv W)
     cases hix : Pr.idxOf t Pr.kindL with
     | none =>
      have HE : Hid (RES = none) := hid (by rw [HRT.out]; unfold Pr.fieldT; rw [if_neg (by decide), if_pos rfl, hix]);have HIX : Hid (Pr.idxI t Pr.kindL = -1) := hid (by unfold Pr.idxI; rw [hix]);clear hix;go_enter Tryz.func163, Tryz.ntmps163;go_wp2_with fail;refine (HKN.out _).mono ?_;rintro e w2 ⟨⟨gk, rfl, hgk, hrk⟩, hb2⟩;have HM2 := hid (HM1.out.by_ (As hb2));have HP2 := hid (HP1.out.bel hb2);have HGK : Hid (gk ≠ g) := hid (Nat.ne_of_gt (Nat.lt_of_lt_of_le HP1.out.lt hgk));have HRK := hid hrk;clear hb2 hgk hrk;go_wp2_with fail;refine (HTK5.out w2 HP2.out).mono ?_;rintro e w3 ⟨⟨rfl, hp3⟩, hg3⟩;have HP4 := hid hp3;have HM4 := hid (HM2.out.by_ hg3);have HRK3 : Hid (Rd w3 (some ⟨gk, 0, none⟩) 14 (strL Pr.kindL)) := hid (A3 HRK.out (fun a ha hl => hg3.block a.block hl (fun e => by injection ha with ha; subst ha; injection e with e; exact HGK.out e)));have HI := hid (Ex (some ⟨gk, 0, none⟩) 14 Pr.kindL t w3 (by decide) HRK3.out);rw [HIX.out] at HI;clear hp3 hg3;go_wp2_with (go_at_call 170; refine HI.out.mono ?_; rintro e w4 ⟨rfl, rfl⟩);exact ⟨rfl, CdA.bad HE.out HM4.out.grown⟩
     | some kk =>
      have HE : Hid (RES = some (.mk 5 [] (1 + (kk : Int)) [], L.drop (i + 1))) := hid (by rw [HRT.out]; unfold Pr.fieldT; rw [if_neg (by decide), if_pos rfl, hix]);have HIX : Hid (Pr.idxI t Pr.kindL = (kk : Int)) := hid (by unfold Pr.idxI; rw [hix]);have hkk : kk < 14 := by
       unfold Pr.idxOf at hix;exact (List.findIdx?_eq_some_iff_getElem.1 hix).1
      clear hix;go_enter Tryz.func163, Tryz.ntmps163;go_wp2_with fail;refine (HKN.out _).mono ?_;rintro e w2 ⟨⟨gk, rfl, hgk, hrk⟩, hb2⟩;have HM2 := hid (HM1.out.by_ (As hb2));have HP2 := hid (HP1.out.bel hb2);have HGK : Hid (gk ≠ g) := hid (Nat.ne_of_gt (Nat.lt_of_lt_of_le HP1.out.lt hgk));have HRK := hid hrk;clear hb2 hgk hrk;go_wp2_with fail;refine (HTK5.out w2 HP2.out).mono ?_;rintro e w3 ⟨⟨rfl, hp3⟩, hg3⟩;have HP4 := hid hp3;have HM4 := hid (HM2.out.by_ hg3);have HRK3 : Hid (Rd w3 (some ⟨gk, 0, none⟩) 14 (strL Pr.kindL)) := hid (A3 HRK.out (fun a ha hl => hg3.block a.block hl (fun e => by injection ha with ha; subst ha; injection e with e; exact HGK.out e)));have HI := hid (Ex (some ⟨gk, 0, none⟩) 14 Pr.kindL t w3 (by decide) HRK3.out);rw [HIX.out] at HI;have hf3 := HM4.out.cnd.frozen 2;have hc3 := HM4.out.cnd.cell 2;simp only [List.getElem?_toArray, List.getElem?_cons_succ, List.getElem?_cons_zero] at hc3;clear hp3 hg3
      go_upto_region 18 with (go_at_call 170; refine HI.out.mono ?_; rintro e w4 ⟨rfl, rfl⟩)
      have HM4 := hid (HM4.out.set2 (1 + (kk : Int)));have HP4 : Hid (PSt (w3.setCell ⟨w.heap.size + 1, 2, none⟩ (.int .i64 (1 + (kk : Int)))) g A cap L (i + 1) o) := hid (HP4.out.low hlt HAL.out ((Below.refl _ _).setCell (by show w.heap.size ≤ w.heap.size + 1; omega) _));generalize hw4 : w3.setCell ⟨w.heap.size + 1, 2, none⟩ (.int .i64 (1 + (kk : Int))) = w4 at *;have HB4 := hid HM4.out.cnd;have HR4 := hid HM4.out.res;have HS4 := hid (HSX.out ⟨#[]⟩ (1 + (kk : Int)))
      go_wp2_with (first
       | (refine Ac (by rfl) 36 _ rfl (w.heap.size + 1) rfl 36 _ (0, 0) _ rfl HB4.out Tryz.underlying36 HS4.out ?_)
       | ((with_reducible refine Ab rfl 36 _ _ rfl w.heap.size #[.int .i64 5, .string ⟨#[]⟩, .int .i64 (1 + (kk : Int)), .slice none 0 0] ?_ ?_ 36 _ HR4.out HS4.out rfl (AJ _ _ _ _ _ _) ?_); rfl; rfl; intro w5 hk5 hs5 hbl5 hoth5))
      have HG5 : Hid (w.grownBy w5 (some g)) := hid (AA HM4.out.grown (hbl5 w.heap.size (Nat.le_refl _)));have HP5 : Hid (PSt w5 g A cap L (i + 1) o) := hid (HP4.out.low hlt HAL.out (hbl5 w.heap.size (Nat.le_refl _)));exact bodyPost_ret (v := .agg #[.int .i64 5, .string ⟨#[]⟩, .int .i64 (1 + (kk : Int)), .slice none 0 0]) (results_cell_row rfl _ _ w.heap.size 36 _ (0, 0) _ rfl hk5 Tryz.underlying36 rfl HS4.out) rfl (CdA.good HE.out (by omega) (CnV.make (ks := []) (A := none) (cap := 0) CnRow.nil) HP5.out HG5.out)
    ·have hopc : op = 10 ∨ op = 11 ∨ op = 12 := by omega
     cases hnp : Pr.numP t with
     | none =>
      have HE : Hid (RES = none) := hid (by rw [HRT.out]; unfold Pr.fieldT; rw [if_neg h9, if_neg h5', hnp]);have HNP := hid (fun W => De (bstr t) W (by rw [Ai]; exact htl));rw [show (bstr t).data.toList = t from rfl, hnp, show nmV none = .tuple #[.int .i64 0, .bool false] from rfl] at HNP;clear hnp h9 h5';obtain ho2 | ho2 | ho2 := hopc
      ·subst ho2;go_enter Tryz.func163, Tryz.ntmps163
       go_wp2_with (first
        | (go_at_call 62; refine HTK1.out.mono ?_; rintro e w3 ⟨⟨rfl, hp3⟩, hg3⟩; have HP3 := hid hp3; have HM3 := hid (HM1.out.by_ hg3); clear hp3 hg3)
        | (go_at_call 171; refine (HNP.out _).mono ?_; rintro e w4 ⟨rfl, hb4⟩; have HM4 := hid (HM3.out.by_ (As hb4)); clear hb4))
       exact ⟨rfl, CdA.bad HE.out HM4.out.grown⟩
      ·subst ho2;go_enter Tryz.func163, Tryz.ntmps163
       go_wp2_with (first
        | (go_at_call 62; refine HTK1.out.mono ?_; rintro e w3 ⟨⟨rfl, hp3⟩, hg3⟩; have HP3 := hid hp3; have HM3 := hid (HM1.out.by_ hg3); clear hp3 hg3)
        | (go_at_call 171; refine (HNP.out _).mono ?_; rintro e w4 ⟨rfl, hb4⟩; have HM4 := hid (HM3.out.by_ (As hb4)); clear hb4))
       exact ⟨rfl, CdA.bad HE.out HM4.out.grown⟩
      ·subst ho2;go_enter Tryz.func163, Tryz.ntmps163
       go_wp2_with (first
        | (go_at_call 62; refine HTK1.out.mono ?_; rintro e w3 ⟨⟨rfl, hp3⟩, hg3⟩; have HP3 := hid hp3; have HM3 := hid (HM1.out.by_ hg3); clear hp3 hg3)
        | (go_at_call 171; refine (HNP.out _).mono ?_; rintro e w4 ⟨rfl, hb4⟩; have HM4 := hid (HM3.out.by_ (As hb4)); clear hb4))
       exact ⟨rfl, CdA.bad HE.out HM4.out.grown⟩
     | some m =>
      have HE : Hid (RES = some (.mk op [] m [], L.drop (i + 1))) := hid (by rw [HRT.out]; unfold Pr.fieldT; rw [if_neg h9, if_neg h5', hnp]);have HNP := hid (fun W => De (bstr t) W (by rw [Ai]; exact htl));rw [show (bstr t).data.toList = t from rfl, hnp, show nmV (some m) = .tuple #[.int .i64 m, .bool true] from rfl] at HNP;clear hnp h9 h5';obtain ho2 | ho2 | ho2 := hopc
      ·subst ho2;go_enter Tryz.func163, Tryz.ntmps163
       go_upto_region 18 with (first
        | (go_at_call 62; refine HTK1.out.mono ?_; rintro e w3 ⟨⟨rfl, hp3⟩, hg3⟩; have HP3 := hid hp3; have HM3 := hid (HM1.out.by_ hg3); clear hp3 hg3)
        | (go_at_call 171; refine (HNP.out _).mono ?_; rintro e w4 ⟨rfl, hb4⟩; have HM4 := hid (HM3.out.by_ (As hb4)); have HP4 := hid (HP3.out.bel hb4); have hf4 := HM4.out.cnd.frozen 2; have hc4 := HM4.out.cnd.cell 2; (simp only [List.getElem?_toArray, List.getElem?_cons_succ, List.getElem?_cons_zero] at hc4); clear hb4))
       have HM5 := hid (HM4.out.set2 m);have HP5 : Hid (PSt (w4.setCell ⟨w.heap.size + 1, 2, none⟩ (.int .i64 m)) g A cap L (i + 1) o) := hid (HP4.out.low hlt HAL.out ((Below.refl _ _).setCell (by show w.heap.size ≤ w.heap.size + 1; omega) _));generalize hw5 : w4.setCell ⟨w.heap.size + 1, 2, none⟩ (.int .i64 m) = w5 at *;have HB5 := hid HM5.out.cnd;have HR5 := hid HM5.out.res;have HS5 := hid (HSX.out ⟨#[]⟩ m)
       go_wp2_with (first
        | (refine Ac (by rfl) 36 _ rfl (w.heap.size + 1) rfl 36 _ (0, 0) _ rfl HB5.out Tryz.underlying36 HS5.out ?_)
        | ((with_reducible refine Ab rfl 36 _ _ rfl w.heap.size #[.int .i64 10, .string ⟨#[]⟩, .int .i64 m, .slice none 0 0] ?_ ?_ 36 _ HR5.out HS5.out rfl (AJ _ _ _ _ _ _) ?_); rfl; rfl; intro w6 hk5 hs5 hbl5 hoth5))
       have HG5 : Hid (w.grownBy w6 (some g)) := hid (AA HM5.out.grown (hbl5 w.heap.size (Nat.le_refl _)));have HP6 : Hid (PSt w6 g A cap L (i + 1) o) := hid (HP5.out.low hlt HAL.out (hbl5 w.heap.size (Nat.le_refl _)));exact bodyPost_ret (v := .agg #[.int .i64 10, .string ⟨#[]⟩, .int .i64 m, .slice none 0 0]) (results_cell_row rfl _ _ w.heap.size 36 _ (0, 0) _ rfl hk5 Tryz.underlying36 rfl HS5.out) rfl (CdA.good HE.out (by omega) (CnV.make (ks := []) (A := none) (cap := 0) CnRow.nil) HP6.out HG5.out)
      ·subst ho2;go_enter Tryz.func163, Tryz.ntmps163
       go_upto_region 18 with (first
        | (go_at_call 62; refine HTK1.out.mono ?_; rintro e w3 ⟨⟨rfl, hp3⟩, hg3⟩; have HP3 := hid hp3; have HM3 := hid (HM1.out.by_ hg3); clear hp3 hg3)
        | (go_at_call 171; refine (HNP.out _).mono ?_; rintro e w4 ⟨rfl, hb4⟩; have HM4 := hid (HM3.out.by_ (As hb4)); have HP4 := hid (HP3.out.bel hb4); have hf4 := HM4.out.cnd.frozen 2; have hc4 := HM4.out.cnd.cell 2; (simp only [List.getElem?_toArray, List.getElem?_cons_succ, List.getElem?_cons_zero] at hc4); clear hb4))
       have HM5 := hid (HM4.out.set2 m);have HP5 : Hid (PSt (w4.setCell ⟨w.heap.size + 1, 2, none⟩ (.int .i64 m)) g A cap L (i + 1) o) := hid (HP4.out.low hlt HAL.out ((Below.refl _ _).setCell (by show w.heap.size ≤ w.heap.size + 1; omega) _));generalize hw5 : w4.setCell ⟨w.heap.size + 1, 2, none⟩ (.int .i64 m) = w5 at *;have HB5 := hid HM5.out.cnd;have HR5 := hid HM5.out.res;have HS5 := hid (HSX.out ⟨#[]⟩ m)
       go_wp2_with (first
        | (refine Ac (by rfl) 36 _ rfl (w.heap.size + 1) rfl 36 _ (0, 0) _ rfl HB5.out Tryz.underlying36 HS5.out ?_)
        | ((with_reducible refine Ab rfl 36 _ _ rfl w.heap.size #[.int .i64 11, .string ⟨#[]⟩, .int .i64 m, .slice none 0 0] ?_ ?_ 36 _ HR5.out HS5.out rfl (AJ _ _ _ _ _ _) ?_); rfl; rfl; intro w6 hk5 hs5 hbl5 hoth5))
       have HG5 : Hid (w.grownBy w6 (some g)) := hid (AA HM5.out.grown (hbl5 w.heap.size (Nat.le_refl _)));have HP6 : Hid (PSt w6 g A cap L (i + 1) o) := hid (HP5.out.low hlt HAL.out (hbl5 w.heap.size (Nat.le_refl _)));exact bodyPost_ret (v := .agg #[.int .i64 11, .string ⟨#[]⟩, .int .i64 m, .slice none 0 0]) (results_cell_row rfl _ _ w.heap.size 36 _ (0, 0) _ rfl hk5 Tryz.underlying36 rfl HS5.out) rfl (CdA.good HE.out (by omega) (CnV.make (ks := []) (A := none) (cap := 0) CnRow.nil) HP6.out HG5.out)
      ·subst ho2;go_enter Tryz.func163, Tryz.ntmps163
       go_upto_region 18 with (first
        | (go_at_call 62; refine HTK1.out.mono ?_; rintro e w3 ⟨⟨rfl, hp3⟩, hg3⟩; have HP3 := hid hp3; have HM3 := hid (HM1.out.by_ hg3); clear hp3 hg3)
        | (go_at_call 171; refine (HNP.out _).mono ?_; rintro e w4 ⟨rfl, hb4⟩; have HM4 := hid (HM3.out.by_ (As hb4)); have HP4 := hid (HP3.out.bel hb4); have hf4 := HM4.out.cnd.frozen 2; have hc4 := HM4.out.cnd.cell 2; (simp only [List.getElem?_toArray, List.getElem?_cons_succ, List.getElem?_cons_zero] at hc4); clear hb4))
       have HM5 := hid (HM4.out.set2 m);have HP5 : Hid (PSt (w4.setCell ⟨w.heap.size + 1, 2, none⟩ (.int .i64 m)) g A cap L (i + 1) o) := hid (HP4.out.low hlt HAL.out ((Below.refl _ _).setCell (by show w.heap.size ≤ w.heap.size + 1; omega) _));generalize hw5 : w4.setCell ⟨w.heap.size + 1, 2, none⟩ (.int .i64 m) = w5 at *;have HB5 := hid HM5.out.cnd;have HR5 := hid HM5.out.res;have HS5 := hid (HSX.out ⟨#[]⟩ m)
       go_wp2_with (first
        | (refine Ac (by rfl) 36 _ rfl (w.heap.size + 1) rfl 36 _ (0, 0) _ rfl HB5.out Tryz.underlying36 HS5.out ?_)
        | ((with_reducible refine Ab rfl 36 _ _ rfl w.heap.size #[.int .i64 12, .string ⟨#[]⟩, .int .i64 m, .slice none 0 0] ?_ ?_ 36 _ HR5.out HS5.out rfl (AJ _ _ _ _ _ _) ?_); rfl; rfl; intro w6 hk5 hs5 hbl5 hoth5))
       have HG5 : Hid (w.grownBy w6 (some g)) := hid (AA HM5.out.grown (hbl5 w.heap.size (Nat.le_refl _)));have HP6 : Hid (PSt w6 g A cap L (i + 1) o) := hid (HP5.out.low hlt HAL.out (hbl5 w.heap.size (Nat.le_refl _)));exact bodyPost_ret (v := .agg #[.int .i64 12, .string ⟨#[]⟩, .int .i64 m, .slice none 0 0]) (results_cell_row rfl _ _ w.heap.size 36 _ (0, 0) _ rfl hk5 Tryz.underlying36 rfl HS5.out) rfl (CdA.good HE.out (by omega) (CnV.make (ks := []) (A := none) (cap := 0) CnRow.nil) HP6.out HG5.out)
  ·have HE : Hid (RES = none) := hid (by rw [← HRES.out]; unfold Pr.fieldP; rw [if_neg ho, Pr.takeF_no hf]);have HTK1 := hid (HTK.out 1);have HTK5 := hid (HTKW.out 1);simp only [if_neg hf] at HTK1 HTK5;clear hf HTK HTKW;have hopc : op = 5 ∨ op = 9 ∨ op = 10 ∨ op = 11 ∨ op = 12 := by omega
   obtain ho2 | ho2 | ho2 | ho2 | ho2 := hopc
   ·subst ho2;have HKN := hid (fun W => Bv W);go_enter Tryz.func163, Tryz.ntmps163;go_wp2_with fail;refine (HKN.out _).mono ?_;rintro e w2 ⟨⟨gk, rfl, hgk, hrk⟩, hb2⟩;have HM2 := hid (HM1.out.by_ (As hb2));have HP2 := hid (HP1.out.bel hb2);clear hb2 hgk hrk;go_wp2_with fail;refine (HTK5.out w2 HP2.out).mono ?_;rintro e w3 ⟨rfl, hg3⟩;exact ⟨rfl, CdA.bad HE.out (HM2.out.by_ hg3).grown⟩
   all_goals
    subst ho2;go_enter Tryz.func163, Tryz.ntmps163;go_wp2_with (go_at_call 62; refine HTK1.out.mono ?_; rintro e w3 ⟨rfl, hg3⟩; have HM3 := hid (HM1.out.by_ hg3); clear hg3);exact ⟨rfl, CdA.bad HE.out HM3.out.grown⟩
end Go.Proofs.YtchkiegehejfmaaGreatDoor
