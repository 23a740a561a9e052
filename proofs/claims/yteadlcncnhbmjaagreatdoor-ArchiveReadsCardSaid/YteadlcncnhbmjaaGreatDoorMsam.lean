/- The texts Ane, Anf of this proof, one behind the other. -/
import Derived.Test.YteadlcncnhbmjaaGreatDoorMsal
set_option linter.unusedSimpArgs false
set_option maxHeartbeats 16000000
set_option maxRecDepth 100000
set_option linter.unusedVariables false
namespace Ar
def NoAz (t : Str) : Prop := ∃ c r, t = c :: r ∧ az c = false
theorem IJ {t u : Str} (h : NoAz t) : NoAz (t ++ u) := by
 obtain ⟨c, r, rfl, h⟩ := h;exact ⟨c, r ++ u, rfl, h⟩
theorem FI {α : Type} (tx : α → Str) (h : ∀ x, NoAz (tx x)) : ∀ l : List α, l ≠ [] → NoAz (join [44] (l.map tx))
 | [], h0 => absurd rfl h0
 | [x], _ => h x
 | x :: y :: l, _ => by
  show NoAz (tx x ++ [44] ++ _);rw [List.append_assoc];exact IJ (h x)
theorem LI {c : UInt8} (h : isDig c = true) : az c = false := by
 unfold isDig at h;have := of_decide_eq_true h;unfold az;exact decide_eq_false (by omega)
theorem Oz (n : Nat) : NoAz (digs n) := by
 cases hd : digs n with
 | nil => exact absurd hd (Du n)
 | cons c r => exact ⟨c, r, rfl, LI (Gp n n (Nat.le_refl _) c (by rw [hd]; simp))⟩
theorem GU (n : Int) : NoAz (itoa n) := by
 unfold itoa;split
 ·exact ⟨45, _, rfl, by decide⟩
 ·exact Oz _
theorem Gf (s : Str) : NoAz (quote s) := ⟨34, s.flatMap esc ++ [34], by unfold quote; rfl, by decide⟩
theorem OB (v : FV) (h : v.text ≠ []) : NoAz v.text := by
 cases v with
 | num n =>
  by_cases e : n = 0
  ·subst e; exact absurd rfl h
  ·rw [show FV.text (.num n) = itoa n from if_neg e]; exact GU n
 | txt s =>
  by_cases e : s = []
  ·subst e; exact absurd rfl h
  ·rw [show FV.text (.txt s) = quote s from if_neg e]; exact Gf s
 | flg b => exact absurd rfl h
 | nums l => exact FI itoa GU l (fun e => h (by rw [e]; rfl))
 | txts l => exact FI quote Gf l (fun e => h (by rw [e]; rfl))
 | usrs l => exact FI usrT (fun p => IJ (Gf p.1)) l (fun e => h (by rw [e]; rfl))
 | knds l => exact FI kndT (fun p => IJ (GU p.1)) l (fun e => h (by rw [e]; rfl))
theorem L8 (nm : Str) (v : FV) (h0 : nm ≠ []) (haz : ∀ c ∈ nm, az c = true) :
  (wtext nm v = [] ∧ item nm v = []) ∨ (wtext nm v ≠ [] ∧ wtext nm v = nm ∧ item nm v = nm) ∨ (wtext nm v ≠ [] ∧ wtext nm v ≠ nm ∧ item nm v = nm ++ 61 :: wtext nm v) := by
 by_cases hf : isFlg v.kind = true
 ·cases v with
  | flg b => cases b with
   | false => exact .inl ⟨rfl, rfl⟩
   | true => exact .inr (.inl ⟨h0, rfl, rfl⟩)
  | _ => cases hf
 ·have hf' : isFlg v.kind = false := by simpa using hf
  have e : wtext nm v = v.text := by cases v <;> first | rfl | cases hf'
  rw [e, CA nm hf'];by_cases ht : v.text = []
  ·exact .inl ⟨ht, if_pos ht⟩
  ·refine .inr (.inr ⟨ht, fun hn => ?_, if_neg ht⟩);obtain ⟨c, r, hc, hz⟩ := OB v ht;rw [hn] at hc;have := haz c (by rw [hc]; simp);rw [hz] at this;cases this
def Bk (e : List FV) (k : Nat) : List Str := ((List.zipWith (fun nk v => item nk.1 v) NK e).take k).filter (fun x => decide (x ≠ []))
theorem IB (e : List FV) (h : e.length = 29) : Bk e 29 = items NK e := by
 unfold Bk items;rw [List.take_of_length_le (by rw [List.length_zipWith, h]; exact (by decide : min NK.length 29 ≤ 29))]
theorem Ff (e : List FV) (k : Nat) (nk : Str × FK) (v : FV) (h1 : NK[k]? = some nk) (h2 : e[k]? = some v) : Bk e (k + 1) = if item nk.1 v = [] then Bk e k else Bk e k ++ [item nk.1 v] := by
 unfold Bk;have h : (List.zipWith (fun nk v => item nk.1 v) NK e)[k]? = some (item nk.1 v) := by rw [List.getElem?_zipWith, h1, h2]
 rw [List.take_add_one, h, List.filter_append];by_cases hi : item nk.1 v = []
 ·rw [if_pos hi]; simp [hi]
 ·rw [if_neg hi]; simp [hi]
theorem Ia (e : List FV) (k : Nat) : (Bk e k).length ≤ k := by
 unfold Bk;refine Nat.le_trans (List.length_filter_le _ _) ?_;rw [List.length_take];omega
end Ar
namespace Go.Proofs.YteadlcncnhbmjaaGreatDoor
open Go.RowKit Go.Lib
theorem Aj : (Tryz.prog.info? 40).map (·.size) = some 29 := by kernel_rfl
theorem LA (w : World) (g : Nat) (cells : Array Value) (h : Blk w g 40 cells) (hs : cells.size = 29) : (loadVar 40 ⟨g, 0, none⟩).run Tryz.prog w = .ok (.agg cells) w :=
 run_loadVar_row w g _ _ cells (0, 0) _ h Tryz.underlying40 (by rfl) (by rw [Aj, hs])
theorem CO (x y : List UInt8) : ((bstr x).toList == (bstr y).toList) = (x == y) := by rw [Lib.toList_data, Lib.toList_data]; rfl
theorem Gu : ∀ p ∈ Ar.NK, p.1.length ≤ 100 := by decide
theorem O0 (nm t : List UInt8) : bstr nm ++ (⟨#[61]⟩ : ByteArray) ++ bstr t = bstr (nm ++ 61 :: t) := Bg (by simp [bstr])
theorem On (nm : List UInt8) (v : Ar.FV) (h : v.WOk) (hn : nm.length ≤ 100) : (Ar.wtext nm v).length ≤ 100000000 := by
 cases v with
 | flg b => cases b with
  | false => exact Nat.zero_le _
  | true => show nm.length ≤ _; omega
 | _ => exact h.2.1
structure EvOf (ok : Nat → Prop) (w : World) (cells : Array Value) (e : List Ar.FV) : Prop where
 size : cells.size = 29
 fits : Ar.Fits Ar.NK e
 cell : ∀ (i : Nat) (v : Ar.FV), e[i]? = some v → ∃ c, cells[i]? = some c ∧ CellOf ok w c v
theorem EvOf.keep {ok ok' : Nat → Prop} {w w' : World} {cells : Array Value} {e : List Ar.FV} (h : EvOf ok w cells e) (hk : ∀ b, ok b → b < w.heap.size → ok' b ∧ w'.heap[b]? = w.heap[b]?) : EvOf ok' w' cells e :=
 ⟨h.size, h.fits, fun i v hv => by obtain ⟨c, h1, h2⟩ := h.cell i v hv; exact ⟨c, h1, h2.keep hk⟩⟩
theorem EvOf.below {ok : Nat → Prop} {w w' : World} {cells : Array Value} {e : List Ar.FV} (h : EvOf ok w cells e) (hb : Below w.heap.size w w') : EvOf ok w' cells e := h.keep fun b hb' hlt => ⟨hb', hb.block b hlt⟩
theorem EvOf.len {ok : Nat → Prop} {w : World} {cells : Array Value} {e : List Ar.FV} (h : EvOf ok w cells e) : e.length = 29 := h.fits.1
theorem Fld.at {w : World} {A : Option Addr} {L : List Fld} {n : Nat} (h : Rd w A (n * 3) (L.flatMap Fld.vals)) {k : Nat} {f : Fld} (hf : L[k]? = some f) : ∃ b off, A = some ⟨b, off, none⟩ ∧ w.cell? ⟨b, off + k * 3, none⟩ = some (.string (bstr f.nm)) ∧ w.cell? ⟨b, off + k * 3 + 1, none⟩ = some (.func (.func f.F) #[] f.cf) ∧ w.cell? ⟨b, off + k * 3 + 2, none⟩ = some (.func (.func f.G) #[] f.cg) := by
 have h0 := Ee Fld.vals 3 (fun _ => rfl) L k 0 f (by omega) hf;have h1 := Ee Fld.vals 3 (fun _ => rfl) L k 1 f (by omega) hf;have h2 := Ee Fld.vals 3 (fun _ => rfl) L k 2 f (by omega) hf;obtain ⟨b, off, e, c0⟩ := h.2 _ _ h0;obtain ⟨b', off', e', c1⟩ := h.2 _ _ h1;obtain ⟨b'', off'', e'', c2⟩ := h.2 _ _ h2;rw [e] at e' e'';injection e' with e';injection e' with e1 e2 e3;injection e'' with e'';injection e'' with e4 e5 e6;subst e1 e2 e4 e5;exact ⟨b, off, e, c0, c1, c2⟩
theorem Eq (ok : Nat → Prop) (cells : Array Value) (e : List Ar.FV) (w : World) (h : EvOf ok w cells e) (hw : ∀ v ∈ e, v.WOk) (hl : (Ar.line e).length ≤ 100000000) :
  Calls Tryz.prog 19 #[.agg cells] w fun r w' => r = .returned (.string (bstr (Ar.line e))) ∧ Below w.heap.size w w' := by
 have HE := hid h;have HW := hid hw;have HLEN := hid hl;have HB0 := hid ((Below.refl w.heap.size w).alloc (Nat.le_refl _) (.cells cells 40));have HK0 := hid (Blk.new w 40 cells);clear h hw hl;go_enter Tryz.func19, Tryz.ntmps19;go_wp2_with fail;refine (IN _).mono ?_;rintro r w1 ⟨A, cap, L, rfl, hl1, ho, ha, hb⟩;have hrd := (SlcOf.of_own ho);obtain ⟨A', cap', e1, hrd, _⟩ := hrd;injection e1 with e1 e2 e3;subst e1 e3;have HR1 := hid hrd;have HA1 := hid ha;have HB1 := hid (HB0.out.trans (hb.mono HB0.out.size));have HK1 := hid (HK0.out.below hb HK0.out.lt);have hs1 := hb.size;have HL1 := hid hl1;rw [World.size_alloc] at hs1;clear ho ha hb hrd hl1;go_wp2_with fail
 go_loopw [3, 9] (fun out ix wr => ∃ k : Nat, k ≤ 29 ∧ ix = .int .i64 k ∧ OwnS w1.heap.size wr out (Ar.Bk e k) ∧ Below w1.heap.size w1 wr) (fun _ ix _ => 29 - (RowKit.intOf ix).toNat)
 case atStart => exact ⟨0, by omega, rfl, World.ownsRow_nil w1 _ _ _, Below.refl _ _⟩
 case round =>
  obtain ⟨k, hk, rfl, ho, hb⟩ := hrel;have HO := hid ho;have HB := hid hb;have hbs := hb.size;clear ho hb;by_cases hlt : k < 29
  ·obtain ⟨f, hf⟩ : ∃ f, L[k]? = some f := ⟨L[k]'(by rw [HL1.out]; exact hlt), List.getElem?_eq_getElem _⟩;obtain ⟨v, hv⟩ : ∃ v, e[k]? = some v := ⟨e[k]'(by rw [HE.out.len]; exact hlt), List.getElem?_eq_getElem _⟩;obtain ⟨ba, oa, rfl, hc0, hc1, hc2⟩ := Fld.at (HR1.out.below HB.out) hf;have hAF := HA1.out.at hf;rw [Nat.zero_add] at hAF;obtain ⟨⟨nk, hnk, hnm, hS⟩, hBx⟩ := hAF;obtain ⟨cv, hcv, hcell⟩ := HE.out.cell k v hv;have hkind := (HE.out.fits.2 k nk v hnk hv).1;have hEN := hS.entF;have HBK := HK1.out.below HB.out HK1.out.lt;have hlte := HK1.out.lt;have HV := hid hv;have HNK := hid hnk;have hbx3 := (Blk.new wr 82 #[.string (bstr f.nm), .func (.func f.F) #[] f.cf, .func (.func f.G) #[] f.cg]);have hb0 := hbx3.cell 0;have hb1 := hbx3.cell 1;rw [show (#[.string (bstr f.nm), .func (.func f.F) #[] f.cf, .func (.func f.G) #[] f.cg] : Array Value)[0]? = some (.string (bstr f.nm)) from rfl] at hb0;rw [show (#[.string (bstr f.nm), .func (.func f.F) #[] f.cf, .func (.func f.G) #[] f.cg] : Array Value)[1]? = some (.func (.func f.F) #[] f.cf) from rfl] at hb1;have HLD := hid (HBK.alloc (.cells #[.string (bstr f.nm), .func (.func f.F) #[] f.cf, .func (.func f.G) #[] f.cg] 82));have HNM := hid hnm;have HSS := hid hS;have HBX := hid hBx;have HCV := hid hcv;have HCE := hid hcell;have HKI := hid hkind;have HES := hid (EvOf.size HE.out);clear hv hnk hbx3 hnm hS hBx hcv hcell hkind HBK;go_wp2_with (refine wpList_load_row rfl 40 _ rfl w.heap.size rfl 40 cells (0, 0) _ HLD.out Tryz.underlying40 rfl (by rw [Aj, HES.out]) ?_);have HT := hid (HB1.out.trans (HB.out.mono HB1.out.size));have HTA : Hid (Below w.heap.size w (wr.alloc (.cells #[.string (bstr f.nm), .func (.func f.F) #[] f.cf, .func (.func f.G) #[] f.cg] 82))) := hid (HT.out.alloc HT.out.size _);have HBXW : Hid (f.Boxed (w.alloc (.cells cells 40)).heap.size (wr.alloc (.cells #[.string (bstr f.nm), .func (.func f.F) #[] f.cf, .func (.func f.G) #[] f.cg] 82))) := hid (fun p hp => ⟨(HBX.out p hp).1, Ai (Ai (HBX.out p hp).2 HB.out) ((Below.refl _ _).alloc (Nat.le_refl _) _)⟩);have HCW : Hid (CellOf ok (wr.alloc (.cells #[.string (bstr f.nm), .func (.func f.F) #[] f.cf, .func (.func f.G) #[] f.cg] 82)) cv v) := hid (HCE.out.keep fun b hb hlt => ⟨hb, HTA.out.block b hlt⟩);have HVW : Hid v.WOk := hid (HW.out v (List.mem_of_getElem? HV.out));refine (HSS.out.writes _ _ cells cv v ok HBXW.out HCV.out HCW.out HKI.out HVW.out).mono ?_;rintro r w3 ⟨rfl, hb3⟩;have hn0 := Ai hb0 hb3;have HB3 := hid hb3;have hs3 := hb3.size;rw [World.size_alloc] at hs3;have HO3 : Hid (OwnS w1.heap.size w3 u3 (Ar.Bk e k)) := hid (AQ (HO.out.alloc _) hb3 (Nat.le_refl _));have HBW3 : Hid (Below w1.heap.size w1 w3) := hid ((HB.out.alloc hbs _).trans (hb3.mono (by rw [World.size_alloc]; omega)));have HNX := hid (Ar.Ff e k nk v HNK.out HV.out);have hmem := List.mem_of_getElem? HNK.out;have hics := Ar.L8 nk.1 v (Ar.NK_az nk hmem).1 (Ar.NK_az nk hmem).2;have hxl : (bstr (Ar.wtext f.nm v)).size ≤ 100000000 := by rw [Ab]; exact On _ _ HVW.out (by rw [HNM.out]; exact Gu nk hmem)
   have hnl : (bstr f.nm).size ≤ 100 := by rw [Ab, HNM.out]; exact Gu nk hmem
   have hKL : Hid ((Ar.Bk e k).length ≤ k) := hid (Ar.Ia e k);rw [← HNM.out] at hics;have HIT := hid (O0 f.nm (Ar.wtext f.nm v));have hem := Cx (Ar.wtext f.nm v);have hbe := CO (Ar.wtext f.nm v) f.nm;rw [← HNM.out] at HNX;clear hb3 hmem hb0 hb1;rcases hics with ⟨h1, h2⟩ | ⟨h1, h2, h3⟩ | ⟨h1, h2, h3⟩
   ·have hem2 : (bstr (Ar.wtext f.nm v)).toList.isEmpty = true := by rw [hem, h1]; rfl
    have HN2 : Hid (Ar.Bk e (k + 1) = Ar.Bk e k) := hid (by rw [HNX.out, if_pos h2]);clear hem hbe h1 h2;generalize bstr (Ar.wtext f.nm v) = X at *;generalize bstr f.nm = N at *;go_wp2_with fail
    go_roundw
    case rel => exact ⟨k + 1, by omega, by go_num, by rw [HN2.out]; exact HO3.out, HBW3.out⟩
    case measure => simp [RowKit.intOf]; omega
   ·have hem2 : (bstr (Ar.wtext f.nm v)).toList.isEmpty = false := by rw [hem]; cases hh : Ar.wtext f.nm v with
     | nil => exact absurd hh h1
     | cons c r => rfl
    have hbe2 : ((bstr (Ar.wtext f.nm v)).toList == (bstr f.nm).toList) = true := by rw [hbe, h2]; exact beq_self_eq_true _
    have hin : Ar.item f.nm v ≠ [] := by rw [h3, ← h2]; exact h1
    have HN2 : Hid (Ar.Bk e (k + 1) = Ar.Bk e k ++ [Ar.wtext f.nm v]) := hid (by rw [HNX.out, if_neg hin, h3, h2]);clear hem hbe h1 h2 h3 hin;generalize hX : bstr (Ar.wtext f.nm v) = X at *;generalize bstr f.nm = N at *;have HX := hid hX;clear hX;go_wp2_with (at_builtin; refine Bt CD rfl _ _ rfl w3 [.string X] 1 rfl (by rw [← HX.out]; exact Bx [Ar.wtext f.nm v]) u3 (Ar.Bk e k).length (strL (Ar.Bk e k)) w1.heap.size rfl HO3.out rfl (by omega) (by have := hKL.out; omega) ?_; intro v4 w4 ho4 hg4 hb4)
    go_roundw
    case rel => exact ⟨k + 1, by omega, by go_num, by rw [HN2.out]; unfold OwnS; rw [List.length_append, AJ]; rw [← HX.out] at ho4; exact ho4, hb4 _ HBW3.out⟩
    case measure => simp [RowKit.intOf]; omega
   ·have hem2 : (bstr (Ar.wtext f.nm v)).toList.isEmpty = false := by rw [hem]; cases hh : Ar.wtext f.nm v with
     | nil => exact absurd hh h1
     | cons c r => rfl
    have hbe2 : ((bstr (Ar.wtext f.nm v)).toList == (bstr f.nm).toList) = false := by rw [hbe]; exact beq_eq_false_iff_ne.2 h2
    have hin : Ar.item f.nm v ≠ [] := by rw [h3]; simp
    have HN2 : Hid (Ar.Bk e (k + 1) = Ar.Bk e k ++ [f.nm ++ 61 :: Ar.wtext f.nm v]) := hid (by rw [HNX.out, if_neg hin, h3]);clear hem hbe h1 h2 h3 hin;generalize bstr (Ar.wtext f.nm v) = X at *;generalize bstr f.nm = N at *;go_wp2_with (at_builtin; refine Bt CD rfl _ _ rfl w3 [.string (N ++ (⟨#[61]⟩ : ByteArray) ++ X)] 1 rfl (by rw [HIT.out]; exact Bx [f.nm ++ 61 :: Ar.wtext f.nm v]) u3 (Ar.Bk e k).length (strL (Ar.Bk e k)) w1.heap.size rfl HO3.out rfl (by omega) (by have := hKL.out; omega) ?_; intro v4 w4 ho4 hg4 hb4)
    go_roundw
    case rel => exact ⟨k + 1, by omega, by go_num, by rw [HN2.out]; unfold OwnS; rw [List.length_append, AJ]; rw [HIT.out] at ho4; exact ho4, hb4 _ HBW3.out⟩
    case measure => simp [RowKit.intOf]; omega
  ·obtain rfl : k = 29 := by omega
   have HI := hid (Ar.IB e HE.out.len);have hj := Do wr w1.heap.size u3 (Ar.Bk e 29) ⟨#[32]⟩ HO.out (by have := Ar.Ia e 29; omega) (by rw [HI.out]; exact HLEN.out);have HJ := hid hj;clear hj;go_wp2_with fail;refine (HJ.out).mono ?_;rintro r w3 ⟨rfl, hb3⟩;have HF := hid ((HB1.out.trans (HB.out.mono HB1.out.size)).trans (hb3.mono (Nat.le_trans HB1.out.size hbs)));clear hb3;go_wp2_with fail;go_ret;exact ⟨AM (by rw [HI.out]; rfl), HF.out⟩
end Go.Proofs.YteadlcncnhbmjaaGreatDoor
