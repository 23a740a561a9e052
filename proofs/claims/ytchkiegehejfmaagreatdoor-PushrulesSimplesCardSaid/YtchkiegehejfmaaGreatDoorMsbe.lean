/- The text Gj. -/
import Derived.Test.YtchkiegehejfmaaGreatDoorMsbd
set_option linter.unusedSimpArgs false
set_option maxHeartbeats 16000000
set_option maxRecDepth 100000
set_option linter.unusedVariables false
namespace Pr
theorem word_hit (k : Nat) (h1 : 1 ≤ k) (h2 : k ≤ 17) (h3 : k ≠ 2 ∧ k ≠ 3 ∧ k ≠ 4) (t : Str) (q : List Tk) (n : Nat) (h : wordR (k : Int) = t) : wordP t q (findOp t (n + 1) (k : Int)) = operandP (k : Int) q := by
 subst h;obtain rfl | rfl | rfl | rfl | rfl | rfl | rfl | rfl | rfl | rfl | rfl | rfl | rfl | rfl : k = 1 ∨ k = 5 ∨ k = 6 ∨ k = 7 ∨ k = 8 ∨ k = 9 ∨ k = 10 ∨ k = 11 ∨ k = 12 ∨ k = 13 ∨ k = 14 ∨ k = 15 ∨ k = 16 ∨ k = 17 := by omega
 all_goals rfl
theorem word_miss (k : Nat) (h1 : 1 ≤ k) (h2 : k ≤ 17) (t : Str) (n : Nat) (ht : t ≠ []) (h : (k = 2 ∨ k = 3 ∨ k = 4) ∨ wordR (k : Int) ≠ t) : findOp t (n + 1) (k : Int) = findOp t n ((k + 1 : Nat) : Int) := by
 rw [findOp_at];have key : simpleW (k : Int) ≠ t ∧ fieldW (k : Int) ≠ t := by
  obtain rfl | rfl | rfl | rfl | rfl | rfl | rfl | rfl | rfl | rfl | rfl | rfl | rfl | rfl | rfl | rfl | rfl : k = 1 ∨ k = 2 ∨ k = 3 ∨ k = 4 ∨ k = 5 ∨ k = 6 ∨ k = 7 ∨ k = 8 ∨ k = 9 ∨ k = 10 ∨ k = 11 ∨ k = 12 ∨ k = 13 ∨ k = 14 ∨ k = 15 ∨ k = 16 ∨ k = 17 := by omega
  all_goals
   first
    | exact ⟨fun e => ht e.symm, fun e => ht e.symm⟩
    | (have h' := h.resolve_left (by decide); exact ⟨fun e => h' e, fun e => ht e.symm⟩)
    | (have h' := h.resolve_left (by decide); exact ⟨fun e => ht e.symm, fun e => h' e⟩)
 rw [if_neg key.1, if_neg key.2];rfl
end Pr
namespace Go.Proofs.YtchkiegehejfmaaGreatDoor
open Go.RowKit Go.Lib
theorem D8 (o : Int) (h1 : 1 ≤ o) (h2 : o ≤ 17) (h3 : o ≠ 2 ∧ o ≠ 3 ∧ o ≠ 4) (A : Option Addr) (cap : Nat) (L : List Pr.Tk) (i : Nat) (w : World) (h : Rd w A (L.length * 2) (rkL L)) (hi : i ≤ L.length) (hL : L.length ≤ 1000000) (hx : ∀ t ∈ L, t.text.length ≤ 1000000) :
  Calls Tryz.prog 164 #[.slice A L.length cap, .int .i64 (i : Int), .int .i64 o] w (RcA w L (Pr.operandP o (L.drop i))) := by
 obtain hc | hc | hc | hc | hc : (o = 6 ∨ o = 7 ∨ o = 8) ∨ o = 9 ∨ (o = 10 ∨ o = 11 ∨ o = 12) ∨ o = 5 ∨ (o = 1 ∨ o = 13 ∨ o = 14 ∨ o = 15 ∨ o = 16 ∨ o = 17) := by omega
 ·have e : Pr.operandP o (L.drop i) = Pr.fieldP o (L.drop i) := by rcases hc with rfl | rfl | rfl <;> rfl
  rw [e];exact E6 o hc A cap L i w h hi hL hx
 ·have e : Pr.operandP o (L.drop i) = Pr.fieldP o (L.drop i) := by subst hc; rfl
  rw [e];exact Fe o hc A cap L i w h hi hL hx
 ·have e : Pr.operandP o (L.drop i) = Pr.fieldP o (L.drop i) := by rcases hc with rfl | rfl | rfl <;> rfl
  rw [e];exact E9 o hc A cap L i w h hi hL hx
 ·have e : Pr.operandP o (L.drop i) = Pr.fieldP o (L.drop i) := by subst hc; rfl
  rw [e];exact E1 o hc A cap L i w h hi hL hx
 ·have e : Pr.operandP o (L.drop i) = some (.mk o [] 0 [], L.drop i) := by rcases hc with rfl | rfl | rfl | rfl | rfl | rfl <;> rfl
  rw [e];exact Gw o (by rcases hc with rfl | rfl | rfl | rfl | rfl | rfl <;> rfl) (by rcases hc with rfl | rfl | rfl | rfl | rfl | rfl <;> rfl) A cap L i w hi
def OneR (n : Nat) : Prop := ∀ (A : Option Addr) (cap : Nat) (L : List Pr.Tk) (i o : Nat) (w : World), Rd w A (L.length * 2) (rkL L) → i ≤ L.length → L.length - i < n → L.length ≤ 1000000 → Pr.TkOk L → o ≤ 100 →
 Calls Tryz.prog 143 #[.slice A L.length cap, .int .i64 (i : Int), .int .i64 (o : Int)] w (RcA w L (Pr.oneP n o (L.drop i)))
theorem OneR.cond {n : Nat} (H : OneR n) (A : Option Addr) (cap : Nat) (L : List Pr.Tk) (i o : Nat) (w : World) (h : Rd w A (L.length * 2) (rkL L)) (hi : i ≤ L.length) (hn : L.length - i < n) (hL : L.length ≤ 1000000) (hT : Pr.TkOk L) (ho : o ≤ 100) :
  Calls Tryz.prog 67 #[.slice A L.length cap, .int .i64 (i : Int), .int .i64 (o : Int)] w (RcA w L (Pr.condP n o (L.drop i))) :=
 Dl A cap L i o (Pr.bothP n o) w h hi hL (Pr.bothP_of n o) (fun j W hj hl hr => GD A cap L j o (Pr.oneP n o) W hr hl hL (Pr.oneP_of n o) (fun j2 W2 hj2 hl2 hr2 => H A cap L j2 o W2 hr2 hl2 (by omega) hL hT ho))
theorem BC (kd : Int) (tx : ByteArray) (W : World) : (Instr.field 98 (.agg #[.int .u8 kd, .string tx]) 0).run Tryz.prog W = .ok (.int .u8 kd) W := by kernel_rfl
structure OnM (w0 : World) (G : Nat) (kd : Int) (tx : ByteArray) (wr : World) : Prop where
 res : Blk wr w0.heap.size 36 zCn
 tok : Blk wr G 98 #[.int .u8 kd, .string tx]
 be : Below w0.heap.size w0 wr
theorem OnM.bel {w0 wr w' : World} {G : Nat} {kd : Int} {tx : ByteArray} (h : OnM w0 G kd tx wr) (hb : Below wr.heap.size wr w') : OnM w0 G kd tx w' := ⟨h.res.below hb h.res.lt, h.tok.below hb h.tok.lt, h.be.trans (hb.mono h.be.size)⟩
theorem F6 (n : Nat) (H : OneR n) : OneR (n + 1) := by
 intro A cap L i o w h hi hn hL hT ho;have HIN := hid H;have HRD := hid h;have HTX := hid hT;have hz0 : Below w.heap.size w (w.alloc (.cells zCn 36)) := (Below.refl w.heap.size w).alloc (Nat.le_refl _) (.cells zCn 36);have HZ0 := hid hz0;have HK0 := hid (Blk.new w 36 zCn);have hs0 : (w.alloc (.cells zCn 36)).heap.size = w.heap.size + 1 := World.size_alloc ..
 have HS0 := hid hs0;have HA := hid (Bk A cap L i _ (h.below hz0) hL (by omega));obtain ⟨RES, hRES⟩ : ∃ R, Pr.oneP (n + 1) o (L.drop i) = R := ⟨_, rfl⟩;have HE3 : Hid ((Pr.hdT (L.drop i)).form = 3 → RES = Pr.closP (if 100 ≤ o then none else Pr.condP n (o + 1) (L.drop (i + 1)))) := hid (fun h => by rw [← hRES, Pr.oneP_paren h, Pr.tail_at]);have HE0 : Hid ((Pr.hdT (L.drop i)).form ≠ 3 → (Pr.hdT (L.drop i)).form ≠ 1 → RES = none) := hid (fun h h1 => by rw [← hRES, Pr.oneP_other h h1]);have HEN : Hid ((Pr.hdT (L.drop i)).form = 1 → (Pr.hdT (L.drop i)).text = Pr.notW → RES = Pr.notP (if 100 ≤ o then none else Pr.oneP n (o + 1) (L.drop (i + 1)))) := hid (fun h h1 => by rw [← hRES, Pr.oneP_not h h1, Pr.tail_at]);have HEW : Hid ((Pr.hdT (L.drop i)).form = 1 → (Pr.hdT (L.drop i)).text ≠ Pr.notW → RES = Pr.wordP (Pr.hdT (L.drop i)).text (L.drop (i + 1)) (Pr.findOp (Pr.hdT (L.drop i)).text 17 1)) := hid (fun h h1 => by rw [← hRES, Pr.oneP_word h h1, Pr.tail_at]);rw [hRES];have HHL := hid (Pr.hd_lt (L := L) (i := i))
 have HTX2 : Hid ((Pr.hdT (L.drop i)).form = 1 → (Pr.hdT (L.drop i)).text ≠ []) := hid (fun hf => by
  have := HHL.out (by rw [hf]; decide);have h2 := Pr.hd_at (L := L) (i := i) (by omega);rw [List.getElem?_append_left (by omega)] at h2
  exact (HTX.out _ (List.mem_of_getElem? h2)).2.1 hf)
 have HNN := hid hn;have HISX := hid (fun W (hW : Rd W A (L.length * 2) (rkL L)) => BZ Pr.notW A cap L i W hW hL (by omega));rw [show bstr Pr.notW = (⟨#[110, 111, 116]⟩ : ByteArray) from rfl, Pr.headIs_hd] at HISX;generalize (Pr.hdT (L.drop i)).form = f at *;generalize (Pr.hdT (L.drop i)).text = t at *;have hwi : IntKind.i64.wrap ((i : Int) + 1) = (i : Int) + 1 := IntWalk.i64_in _ (by omega);have hwo : IntKind.i64.wrap ((o : Int) + 1) = (o : Int) + 1 := IntWalk.i64_in _ (by omega);have HKD := hid (Db f);have HKW := hid (Bb f);clear h hRES hz0 H hT hn hs0;go_enter Tryz.func143, Tryz.ntmps143;go_wp2_with fail;refine HA.out.mono ?_;rintro e w2 ⟨rfl, hb2⟩
 have HM : Hid (OnM w w2.heap.size (kdOf f) (bstr t) (w2.alloc (.cells #[.int .u8 (kdOf f), .string (bstr t)] 98))) := hid
  ⟨(HK0.out.below hb2 HK0.out.lt).alloc _, Blk.new w2 _ _, (HZ0.out.trans (hb2.mono HZ0.out.size)).alloc (Nat.le_trans HZ0.out.size hb2.size) _⟩
 obtain ⟨w3, hw3⟩ : ∃ w3, w2.alloc (.cells #[.int .u8 (kdOf f), .string (bstr t)] 98) = w3 := ⟨_, rfl⟩;rw [hw3] at HM;have hs3 : w.heap.size + 1 ≤ w3.heap.size := HM.out.res.lt;have ht0 : w3.cell? ⟨w2.heap.size, 0, none⟩ = some (.int .u8 (kdOf f)) := HM.out.tok.cell 0;have ht1 : w3.cell? ⟨w2.heap.size, 1, none⟩ = some (.string (bstr t)) := HM.out.tok.cell 1;have HRD3 := hid (HRD.out.below HM.out.be);have HISW := hid (HISX.out w3 HRD3.out);clear hb2;by_cases hf3 : f = 3
 ·have HX := hid (HE3.out hf3);have hil := HHL.out (by rw [hf3]; decide);have hkd : (kdOf f == 40) = true := by rw [HKD.out.2.1, hf3]; rfl
  clear hf3 HE3 HE0 HEN HEW HTX2 HISX HISW;by_cases ho1 : o = 100
  ·have HE : Hid (RES = none) := hid (by rw [HX.out, ho1]; rfl);have hoI : ((o : Int) == 100) = true := by rw [ho1]; rfl
   have hoN : (o == 100) = true := by rw [ho1]; rfl
   have HRS := hid HM.out.res;clear ho1;go_wp2_with ((with_reducible refine Ab rfl 36 _ _ rfl w.heap.size #[.int .i64 0, .string ⟨#[]⟩, .int .i64 0, .slice none 0 0] ?_ ?_ 36 zCn HRS.out (Ap ..) rfl (by simp [Value.oneCell']) ?_); rfl; rfl; intro w5 hk5 hs5 hbl5 hoth5);refine bodyPost_ret (Aj rfl _ _ w.heap.size _ _ _ rfl hk5 Tryz.underlying36 rfl (Ap ..)) rfl ?_;exact RcA.bad HE.out A4 (HM.out.be.trans (hbl5 w.heap.size (Nat.le_refl _)))
  ·have hoI : ((o : Int) == 100) = false := beq_eq_false_iff_ne.2 (by omega);have hoN : (o == 100) = false := beq_eq_false_iff_ne.2 ho1;have HC := hid (fun W hW => OneR.cond HIN.out A cap L (i + 1) (o + 1) W hW (by omega) (by have := HNN.out; omega) hL HTX.out (by omega));rw [if_neg (show ¬ 100 ≤ o by omega)] at HX;generalize Pr.condP n (o + 1) (L.drop (i + 1)) = X at *;clear ho1;go_wp2_with fail;refine (HC.out w3 HRD3.out).mono ?_;rintro e w4 ⟨hr, hb4⟩;have HM4 := hid (HM.out.bel hb4);have HRD4 := hid (HRD.out.below HM4.out.be);have HKN := hid (Blk.new w4 36 zCn);have hs4 : w.heap.size + 1 ≤ w4.heap.size := HM4.out.res.lt;have hgk4 := hb4.size;clear hb4
   cases X with
   | none =>
    obtain ⟨V, c, j2, rfl, hV⟩ := hr;have HE : Hid (RES = none) := hid (by rw [HX.out]; rfl);have HSX : Hid ((Tryz.prog.info? 36).map (·.size) = some V.size) := hid (by rw [Aa, hV.size]);have HSZ : Hid (zCn.size = V.size) := hid (by rw [hV.size]; rfl);have HOV := hid hV.one;clear hV
    go_upto_region 7 with ((with_reducible refine Ab rfl 36 _ _ rfl w4.heap.size V ?_ ?_ 36 _ HKN.out HSX.out HSZ.out HOV.out ?_); rfl; rfl; intro w6 hk6 hs6 hbl6 hoth6)
    have hz6 : Below w4.heap.size w4 w6 := ((Below.refl w4.heap.size w4).alloc (Nat.le_refl _) (.cells zCn 36)).trans (hbl6 _ (Nat.le_refl _));have HM6 := hid (HM4.out.bel hz6);have HRS := hid HM6.out.res;clear hk6 hs6 hbl6 hoth6 hz6;go_wp2_with ((with_reducible refine Ab rfl 36 _ _ rfl w.heap.size #[.int .i64 0, .string ⟨#[]⟩, .int .i64 0, .slice none 0 0] ?_ ?_ 36 zCn HRS.out (Ap ..) rfl (by simp [Value.oneCell']) ?_); rfl; rfl; intro w5 hk5 hs5 hbl5 hoth5);refine bodyPost_ret (Aj rfl _ _ w.heap.size _ _ _ rfl hk5 Tryz.underlying36 rfl (Ap ..)) rfl ?_;exact RcA.bad HE.out A4 (HM6.out.be.trans (hbl5 w.heap.size (Nat.le_refl _)))
   | some cq =>
    obtain ⟨c, q⟩ := cq;obtain ⟨V, j, hj, rfl, rfl, hV⟩ := hr;have HSX : Hid ((Tryz.prog.info? 36).map (·.size) = some V.size) := hid (by rw [Aa, hV.size]);have HSZ : Hid (zCn.size = V.size) := hid (by rw [hV.size]; rfl);have HOV := hid hV.one;have HV := hid hV;have HA4 := hid (fun W hW => Bk A cap L j W hW hL (by omega));have HY4 := hid (Pr.takeF_yes (f := 4) (r := L.drop j) (by decide));have HN4 := hid (Pr.takeF_no (f := 4) (r := L.drop j));have HJ4 := hid (Pr.hd_lt (L := L) (i := j));generalize (Pr.hdT (L.drop j)).form = f4 at *;generalize (Pr.hdT (L.drop j)).text = t4 at *;have hkc := (Db f4).2.2.1;have hwj : IntKind.i64.wrap ((j : Int) + 1) = (j : Int) + 1 := IntWalk.i64_in _ (by omega);clear hV
    go_upto_region 7 with ((with_reducible refine Ab rfl 36 _ _ rfl w4.heap.size V ?_ ?_ 36 _ HKN.out HSX.out HSZ.out HOV.out ?_); rfl; rfl; intro w6 hk6 hs6 hbl6 hoth6)
    have hz6 : Below w4.heap.size w4 w6 := ((Below.refl w4.heap.size w4).alloc (Nat.le_refl _) (.cells zCn 36)).trans (hbl6 _ (Nat.le_refl _));have HM6 := hid (HM4.out.bel hz6);have HKV6 := hid hk6;have HV6 := hid (HV.out.bel hz6);have HRD6 := hid (HRD.out.below HM6.out.be);clear hk6 hs6 hbl6 hoth6 hz6;by_cases hf4 : f4 = 4
    ·have hk4 : (kdOf f4 == 41) = true := by rw [hkc, hf4]; rfl
     have hk4n : (kdOf f4 != 41) = false := by rw [bne, hk4]; rfl
     have HE : Hid (RES = some (c, L.drop (j + 1))) := hid (by rw [HX.out, Pr.closP_yes (HY4.out hf4), Pr.tail_at]);have hj4 := HJ4.out (by rw [hf4]; decide);have hfd := BC (kdOf f4) (bstr t4);clear hf4 hkc
     go_upto_region 9 with (go_at_call 66; refine (HA4.out w6 HRD6.out).mono ?_; rintro e w7 ⟨rfl, hb7⟩; have HM7 := hid (HM6.out.bel hb7); have HV7 := hid (HV6.out.bel hb7); have HKV7 := hid (HKV6.out.below hb7 HKV6.out.lt); have HRS := hid HM7.out.res; clear hb7)
     go_wp2_with (first
      | (refine Ac (by rfl) 36 _ rfl w4.heap.size rfl 36 _ (0, 0) _ rfl HKV7.out Tryz.underlying36 HSX.out ?_)
      | ((with_reducible refine Ab rfl 36 _ _ rfl w.heap.size V ?_ ?_ 36 zCn HRS.out HSX.out HSZ.out HOV.out ?_); rfl; rfl; intro w5 hk5 hs5 hbl5 hoth5))
     refine bodyPost_ret (Aj rfl _ _ w.heap.size _ _ _ rfl hk5 Tryz.underlying36 rfl HSX.out) rfl ?_;exact RcA.good HE.out rfl (by omega) (by omega) (HV7.out.keep fun b hb hl => ⟨by omega, hoth5 b (by omega)⟩) (HM7.out.be.trans (hbl5 w.heap.size (Nat.le_refl _)))
    ·have hk4 : (kdOf f4 == 41) = false := by rw [hkc]; exact beq_eq_false_iff_ne.2 hf4
     have hk4n : (kdOf f4 != 41) = true := by rw [bne, hk4]; rfl
     have HE : Hid (RES = none) := hid (by rw [HX.out, Pr.closP_no (HN4.out hf4)]);have hfd := BC (kdOf f4) (bstr t4);clear hf4 hkc
     go_upto_region 8 with (go_at_call 66; refine (HA4.out w6 HRD6.out).mono ?_; rintro e w7 ⟨rfl, hb7⟩; have HM7 := hid (HM6.out.bel hb7); have HRS := hid HM7.out.res; clear hb7)
     go_wp2_with ((with_reducible refine Ab rfl 36 _ _ rfl w.heap.size #[.int .i64 0, .string ⟨#[]⟩, .int .i64 0, .slice none 0 0] ?_ ?_ 36 zCn HRS.out (Ap ..) rfl (by simp [Value.oneCell']) ?_); rfl; rfl; intro w5 hk5 hs5 hbl5 hoth5);refine bodyPost_ret (Aj rfl _ _ w.heap.size _ _ _ rfl hk5 Tryz.underlying36 rfl (Ap ..)) rfl ?_;exact RcA.bad HE.out A4 (HM7.out.be.trans (hbl5 w.heap.size (Nat.le_refl _)))
 ·have hkd : (kdOf f == 40) = false := by rw [HKD.out.2.1]; exact beq_eq_false_iff_ne.2 hf3
  by_cases hf1 : f = 1
  ·have hkw : (kdOf f == 119) = true := by rw [HKW.out, hf1]; rfl
   have hkwn : (kdOf f != 119) = false := by rw [bne, hkw]; rfl
   have hil := HHL.out (by rw [hf1]; decide);by_cases htn : t = Pr.notW
   ·have HX := hid (HEN.out hf1 htn)
    have HIST : Hid (Calls Tryz.prog 65 #[.slice A L.length cap, .int .i64 (i : Int), .string ⟨#[110, 111, 116]⟩] w3 fun e w' => e = .returned (.bool true) ∧ Below w3.heap.size w3 w') := hid (by
     have := HISW.out;rw [hf1, htn] at this
     exact this)
    clear hf3 HE3 HE0 HEN HEW HTX2 HISX HISW hf1 htn;by_cases ho1 : o = 100
    ·have HE : Hid (RES = none) := hid (by rw [HX.out, ho1]; rfl);have hoI : ((o : Int) == 100) = true := by rw [ho1]; rfl
     have hoN : (o == 100) = true := by rw [ho1]; rfl
     clear ho1
     go_upto_region 4 with (go_at_call 65; refine HIST.out.mono ?_; rintro e w7 ⟨rfl, hb7⟩; have HM7 := hid (HM.out.bel hb7); have HRS := hid HM7.out.res; clear hb7)
     go_wp2_with ((with_reducible refine Ab rfl 36 _ _ rfl w.heap.size #[.int .i64 0, .string ⟨#[]⟩, .int .i64 0, .slice none 0 0] ?_ ?_ 36 zCn HRS.out (Ap ..) rfl (by simp [Value.oneCell']) ?_); rfl; rfl; intro w5 hk5 hs5 hbl5 hoth5);refine bodyPost_ret (Aj rfl _ _ w.heap.size _ _ _ rfl hk5 Tryz.underlying36 rfl (Ap ..)) rfl ?_;exact RcA.bad HE.out A4 (HM7.out.be.trans (hbl5 w.heap.size (Nat.le_refl _)))
    ·have hoI : ((o : Int) == 100) = false := beq_eq_false_iff_ne.2 (by omega);have hoN : (o == 100) = false := beq_eq_false_iff_ne.2 ho1;have HC := hid (fun W hW => HIN.out A cap L (i + 1) (o + 1) W hW (by omega) (by have := HNN.out; omega) hL HTX.out (by omega));rw [if_neg (show ¬ 100 ≤ o by omega)] at HX;generalize Pr.oneP n (o + 1) (L.drop (i + 1)) = X at *;clear ho1
     go_upto_region 5 with (go_at_call 65; refine HIST.out.mono ?_; rintro e w7 ⟨rfl, hb7⟩; have HM7 := hid (HM.out.bel hb7); have hu0 : w7.cell? ⟨w2.heap.size, 0, none⟩ = some (.int .u8 (kdOf f)) := HM7.out.tok.cell 0; have HRD7 := hid (HRD.out.below HM7.out.be); clear hb7)
     go_wp2_with fail;refine (HC.out w7 HRD7.out).mono ?_;rintro e w4 ⟨hr, hb4⟩;have HM4 := hid (HM7.out.bel hb4);have HKN := hid (Blk.new w4 36 zCn);have hs4 : w.heap.size + 1 ≤ w4.heap.size := HM4.out.res.lt;have hgk4 := hb4.size;have hs7 : w.heap.size + 1 ≤ w7.heap.size := HM7.out.res.lt;clear hb4
     cases X with
     | none =>
      obtain ⟨V, c, j2, rfl, hV⟩ := hr;have HE : Hid (RES = none) := hid (by rw [HX.out]; rfl);have HSX : Hid ((Tryz.prog.info? 36).map (·.size) = some V.size) := hid (by rw [Aa, hV.size]);have HSZ : Hid (zCn.size = V.size) := hid (by rw [hV.size]; rfl);have HOV := hid hV.one;clear hV
      go_upto_region 11 with ((with_reducible refine Ab rfl 36 _ _ rfl w4.heap.size V ?_ ?_ 36 _ HKN.out HSX.out HSZ.out HOV.out ?_); rfl; rfl; intro w6 hk6 hs6 hbl6 hoth6)
      have hz6 : Below w4.heap.size w4 w6 := ((Below.refl w4.heap.size w4).alloc (Nat.le_refl _) (.cells zCn 36)).trans (hbl6 _ (Nat.le_refl _));have HM6 := hid (HM4.out.bel hz6);have HRS := hid HM6.out.res;clear hk6 hs6 hbl6 hoth6 hz6;go_wp2_with ((with_reducible refine Ab rfl 36 _ _ rfl w.heap.size #[.int .i64 0, .string ⟨#[]⟩, .int .i64 0, .slice none 0 0] ?_ ?_ 36 zCn HRS.out (Ap ..) rfl (by simp [Value.oneCell']) ?_); rfl; rfl; intro w5 hk5 hs5 hbl5 hoth5);refine bodyPost_ret (Aj rfl _ _ w.heap.size _ _ _ rfl hk5 Tryz.underlying36 rfl (Ap ..)) rfl ?_;exact RcA.bad HE.out A4 (HM6.out.be.trans (hbl5 w.heap.size (Nat.le_refl _)))
     | some cq =>
      obtain ⟨c, q⟩ := cq;obtain ⟨V, j, hj, rfl, rfl, hV⟩ := hr;have HE : Hid (RES = some (.mk 4 [] 0 [c], L.drop j)) := hid (by rw [HX.out]; rfl);have HSX : Hid ((Tryz.prog.info? 36).map (·.size) = some V.size) := hid (by rw [Aa, hV.size]);have HSZ : Hid (zCn.size = V.size) := hid (by rw [hV.size]; rfl);have HOV := hid hV.one;have HV := hid hV;obtain ⟨B, bc, rfl, -⟩ := hV.open;clear hV
      go_upto_region 11 with ((with_reducible refine Ab rfl 36 _ _ rfl w4.heap.size #[.int .i64 c.op, .string (bstr c.text), .int .i64 c.num, .slice B c.kids.length bc] ?_ ?_ 36 _ HKN.out HSX.out HSZ.out HOV.out ?_); rfl; rfl; intro w6 hk6 hs6 hbl6 hoth6)
      have hz6 : Below w4.heap.size w4 w6 := ((Below.refl w4.heap.size w4).alloc (Nat.le_refl _) (.cells zCn 36)).trans (hbl6 _ (Nat.le_refl _));have HM6 := hid (HM4.out.bel hz6);have HKV6 := hid hk6;have HV6 := hid (HV.out.bel hz6);have hs6b : w4.heap.size + 1 ≤ w6.heap.size := hk6.lt;clear hk6 hs6 hbl6 hoth6 hz6;have hz8 : Below w6.heap.size w6 (w6.alloc (.cells #[.int .i64 c.op, .string (bstr c.text), .int .i64 c.num, .slice B c.kids.length bc] 36)) := (Below.refl w6.heap.size w6).alloc (Nat.le_refl _) (.cells #[.int .i64 c.op, .string (bstr c.text), .int .i64 c.num, .slice B c.kids.length bc] 36);have HM8 := hid (HM6.out.bel hz8);have HRS := hid HM8.out.res;have HV8 := hid (HV6.out.bel hz8);have HB8 := hid (Blk.new w6 36 #[.int .i64 c.op, .string (bstr c.text), .int .i64 c.num, .slice B c.kids.length bc]);have hs66 := HKV6.out.lt;clear hz8
      go_wp2_with (first
       | (refine Ac (by rfl) 36 _ rfl w4.heap.size rfl 36 _ (0, 0) _ rfl HKV6.out Tryz.underlying36 HSX.out ?_)
       | ((with_reducible refine Ab rfl 36 _ _ rfl w.heap.size #[.int .i64 4, .string ⟨#[]⟩, .int .i64 0, .slice (some ⟨w6.heap.size, 0, none⟩) 1 1] ?_ ?_ 36 zCn HRS.out (Ap ..) rfl (AJ _ _ _ _ _ _) ?_); rfl; rfl; intro w5 hk5 hs5 hbl5 hoth5))
      have HR1 := FD (ok := fun b => w.heap.size + 1 ≤ b) HB8.out (by omega) (HV8.out.keep fun b hb _ => ⟨by omega, rfl⟩);refine bodyPost_ret (Aj rfl _ _ w.heap.size _ _ _ rfl hk5 Tryz.underlying36 rfl (Ap ..)) rfl ?_;exact RcA.good HE.out rfl hj rfl (CnV.make (HR1.keep fun b hb hl => ⟨by omega, hoth5 b (by omega)⟩)) (HM8.out.be.trans (hbl5 w.heap.size (Nat.le_refl _)))
   ·have HX := hid (HEW.out hf1 htn);have htne := HTX2.out hf1;have HTNE := hid htne
    have HIST : Hid (Calls Tryz.prog 65 #[.slice A L.length cap, .int .i64 (i : Int), .string ⟨#[110, 111, 116]⟩] w3 fun e w' => e = .returned (.bool false) ∧ Below w3.heap.size w3 w') := hid (by
     have := HISW.out;rw [beq_eq_false_iff_ne.2 htn, Bool.and_false] at this
     exact this)
    clear hf3 HE3 HE0 HEN HEW HTX2 HISX HISW hf1 htn htne;have HOP := hid (fun k h1 h2 h3 W hW => D8 k h1 h2 h3 A cap L (i + 1) W hW (by omega) hL (fun t ht => (HTX.out t ht).1))
    go_upto_region 14 with (go_at_call 65; refine HIST.out.mono ?_; rintro e w7 ⟨rfl, hb7⟩; have HM7 := hid (HM.out.bel hb7); have hu0 : w7.cell? ⟨w2.heap.size, 0, none⟩ = some (.int .u8 (kdOf f)) := HM7.out.tok.cell 0; clear hb7)
    go_wp2_with fail
    go_loopw [16] (fun kx wr => ∃ k : Nat, 1 ≤ k ∧ k ≤ 18 ∧ kx = .int .i64 (k : Int) ∧ Hid (RES = Pr.wordP t (L.drop (i + 1)) (Pr.findOp t (18 - k) (k : Int))) ∧ OnM w w2.heap.size (kdOf f) (bstr t) wr) (fun kx _ => 18 - (RowKit.intOf kx).toNat)
    case atStart => exact ⟨1, Nat.le_refl _, by decide, rfl, HX, HM7.out⟩
    case round =>
     obtain ⟨k, hk1, hk18, rfl, hrel, hm⟩ := hrel;have HMR := hid hm;have hv1 : wr.cell? ⟨w2.heap.size, 1, none⟩ = some (.string (bstr t)) := hm.tok.cell 1;clear hm;by_cases hk17 : k ≤ 17
     ·have hkI : (k : Int) ≤ 17 := by omega
      have HMISS : Hid (((k = 2 ∨ k = 3 ∨ k = 4) ∨ Pr.wordR (k : Int) ≠ t) → RES = Pr.wordP t (L.drop (i + 1)) (Pr.findOp t (18 - (k + 1)) ((k + 1 : Nat) : Int))) := hid (fun h => by
       have := Pr.word_miss k hk1 hk17 t (17 - k) HTNE.out h;rw [show 17 - k + 1 = 18 - k by omega] at this
       rw [hrel.out, this, show 18 - (k + 1) = 17 - k by omega])
      by_cases h2 : k = 2
      ·have hb2 : ((k : Int) != 2) = false := by rw [h2]; rfl
       have HN := hid (HMISS.out (.inl (.inl h2)));clear h2;go_wp2_with fail
       go_quiet (fail)
       go_wp2_with fail
       go_roundw
       case rel => exact ⟨k + 1, by omega, by omega, by go_num, HN, HMR.out.bel (below_drewN (Below.refl _ _) _)⟩
       case measure => simp [RowKit.intOf]; omega
      have hb2 : ((k : Int) != 2) = true := by rw [bne_iff_ne]; omega
      by_cases h3 : k = 3
      ·have hb3 : ((k : Int) != 3) = false := by rw [h3]; rfl
       have HN := hid (HMISS.out (.inl (.inr (.inl h3))));clear h3 h2;go_wp2_with fail
       go_quiet (fail)
       go_wp2_with fail
       go_roundw
       case rel => exact ⟨k + 1, by omega, by omega, by go_num, HN, HMR.out.bel (below_drewN (Below.refl _ _) _)⟩
       case measure => simp [RowKit.intOf]; omega
      have hb3 : ((k : Int) != 3) = true := by rw [bne_iff_ne]; omega
      by_cases h4 : k = 4
      ·have hb4 : ((k : Int) != 4) = false := by rw [h4]; rfl
       have HN := hid (HMISS.out (.inl (.inr (.inr h4))));clear h4 h3 h2;go_wp2_with fail
       go_quiet (fail)
       go_wp2_with fail
       go_roundw
       case rel => exact ⟨k + 1, by omega, by omega, by go_num, HN, HMR.out.bel (below_drewN (Below.refl _ _) _)⟩
       case measure => simp [RowKit.intOf]; omega
      have hb4 : ((k : Int) != 4) = true := by rw [bne_iff_ne]; omega
      have HWD := hid (fun W => Gm (k : Int) (by omega) (by omega) W);have hcmp := AD (Pr.wordR (k : Int)) t;have hcmq : ((bstr (Pr.wordR (k : Int))).toList == (bstr t).toList) = (Pr.wordR (k : Int) == t) := Cp _ _
      have HHIT : Hid (Pr.wordR (k : Int) = t → RES = Pr.operandP (k : Int) (L.drop (i + 1))) := hid (fun h => by
       have := Pr.word_hit k hk1 hk17 ⟨h2, h3, h4⟩ t (L.drop (i + 1)) (17 - k) h;rw [show 17 - k + 1 = 18 - k by omega] at this
       rw [hrel.out, this])
      have HOPK := hid (fun W hW => HOP.out (k : Int) (by omega) (by omega) (by omega) W hW);clear h2 h3 h4 hcmp
      cases hq : (Pr.wordR (k : Int) == t) with
      | false =>
       have HN := hid (HMISS.out (.inr (beq_eq_false_iff_ne.1 hq)));rw [hq] at hcmq;clear hq;go_wp2_with fail;refine wp_region_noPanic ?_;refine wp_region_held_drew (S := fun W => W.cell? ⟨w2.heap.size, 1, none⟩ = some (.string (bstr t))) (by kernel_rfl) (hv1) (fun hHeld => ?_);refine wpAnyH_take (i := 0) (oi := _) (v := ?_) rfl (by kernel_rfl) (by kernel_rfl) (by kernel_rfl) (fun _ _ _ h => h) (Or.inl ⟨by kernel_rfl, ?_⟩) hHeld ?_;rotate_left
       ·intro wq hSw;go_simp
        (try with_reducible rfl)
       (try simp only [Act.put, pk1, pk2, pk3, pk4, pk5, pk6])
       refine wpAnyH_take (i := 1) (oi := _) (v := ?_) rfl (by kernel_rfl) (by kernel_rfl) (by kernel_rfl) (fun _ _ _ h => h) (Or.inl ⟨by kernel_rfl, ?_⟩) hHeld ?_;rotate_left
       ·intro wq hSw;go_simp
        (try with_reducible rfl)
       (try simp only [Act.put, pk1, pk2, pk3, pk4, pk5, pk6])
       refine wpAnyH_take (i := 2) (oi := _) (v := ?_) rfl (by kernel_rfl) (by kernel_rfl) (by kernel_rfl) (fun _ _ _ h => h) (Or.inl ⟨by kernel_rfl, ?_⟩) hHeld ?_;rotate_left
       ·intro wq hSw;go_simp
        (try with_reducible rfl)
       (try simp only [Act.put, pk1, pk2, pk3, pk4, pk5, pk6])
       refine wpAnyH_take (i := 3) (oi := _) (v := ?_) rfl (by kernel_rfl) (by kernel_rfl) (by kernel_rfl) (fun _ _ _ h => h) (Or.inl ⟨by kernel_rfl, ?_⟩) hHeld ?_;rotate_left
       ·intro wq hSw;go_simp
        (try with_reducible rfl)
       (try simp only [Act.put, pk1, pk2, pk3, pk4, pk5, pk6])
       refine wpAnyH_take (i := 4) (oi := _) (v := ?_) rfl (by kernel_rfl) (by kernel_rfl) (by kernel_rfl) (fun _ _ _ h => h) (Or.inl ⟨by kernel_rfl, ?_⟩) hHeld ?_;rotate_left
       ·intro wq hSw;go_simp
        (try with_reducible rfl)
       (try simp only [Act.put, pk1, pk2, pk3, pk4, pk5, pk6])
       refine wpAnyH_take (i := 5) (oi := _) (v := ?_) rfl (by kernel_rfl) (by kernel_rfl) (by kernel_rfl) (fun _ _ _ h => h) (Or.inl ⟨by kernel_rfl, ?_⟩) hHeld ?_;rotate_left
       ·intro wq hSw;go_simp
        (try with_reducible rfl)
       (try simp only [Act.put, pk1, pk2, pk3, pk4, pk5, pk6])
       refine wpAnyH_take (i := 6) (oi := _) (v := ?_) rfl (by kernel_rfl) (by kernel_rfl) (by kernel_rfl) (fun _ _ _ h => h) (Or.inl ⟨by kernel_rfl, ?_⟩) hHeld ?_;rotate_left
       ·intro wq hSw;go_simp
        (try with_reducible rfl)
       (try simp only [Act.put, pk1, pk2, pk3, pk4, pk5, pk6])
       refine wpAnyH_take (i := 7) (oi := _) (v := ?_) rfl (by kernel_rfl) (by kernel_rfl) (by kernel_rfl) (fun _ _ _ h => h) (Or.inl ⟨by kernel_rfl, ?_⟩) hHeld ?_;rotate_left
       ·intro wq hSw;go_simp
        (try with_reducible rfl)
       (try simp only [Act.put, pk1, pk2, pk3, pk4, pk5, pk6])
       refine wpAnyH_take (i := 8) (oi := _) (v := ?_) rfl (by kernel_rfl) (by kernel_rfl) (by kernel_rfl) (fun _ _ _ h => h) (Or.inl ⟨by kernel_rfl, ?_⟩) hHeld ?_;rotate_left
       ·intro wq hSw;go_simp
        (try with_reducible rfl)
       (try simp only [Act.put, pk1, pk2, pk3, pk4, pk5, pk6])
       refine wpAnyH_take (i := 9) (oi := _) (v := ?_) rfl (by kernel_rfl) (by kernel_rfl) (by kernel_rfl) (fun _ _ _ h => h) (Or.inl ⟨by kernel_rfl, ?_⟩) hHeld ?_;rotate_left
       ·intro wq hSw;go_simp
        (try with_reducible rfl)
       (try simp only [Act.put, pk1, pk2, pk3, pk4, pk5, pk6])
       refine wpAnyH_take (i := 10) (oi := _) (v := ?_) rfl (by kernel_rfl) (by kernel_rfl) (by kernel_rfl) (fun _ _ _ h => h) (Or.inl ⟨by kernel_rfl, ?_⟩) hHeld ?_;rotate_left
       ·intro wq hSw;go_simp
        (try with_reducible rfl)
       (try simp only [Act.put, pk1, pk2, pk3, pk4, pk5, pk6])
       refine wpAnyH_take (i := 11) (oi := _) (v := ?_) rfl (by kernel_rfl) (by kernel_rfl) (by kernel_rfl) (fun _ _ _ h => h) (Or.inl ⟨by kernel_rfl, ?_⟩) hHeld ?_;rotate_left
       ·intro wq hSw;go_simp
        (try with_reducible rfl)
       (try simp only [Act.put, pk1, pk2, pk3, pk4, pk5, pk6])
       refine wpAnyH_take (i := 13) (oi := _) (v := ?_) rfl (by kernel_rfl) (by kernel_rfl) (by kernel_rfl) (fun _ _ _ h => h) (Or.inl ⟨by kernel_rfl, ?_⟩) hHeld ?_;rotate_left
       ·intro wq hSw;go_simp
        (try with_reducible rfl)
       (try simp only [Act.put, pk1, pk2, pk3, pk4, pk5, pk6])
       refine wpAnyH_take (i := 14) (oi := _) (v := ?_) rfl (by kernel_rfl) (by kernel_rfl) (by kernel_rfl) (fun _ _ _ h => h) (Or.inl ⟨by kernel_rfl, ?_⟩) hHeld ?_;rotate_left
       ·intro wq hSw;go_simp
        (try with_reducible rfl)
       (try simp only [Act.put, pk1, pk2, pk3, pk4, pk5, pk6])
       refine wpAnyH_ready (rs := [12]) (by kernel_rfl) (by simp) ?_;refine AllReadyH.cons (o := _) rfl (fun K hK => ?_) AllReadyH.nil;go_simp
       go_at_call 80
       refine (HWD.out wr.drew).mono ?_;rintro e w8 ⟨rfl, hb8⟩;have HM8 := hid ((HMR.out.bel (Below.refl _ _).drew).bel hb8);clear hb8;refine hK.out _ _ (HM8.out.tok.cell 1) (fun hHeld2 => ?_);clear hK K hHeld;have hHeld := hHeld2;clear hHeld2
       (try simp only [Act.put, pk1, pk2, pk3, pk4, pk5, pk6])
       refine wpAnyH_take (i := 15) (oi := _) (v := ?_) rfl (by kernel_rfl) (by kernel_rfl) (by kernel_rfl) (fun _ _ _ h => h) (Or.inl ⟨by kernel_rfl, ?_⟩) hHeld ?_;rotate_left
       ·intro wq hSw;go_simp
        (try with_reducible rfl)
       (try simp only [Act.put, pk1, pk2, pk3, pk4, pk5, pk6])
       refine wpAnyH_take (i := 16) (oi := _) (v := ?_) rfl (by kernel_rfl) (by kernel_rfl) (by kernel_rfl) (fun _ _ _ h => h) (Or.inl ⟨by kernel_rfl, ?_⟩) hHeld ?_;rotate_left
       ·intro wq hSw;go_simp
        (try with_reducible rfl)
       (try simp only [Act.put, pk1, pk2, pk3, pk4, pk5, pk6])
       refine wpAnyH_done (by kernel_rfl) ?_ _;refine NoPanic.normal ?_;go_wp2_with fail
       go_roundw
       case rel => exact ⟨k + 1, by omega, by omega, by go_num, HN, HM8.out⟩
       case measure => simp [RowKit.intOf]; omega
      | true =>
       have HR := hid (HHIT.out (beq_iff_eq.1 hq));rw [hq] at hcmq;clear hq HMISS hrel;generalize Pr.operandP (k : Int) (L.drop (i + 1)) = X at *;go_wp2_with fail;refine wp_region_noPanic ?_;refine wp_region_held_drew (S := fun W => W.cell? ⟨w2.heap.size, 1, none⟩ = some (.string (bstr t))) (by kernel_rfl) (hv1) (fun hHeld => ?_);refine wpAnyH_take (i := 0) (oi := _) (v := ?_) rfl (by kernel_rfl) (by kernel_rfl) (by kernel_rfl) (fun _ _ _ h => h) (Or.inl ⟨by kernel_rfl, ?_⟩) hHeld ?_;rotate_left
       ·intro wq hSw;go_simp
        (try with_reducible rfl)
       (try simp only [Act.put, pk1, pk2, pk3, pk4, pk5, pk6])
       refine wpAnyH_take (i := 1) (oi := _) (v := ?_) rfl (by kernel_rfl) (by kernel_rfl) (by kernel_rfl) (fun _ _ _ h => h) (Or.inl ⟨by kernel_rfl, ?_⟩) hHeld ?_;rotate_left
       ·intro wq hSw;go_simp
        (try with_reducible rfl)
       (try simp only [Act.put, pk1, pk2, pk3, pk4, pk5, pk6])
       refine wpAnyH_take (i := 2) (oi := _) (v := ?_) rfl (by kernel_rfl) (by kernel_rfl) (by kernel_rfl) (fun _ _ _ h => h) (Or.inl ⟨by kernel_rfl, ?_⟩) hHeld ?_;rotate_left
       ·intro wq hSw;go_simp
        (try with_reducible rfl)
       (try simp only [Act.put, pk1, pk2, pk3, pk4, pk5, pk6])
       refine wpAnyH_take (i := 3) (oi := _) (v := ?_) rfl (by kernel_rfl) (by kernel_rfl) (by kernel_rfl) (fun _ _ _ h => h) (Or.inl ⟨by kernel_rfl, ?_⟩) hHeld ?_;rotate_left
       ·intro wq hSw;go_simp
        (try with_reducible rfl)
       (try simp only [Act.put, pk1, pk2, pk3, pk4, pk5, pk6])
       refine wpAnyH_take (i := 4) (oi := _) (v := ?_) rfl (by kernel_rfl) (by kernel_rfl) (by kernel_rfl) (fun _ _ _ h => h) (Or.inl ⟨by kernel_rfl, ?_⟩) hHeld ?_;rotate_left
       ·intro wq hSw;go_simp
        (try with_reducible rfl)
       (try simp only [Act.put, pk1, pk2, pk3, pk4, pk5, pk6])
       refine wpAnyH_take (i := 5) (oi := _) (v := ?_) rfl (by kernel_rfl) (by kernel_rfl) (by kernel_rfl) (fun _ _ _ h => h) (Or.inl ⟨by kernel_rfl, ?_⟩) hHeld ?_;rotate_left
       ·intro wq hSw;go_simp
        (try with_reducible rfl)
       (try simp only [Act.put, pk1, pk2, pk3, pk4, pk5, pk6])
       refine wpAnyH_take (i := 6) (oi := _) (v := ?_) rfl (by kernel_rfl) (by kernel_rfl) (by kernel_rfl) (fun _ _ _ h => h) (Or.inl ⟨by kernel_rfl, ?_⟩) hHeld ?_;rotate_left
       ·intro wq hSw;go_simp
        (try with_reducible rfl)
       (try simp only [Act.put, pk1, pk2, pk3, pk4, pk5, pk6])
       refine wpAnyH_take (i := 7) (oi := _) (v := ?_) rfl (by kernel_rfl) (by kernel_rfl) (by kernel_rfl) (fun _ _ _ h => h) (Or.inl ⟨by kernel_rfl, ?_⟩) hHeld ?_;rotate_left
       ·intro wq hSw;go_simp
        (try with_reducible rfl)
       (try simp only [Act.put, pk1, pk2, pk3, pk4, pk5, pk6])
       refine wpAnyH_take (i := 8) (oi := _) (v := ?_) rfl (by kernel_rfl) (by kernel_rfl) (by kernel_rfl) (fun _ _ _ h => h) (Or.inl ⟨by kernel_rfl, ?_⟩) hHeld ?_;rotate_left
       ·intro wq hSw;go_simp
        (try with_reducible rfl)
       (try simp only [Act.put, pk1, pk2, pk3, pk4, pk5, pk6])
       refine wpAnyH_take (i := 9) (oi := _) (v := ?_) rfl (by kernel_rfl) (by kernel_rfl) (by kernel_rfl) (fun _ _ _ h => h) (Or.inl ⟨by kernel_rfl, ?_⟩) hHeld ?_;rotate_left
       ·intro wq hSw;go_simp
        (try with_reducible rfl)
       (try simp only [Act.put, pk1, pk2, pk3, pk4, pk5, pk6])
       refine wpAnyH_take (i := 10) (oi := _) (v := ?_) rfl (by kernel_rfl) (by kernel_rfl) (by kernel_rfl) (fun _ _ _ h => h) (Or.inl ⟨by kernel_rfl, ?_⟩) hHeld ?_;rotate_left
       ·intro wq hSw;go_simp
        (try with_reducible rfl)
       (try simp only [Act.put, pk1, pk2, pk3, pk4, pk5, pk6])
       refine wpAnyH_take (i := 11) (oi := _) (v := ?_) rfl (by kernel_rfl) (by kernel_rfl) (by kernel_rfl) (fun _ _ _ h => h) (Or.inl ⟨by kernel_rfl, ?_⟩) hHeld ?_;rotate_left
       ·intro wq hSw;go_simp
        (try with_reducible rfl)
       (try simp only [Act.put, pk1, pk2, pk3, pk4, pk5, pk6])
       refine wpAnyH_take (i := 13) (oi := _) (v := ?_) rfl (by kernel_rfl) (by kernel_rfl) (by kernel_rfl) (fun _ _ _ h => h) (Or.inl ⟨by kernel_rfl, ?_⟩) hHeld ?_;rotate_left
       ·intro wq hSw;go_simp
        (try with_reducible rfl)
       (try simp only [Act.put, pk1, pk2, pk3, pk4, pk5, pk6])
       refine wpAnyH_take (i := 14) (oi := _) (v := ?_) rfl (by kernel_rfl) (by kernel_rfl) (by kernel_rfl) (fun _ _ _ h => h) (Or.inl ⟨by kernel_rfl, ?_⟩) hHeld ?_;rotate_left
       ·intro wq hSw;go_simp
        (try with_reducible rfl)
       (try simp only [Act.put, pk1, pk2, pk3, pk4, pk5, pk6])
       refine wpAnyH_ready (rs := [12]) (by kernel_rfl) (by simp) ?_;refine AllReadyH.cons (o := _) rfl (fun K hK => ?_) AllReadyH.nil;go_simp
       go_at_call 80
       refine (HWD.out wr.drew).mono ?_;rintro e w8 ⟨rfl, hb8⟩;have HM8 := hid ((HMR.out.bel (Below.refl _ _).drew).bel hb8);clear hb8;refine hK.out _ _ (HM8.out.tok.cell 1) (fun hHeld2 => ?_);clear hK K hHeld;have hHeld := hHeld2;clear hHeld2
       (try simp only [Act.put, pk1, pk2, pk3, pk4, pk5, pk6])
       refine wpAnyH_take (i := 15) (oi := _) (v := ?_) rfl (by kernel_rfl) (by kernel_rfl) (by kernel_rfl) (fun _ _ _ h => h) (Or.inl ⟨by kernel_rfl, ?_⟩) hHeld ?_;rotate_left
       ·intro wq hSw;go_simp
        (try with_reducible rfl)
       (try simp only [Act.put, pk1, pk2, pk3, pk4, pk5, pk6])
       refine wpAnyH_take (i := 16) (oi := _) (v := ?_) rfl (by kernel_rfl) (by kernel_rfl) (by kernel_rfl) (fun _ _ _ h => h) (Or.inl ⟨by kernel_rfl, ?_⟩) hHeld ?_;rotate_left
       ·intro wq hSw;go_simp
        (try with_reducible rfl)
       (try simp only [Act.put, pk1, pk2, pk3, pk4, pk5, pk6])
       refine wpAnyH_done (by kernel_rfl) ?_ _;refine NoPanic.normal ?_;have HRD8 := hid (HRD.out.below HM8.out.be);go_wp2_with fail;refine (HOPK.out w8 HRD8.out).mono ?_;rintro e w4 ⟨hr, hb4⟩;have HM4 := hid (HM8.out.bel hb4);have HRS := hid HM4.out.res;have hs8 : w.heap.size + 1 ≤ w8.heap.size := HM8.out.res.lt;clear hb4
       cases X with
       | none =>
        obtain ⟨V, c, j2, rfl, hV⟩ := hr;have HSX : Hid ((Tryz.prog.info? 36).map (·.size) = some V.size) := hid (by rw [Aa, hV.size]);have HSZ : Hid (zCn.size = V.size) := hid (by rw [hV.size]; rfl);have HOV := hid hV.one;have HV := hid hV;clear hV;go_wp2_with ((with_reducible refine Ab rfl 36 _ _ rfl w.heap.size V ?_ ?_ 36 zCn HRS.out HSX.out HSZ.out HOV.out ?_); rfl; rfl; intro w5 hk5 hs5 hbl5 hoth5);refine bodyPost_ret (Aj rfl _ _ w.heap.size _ _ _ rfl hk5 Tryz.underlying36 rfl HSX.out) rfl ?_;exact RcA.bad HR.out (HV.out.keep fun b hb hl => ⟨by omega, hoth5 b (by omega)⟩) (HM4.out.be.trans (hbl5 w.heap.size (Nat.le_refl _)))
       | some cq =>
        obtain ⟨c, q⟩ := cq;obtain ⟨V, j, hj, rfl, rfl, hV⟩ := hr;have HSX : Hid ((Tryz.prog.info? 36).map (·.size) = some V.size) := hid (by rw [Aa, hV.size]);have HSZ : Hid (zCn.size = V.size) := hid (by rw [hV.size]; rfl);have HOV := hid hV.one;have HV := hid hV;clear hV;go_wp2_with ((with_reducible refine Ab rfl 36 _ _ rfl w.heap.size V ?_ ?_ 36 zCn HRS.out HSX.out HSZ.out HOV.out ?_); rfl; rfl; intro w5 hk5 hs5 hbl5 hoth5);refine bodyPost_ret (Aj rfl _ _ w.heap.size _ _ _ rfl hk5 Tryz.underlying36 rfl HSX.out) rfl ?_;exact RcA.good HR.out rfl hj rfl (HV.out.keep fun b hb hl => ⟨by omega, hoth5 b (by omega)⟩) (HM4.out.be.trans (hbl5 w.heap.size (Nat.le_refl _)))
     ·obtain rfl : k = 18 := by omega
      have HE : Hid (RES = none) := hid (by rw [hrel.out]; rfl);have HRS := hid HMR.out.res;go_wp2_with ((with_reducible refine Ab rfl 36 _ _ rfl w.heap.size #[.int .i64 0, .string ⟨#[]⟩, .int .i64 0, .slice none 0 0] ?_ ?_ 36 zCn HRS.out (Ap ..) rfl (by simp [Value.oneCell']) ?_); rfl; rfl; intro w5 hk5 hs5 hbl5 hoth5);refine bodyPost_ret (Aj rfl _ _ w.heap.size _ _ _ rfl hk5 Tryz.underlying36 rfl (Ap ..)) rfl ?_;exact RcA.bad HE.out A4 (HMR.out.be.trans (hbl5 w.heap.size (Nat.le_refl _)))
  ·have HE := hid (HE0.out hf3 hf1);have hkw : (kdOf f == 119) = false := by rw [HKW.out]; exact beq_eq_false_iff_ne.2 hf1
   have hkwn : (kdOf f != 119) = true := by rw [bne, hkw]; rfl
   have HIST : Hid (Calls Tryz.prog 65 #[.slice A L.length cap, .int .i64 (i : Int), .string ⟨#[110, 111, 116]⟩] w3 fun e w' => e = .returned (.bool false) ∧ Below w3.heap.size w3 w') := hid (by
    have := HISW.out;rw [beq_eq_false_iff_ne.2 hf1, Bool.false_and] at this
    exact this)
   clear hf3 HE3 HE0 HEN HEW HTX2 HISX HISW hf1
   go_upto_region 14 with (go_at_call 65; refine HIST.out.mono ?_; rintro e w7 ⟨rfl, hb7⟩; have HM7 := hid (HM.out.bel hb7); have hu0 : w7.cell? ⟨w2.heap.size, 0, none⟩ = some (.int .u8 (kdOf f)) := HM7.out.tok.cell 0; have HRS := hid HM7.out.res; clear hb7)
   go_wp2_with ((with_reducible refine Ab rfl 36 _ _ rfl w.heap.size #[.int .i64 0, .string ⟨#[]⟩, .int .i64 0, .slice none 0 0] ?_ ?_ 36 zCn HRS.out (Ap ..) rfl (by simp [Value.oneCell']) ?_); rfl; rfl; intro w5 hk5 hs5 hbl5 hoth5);refine bodyPost_ret (Aj rfl _ _ w.heap.size _ _ _ rfl hk5 Tryz.underlying36 rfl (Ap ..)) rfl ?_;exact RcA.bad HE.out A4 (HM7.out.be.trans (hbl5 w.heap.size (Nat.le_refl _)))
theorem Ew : ∀ n, OneR n
 | 0 => fun A cap L i o w h hi hn => absurd hn (by omega)
 | n + 1 => F6 n (Ew n)
theorem F1 (A : Option Addr) (cap : Nat) (L : List Pr.Tk) (i : Nat) (w : World) (h : Rd w A (L.length * 2) (rkL L)) (hi : i ≤ L.length) (hL : L.length ≤ 1000000) (hT : Pr.TkOk L) :
  Calls Tryz.prog 67 #[.slice A L.length cap, .int .i64 (i : Int), .int .i64 0] w (RcA w L (Pr.condP (L.length + 1) 0 (L.drop i))) :=
 OneR.cond (Ew (L.length + 1)) A cap L i 0 w h hi (by omega) hL hT (by omega)
end Go.Proofs.YtchkiegehejfmaaGreatDoor
