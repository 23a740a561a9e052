/- The text Gi. -/
import Derived.Test.YtchkiegehejfmaaGreatDoorMsbc
set_option linter.unusedSimpArgs false
set_option maxHeartbeats 16000000
set_option maxRecDepth 100000
set_option linter.unusedVariables false
namespace Go.Proofs.YtchkiegehejfmaaGreatDoor
open Go.RowKit Go.Lib
theorem GD (A : Option Addr) (cap : Nat) (L : List Pr.Tk) (i o : Nat) (rd : List Pr.Tk → Option (Pr.Cn × List Pr.Tk)) (w : World) (h : Rd w A (L.length * 2) (rkL L)) (hi : i ≤ L.length) (hL : L.length ≤ 1000000) (hS : Pr.Shrinks rd)
  (hR : ∀ (j : Nat) (W : World), i ≤ j → j ≤ L.length → Rd W A (L.length * 2) (rkL L) → Calls Tryz.prog 143 #[.slice A L.length cap, .int .i64 (j : Int), .int .i64 (o : Int)] W (RcA W L (rd (L.drop j)))) :
  Calls Tryz.prog 114 #[.slice A L.length cap, .int .i64 (i : Int), .int .i64 (o : Int)] w (RcA w L (Pr.joinC 2 rd Pr.andW (L.drop i))) := by
 have HRD := hid h;have HR := hid hR;have HS := hid hS;have hz0 : Below w.heap.size w (w.alloc (.cells zCn 36)) := (Below.refl w.heap.size w).alloc (Nat.le_refl _) (.cells zCn 36);have HZ0 := hid hz0;have HK0 := hid (Blk.new w 36 zCn);have HSZ0 : Hid ((w.alloc (.cells zCn 36)).heap.size = w.heap.size + 1) := hid (World.size_alloc ..);obtain ⟨X, hX⟩ : ∃ X, Pr.joinN rd Pr.andW [] (rd (L.drop i)) = X := ⟨_, rfl⟩;have HX := hid hX;have HJ : Hid (Pr.joinC 2 rd Pr.andW (L.drop i) = Pr.joinW 2 X) := hid (by rw [← hX, Pr.joinC_eq, Pr.joinJ hS]);generalize Pr.joinC 2 rd Pr.andW (L.drop i) = RES at *;clear h hR hz0 hS hX;go_enter Tryz.func114, Tryz.ntmps114;go_wp2_with fail
 go_loopw [1, 9] (fun ix kv wr => ∃ (j : Nat) (acc : List Pr.Cn), i ≤ j ∧ j ≤ L.length ∧ ix = .int .i64 (j : Int) ∧ CnO wr (w.heap.size + 1) (fun b => w.heap.size + 1 ≤ b) kv acc ∧ Hid (Pr.joinN rd Pr.andW acc (rd (L.drop j)) = X) ∧ acc.length ≤ j ∧ Blk wr w.heap.size 36 zCn ∧ Below w.heap.size w wr) (fun ix _ _ => L.length - (RowKit.intOf ix).toNat)
 case atStart => exact ⟨i, [], Nat.le_refl _, hi, rfl, CnO.nil, HX, Nat.zero_le _, HK0.out, HZ0.out⟩
 case round =>
  obtain ⟨j, acc, hij, hj, rfl, hkids, hrel, hal, hkr, hb⟩ := hrel;have HB := hid hb;have HKR := hid hkr;have HK := hid hkids;have HRW := hid (HRD.out.below hb);have HC := hid (HR.out j wr hij hj HRW.out);have hrs := hkr.lt;obtain ⟨A0, c0, rfl, hc0⟩ := hkids.len
  have HSH : Hid (∀ c q, rd (L.drop j) = some (c, q) → q.length < L.length - j) := hid (fun c q hq => by
   obtain ⟨p, e, hp⟩ := HS.out _ _ _ hq;have := List.length_pos_iff.2 hp;have h2 := congrArg List.length e;rw [List.length_append, List.length_drop] at h2
   omega)
  clear hkids hb hkr;generalize hrd : rd (L.drop j) = Y at *;have HRD2 := hid hrd;clear hrd;go_wp2_with fail;refine HC.out.mono ?_;rintro e w2 ⟨hr, hb2⟩;have HB2 := hid (HB.out.trans (hb2.mono HB.out.size));have HK2 := hid (HK.out.bel hb2);have HKR2 := hid (HKR.out.below hb2 HKR.out.lt);have hs2 := hb2.size;have HKN := hid (Blk.new w2 36 zCn);clear hb2
  cases Y with
  | none =>
   obtain ⟨V, c, j2, rfl, hV⟩ := hr;have HE : Hid (RES = none) := hid (by rw [HJ.out, ← hrel.out]; rfl);have HSX : Hid ((Tryz.prog.info? 36).map (·.size) = some V.size) := hid (by rw [Aa, hV.size]);have HSZ : Hid (zCn.size = V.size) := hid (by rw [hV.size]; rfl);have HOV := hid hV.one;clear hV
   go_upto_region 3 with ((with_reducible refine Ah rfl 36 _ _ rfl w2.heap.size V ?_ ?_ 36 _ HKN.out HSX.out HSZ.out HOV.out ?_); rfl; rfl; intro w3 hk3 hs3 hbl3)
   have hz3 : Below w2.heap.size w2 w3 := ((Below.refl w2.heap.size w2).alloc (Nat.le_refl _) (.cells zCn 36)).trans (hbl3 _ (Nat.le_refl _));have HB3 := hid (HB2.out.trans (hz3.mono HB2.out.size));have HKR3 := hid (HKR2.out.below hz3 HKR2.out.lt);clear hk3 hs3 hbl3 hz3;go_wp2_with ((with_reducible refine Ah rfl 36 _ _ rfl w.heap.size #[.int .i64 0, .string ⟨#[]⟩, .int .i64 0, .slice none 0 0] ?_ ?_ 36 zCn HKR3.out (Ap ..) rfl (by simp [Value.oneCell']) ?_); rfl; rfl; intro w5 hk5 hs5 hbl5);refine bodyPost_ret (Aj rfl _ _ w.heap.size _ _ _ rfl hk5 Tryz.underlying36 rfl (Ap ..)) rfl ?_;exact RcA.bad HE.out A4 (HB3.out.trans (hbl5 w.heap.size (Nat.le_refl _)))
  | some cq =>
   obtain ⟨c, q⟩ := cq;obtain ⟨V, j2, hj2, rfl, rfl, hV⟩ := hr;have hjj : j < j2 := by
    have := HSH.out c _ rfl;rw [List.length_drop] at this;omega
   have HSX : Hid ((Tryz.prog.info? 36).map (·.size) = some V.size) := hid (by rw [Aa, hV.size]);have HSZ : Hid (zCn.size = V.size) := hid (by rw [hV.size]; rfl);have HOV := hid hV.one;have HV := hid hV;obtain ⟨B, bc, rfl, -⟩ := hV.open;clear hV
   go_upto_region 3 with ((with_reducible refine Ah rfl 36 _ _ rfl w2.heap.size #[.int .i64 c.op, .string (bstr c.text), .int .i64 c.num, .slice B c.kids.length bc] ?_ ?_ 36 _ HKN.out HSX.out HSZ.out HOV.out ?_); rfl; rfl; intro w3 hk3 hs3 hbl3)
   have hz3 : Below w2.heap.size w2 w3 := ((Below.refl w2.heap.size w2).alloc (Nat.le_refl _) (.cells zCn 36)).trans (hbl3 _ (Nat.le_refl _));have HB3 := hid (HB2.out.trans (hz3.mono HB2.out.size));have HKR3 := hid (HKR2.out.below hz3 HKR2.out.lt);have HK3 := hid (HK2.out.bel hz3);have HV3 := hid (HV.out.bel hz3);have HKV3 := hid hk3;have hs3' : w2.heap.size + 1 ≤ w3.heap.size := hk3.lt;clear hk3 hs3 hbl3 hz3;have hz8 : Below w3.heap.size w3 (w3.alloc (.cells #[.int .i64 c.op, .string (bstr c.text), .int .i64 c.num, .slice B c.kids.length bc] 36)) := (Below.refl w3.heap.size w3).alloc (Nat.le_refl _) (.cells #[.int .i64 c.op, .string (bstr c.text), .int .i64 c.num, .slice B c.kids.length bc] 36);have HB8 := hid (HB3.out.trans (hz8.mono HB3.out.size));have HKR8 := hid (HKR3.out.below hz8 HKR3.out.lt);have HK8 := hid (HK3.out.bel hz8);have HV8 := hid (HV3.out.bel hz8);have hs8 : (w3.alloc (.cells #[.int .i64 c.op, .string (bstr c.text), .int .i64 c.num, .slice B c.kids.length bc] 36)).heap.size = w3.heap.size + 1 := World.size_alloc ..
   have HRD8 : Hid (Rd (w3.alloc (.cells #[.int .i64 c.op, .string (bstr c.text), .int .i64 c.num, .slice B c.kids.length bc] 36)) (some ⟨w3.heap.size, 0, none⟩) (1 * 4) [.int .i64 c.op, .string (bstr c.text), .int .i64 c.num, .slice B c.kids.length bc]) := hid (Rd.of_blk (vs := [.int .i64 c.op, .string (bstr c.text), .int .i64 c.num, .slice B c.kids.length bc]) (Blk.new w3 36 _));have hs8b : w.heap.size + 1 ≤ (w3.alloc (.cells #[.int .i64 c.op, .string (bstr c.text), .int .i64 c.num, .slice B c.kids.length bc] 36)).heap.size := by omega
   obtain ⟨xs, hown8, hcs8⟩ := HK8.out;have HOW8 := hid hown8;have HCS8 := hid hcs8;have HO1 : Hid (∀ u ∈ ([.int .i64 c.op, .string (bstr c.text), .int .i64 c.num, .slice B c.kids.length bc] : List Value), u.oneCell' = true) := hid (by intro u hu; simp at hu; rcases hu with rfl | rfl | rfl | rfl <;> rfl)
   have HOL : Hid (∀ k, (Value.slice A0 acc.length c0).ownBlock = some k → w.heap.size + 1 ≤ k ∧ k < wr.heap.size) := hid (fun k hk => by
    obtain ⟨xs0, h0, -⟩ := HK.out
    exact h0.lt k hk)
   have HVK : Hid (CnV (w3.alloc (.cells #[.int .i64 c.op, .string (bstr c.text), .int .i64 c.num, .slice B c.kids.length bc] 36)) (fun b => (w.heap.size + 1 ≤ b) ∧ some b ≠ (Value.slice A0 acc.length c0).ownBlock) #[.int .i64 c.op, .string (bstr c.text), .int .i64 c.num, .slice B c.kids.length bc] c) := hid (HV8.out.keep fun b hb _ => ⟨⟨by omega, fun e => by have := (HOL.out b e.symm).2; omega⟩, rfl⟩);clear hown8 hcs8 hz8
   go_upto_region 6 with (first
    | (refine Ac (by rfl) 36 _ rfl w2.heap.size rfl 36 _ (0, 0) _ rfl HKV3.out Tryz.underlying36 (Ap ..) ?_)
    | (at_builtin; refine AC rowCn rfl _ _ rfl _ (.slice A0 acc.length c0) acc.length xs _ (w.heap.size + 1) rfl HOW8.out _ 1 1 rfl HRD8.out HO1.out hs8b (by omega) ?_; intro v9 w9 ho9 hg9 hb9 hw9))
   have HK9 := hid (CnO.app (M := [c]) HOW8.out HCS8.out (CnsV.one HVK.out) ho9 hg9 hw9);have HKR9 : Hid (Blk w9 w.heap.size 36 zCn) := hid (HKR8.out.grown hg9 (fun e => by have := (HOL.out _ e.symm).1; omega));have HB9 : Hid (Below w.heap.size w w9) := hid (HB8.out.trans ((Below.refl w.heap.size _).grown hg9 (by omega) (fun k e => by have := (HOL.out k e).1; omega)));have HRW9 := hid (HRD.out.below HB9.out);have HIS := hid (BZ Pr.andW A cap L j2 w9 HRW9.out hL (by omega));rw [show bstr Pr.andW = (⟨#[97, 110, 100]⟩ : ByteArray) from rfl] at HIS;clear ho9 hg9 hb9 hw9;obtain ⟨A9, c9, rfl, hc9⟩ := HK9.out.len;have hlen : (acc ++ [c]).length = acc.length + 1 := by rw [List.length_append]; rfl
   have HEQ : Hid (Pr.joinK rd Pr.andW (acc ++ [c]) (L.drop j2) = X) := hrel
   cases hhd : Pr.headIs Pr.andW (L.drop j2) with
   | true =>
    have hjl : j2 < L.length := by
     rcases Nat.lt_or_ge j2 L.length with h | h
     ·exact h
     ·rw [List.drop_eq_nil_of_le h] at hhd;cases hhd
    have HT : Hid (Pr.joinN rd Pr.andW (acc ++ [c]) (rd (L.drop (j2 + 1))) = X) := hid (by
     rw [← HEQ.out];unfold Pr.joinK
     rw [hhd, if_pos rfl, List.tail_drop, Pr.joinJ HS.out])
    rw [hhd] at HIS;have HLN := hid hlen;clear hhd hc9 hlen;generalize acc ++ [c] = acc2 at *;go_wp2_with (go_at_call 65; refine HIS.out.mono ?_; rintro e w6 ⟨rfl, hb6⟩);have HB6 := hid (HB9.out.trans (hb6.mono HB9.out.size));have HK6 := hid (HK9.out.bel hb6);have HKR6 := hid (HKR9.out.below hb6 HKR9.out.lt);clear hb6;go_wp2_with fail
    go_roundw
    case rel => exact ⟨j2 + 1, acc2, by omega, by omega, by go_num, HK6.out, HT, by have := HLN.out; omega, HKR6.out, HB6.out⟩
    case measure => simp [RowKit.intOf]; omega
   | false =>
    have HE : Hid (RES = some (Pr.wrapC 2 (acc ++ [c]), L.drop j2)) := hid (by
     rw [HJ.out, ← HEQ.out];unfold Pr.joinK;rw [hhd]
     rfl)
    rw [hhd] at HIS;clear hhd;by_cases ha : acc = []
    ·subst ha;have HE1 : Hid (RES = some (c, L.drop j2)) := hid (by rw [HE.out]; rfl);have HLN := hid hlen;clear hlen hc9;rw [show (([] : List Pr.Cn) ++ [c]).length = 1 from rfl] at *
     go_upto_region 9 with (go_at_call 65; refine HIS.out.mono ?_; rintro e w6 ⟨rfl, hb6⟩)
     have HB6 := hid (HB9.out.trans (hb6.mono HB9.out.size));have HK6 := hid (HK9.out.bel hb6);have HKR6 := hid (HKR9.out.below hb6 HKR9.out.lt);clear hb6
     obtain ⟨A1, c1, e1, -, hrow⟩ := HK6.out.row (ok' := fun b => w.heap.size + 1 ≤ b) (fun b hb => hb) (fun k hk => by
      obtain ⟨xs1, h1, -⟩ := HK6.out
      exact (h1.lt k hk).1)
     injection e1 with e1 e2 e3;subst e1 e3;clear e2;obtain ⟨b, off, cs, rfl, hok, hrg, hcl, hcv⟩ := hrow 0 c rfl;rw [Nat.zero_mul, Nat.add_zero] at hrg;have HCV := hid hcv;have HRG := hid hrg;have HL2 : Hid ((Tryz.prog.info? 36).map (·.size) = some cs.length) := hid (by rw [Aa, hcl]);have HL3 : Hid ((Tryz.prog.info? 36).map (·.size) = some cs.toArray.size) := hid (by rw [Aa, List.size_toArray, hcl]);have HLZ : Hid (zCn.size = cs.toArray.size) := hid (by show 4 = cs.toArray.size; rw [List.size_toArray, hcl]);have HOX := hid hcv.one;clear hcv hrg hrow
     go_wp2_with (first
      | ((with_reducible refine wpList_load_mid rfl 36 _ rfl b off ?_ cs _ HRG.out Tryz.underlying36 ?_ HL2.out ?_); rfl; rfl)
      | ((with_reducible refine Ab rfl 36 _ _ rfl w.heap.size cs.toArray ?_ ?_ 36 zCn HKR6.out HL3.out HLZ.out HOX.out ?_); rfl; rfl; intro w5 hk5 hs5 hbl5 hoth5))
     refine bodyPost_ret (Aj rfl _ _ w.heap.size _ _ _ rfl hk5 Tryz.underlying36 rfl HL3.out) rfl ?_;exact RcA.good HE1.out rfl hj2 rfl (HCV.out.keep fun b hb hl => ⟨by omega, hoth5 b (by omega)⟩) (HB6.out.trans (hbl5 w.heap.size (Nat.le_refl _)))
    ·have hpos := List.length_pos_iff.2 ha;have HE2 : Hid (RES = some (.mk 2 [] 0 (acc ++ [c]), L.drop j2)) := hid (by rw [HE.out, Pr.wrapC_many 2 (acc ++ [c]) (by omega)]);have hl1 : (((acc ++ [c]).length : Int) == 1) = false := beq_eq_false_iff_ne.2 (by omega);have hl2 : ((acc ++ [c]).length == 1) = false := beq_eq_false_iff_ne.2 (by omega);clear ha hpos hlen hc9;generalize acc ++ [c] = acc2 at *
     go_upto_region 9 with (go_at_call 65; refine HIS.out.mono ?_; rintro e w6 ⟨rfl, hb6⟩)
     have HB6 := hid (HB9.out.trans (hb6.mono HB9.out.size));have HK6 := hid (HK9.out.bel hb6);have HKR6 := hid (HKR9.out.below hb6 HKR9.out.lt);clear hb6
     obtain ⟨A1, c1, e1, -, hrow⟩ := HK6.out.row (ok' := fun b => w.heap.size + 1 ≤ b) (fun b hb => hb) (fun k hk => by
      obtain ⟨xs1, h1, -⟩ := HK6.out
      exact (h1.lt k hk).1)
     injection e1 with e1 e2 e3;subst e1 e3;clear e2;have HROW := hid hrow;clear hrow;go_wp2_with ((with_reducible refine Ab rfl 36 _ _ rfl w.heap.size #[.int .i64 2, .string ⟨#[]⟩, .int .i64 0, .slice A9 acc2.length c9] ?_ ?_ 36 zCn HKR6.out (Ap ..) rfl (AJ _ _ _ _ _ _) ?_); rfl; rfl; intro w5 hk5 hs5 hbl5 hoth5);refine bodyPost_ret (Aj rfl _ _ w.heap.size _ _ _ rfl hk5 Tryz.underlying36 rfl (Ap ..)) rfl ?_;exact RcA.good HE2.out rfl hj2 rfl (CnV.make (HROW.out.keep fun b hb hl => ⟨by omega, hoth5 b (by omega)⟩)) (HB6.out.trans (hbl5 w.heap.size (Nat.le_refl _)))
theorem Dl (A : Option Addr) (cap : Nat) (L : List Pr.Tk) (i o : Nat) (rd : List Pr.Tk → Option (Pr.Cn × List Pr.Tk)) (w : World) (h : Rd w A (L.length * 2) (rkL L)) (hi : i ≤ L.length) (hL : L.length ≤ 1000000) (hS : Pr.Shrinks rd)
  (hR : ∀ (j : Nat) (W : World), i ≤ j → j ≤ L.length → Rd W A (L.length * 2) (rkL L) → Calls Tryz.prog 114 #[.slice A L.length cap, .int .i64 (j : Int), .int .i64 (o : Int)] W (RcA W L (rd (L.drop j)))) :
  Calls Tryz.prog 67 #[.slice A L.length cap, .int .i64 (i : Int), .int .i64 (o : Int)] w (RcA w L (Pr.joinC 3 rd Pr.orW (L.drop i))) := by
 have HRD := hid h;have HR := hid hR;have HS := hid hS;have hz0 : Below w.heap.size w (w.alloc (.cells zCn 36)) := (Below.refl w.heap.size w).alloc (Nat.le_refl _) (.cells zCn 36);have HZ0 := hid hz0;have HK0 := hid (Blk.new w 36 zCn);have HSZ0 : Hid ((w.alloc (.cells zCn 36)).heap.size = w.heap.size + 1) := hid (World.size_alloc ..);obtain ⟨X, hX⟩ : ∃ X, Pr.joinN rd Pr.orW [] (rd (L.drop i)) = X := ⟨_, rfl⟩;have HX := hid hX;have HJ : Hid (Pr.joinC 3 rd Pr.orW (L.drop i) = Pr.joinW 3 X) := hid (by rw [← hX, Pr.joinC_eq, Pr.joinJ hS]);generalize Pr.joinC 3 rd Pr.orW (L.drop i) = RES at *;clear h hR hz0 hS hX;go_enter Tryz.func67, Tryz.ntmps67;go_wp2_with fail
 go_loopw [1, 9] (fun ix kv wr => ∃ (j : Nat) (acc : List Pr.Cn), i ≤ j ∧ j ≤ L.length ∧ ix = .int .i64 (j : Int) ∧ CnO wr (w.heap.size + 1) (fun b => w.heap.size + 1 ≤ b) kv acc ∧ Hid (Pr.joinN rd Pr.orW acc (rd (L.drop j)) = X) ∧ acc.length ≤ j ∧ Blk wr w.heap.size 36 zCn ∧ Below w.heap.size w wr) (fun ix _ _ => L.length - (RowKit.intOf ix).toNat)
 case atStart => exact ⟨i, [], Nat.le_refl _, hi, rfl, CnO.nil, HX, Nat.zero_le _, HK0.out, HZ0.out⟩
 case round =>
  obtain ⟨j, acc, hij, hj, rfl, hkids, hrel, hal, hkr, hb⟩ := hrel;have HB := hid hb;have HKR := hid hkr;have HK := hid hkids;have HRW := hid (HRD.out.below hb);have HC := hid (HR.out j wr hij hj HRW.out);have hrs := hkr.lt;obtain ⟨A0, c0, rfl, hc0⟩ := hkids.len
  have HSH : Hid (∀ c q, rd (L.drop j) = some (c, q) → q.length < L.length - j) := hid (fun c q hq => by
   obtain ⟨p, e, hp⟩ := HS.out _ _ _ hq;have := List.length_pos_iff.2 hp;have h2 := congrArg List.length e;rw [List.length_append, List.length_drop] at h2
   omega)
  clear hkids hb hkr;generalize hrd : rd (L.drop j) = Y at *;have HRD2 := hid hrd;clear hrd;go_wp2_with fail;refine HC.out.mono ?_;rintro e w2 ⟨hr, hb2⟩;have HB2 := hid (HB.out.trans (hb2.mono HB.out.size));have HK2 := hid (HK.out.bel hb2);have HKR2 := hid (HKR.out.below hb2 HKR.out.lt);have hs2 := hb2.size;have HKN := hid (Blk.new w2 36 zCn);clear hb2
  cases Y with
  | none =>
   obtain ⟨V, c, j2, rfl, hV⟩ := hr;have HE : Hid (RES = none) := hid (by rw [HJ.out, ← hrel.out]; rfl);have HSX : Hid ((Tryz.prog.info? 36).map (·.size) = some V.size) := hid (by rw [Aa, hV.size]);have HSZ : Hid (zCn.size = V.size) := hid (by rw [hV.size]; rfl);have HOV := hid hV.one;clear hV
   go_upto_region 3 with ((with_reducible refine Ah rfl 36 _ _ rfl w2.heap.size V ?_ ?_ 36 _ HKN.out HSX.out HSZ.out HOV.out ?_); rfl; rfl; intro w3 hk3 hs3 hbl3)
   have hz3 : Below w2.heap.size w2 w3 := ((Below.refl w2.heap.size w2).alloc (Nat.le_refl _) (.cells zCn 36)).trans (hbl3 _ (Nat.le_refl _));have HB3 := hid (HB2.out.trans (hz3.mono HB2.out.size));have HKR3 := hid (HKR2.out.below hz3 HKR2.out.lt);clear hk3 hs3 hbl3 hz3;go_wp2_with ((with_reducible refine Ah rfl 36 _ _ rfl w.heap.size #[.int .i64 0, .string ⟨#[]⟩, .int .i64 0, .slice none 0 0] ?_ ?_ 36 zCn HKR3.out (Ap ..) rfl (by simp [Value.oneCell']) ?_); rfl; rfl; intro w5 hk5 hs5 hbl5);refine bodyPost_ret (Aj rfl _ _ w.heap.size _ _ _ rfl hk5 Tryz.underlying36 rfl (Ap ..)) rfl ?_;exact RcA.bad HE.out A4 (HB3.out.trans (hbl5 w.heap.size (Nat.le_refl _)))
  | some cq =>
   obtain ⟨c, q⟩ := cq;obtain ⟨V, j2, hj2, rfl, rfl, hV⟩ := hr;have hjj : j < j2 := by
    have := HSH.out c _ rfl;rw [List.length_drop] at this;omega
   have HSX : Hid ((Tryz.prog.info? 36).map (·.size) = some V.size) := hid (by rw [Aa, hV.size]);have HSZ : Hid (zCn.size = V.size) := hid (by rw [hV.size]; rfl);have HOV := hid hV.one;have HV := hid hV;obtain ⟨B, bc, rfl, -⟩ := hV.open;clear hV
   go_upto_region 3 with ((with_reducible refine Ah rfl 36 _ _ rfl w2.heap.size #[.int .i64 c.op, .string (bstr c.text), .int .i64 c.num, .slice B c.kids.length bc] ?_ ?_ 36 _ HKN.out HSX.out HSZ.out HOV.out ?_); rfl; rfl; intro w3 hk3 hs3 hbl3)
   have hz3 : Below w2.heap.size w2 w3 := ((Below.refl w2.heap.size w2).alloc (Nat.le_refl _) (.cells zCn 36)).trans (hbl3 _ (Nat.le_refl _));have HB3 := hid (HB2.out.trans (hz3.mono HB2.out.size));have HKR3 := hid (HKR2.out.below hz3 HKR2.out.lt);have HK3 := hid (HK2.out.bel hz3);have HV3 := hid (HV.out.bel hz3);have HKV3 := hid hk3;have hs3' : w2.heap.size + 1 ≤ w3.heap.size := hk3.lt;clear hk3 hs3 hbl3 hz3;have hz8 : Below w3.heap.size w3 (w3.alloc (.cells #[.int .i64 c.op, .string (bstr c.text), .int .i64 c.num, .slice B c.kids.length bc] 36)) := (Below.refl w3.heap.size w3).alloc (Nat.le_refl _) (.cells #[.int .i64 c.op, .string (bstr c.text), .int .i64 c.num, .slice B c.kids.length bc] 36);have HB8 := hid (HB3.out.trans (hz8.mono HB3.out.size));have HKR8 := hid (HKR3.out.below hz8 HKR3.out.lt);have HK8 := hid (HK3.out.bel hz8);have HV8 := hid (HV3.out.bel hz8);have hs8 : (w3.alloc (.cells #[.int .i64 c.op, .string (bstr c.text), .int .i64 c.num, .slice B c.kids.length bc] 36)).heap.size = w3.heap.size + 1 := World.size_alloc ..
   have HRD8 : Hid (Rd (w3.alloc (.cells #[.int .i64 c.op, .string (bstr c.text), .int .i64 c.num, .slice B c.kids.length bc] 36)) (some ⟨w3.heap.size, 0, none⟩) (1 * 4) [.int .i64 c.op, .string (bstr c.text), .int .i64 c.num, .slice B c.kids.length bc]) := hid (Rd.of_blk (vs := [.int .i64 c.op, .string (bstr c.text), .int .i64 c.num, .slice B c.kids.length bc]) (Blk.new w3 36 _));have hs8b : w.heap.size + 1 ≤ (w3.alloc (.cells #[.int .i64 c.op, .string (bstr c.text), .int .i64 c.num, .slice B c.kids.length bc] 36)).heap.size := by omega
   obtain ⟨xs, hown8, hcs8⟩ := HK8.out;have HOW8 := hid hown8;have HCS8 := hid hcs8;have HO1 : Hid (∀ u ∈ ([.int .i64 c.op, .string (bstr c.text), .int .i64 c.num, .slice B c.kids.length bc] : List Value), u.oneCell' = true) := hid (by intro u hu; simp at hu; rcases hu with rfl | rfl | rfl | rfl <;> rfl)
   have HOL : Hid (∀ k, (Value.slice A0 acc.length c0).ownBlock = some k → w.heap.size + 1 ≤ k ∧ k < wr.heap.size) := hid (fun k hk => by
    obtain ⟨xs0, h0, -⟩ := HK.out
    exact h0.lt k hk)
   have HVK : Hid (CnV (w3.alloc (.cells #[.int .i64 c.op, .string (bstr c.text), .int .i64 c.num, .slice B c.kids.length bc] 36)) (fun b => (w.heap.size + 1 ≤ b) ∧ some b ≠ (Value.slice A0 acc.length c0).ownBlock) #[.int .i64 c.op, .string (bstr c.text), .int .i64 c.num, .slice B c.kids.length bc] c) := hid (HV8.out.keep fun b hb _ => ⟨⟨by omega, fun e => by have := (HOL.out b e.symm).2; omega⟩, rfl⟩);clear hown8 hcs8 hz8
   go_upto_region 6 with (first
    | (refine Ac (by rfl) 36 _ rfl w2.heap.size rfl 36 _ (0, 0) _ rfl HKV3.out Tryz.underlying36 (Ap ..) ?_)
    | (at_builtin; refine AC rowCn rfl _ _ rfl _ (.slice A0 acc.length c0) acc.length xs _ (w.heap.size + 1) rfl HOW8.out _ 1 1 rfl HRD8.out HO1.out hs8b (by omega) ?_; intro v9 w9 ho9 hg9 hb9 hw9))
   have HK9 := hid (CnO.app (M := [c]) HOW8.out HCS8.out (CnsV.one HVK.out) ho9 hg9 hw9);have HKR9 : Hid (Blk w9 w.heap.size 36 zCn) := hid (HKR8.out.grown hg9 (fun e => by have := (HOL.out _ e.symm).1; omega));have HB9 : Hid (Below w.heap.size w w9) := hid (HB8.out.trans ((Below.refl w.heap.size _).grown hg9 (by omega) (fun k e => by have := (HOL.out k e).1; omega)));have HRW9 := hid (HRD.out.below HB9.out);have HIS := hid (BZ Pr.orW A cap L j2 w9 HRW9.out hL (by omega));rw [show bstr Pr.orW = (⟨#[111, 114]⟩ : ByteArray) from rfl] at HIS;clear ho9 hg9 hb9 hw9;obtain ⟨A9, c9, rfl, hc9⟩ := HK9.out.len;have hlen : (acc ++ [c]).length = acc.length + 1 := by rw [List.length_append]; rfl
   have HEQ : Hid (Pr.joinK rd Pr.orW (acc ++ [c]) (L.drop j2) = X) := hrel
   cases hhd : Pr.headIs Pr.orW (L.drop j2) with
   | true =>
    have hjl : j2 < L.length := by
     rcases Nat.lt_or_ge j2 L.length with h | h
     ·exact h
     ·rw [List.drop_eq_nil_of_le h] at hhd;cases hhd
    have HT : Hid (Pr.joinN rd Pr.orW (acc ++ [c]) (rd (L.drop (j2 + 1))) = X) := hid (by
     rw [← HEQ.out];unfold Pr.joinK
     rw [hhd, if_pos rfl, List.tail_drop, Pr.joinJ HS.out])
    rw [hhd] at HIS;have HLN := hid hlen;clear hhd hc9 hlen;generalize acc ++ [c] = acc2 at *;go_wp2_with (go_at_call 65; refine HIS.out.mono ?_; rintro e w6 ⟨rfl, hb6⟩);have HB6 := hid (HB9.out.trans (hb6.mono HB9.out.size));have HK6 := hid (HK9.out.bel hb6);have HKR6 := hid (HKR9.out.below hb6 HKR9.out.lt);clear hb6;go_wp2_with fail
    go_roundw
    case rel => exact ⟨j2 + 1, acc2, by omega, by omega, by go_num, HK6.out, HT, by have := HLN.out; omega, HKR6.out, HB6.out⟩
    case measure => simp [RowKit.intOf]; omega
   | false =>
    have HE : Hid (RES = some (Pr.wrapC 3 (acc ++ [c]), L.drop j2)) := hid (by
     rw [HJ.out, ← HEQ.out];unfold Pr.joinK;rw [hhd]
     rfl)
    rw [hhd] at HIS;clear hhd;by_cases ha : acc = []
    ·subst ha;have HE1 : Hid (RES = some (c, L.drop j2)) := hid (by rw [HE.out]; rfl);have HLN := hid hlen;clear hlen hc9;rw [show (([] : List Pr.Cn) ++ [c]).length = 1 from rfl] at *
     go_upto_region 9 with (go_at_call 65; refine HIS.out.mono ?_; rintro e w6 ⟨rfl, hb6⟩)
     have HB6 := hid (HB9.out.trans (hb6.mono HB9.out.size));have HK6 := hid (HK9.out.bel hb6);have HKR6 := hid (HKR9.out.below hb6 HKR9.out.lt);clear hb6
     obtain ⟨A1, c1, e1, -, hrow⟩ := HK6.out.row (ok' := fun b => w.heap.size + 1 ≤ b) (fun b hb => hb) (fun k hk => by
      obtain ⟨xs1, h1, -⟩ := HK6.out
      exact (h1.lt k hk).1)
     injection e1 with e1 e2 e3;subst e1 e3;clear e2;obtain ⟨b, off, cs, rfl, hok, hrg, hcl, hcv⟩ := hrow 0 c rfl;rw [Nat.zero_mul, Nat.add_zero] at hrg;have HCV := hid hcv;have HRG := hid hrg;have HL2 : Hid ((Tryz.prog.info? 36).map (·.size) = some cs.length) := hid (by rw [Aa, hcl]);have HL3 : Hid ((Tryz.prog.info? 36).map (·.size) = some cs.toArray.size) := hid (by rw [Aa, List.size_toArray, hcl]);have HLZ : Hid (zCn.size = cs.toArray.size) := hid (by show 4 = cs.toArray.size; rw [List.size_toArray, hcl]);have HOX := hid hcv.one;clear hcv hrg hrow
     go_wp2_with (first
      | ((with_reducible refine wpList_load_mid rfl 36 _ rfl b off ?_ cs _ HRG.out Tryz.underlying36 ?_ HL2.out ?_); rfl; rfl)
      | ((with_reducible refine Ab rfl 36 _ _ rfl w.heap.size cs.toArray ?_ ?_ 36 zCn HKR6.out HL3.out HLZ.out HOX.out ?_); rfl; rfl; intro w5 hk5 hs5 hbl5 hoth5))
     refine bodyPost_ret (Aj rfl _ _ w.heap.size _ _ _ rfl hk5 Tryz.underlying36 rfl HL3.out) rfl ?_;exact RcA.good HE1.out rfl hj2 rfl (HCV.out.keep fun b hb hl => ⟨by omega, hoth5 b (by omega)⟩) (HB6.out.trans (hbl5 w.heap.size (Nat.le_refl _)))
    ·have hpos := List.length_pos_iff.2 ha;have HE2 : Hid (RES = some (.mk 3 [] 0 (acc ++ [c]), L.drop j2)) := hid (by rw [HE.out, Pr.wrapC_many 3 (acc ++ [c]) (by omega)]);have hl1 : (((acc ++ [c]).length : Int) == 1) = false := beq_eq_false_iff_ne.2 (by omega);have hl2 : ((acc ++ [c]).length == 1) = false := beq_eq_false_iff_ne.2 (by omega);clear ha hpos hlen hc9;generalize acc ++ [c] = acc2 at *
     go_upto_region 9 with (go_at_call 65; refine HIS.out.mono ?_; rintro e w6 ⟨rfl, hb6⟩)
     have HB6 := hid (HB9.out.trans (hb6.mono HB9.out.size));have HK6 := hid (HK9.out.bel hb6);have HKR6 := hid (HKR9.out.below hb6 HKR9.out.lt);clear hb6
     obtain ⟨A1, c1, e1, -, hrow⟩ := HK6.out.row (ok' := fun b => w.heap.size + 1 ≤ b) (fun b hb => hb) (fun k hk => by
      obtain ⟨xs1, h1, -⟩ := HK6.out
      exact (h1.lt k hk).1)
     injection e1 with e1 e2 e3;subst e1 e3;clear e2;have HROW := hid hrow;clear hrow;go_wp2_with ((with_reducible refine Ab rfl 36 _ _ rfl w.heap.size #[.int .i64 3, .string ⟨#[]⟩, .int .i64 0, .slice A9 acc2.length c9] ?_ ?_ 36 zCn HKR6.out (Ap ..) rfl (AJ _ _ _ _ _ _) ?_); rfl; rfl; intro w5 hk5 hs5 hbl5 hoth5);refine bodyPost_ret (Aj rfl _ _ w.heap.size _ _ _ rfl hk5 Tryz.underlying36 rfl (Ap ..)) rfl ?_;exact RcA.good HE2.out rfl hj2 rfl (CnV.make (HROW.out.keep fun b hb hl => ⟨by omega, hoth5 b (by omega)⟩)) (HB6.out.trans (hbl5 w.heap.size (Nat.le_refl _)))
end Go.Proofs.YtchkiegehejfmaaGreatDoor
