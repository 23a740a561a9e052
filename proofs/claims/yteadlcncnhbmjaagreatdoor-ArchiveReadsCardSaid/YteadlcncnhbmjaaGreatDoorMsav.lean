/- The texts Rd3, Rd4, Ap3, Ap5, Ar4 of this proof, one behind the other. -/
import Derived.Test.YteadlcncnhbmjaaGreatDoorMsat
import Derived.Test.YteadlcncnhbmjaaGreatDoorMsas
import Derived.Test.YteadlcncnhbmjaaGreatDoorMsap
set_option linter.unusedSimpArgs false
set_option maxHeartbeats 16000000
set_option maxRecDepth 100000
set_option linter.unusedVariables false
namespace Go.Proofs.YteadlcncnhbmjaaGreatDoor
open Go.RowKit Go.Lib
theorem Me : (Tryz.prog.info? 107).map (fun i => (i.zero, i.size, i.bytes)) = some (some (.agg #[.string ⟨#[]⟩, .int .i64 0]), 2, 24) := by kernel_rfl
theorem Pz : RowT 53 107 2 24 := ⟨Tryz.underlying53, ⟨_, Me, rfl⟩, by decide, by decide⟩
def tyA (s : List UInt8) : List UInt8 × Ar.RS := Ar.rtext (Ar.eat Ar.CW (s, false))
def tyB (s : List UInt8) : Int × Ar.RS := Ar.rnum (Ar.eat [32] (tyA s).2)
def tyX (s : List UInt8) : (List UInt8) × (Int) := ((tyA s).1, (tyB s).1)
def tyOk (s : List UInt8) : Bool := decide ((tyB s).2.2 = false ∧ Ar.Ap (tyX s) = s)
theorem Is (s : ByteArray) (g : Nat) (c0 c1 c2 c3 c4 c5 c6 c7 vv : Value) (m : Nat) (xs : List Value) (w : World) (hs : s.size ≤ 100000) (hRd : Ready w) (hg : Blk w g 55 #[c0, c1, c2, c3, c4, c5, c6, c7, vv]) (hg3 : 3 ≤ g) (ho : w.ownsRow (g + 1) 107 2 vv m xs) (hm : m ≤ 1000000) :
  Calls Tryz.prog 143 #[.string s, .pointer (some ⟨g, 0, none⟩)] w fun e w' => e = .returned (.bool (tyOk s.data.toList)) ∧ ∃ vv', Blk w' g 55 #[c0, c1, c2, c3, c4, c5, c6, c7, vv'] ∧ w'.ownsRow (g + 1) 107 2 vv' (m + 1) (xs ++ typC (tyX s.data.toList)) ∧ Ch w w' g vv.ownBlock ∧ (vv'.ownBlock = vv.ownBlock ∨ ∃ k, w.heap.size ≤ k ∧ vv'.ownBlock = some k) := by
 have HRY := hid hRd;have HOWN := hid ho;obtain ⟨AR, cR, rfl⟩ := Ax ho;have HB1 := hid (RB.start (s := s) hg hg3);have hle : s.data.toList.length ≤ s.size := HB1.out.len;have hle0 := Ar.Bn Ar.CW (s.data.toList, false);have hlr0 : (tyA s.data.toList).2.1.length ≤ _ := Ar.BY (Ar.eat Ar.CW (s.data.toList, false));have hle1 := Ar.Bn [32] (tyA s.data.toList).2;have hlr1 : (tyB s.data.toList).2.1.length ≤ _ := Ar.Bd (Ar.eat [32] (tyA s.data.toList).2);have htl0 : (tyA s.data.toList).1.length ≤ 1000000 := by
  have h : (tyA s.data.toList).1.length ≤ (Ar.eat Ar.CW (s.data.toList, false)).1.length := Ar.rtext_b.good _;simp only at hle0;omega
 have HIA : Hid ((tyA s.data.toList).1.length ≤ 1000000) := hid htl0;have HIB : Hid (Ar.inInt (tyB s.data.toList).1) := hid (Ar.rnum_b.good _);have hoo := ho.lt;have HLT : Hid (∀ k, (Value.slice AR m cR).ownBlock = some k → g + 1 ≤ k ∧ k < w.heap.size) := hid hoo;clear hoo ho hg hRd;go_enter Tryz.func143, Tryz.ntmps143;go_wp2_with fail;refine (BK w.heap.size _ _ _ HB1.out.rd (by simp only; omega)).mono ?_;rintro e w2 ⟨rfl, hr2, hg2⟩;rw [show (⟨#[116, 121, 112, 105, 110, 103, 32]⟩ : ByteArray).data.toList = Ar.CW from rfl] at hr2;have HB2 := hid ((HB1.out.call hr2 hg2 hle0).below ((Below.refl _ _).alloc (Nat.le_refl _) (.cells #[.string ⟨#[]⟩, .int .i64 0] 107)));have hB : w.heap.size < w2.heap.size := hr2.lt;have HK2 := hid (Blk.new w2 107 #[.string ⟨#[]⟩, .int .i64 0]);clear hr2 hg2;go_wp2_with fail;refine (Dp w.heap.size _ _ HB2.out.rd (by have := HB2.out.len; omega)).mono ?_;rintro e wb0 ⟨rfl, hrb0, hgb0⟩;have HKb0 := hid (HK2.out.grown hgb0 (by intro e; injection e with e; omega));have HBb0 := hid ((HB2.out.call hrb0 hgb0 hlr0).out w2.heap.size 0 (.string (bstr (tyA s.data.toList).1)) hB);clear hrb0 hgb0;change Hid (RB w _ g s.size (tyA s.data.toList).2 _) at HBb0;rw [show (Ar.rtext (Ar.eat Ar.CW (s.data.toList, false))).1 = (tyA s.data.toList).1 from rfl];have hfb0 := HKb0.out.frozen 0;have hcb0 := HKb0.out.cell 0;rw [show (#[.string ⟨#[]⟩, .int .i64 0] : Array Value)[0]? = some (.string ⟨#[]⟩) from rfl] at hcb0;have HKc0 := hid (HKb0.out.set_ 0 (.string (bstr (tyA s.data.toList).1)));rw [show (#[.string ⟨#[]⟩, .int .i64 0] : Array Value).setIfInBounds 0 (.string (bstr (tyA s.data.toList).1)) = #[.string (bstr (tyA s.data.toList).1), .int .i64 0] from rfl] at HKc0;go_wp2_with fail;refine (BK w.heap.size _ _ _ HBb0.out.rd (by have := HBb0.out.len; omega)).mono ?_;rintro e wa1 ⟨rfl, hra1, hga1⟩;rw [show (⟨#[32]⟩ : ByteArray).data.toList = [32] from rfl] at hra1;have HBa1 := hid (HBb0.out.call hra1 hga1 hle1);have HKa1 := hid (HKc0.out.grown hga1 (by intro e; injection e with e; omega));clear hra1 hga1;go_wp2_with fail;refine (Be w.heap.size _ _ HBa1.out.rd (by have := HBa1.out.len; omega) (HBa1.out.ready HRY.out)).mono ?_;rintro e wb1 ⟨rfl, hrb1, hgb1⟩;have HKb1 := hid (HKa1.out.grown hgb1 (by intro e; injection e with e; omega));have HBb1 := hid ((HBa1.out.call hrb1 hgb1 hlr1).out w2.heap.size 1 (.int .i64 (tyB s.data.toList).1) hB);clear hrb1 hgb1;change Hid (RB w _ g s.size (tyB s.data.toList).2 _) at HBb1;rw [show (Ar.rnum (Ar.eat [32] (tyA s.data.toList).2)).1 = (tyB s.data.toList).1 from rfl];have hfb1 := HKb1.out.frozen 1;have hcb1 := HKb1.out.cell 1;rw [show (#[.string (bstr (tyA s.data.toList).1), .int .i64 0] : Array Value)[1]? = some (.int .i64 0) from rfl] at hcb1;have HKc1 := hid (HKb1.out.set_ 1 (.int .i64 (tyB s.data.toList).1));rw [show (#[.string (bstr (tyA s.data.toList).1), .int .i64 0] : Array Value).setIfInBounds 1 (.int .i64 (tyB s.data.toList).1) = #[.string (bstr (tyA s.data.toList).1), .int .i64 (tyB s.data.toList).1] from rfl] at HKc1;have HX : Hid (tyX s.data.toList = ((tyA s.data.toList).1, (tyB s.data.toList).1)) := hid rfl;have HOK : Hid (tyOk s.data.toList = decide ((tyB s.data.toList).2.2 = false ∧ Ar.Ap (tyX s.data.toList) = s.data.toList)) := hid rfl;go_wp2_with fail;generalize hw8 : wb1.setCell ⟨w2.heap.size, 1, none⟩ (.int .i64 (tyB s.data.toList).1) = w8 at *;clear hfb0 hcb0 hfb1 hcb1 hle0 hlr0 hle1 hlr1 htl0 hw8;generalize (tyA s.data.toList).1 = xa at *;generalize (tyB s.data.toList).1 = xb at *;have hcg := HBb1.out.room.drew.cell 8;rw [show (#[c0, c1, c2, c3, c4, c5, c6, c7, .slice AR m cR] : Array Value)[8]? = some (.slice AR m cR) from rfl] at hcg;have hcg2 := (HBb1.out.room.alloc (.cells #[.string (bstr xa), .int .i64 xb] 107)).cell 8;rw [show (#[c0, c1, c2, c3, c4, c5, c6, c7, .slice AR m cR] : Array Value)[8]? = some (.slice AR m cR) from rfl] at hcg2;have hk0 := HKc1.out.drew.cell 0;have hk1 := HKc1.out.drew.cell 1;rw [show (#[.string (bstr xa), .int .i64 xb] : Array Value)[0]? = some (.string (bstr xa)) from rfl] at hk0;rw [show (#[.string (bstr xa), .int .i64 xb] : Array Value)[1]? = some (.int .i64 xb) from rfl] at hk1;have HOW8 : Hid (w8.ownsRow (g + 1) 107 2 (.slice AR m cR) m xs) := hid (HOWN.out.kept HBb1.out.grow (.inr (by intro e; have := (HLT.out g e).1; omega)));have hs8 := HBb1.out.grow.size;have hgl := HBb1.out.lt
 go_region_law (first
  | (refine DD Pz rfl _ _ rfl (w8.drew.alloc (.cells #[.string (bstr xa), .int .i64 xb] 107)) (.slice AR m cR) m xs [.string (bstr xa), .int .i64 xb] (g + 1) ?_ (HOW8.out.drew.alloc _) w8.heap.size 1 1 ?_ rfl (by simp [Value.oneCell']) (fun j u hu => JY w8.drew _ [.string (bstr xa), .int .i64 xb] j u hu) (by rw [World.size_alloc]; show g + 1 ≤ w8.heap.size + 1; omega) (by omega) ?_; kernel_rfl; kernel_rfl; intro v9 w9 ho9 hg9 hb9 hwh9; obtain ⟨A9, c9, rfl⟩ := Ax ho9; have hkg9 := (HBb1.out.room.drew.alloc (.cells #[.string (bstr xa), .int .i64 xb] 107)).grown hg9 (by intro e; have := (HLT.out g e.symm).1; omega); have hf9 := hkg9.frozen 8; have hc9 := hkg9.cell 8; rw [show (#[c0, c1, c2, c3, c4, c5, c6, c7, .slice AR m cR] : Array Value)[8]? = some (.slice AR m cR) from rfl] at hc9))
 all_goals
  have HLB : Hid (∀ k, w.heap.size ≤ k → some k ≠ (Value.slice AR m cR).ownBlock) := hid (fun k hk e => by have := (HLT.out k e.symm).2; omega);have HRD9 : Hid (RdS (w9.setCell ⟨g, 8, none⟩ (.slice A9 (m + 1) c9)) w.heap.size (tyB s.data.toList).2) := hid (((HBb1.out.rd.drew.alloc (.cells #[.string (bstr xa), .int .i64 xb] 107)).grown hg9 (HLB.out _ (Nat.le_refl _))).far (show w.heap.size ≠ g by omega) _);have HKR9 : Hid (Blk (w9.setCell ⟨g, 8, none⟩ (.slice A9 (m + 1) c9)) w2.heap.size 107 #[.string (bstr xa), .int .i64 xb]) := hid (((HKc1.out.drew.alloc (.cells #[.string (bstr xa), .int .i64 xb] 107)).grown hg9 (HLB.out _ (by omega))).far (show w2.heap.size ≠ g by omega) _);have HKG9 := hid (hkg9.set_ 8 (.slice A9 (m + 1) c9));rw [show (#[c0, c1, c2, c3, c4, c5, c6, c7, .slice AR m cR] : Array Value).setIfInBounds 8 (.slice A9 (m + 1) c9) = #[c0, c1, c2, c3, c4, c5, c6, c7, .slice A9 (m + 1) c9] from rfl] at HKG9;have HOW9 : Hid ((w9.setCell ⟨g, 8, none⟩ (.slice A9 (m + 1) c9)).ownsRow (g + 1) 107 2 (.slice A9 (m + 1) c9) (m + 1) (xs ++ typC (tyX s.data.toList))) := hid (by rw [HX.out]; exact CQ ho9 (Nat.lt_succ_self _));have HCH9 : Hid (Ch w (w9.setCell ⟨g, 8, none⟩ (.slice A9 (m + 1) c9)) g (Value.slice AR m cR).ownBlock) := hid ((((Ch.of_grown HBb1.out.grow).below (((Below.refl w8.heap.size w8).drew).alloc (Nat.le_refl _) (.cells #[.string (bstr xa), .int .i64 xb] 107))).grown hg9).set 8 _)
  have HWH9 : Hid ((Value.slice A9 (m + 1) c9).ownBlock = (Value.slice AR m cR).ownBlock ∨ ∃ k, w.heap.size ≤ k ∧ (Value.slice A9 (m + 1) c9).ownBlock = some k) := hid (by
   rcases hwh9 with h | h
   ·exact .inl h
   ·exact .inr ⟨_, by rw [World.size_alloc]; exact Nat.le_succ_of_le hs8, h⟩)
  have HFIN : Hid (∀ W, Below (w9.setCell ⟨g, 8, none⟩ (.slice A9 (m + 1) c9)).heap.size (w9.setCell ⟨g, 8, none⟩ (.slice A9 (m + 1) c9)) W → ∃ vv', Blk W g 55 #[c0, c1, c2, c3, c4, c5, c6, c7, vv'] ∧ W.ownsRow (g + 1) 107 2 vv' (m + 1) (xs ++ typC (tyX s.data.toList)) ∧ Ch w W g (Value.slice AR m cR).ownBlock ∧ (vv'.ownBlock = (Value.slice AR m cR).ownBlock ∨ ∃ k, w.heap.size ≤ k ∧ vv'.ownBlock = some k)) := hid (fun W hW => ⟨_, HKG9.out.below hW HKG9.out.lt, AQ HOW9.out hW (Nat.le_refl _), HCH9.out.below hW, HWH9.out⟩);clear hkg9 hf9 hc9 ho9 hg9 hb9 hwh9 hcg hcg2 hk0 hk1;generalize hW9 : w9.setCell ⟨g, 8, none⟩ (.slice A9 (m + 1) c9) = W9 at *;have hb6 := HRD9.out.c1;have hr0 := HKR9.out.cell 0;have hr1 := HKR9.out.cell 1;rw [show (#[.string (bstr xa), .int .i64 xb] : Array Value)[0]? = some (.string (bstr xa)) from rfl] at hr0;rw [show (#[.string (bstr xa), .int .i64 xb] : Array Value)[1]? = some (.int .i64 xb) from rfl] at hr1;have HQ := hid (fun W => Fg xa xb W HIA.out HIB.out);have hcmp : ((bstr (Ar.Ap (xa, xb))).toList == s.toList) = (Ar.Ap (xa, xb) == s.data.toList) := by rw [Lib.toList_data s]; exact Ay _ _
  by_cases hbad : (tyB s.data.toList).2.2 = true
  ·have HO : Hid (tyOk s.data.toList = false) := hid (by rw [HOK.out, hbad]; exact decide_eq_false (fun h => by cases h.1));rw [hbad] at hb6;clear hcmp hbad;go_wp2_with fail;go_ret;exact ⟨AL HO.out.symm, HFIN.out _ (Below.refl _ _)⟩
  ·have hbad' : (tyB s.data.toList).2.2 = false := by simpa using hbad
   have HO : Hid (tyOk s.data.toList = (Ar.Ap (xa, xb) == s.data.toList)) := hid (by
    rw [HOK.out, hbad', HX.out];by_cases he : Ar.Ap (xa, xb) = s.data.toList
    ·rw [decide_eq_true ⟨rfl, he⟩, he, beq_self_eq_true]
    ·rw [decide_eq_false (fun h => he h.2)]
     exact (beq_eq_false_iff_ne.2 he).symm)
   rw [hbad'] at hb6;clear hbad hbad';generalize Ar.Ap (xa, xb) = H at *;go_wp2_with fail;refine (HQ.out _).mono ?_;rintro e wz ⟨rfl, hbz⟩;have HEX9 := hid (HFIN.out _ hbz);clear hbz
   cases hcv : (H == s.data.toList) with
   | true =>
    rw [hcv] at hcmp HO;generalize bstr H = SH at *;go_wp2_with fail;go_ret;exact ⟨AL HO.out.symm, HEX9.out⟩
   | false =>
    rw [hcv] at hcmp HO;generalize bstr H = SH at *;go_wp2_with fail;go_ret;exact ⟨AL HO.out.symm, HEX9.out⟩
def hsE (s : List UInt8) : Ar.RS := Ar.eat Ar.EI (s, false)
def hsX (s : List UInt8) : List Int × Ar.RS := Ar.Au Ar.rnum ((hsE s).1.length + 1) (hsE s)
def hsOk (s : List UInt8) : Bool := decide ((hsX s).2.2 = false ∧ Ar.AB (hsX s).1 = s)
theorem I9 (s : ByteArray) (g : Nat) (c0 c1 c2 c3 vH c5 c6 c7 c8 : Value) (w : World) (hs : s.size ≤ 100000) (hRd : Ready w) (hg : Blk w g 55 #[c0, c1, c2, c3, vH, c5, c6, c7, c8]) (hg3 : 3 ≤ g) (h1 : vH.oneCell' = true) :
  Calls Tryz.prog 140 #[.string s, .pointer (some ⟨g, 0, none⟩)] w fun e w' => e = .returned (.bool (hsOk s.data.toList)) ∧ ∃ vH', Blk w' g 55 #[c0, c1, c2, c3, vH', c5, c6, c7, c8] ∧ SlcOf (fun b => w.heap.size ≤ b) w' vH' (hsX s.data.toList).1.length 1 (intL (hsX s.data.toList).1) ∧ w.grownBy w' (some g) := by
 have HRY := hid hRd;have HB1 := hid (RB.start (s := s) hg hg3);have hle : s.data.toList.length ≤ s.size := HB1.out.len;have hhd : (hsE s.data.toList).1.length ≤ s.data.toList.length := Ar.Bn Ar.EI (s.data.toList, false);obtain ⟨hx1, hx2, hx3⟩ := Ar.Fv Ar.rnum_b (fun _ _ _ _ h => h) Ar.Bd ((hsE s.data.toList).1.length + 1) (hsE s.data.toList);change ∀ x ∈ (hsX s.data.toList).1, Ar.inInt x at hx1;change (hsX s.data.toList).1.length + (hsX s.data.toList).2.1.length ≤ _ at hx2;change (Ar.join [44] ((hsX s.data.toList).1.map Ar.itoa)).length + (hsX s.data.toList).2.1.length ≤ _ at hx3;have HX1 := hid hx1;have HX2 : Hid ((hsX s.data.toList).1.length ≤ 1000000) := hid (by omega);have HX3 : Hid ((Ar.join [44] ((hsX s.data.toList).1.map Ar.itoa)).length ≤ 100000000) := hid (by omega);have HLX : Hid ((hsX s.data.toList).2.1.length ≤ (hsE s.data.toList).1.length) := hid (Ar.Dd Ar.rnum Ar.Bd _ _);clear hg hRd hx1 hx2 hx3;go_enter Tryz.func140, Tryz.ntmps140;go_wp2_with fail;refine (BK w.heap.size _ _ _ HB1.out.rd (by simp only; omega)).mono ?_;rintro e w2 ⟨rfl, hr2, hg2⟩;rw [show (⟨#[104, 101, 97, 100, 115, 32]⟩ : ByteArray).data.toList = Ar.EI from rfl] at hr2;have HB2 := hid (HB1.out.call hr2 hg2 hhd);change Hid (RB w w2 g s.size (hsE s.data.toList) _) at HB2;have hlt2 := HB2.out.rd.lt;clear hr2 hg2;go_wp2_with fail;refine (Ku w.heap.size _ _ HB2.out.rd (by omega) (HB2.out.ready HRY.out) (by have := HB2.out.lt; have := HB2.out.g3; omega)).mono ?_;rintro e w3 ⟨⟨v, rfl, ho3⟩, hr3, hg3'⟩;change w3.ownsRow w2.heap.size _ 1 v (hsX s.data.toList).1.length (intL (hsX s.data.toList).1) at ho3;change RdS w3 w.heap.size (hsX s.data.toList).2 at hr3;have hsl3 := SlcOf.of_own ho3;obtain ⟨AH, cH, rfl⟩ := Ax ho3;have HB3 := hid (HB2.out.call hr3 hg3' HLX.out);have HSL3 := hid hsl3;clear hr3 hg3' ho3 hsl3;have hf3 := HB3.out.room.frozen 4;have hc3 := HB3.out.room.cell 4;rw [show (#[c0, c1, c2, c3, vH, c5, c6, c7, c8] : Array Value)[4]? = some vH from rfl] at hc3;have HB4 := hid (HB3.out.set 4 (.slice AH (hsX s.data.toList).1.length cH));rw [show (#[c0, c1, c2, c3, vH, c5, c6, c7, c8] : Array Value).setIfInBounds 4 (.slice AH (hsX s.data.toList).1.length cH) = #[c0, c1, c2, c3, .slice AH (hsX s.data.toList).1.length cH, c5, c6, c7, c8] from rfl] at HB4;have HSL4 : Hid (SlcOf (fun b => w.heap.size ≤ b) (w3.setCell ⟨g, 4, none⟩ (.slice AH (hsX s.data.toList).1.length cH)) (.slice AH (hsX s.data.toList).1.length cH) (hsX s.data.toList).1.length 1 (intL (hsX s.data.toList).1)) := hid (HSL3.out.keep (by decide) (fun b hb _ => ⟨by omega, heap_setCell_other _ _ _ _ (show b ≠ g by have := HB3.out.lt; omega)⟩));generalize hw4 : w3.setCell ⟨g, 4, none⟩ (.slice AH (hsX s.data.toList).1.length cH) = w4 at *;have hcell := HB4.out.room.cell 4;rw [show (#[c0, c1, c2, c3, .slice AH (hsX s.data.toList).1.length cH, c5, c6, c7, c8] : Array Value)[4]? = some (.slice AH (hsX s.data.toList).1.length cH) from rfl] at hcell;have hb4 := HB4.out.rd.c1
 have HRD4 : Hid (Rd w4 AH (hsX s.data.toList).1.length (intL (hsX s.data.toList).1)) := hid (by
  obtain ⟨A', c', e, h, _⟩ := HSL4.out;injection e with e1 e2 e3;subst e1;rw [Nat.mul_one] at h
  exact h)
 have HQ := hid (FW AH cH (hsX s.data.toList).1 w4 HRD4.out HX1.out HX2.out HX3.out);have hcmp : ((bstr (Ar.AB (hsX s.data.toList).1)).toList == s.toList) = (Ar.AB (hsX s.data.toList).1 == s.data.toList) := by rw [Lib.toList_data s]; exact Ay _ _
 have HEX : Hid (∀ W, Below w4.heap.size w4 W → ∃ vH', Blk W g 55 #[c0, c1, c2, c3, vH', c5, c6, c7, c8] ∧ SlcOf (fun b => w.heap.size ≤ b) W vH' (hsX s.data.toList).1.length 1 (intL (hsX s.data.toList).1) ∧ w.grownBy W (some g)) := hid (fun W hW => ⟨_, (HB4.out.below hW).room, HSL4.out.keep (by decide) (fun b hb hlt => ⟨hb, hW.block b hlt⟩), (HB4.out.below hW).grow⟩);have HOK : Hid (hsOk s.data.toList = decide ((hsX s.data.toList).2.2 = false ∧ Ar.AB (hsX s.data.toList).1 = s.data.toList)) := hid rfl;by_cases hbad : (hsX s.data.toList).2.2 = true
 ·have HO : Hid (hsOk s.data.toList = false) := hid (by rw [HOK.out, hbad]; exact decide_eq_false (fun h => by cases h.1));rw [hbad] at hb4;clear hcmp hbad;go_wp2_with fail;go_ret;exact ⟨AL HO.out.symm, HEX.out _ (Below.refl _ _)⟩
 ·have hbad' : (hsX s.data.toList).2.2 = false := by simpa using hbad
  have HO : Hid (hsOk s.data.toList = (Ar.AB (hsX s.data.toList).1 == s.data.toList)) := hid (by
   rw [HOK.out, hbad'];by_cases he : Ar.AB (hsX s.data.toList).1 = s.data.toList
   ·rw [decide_eq_true ⟨rfl, he⟩, he, beq_self_eq_true]
   ·rw [decide_eq_false (fun h => he h.2)]
    exact (beq_eq_false_iff_ne.2 he).symm)
  rw [hbad'] at hb4;clear hbad hbad';generalize Ar.AB (hsX s.data.toList).1 = H at *;go_wp2_with fail;refine HQ.out.mono ?_;rintro e wz ⟨rfl, hbz⟩;have HEX9 := hid (HEX.out _ hbz);clear hbz
  cases hcv : (H == s.data.toList) with
  | true =>
   rw [hcv] at hcmp HO;generalize bstr H = SH at *;go_wp2_with fail;go_ret;exact ⟨AL HO.out.symm, HEX9.out⟩
  | false =>
   rw [hcv] at hcmp HO;generalize bstr H = SH at *;go_wp2_with fail;go_ret;exact ⟨AL HO.out.symm, HEX9.out⟩
def encs (d : List Ar.Ed) : List (List UInt8) := d.map Ar.Ed.enc
theorem GB (a b : List Ar.Ed) : encs (a ++ b) = encs a ++ encs b := List.map_append
theorem DK (n : Nat) : (Bv n).length ≤ 1 := by unfold Bv Ar.flush; split <;> simp
structure DI (w3 wr : World) (X Y : List (List UInt8)) (i j n : Nat) (us : List (List UInt8)) (v : Value) : Prop where
 bel : Below w3.heap.size w3 wr
 size : w3.heap.size + 2 ≤ wr.heap.size
 kept : Blk wr (w3.heap.size + 1) 3 #[.int .i64 n]
 out : Blk wr w3.heap.size 30 #[v]
 own : OwnS (w3.heap.size + 2) wr v us
 eq : encs (Ar.diff X Y) = us ++ encs (Ar.dlA X Y i j n)
 ile : i ≤ X.length
 jle : j ≤ Y.length
 nle : n ≤ i
 ule : us.length ≤ 2 * (i + j)
theorem DI.more {w3 wr w4 w5 : World} {X Y : List (List UInt8)} {i j n i' j' : Nat} {us : List (List UInt8)} {v v4 v5 : Value} {c : UInt8} {l : List UInt8} (h : DI w3 wr X Y i j n us v)
  (hk : Blk w4 (w3.heap.size + 1) 3 #[.int .i64 0]) (ho : Blk w4 w3.heap.size 30 #[v4]) (hb : Below w3.heap.size wr w4) (h5 : OwnS (w3.heap.size + 2) w5 v5 (us ++ Bv n ++ [sgn c l])) (hb5 : Below (w3.heap.size + 2) w4 w5)
  (hs4 : w3.heap.size + 2 ≤ w4.heap.size) (hi : i' ≤ X.length) (hj : j' ≤ Y.length) (hij : i' + j' = i + j + 1) (he : encs (Ar.dlA X Y i j n) = Bv n ++ sgn c l :: encs (Ar.dlA X Y i' j' 0)) : DI w3 (w5.setCell ⟨w3.heap.size, 0, none⟩ v5) X Y i' j' 0 (us ++ Bv n ++ [sgn c l]) v5 where
 bel := by
  have h1 := (h.bel.trans hb).trans (hb5.mono (by omega));exact h1.grown (Az _ _ _ _) h1.size (fun g e => by injection e with e; omega)
 size := by have := hb5.size; rw [World.size_setCell]; omega
 kept := by
  have h1 : Blk w5 (w3.heap.size + 1) 3 #[.int .i64 0] := (hb5.block _ (by omega)).trans hk;exact h1.grown (Az _ _ _ _) (by simp)
 out := by
  have h1 : Blk w5 w3.heap.size 30 #[v4] := (hb5.block _ (by omega)).trans ho;exact h1.set_ 0 v5
 own := CQ h5 (by omega)
 eq := by rw [h.eq, he]; simp
 ile := hi
 jle := hj
 nle := Nat.zero_le _
 ule := by
  have := h.ule;have h2 := DK n;simp only [List.length_append, List.length_singleton];omega
theorem DI.keep {w3 wr : World} {X Y : List (List UInt8)} {i j n : Nat} {us : List (List UInt8)} {v : Value} (h : DI w3 wr X Y i j n us v) (hi : i < X.length) (hj : j < Y.length) (he : Ar.dlA X Y i j n = Ar.dlA X Y (i + 1) (j + 1) (n + 1)) {m : Int} (hm : m = ((n + 1 : Nat) : Int)) (q : Nat) : DI w3 ((wr.drewN q).setCell ⟨w3.heap.size + 1, 0, none⟩ (.int .i64 m)) X Y (i + 1) (j + 1) (n + 1) us v where
 bel := (below_drewN h.bel q).grown (Az _ _ _ _) (by have := h.size; show _ ≤ wr.heap.size; omega) (fun g e => by injection e with e; omega)
 size := by rw [World.size_setCell]; exact h.size
 kept := by rw [hm]; exact (h.kept.drewN q).set_ 0 _
 out := (h.out.drewN q).grown (Az _ _ _ _) (by simp)
 own := CQ (show OwnS _ (wr.drewN q) v us from h.own) (by omega)
 eq := by rw [h.eq, he]
 ile := hi
 jle := hj
 nle := by have := h.nle; omega
 ule := by have := h.ule; omega
theorem DI.drewN {w3 wr : World} {X Y : List (List UInt8)} {i j n : Nat} {us : List (List UInt8)} {v : Value} (h : DI w3 wr X Y i j n us v) (q : Nat) : DI w3 (wr.drewN q) X Y i j n us v :=
 ⟨below_drewN h.bel q, h.size, h.kept, h.out, h.own, h.eq, h.ile, h.jle, h.nle, h.ule⟩
theorem Ip {w w' : World} {a : Addr} {v : Value} {B : Nat} (h : w.cell? a = some v) (hb : Below B w w') (hl : a.block < B) : w'.cell? a = some v := by
 rw [← h];exact World.cell?_of_block (hb.block _ hl)
theorem Fy (W : World) (g n i : Nat) (h : i < n) : (Instr.slice 30 (.slice (some ⟨g, 0, none⟩) n n) (some (.int .i64 (i : Int))) (some (.int .i64 ((i : Int) + 1))) (some (.int .i64 ((i : Int) + 1)))).run Tryz.prog W = .ok (.slice (some ⟨g, i, none⟩) 1 1) W := by
 rw [run_slice_lhm W 30 _ n n (by kernel_rfl) .i64 .i64 .i64 _ _ _ (by omega) (by omega) (by omega) (by omega)];rw [show (Go.sizeOf (Tryz.prog.elem 30)).run Tryz.prog W = .ok 1 W from by kernel_rfl];have e1 : ((i : Int) + 1).toNat = i + 1 := by omega
 have e2 : ((i : Int)).toNat = i := by omega
 show Result.ok (sliced _ _ _ _ _) W = _;unfold sliced;rw [e1, e2, if_neg (by omega), show i + 1 - i = 1 from by omega];simp [Addr.add];exact fun h => h.symm
theorem Gy {w3 wr w4 : World} {g i : Nat} {X : List (List UInt8)} {ax : List UInt8} (h : Rd w3 (some ⟨g, 0, none⟩) X.length (strL X)) (hx : X[i]? = some ax) (h1 : Below w3.heap.size w3 wr) (h2 : Below w3.heap.size wr w4) (hg : g < w3.heap.size) : Rd w4 (some ⟨g, i, none⟩) 1 (strL [ax]) := by
 refine ⟨rfl, fun jj vv hjj => ?_⟩;rcases jj with _ | jj
 ·injection hjj with hjj;obtain ⟨b, o, e1, hc⟩ := h.2 i (.string (bstr ax)) (by unfold strL; rw [List.getElem?_map, hx]; rfl);injection e1 with e1;injection e1 with e1 e2 e3;subst e1 e2;rw [Nat.zero_add] at hc;refine ⟨_, _, rfl, ?_⟩;rw [Nat.add_zero, ← hjj];exact Ip (Ip hc h1 hg) h2 hg
 ·cases hjj
theorem PS (a b : ByteArray) (w : World) (ha : a.size ≤ 100000) (hb : b.size ≤ 100000) (hR : Ready w) (hla : (Ar.lines a.data.toList).length ≤ 2000) (hlb : (Ar.lines b.data.toList).length ≤ 2000) :
  Calls Tryz.prog 32 #[.string a, .string b] w fun e w' => ∃ v, e = .returned v ∧ OwnS w.heap.size w' v (encs (Ar.diff (Ar.lines a.data.toList) (Ar.lines b.data.toList))) ∧ Below w.heap.size w w' := by
 have HR := hid hR;clear hR;have HLA := hid (De a w (by omega) HR.out);have HLB := hid (De b (w.alloc (.cells (strL (Ar.lines a.data.toList)).toArray 9)) (by omega) (HR.out.below ((Below.refl _ _).alloc (Nat.le_refl _) _)));have HSX := hid (Ar.Cj a.data.toList);have HSY := hid (Ar.Cj b.data.toList);have hsa : a.data.toList.length = a.size := AI a;have hsb : b.data.toList.length = b.size := AI b;rw [hsa] at HSX;rw [hsb] at HSY;clear hsa hsb;generalize Ar.lines a.data.toList = X at *;generalize Ar.lines b.data.toList = Y at *;have HX0 := hid (Rd.litS w X);have HY0 := hid (Rd.litS (w.alloc (.cells (strL X).toArray 9)) Y);have HB0 := hid (((Below.refl w.heap.size w).alloc (Nat.le_refl _) (.cells (strL X).toArray 9)).alloc (by simp) (.cells (strL Y).toArray 9));have HX1 := hid (HX0.out.below ((Below.refl _ _).alloc (Nat.le_refl _) (.cells (strL Y).toArray 9)));rw [World.size_alloc] at HY0;go_enter Tryz.func32, Tryz.ntmps32;go_wp2_with fail;refine HLA.out.mono ?_;rintro e w1 ⟨rfl, rfl⟩;go_wp2_with fail;refine HLB.out.mono ?_;rintro e w1 ⟨rfl, rfl⟩;rw [World.size_alloc];go_wp2_with fail;refine (Jc _ _ _ _ X Y _ HX1.out HY0.out hla hlb).mono ?_;rintro e w3 ⟨rfl, hd, hb3⟩;rw [show ((w.alloc (.cells (strL X).toArray 9)).alloc (.cells (strL Y).toArray 9)).heap.size = w.heap.size + 2 from by rw [World.size_alloc, World.size_alloc]] at hd ⊢;have HD := hid hd;have HX3 := hid (HX1.out.below hb3);have HY3 := hid (HY0.out.below hb3);have HB3 := hid (HB0.out.trans (hb3.mono HB0.out.size));have hs3 := hd.lt;clear hd hb3 HX0 HX1 HY0 HB0 HLA HLB
 have HDI0 : Hid (DI w3 ((w3.alloc (.cells #[.slice none 0 0] 30)).alloc (.cells #[.int .i64 0] 3)) X Y 0 0 0 [] (.slice none 0 0)) := hid {
  bel := ((Below.refl _ _).alloc (Nat.le_refl _) _).alloc (by simp) _
  size := by simp
  kept := by have h := Blk.new (w3.alloc (.cells #[.slice none 0 0] 30)) 3 #[.int .i64 0]; rwa [World.size_alloc] at h
  out := (Blk.new w3 30 #[.slice none 0 0]).alloc _
  own := World.ownsRow_nil _ _ _ _
  eq := rfl
  ile := Nat.zero_le _
  jle := Nat.zero_le _
  nle := Nat.le_refl _
  ule := Nat.le_refl _ }
 go_wp2_with fail
 go_loopw [9, 10] (fun ix jx wr => ∃ (i j n : Nat) (us : List (List UInt8)) (v : Value), ix = .int .i64 i ∧ jx = .int .i64 j ∧ DI w3 wr X Y i j n us v) (fun ix jx _ => (X.length - (RowKit.intOf ix).toNat) + (Y.length - (RowKit.intOf jx).toNat))
 case atStart => exact ⟨0, 0, 0, [], _, rfl, rfl, HDI0.out⟩
 case round =>
  obtain ⟨i, j, n, us, v, rfl, rfl, hdi⟩ := hrel;have HDI := hid hdi;have hi := hdi.ile;have hj := hdi.jle;have hck := hdi.kept.cell 0;have hco := hdi.out.cell 0;rw [show (#[Value.int .i64 n] : Array Value)[0]? = some (.int .i64 n) from rfl] at hck;rw [show (#[v] : Array Value)[0]? = some v from rfl] at hco;have hfk := hdi.kept.frozen 0;have hfo := hdi.out.frozen 0;have hsz := hdi.size;have hnl := hdi.nle;have hul := hdi.ule;clear hdi;by_cases hend : i = X.length ∧ j = Y.length
  ·obtain ⟨rfl, rfl⟩ := hend;go_wp2_with fail;refine (Eu (w3.heap.size + 1) w3.heap.size (w3.heap.size + 2) w3.heap.size v us n wr HDI.out.kept HDI.out.out HDI.out.own (by omega) (by omega) (by omega) (by omega) (by omega) (by omega) (by omega) hsz).mono ?_;rintro e w4 ⟨rfl, hk4, ⟨v4, ho4, how4⟩, hb4⟩;have hs4 : w3.heap.size + 2 ≤ w4.heap.size := by have := hk4.lt; omega
   have HK4 := hid hk4;have HO4 := hid ho4;have HW4 := hid how4;have HB4 := hid hb4;have hco4 := ho4.cell 0;rw [show (#[v4] : Array Value)[0]? = some v4 from rfl] at hco4;have HE : Hid (encs (Ar.diff X Y) = us ++ Bv n) := hid (by rw [HDI.out.eq, Ar.Rz]; rfl);have HBE : Hid (Below w.heap.size w w4) := hid (HB3.out.trans ((HDI.out.bel.trans hb4).mono (by omega)));clear hk4 ho4 how4 hb4;go_wp2_with fail;go_ret;exact ⟨v4, rfl, by rw [HE.out]; exact FL HW4.out (by omega), HBE.out⟩
  ·by_cases hix : i < X.length
   ·obtain ⟨b1, o1, ax, e1, hxa, hca⟩ := (HX3.out.low HDI.out.bel (fun q e => by injection e with e; rw [← e]; show w.heap.size < w3.heap.size; omega)).str_at (k := i) hix;injection e1 with e1;injection e1 with e1 e2 e3;subst e1 e2;rw [Nat.zero_add] at hca;have HXA := hid hxa;clear hxa;by_cases hjy : j < Y.length
    ·obtain ⟨b1, o1, ay, e1, hyb, hcb⟩ := (HY3.out.low HDI.out.bel (fun q e => by injection e with e; rw [← e]; show w.heap.size + 1 < w3.heap.size; omega)).str_at (k := j) hjy;injection e1 with e1;injection e1 with e1 e2 e3;subst e1 e2;rw [Nat.zero_add] at hcb;have HYB := hid hyb;have hsb := CO ax ay;clear hyb;by_cases hab : ax = ay
     ·have h1 : ((bstr ax).toList == (bstr ay).toList) = true := by rw [hsb, hab]; exact beq_self_eq_true _
      have HE := hid (Ar.RU n HXA.out HYB.out hab);clear hsb hab;generalize bstr ax = sx at *;generalize bstr ay = sy at *;go_wp2_with fail
      go_quiet (fail)
      go_wp2_with fail
      go_roundw
      case rel => exact ⟨i + 1, j + 1, n + 1, us, v, by go_num, by go_num, HDI.out.keep hix hjy HE.out (by omega) _⟩
      case measure => simp [RowKit.intOf]; omega
     ·have h1 : ((bstr ax).toList == (bstr ay).toList) = false := by rw [hsb]; simpa using hab
      obtain ⟨g1, hd1, hg1, hr1⟩ := (HD.out.below HDI.out.bel).at (i := i + 1) (by omega) (by omega);obtain ⟨g0, hd0, hg0, hr0⟩ := (HD.out.below HDI.out.bel).at (i := i) (by omega) (by omega);have hv1 := hr1.at (j' := j) (Nat.zero_le _) (by omega);have hv0 := hr0.at (j' := j) (Nat.zero_le _) (by omega);have hj1 : ((j : Int) == (Y.length : Int)) = false := by rw [beq_eq_false_iff_ne]; omega
      have hj2 : ¬ ((j : Int) = (Y.length : Int)) := by omega
      have hj3 : ¬ (j = Y.length) := by omega
      have hq1 := Ar.Hu X Y (i + 1) j;have hq0 := Ar.Hu X Y i j;clear hr1 hr0 hg1 hg0;by_cases hds : Ar.disA X Y (i + 1) j + 1 = Ar.disA X Y i j
      ·have HE := hid (Ar.QD n HXA.out HYB.out hab hds);clear hsb hab;generalize hsx : bstr ax = sx at *;generalize bstr ay = sy at *;rw [← hds] at hv0;clear hds;generalize Ar.disA X Y (i + 1) j = dd at *;go_wp2_with fail
       go_quiet (fail)
       go_wp2_with fail
       go_quiet (fail)
       go_wp2_with fail
       try rw [World.drewN_drewN]
       refine (Eu (w3.heap.size + 1) w3.heap.size (w3.heap.size + 2) w3.heap.size v us n (wr.drewN _) (HDI.out.drewN _).kept (HDI.out.drewN _).out (HDI.out.drewN _).own (by omega) (by omega) (by omega) (by omega) (by omega) (by omega) (by omega) (HDI.out.drewN _).size).mono ?_;rintro e w4 ⟨rfl, hk4, ⟨v4, ho4, how4⟩, hb4⟩;obtain ⟨A4, cap4, rfl⟩ := Ax how4;have hs4 : w3.heap.size + 2 ≤ w4.heap.size := by have := hk4.lt; omega
       have HK4 := hid hk4;have HO4 := hid ho4;have HW4 := hid how4;have HB4 := hid hb4;have hwr : IntKind.i64.wrap ((i : Int) + 1) = (i : Int) + 1 := by rw [IntKind.wrap_i64]; omega
       have hsl : ∀ W : World, (Instr.slice 30 (.slice (some ⟨w.heap.size, 0, none⟩) X.length X.length) (some (.int .i64 (i : Int))) (some (.int .i64 ((i : Int) + 1))) (some (.int .i64 ((i : Int) + 1)))).run Tryz.prog W = .ok (.slice (some ⟨w.heap.size, i, none⟩) 1 1) W := fun W => Fy W _ _ _ (by omega)
       have HRL : Hid (Rd w4 (some ⟨w.heap.size, i, none⟩) 1 (strL [ax])) := hid (Gy HX3.out HXA.out (HDI.out.drewN _).bel HB4.out (by omega));have hco4 := ho4.cell 0;rw [show (#[Value.slice A4 (us ++ Bv n).length cap4] : Array Value)[0]? = some (.slice A4 (us ++ Bv n).length cap4) from rfl] at hco4;have hfo4 := ho4.frozen 0;have hul4 : (us ++ Bv n).length ≤ 10000 := by have := DK n; rw [List.length_append]; omega
       have HAL : Hid (∀ x ∈ [ax], x.length ≤ 1000000) := hid (by intro x hx; rw [List.mem_singleton.1 hx]; exact Nat.le_trans (HSX.out ax (List.mem_of_getElem? HXA.out)) (by omega));clear hk4 ho4 how4 hb4 hco hck hfk hfo;generalize hU4 : us ++ Bv n = U4 at *;have HU4 := hid hU4;clear hU4;go_wp2_with fail
       go_region_law (first
        | (go_simp; go_at_call 86; (refine (EP (.slice A4 U4.length cap4) U4 45 (some ⟨w.heap.size, i, none⟩) 1 [ax] (w3.heap.size + 2) w4.drew HW4.out.drew HRL.out.drew hs4 (by intro q e; injection e with e; rw [← e]; show w.heap.size < w3.heap.size + 2; omega) (by simp only [List.length_singleton]; omega) HAL.out).mono ?_); rintro e w5 ⟨v5, rfl, how5, hb5⟩; obtain ⟨A5, cap5, rfl⟩ := Ax how5; have ho5 := HO4.out.drew.below hb5 (by omega); have hfo5 := ho5.frozen 0; have hco5 := ho5.cell 0; rw [show (#[Value.slice A4 U4.length cap4] : Array Value)[0]? = some (.slice A4 U4.length cap4) from rfl] at hco5))
       all_goals
        have HM : Hid (DI w3 (w5.setCell ⟨w3.heap.size, 0, none⟩ (.slice A5 (U4 ++ List.map (sgn 45) [ax]).length cap5)) X Y (i + 1) (j) 0 (us ++ Bv n ++ [sgn 45 ax]) (.slice A5 (U4 ++ List.map (sgn 45) [ax]).length cap5)) := hid (HDI.out.more HK4.out HO4.out ((below_drewN (Below.refl _ wr) _).trans HB4.out) (by rw [HU4.out]; exact how5) ((Below.refl _ w4).drew.trans hb5) hs4 (by omega) (by omega) (by omega) (by rw [HE.out, GB]; rfl));rw [show (U4 ++ List.map (sgn 45) [ax]).length = U4.length + 1 from by simp] at HM;clear ho5 hfo5 hco5 how5 hb5 hco4 hfo4;go_wp2_with fail
        go_roundw
        case rel => exact ⟨i + 1, j, 0, _, _, by go_num, by go_num, HM.out⟩
        case measure => simp [RowKit.intOf]; omega
      ·have HE := hid (Ar.QR n HXA.out HYB.out hab hds);clear hsb hab;generalize bstr ax = sx at *;generalize hsy : bstr ay = sy at *;have hd1 : ¬ ((Ar.disA X Y (i + 1) j : Nat) : Int) + 1 = (Ar.disA X Y i j : Nat) := by omega
       have hd2 : ((((Ar.disA X Y (i + 1) j : Nat) : Int) + 1) == ((Ar.disA X Y i j : Nat) : Int)) = false := by rw [beq_eq_false_iff_ne]; omega
       clear hds;generalize Ar.disA X Y (i + 1) j = dd at *;generalize Ar.disA X Y i j = de at *;go_wp2_with fail
       go_quiet (fail)
       go_wp2_with fail
       go_quiet (fail)
       go_wp2_with fail
       try rw [World.drewN_drewN]
       refine (Eu (w3.heap.size + 1) w3.heap.size (w3.heap.size + 2) w3.heap.size v us n (wr.drewN _) (HDI.out.drewN _).kept (HDI.out.drewN _).out (HDI.out.drewN _).own (by omega) (by omega) (by omega) (by omega) (by omega) (by omega) (by omega) (HDI.out.drewN _).size).mono ?_;rintro e w4 ⟨rfl, hk4, ⟨v4, ho4, how4⟩, hb4⟩;obtain ⟨A4, cap4, rfl⟩ := Ax how4;have hs4 : w3.heap.size + 2 ≤ w4.heap.size := by have := hk4.lt; omega
       have HK4 := hid hk4;have HO4 := hid ho4;have HW4 := hid how4;have HB4 := hid hb4;have hwr : IntKind.i64.wrap ((j : Int) + 1) = (j : Int) + 1 := by rw [IntKind.wrap_i64]; omega
       have hsl : ∀ W : World, (Instr.slice 30 (.slice (some ⟨w.heap.size + 1, 0, none⟩) Y.length Y.length) (some (.int .i64 (j : Int))) (some (.int .i64 ((j : Int) + 1))) (some (.int .i64 ((j : Int) + 1)))).run Tryz.prog W = .ok (.slice (some ⟨w.heap.size + 1, j, none⟩) 1 1) W := fun W => Fy W _ _ _ (by omega)
       have HRL : Hid (Rd w4 (some ⟨w.heap.size + 1, j, none⟩) 1 (strL [ay])) := hid (Gy HY3.out HYB.out (HDI.out.drewN _).bel HB4.out (by omega));have hco4 := ho4.cell 0;rw [show (#[Value.slice A4 (us ++ Bv n).length cap4] : Array Value)[0]? = some (.slice A4 (us ++ Bv n).length cap4) from rfl] at hco4;have hfo4 := ho4.frozen 0;have hul4 : (us ++ Bv n).length ≤ 10000 := by have := DK n; rw [List.length_append]; omega
       have HAL : Hid (∀ x ∈ [ay], x.length ≤ 1000000) := hid (by intro x hx; rw [List.mem_singleton.1 hx]; exact Nat.le_trans (HSY.out ay (List.mem_of_getElem? HYB.out)) (by omega));clear hk4 ho4 how4 hb4 hco hck hfk hfo;generalize hU4 : us ++ Bv n = U4 at *;have HU4 := hid hU4;clear hU4;go_wp2_with fail
       go_region_law (first
        | (go_simp; go_at_call 86; (refine (EP (.slice A4 U4.length cap4) U4 43 (some ⟨w.heap.size + 1, j, none⟩) 1 [ay] (w3.heap.size + 2) w4.drew HW4.out.drew HRL.out.drew hs4 (by intro q e; injection e with e; rw [← e]; show w.heap.size + 1 < w3.heap.size + 2; omega) (by simp only [List.length_singleton]; omega) HAL.out).mono ?_); rintro e w5 ⟨v5, rfl, how5, hb5⟩; obtain ⟨A5, cap5, rfl⟩ := Ax how5; have ho5 := HO4.out.drew.below hb5 (by omega); have hfo5 := ho5.frozen 0; have hco5 := ho5.cell 0; rw [show (#[Value.slice A4 U4.length cap4] : Array Value)[0]? = some (.slice A4 U4.length cap4) from rfl] at hco5))
       all_goals
        have HM : Hid (DI w3 (w5.setCell ⟨w3.heap.size, 0, none⟩ (.slice A5 (U4 ++ List.map (sgn 43) [ay]).length cap5)) X Y (i) (j + 1) 0 (us ++ Bv n ++ [sgn 43 ay]) (.slice A5 (U4 ++ List.map (sgn 43) [ay]).length cap5)) := hid (HDI.out.more HK4.out HO4.out ((below_drewN (Below.refl _ wr) _).trans HB4.out) (by rw [HU4.out]; exact how5) ((Below.refl _ w4).drew.trans hb5) hs4 (by omega) (by omega) (by omega) (by rw [HE.out, GB]; rfl));rw [show (U4 ++ List.map (sgn 43) [ay]).length = U4.length + 1 from by simp] at HM;clear ho5 hfo5 hco5 how5 hb5 hco4 hfo4;go_wp2_with fail
        go_roundw
        case rel => exact ⟨i, j + 1, 0, _, _, by go_num, by go_num, HM.out⟩
        case measure => simp [RowKit.intOf]; omega
    ·obtain rfl : j = Y.length := by omega
     have HE := hid (Ar.P8 n HXA.out (y := Y));have hj1 : ((Y.length : Int) == (Y.length : Int)) = true := beq_self_eq_true _;generalize hsx : bstr ax = sx at *;go_wp2_with fail
     go_quiet (fail)
     go_wp2_with fail
     go_quiet (fail)
     go_wp2_with fail
     try rw [World.drewN_drewN]
     refine (Eu (w3.heap.size + 1) w3.heap.size (w3.heap.size + 2) w3.heap.size v us n (wr.drewN _) (HDI.out.drewN _).kept (HDI.out.drewN _).out (HDI.out.drewN _).own (by omega) (by omega) (by omega) (by omega) (by omega) (by omega) (by omega) (HDI.out.drewN _).size).mono ?_;rintro e w4 ⟨rfl, hk4, ⟨v4, ho4, how4⟩, hb4⟩;obtain ⟨A4, cap4, rfl⟩ := Ax how4;have hs4 : w3.heap.size + 2 ≤ w4.heap.size := by have := hk4.lt; omega
     have HK4 := hid hk4;have HO4 := hid ho4;have HW4 := hid how4;have HB4 := hid hb4;have hwr : IntKind.i64.wrap ((i : Int) + 1) = (i : Int) + 1 := by rw [IntKind.wrap_i64]; omega
     have hsl : ∀ W : World, (Instr.slice 30 (.slice (some ⟨w.heap.size, 0, none⟩) X.length X.length) (some (.int .i64 (i : Int))) (some (.int .i64 ((i : Int) + 1))) (some (.int .i64 ((i : Int) + 1)))).run Tryz.prog W = .ok (.slice (some ⟨w.heap.size, i, none⟩) 1 1) W := fun W => Fy W _ _ _ (by omega)
     have HRL : Hid (Rd w4 (some ⟨w.heap.size, i, none⟩) 1 (strL [ax])) := hid (Gy HX3.out HXA.out (HDI.out.drewN _).bel HB4.out (by omega));have hco4 := ho4.cell 0;rw [show (#[Value.slice A4 (us ++ Bv n).length cap4] : Array Value)[0]? = some (.slice A4 (us ++ Bv n).length cap4) from rfl] at hco4;have hfo4 := ho4.frozen 0;have hul4 : (us ++ Bv n).length ≤ 10000 := by have := DK n; rw [List.length_append]; omega
     have HAL : Hid (∀ x ∈ [ax], x.length ≤ 1000000) := hid (by intro x hx; rw [List.mem_singleton.1 hx]; exact Nat.le_trans (HSX.out ax (List.mem_of_getElem? HXA.out)) (by omega));clear hk4 ho4 how4 hb4 hco hck hfk hfo;generalize hU4 : us ++ Bv n = U4 at *;have HU4 := hid hU4;clear hU4;go_wp2_with fail
     go_region_law (first
      | (go_simp; go_at_call 86; (refine (EP (.slice A4 U4.length cap4) U4 45 (some ⟨w.heap.size, i, none⟩) 1 [ax] (w3.heap.size + 2) w4.drew HW4.out.drew HRL.out.drew hs4 (by intro q e; injection e with e; rw [← e]; show w.heap.size < w3.heap.size + 2; omega) (by simp only [List.length_singleton]; omega) HAL.out).mono ?_); rintro e w5 ⟨v5, rfl, how5, hb5⟩; obtain ⟨A5, cap5, rfl⟩ := Ax how5; have ho5 := HO4.out.drew.below hb5 (by omega); have hfo5 := ho5.frozen 0; have hco5 := ho5.cell 0; rw [show (#[Value.slice A4 U4.length cap4] : Array Value)[0]? = some (.slice A4 U4.length cap4) from rfl] at hco5))
     all_goals
      have HM : Hid (DI w3 (w5.setCell ⟨w3.heap.size, 0, none⟩ (.slice A5 (U4 ++ List.map (sgn 45) [ax]).length cap5)) X Y (i + 1) (Y.length) 0 (us ++ Bv n ++ [sgn 45 ax]) (.slice A5 (U4 ++ List.map (sgn 45) [ax]).length cap5)) := hid (HDI.out.more HK4.out HO4.out ((below_drewN (Below.refl _ wr) _).trans HB4.out) (by rw [HU4.out]; exact how5) ((Below.refl _ w4).drew.trans hb5) hs4 (by omega) (by omega) (by omega) (by rw [HE.out, GB]; rfl));rw [show (U4 ++ List.map (sgn 45) [ax]).length = U4.length + 1 from by simp] at HM;clear ho5 hfo5 hco5 how5 hb5 hco4 hfo4;go_wp2_with fail
      go_roundw
      case rel => exact ⟨i + 1, Y.length, 0, _, _, by go_num, by go_num, HM.out⟩
      case measure => simp [RowKit.intOf]; omega
   ·obtain rfl : i = X.length := by omega
    have hjy : j < Y.length := by omega
    obtain ⟨b1, o1, ay, e1, hyb, hcb⟩ := (HY3.out.low HDI.out.bel (fun q e => by injection e with e; rw [← e]; show w.heap.size + 1 < w3.heap.size; omega)).str_at (k := j) hjy;injection e1 with e1;injection e1 with e1 e2 e3;subst e1 e2;rw [Nat.zero_add] at hcb;have HYB := hid hyb;have HE := hid (Ar.OW n HYB.out (x := X));clear hyb;generalize hsy : bstr ay = sy at *;go_wp2_with fail
    go_quiet (fail)
    go_wp2_with fail
    go_quiet (fail)
    go_wp2_with fail
    try rw [World.drewN_drewN]
    refine (Eu (w3.heap.size + 1) w3.heap.size (w3.heap.size + 2) w3.heap.size v us n (wr.drewN _) (HDI.out.drewN _).kept (HDI.out.drewN _).out (HDI.out.drewN _).own (by omega) (by omega) (by omega) (by omega) (by omega) (by omega) (by omega) (HDI.out.drewN _).size).mono ?_;rintro e w4 ⟨rfl, hk4, ⟨v4, ho4, how4⟩, hb4⟩;obtain ⟨A4, cap4, rfl⟩ := Ax how4;have hs4 : w3.heap.size + 2 ≤ w4.heap.size := by have := hk4.lt; omega
    have HK4 := hid hk4;have HO4 := hid ho4;have HW4 := hid how4;have HB4 := hid hb4;have hwr : IntKind.i64.wrap ((j : Int) + 1) = (j : Int) + 1 := by rw [IntKind.wrap_i64]; omega
    have hsl : ∀ W : World, (Instr.slice 30 (.slice (some ⟨w.heap.size + 1, 0, none⟩) Y.length Y.length) (some (.int .i64 (j : Int))) (some (.int .i64 ((j : Int) + 1))) (some (.int .i64 ((j : Int) + 1)))).run Tryz.prog W = .ok (.slice (some ⟨w.heap.size + 1, j, none⟩) 1 1) W := fun W => Fy W _ _ _ (by omega)
    have HRL : Hid (Rd w4 (some ⟨w.heap.size + 1, j, none⟩) 1 (strL [ay])) := hid (Gy HY3.out HYB.out (HDI.out.drewN _).bel HB4.out (by omega));have hco4 := ho4.cell 0;rw [show (#[Value.slice A4 (us ++ Bv n).length cap4] : Array Value)[0]? = some (.slice A4 (us ++ Bv n).length cap4) from rfl] at hco4;have hfo4 := ho4.frozen 0;have hul4 : (us ++ Bv n).length ≤ 10000 := by have := DK n; rw [List.length_append]; omega
    have HAL : Hid (∀ x ∈ [ay], x.length ≤ 1000000) := hid (by intro x hx; rw [List.mem_singleton.1 hx]; exact Nat.le_trans (HSY.out ay (List.mem_of_getElem? HYB.out)) (by omega));clear hk4 ho4 how4 hb4 hco hck hfk hfo;generalize hU4 : us ++ Bv n = U4 at *;have HU4 := hid hU4;clear hU4;go_wp2_with fail
    go_region_law (first
     | (go_simp; go_at_call 86; (refine (EP (.slice A4 U4.length cap4) U4 43 (some ⟨w.heap.size + 1, j, none⟩) 1 [ay] (w3.heap.size + 2) w4.drew HW4.out.drew HRL.out.drew hs4 (by intro q e; injection e with e; rw [← e]; show w.heap.size + 1 < w3.heap.size + 2; omega) (by simp only [List.length_singleton]; omega) HAL.out).mono ?_); rintro e w5 ⟨v5, rfl, how5, hb5⟩; obtain ⟨A5, cap5, rfl⟩ := Ax how5; have ho5 := HO4.out.drew.below hb5 (by omega); have hfo5 := ho5.frozen 0; have hco5 := ho5.cell 0; rw [show (#[Value.slice A4 U4.length cap4] : Array Value)[0]? = some (.slice A4 U4.length cap4) from rfl] at hco5))
    all_goals
     have HM : Hid (DI w3 (w5.setCell ⟨w3.heap.size, 0, none⟩ (.slice A5 (U4 ++ List.map (sgn 43) [ay]).length cap5)) X Y (X.length) (j + 1) 0 (us ++ Bv n ++ [sgn 43 ay]) (.slice A5 (U4 ++ List.map (sgn 43) [ay]).length cap5)) := hid (HDI.out.more HK4.out HO4.out ((below_drewN (Below.refl _ wr) _).trans HB4.out) (by rw [HU4.out]; exact how5) ((Below.refl _ w4).drew.trans hb5) hs4 (by omega) (by omega) (by omega) (by rw [HE.out, GB]; rfl));rw [show (U4 ++ List.map (sgn 43) [ay]).length = U4.length + 1 from by simp] at HM;clear ho5 hfo5 hco5 how5 hb5 hco4 hfo4;go_wp2_with fail
     go_roundw
     case rel => exact ⟨X.length, j + 1, 0, _, _, by go_num, by go_num, HM.out⟩
     case measure => simp [RowKit.intOf]; omega
def ApA (x : Option (List UInt8)) (e : Ending) : Prop := (∃ t, x = some t ∧ e = .returned (.tuple #[.string (bstr t), .bool true])) ∨ (x = none ∧ e = .returned (.tuple #[.string ⟨#[]⟩, .bool false]))
theorem I0 (W : World) (b o n cap m : Nat) (hm : m ≤ n) (hn : n ≤ cap) : (Instr.slice 30 (.slice (some ⟨b, o, none⟩) n cap) none (some (.int .i64 (m : Int))) (some (.int .i64 (m : Int)))).run Tryz.prog W = .ok (.slice (some ⟨b, o, none⟩) m m) W := by
 rw [run_slice_hm W 30 _ n cap (by kernel_rfl) .i64 .i64 _ _ (by omega) (by omega) (by omega)];rw [show (Go.sizeOf (Tryz.prog.elem 30)).run Tryz.prog W = .ok 1 W from by kernel_rfl];show Result.ok (sliced _ _ _ _ _) W = _;unfold sliced;rw [Int.toNat_natCast];by_cases h : m = 0
 ·rw [if_pos h, Nat.sub_zero]
 ·rw [if_neg h, Nat.sub_zero];simp [Addr.add]
theorem Iz (b o n cap m : Nat) (hm : m ≤ n) (hn : n ≤ cap) : ∃ A : Addr, A.block = b ∧ (m < n → A = ⟨b, o + m, none⟩) ∧ ∀ W : World, (Instr.slice 30 (.slice (some ⟨b, o, none⟩) n cap) (some (.int .i64 (m : Int))) none none).run Tryz.prog W = .ok (.slice (some A) (n - m) (cap - m)) W := by
 refine ⟨if cap = m then ⟨b, o, none⟩ else ⟨b, o + m, none⟩, by split <;> rfl, fun h => by rw [if_neg (by omega)], fun W => ?_⟩;rw [run_slice_l W 30 _ n cap (by kernel_rfl) .i64 _ (by omega) (by omega)];rw [show (Go.sizeOf (Tryz.prog.elem 30)).run Tryz.prog W = .ok 1 W from by kernel_rfl];show Result.ok (sliced _ _ _ _ _) W = _;unfold sliced;rw [Int.toNat_natCast];by_cases h : cap = m
 ·rw [if_pos h, if_pos h]
 ·rw [if_neg h, if_neg h];by_cases h0 : m = 0
  ·subst h0; simp [Addr.add]
  ·simp [Addr.add, h0]
theorem Rd.rest {w : World} {b o : Nat} {T L2 : List (List UInt8)} (h : Rd w (some ⟨b, o, none⟩) (T ++ L2).length (strL (T ++ L2))) {A : Addr} (hA : T.length < (T ++ L2).length → A = ⟨b, o + T.length, none⟩) : Rd w (some A) L2.length (strL L2) := by
 refine ⟨C3 _, fun j v hj => ?_⟩;have hlt : j < L2.length := by have := (List.getElem?_eq_some_iff.1 hj).1; rwa [C3] at this
 rw [hA (by rw [List.length_append]; omega)];obtain ⟨g, q, e, hc⟩ := h.2 (T.length + j) v (by rw [AJ, List.getElem?_append_right (by rw [C3]; omega), C3, Nat.add_sub_cancel_left]; exact hj);injection e with e;injection e with e1 e2 e3;subst e1 e2;exact ⟨_, _, rfl, by rw [Nat.add_assoc]; exact hc⟩
theorem Rd.front {w : World} {A : Option Addr} {T L2 : List (List UInt8)} (h : Rd w A (T ++ L2).length (strL (T ++ L2))) : Rd w A T.length (strL T) := by
 refine ⟨C3 _, fun j v hj => ?_⟩;have hlt : j < T.length := by have := (List.getElem?_eq_some_iff.1 hj).1; rwa [C3] at this
 exact h.2 j v (by rw [AJ, List.getElem?_append_left (by rw [C3]; exact hlt)]; exact hj)
structure PI (w0 wr : World) (B : Nat) (X : List (List UInt8)) (d : List (List UInt8)) (k : Nat) (A1 : Option Addr) (c1 : Nat) (L O : List (List UInt8)) (v : Value) : Prop where
 kle : k ≤ d.length
 cap : L.length ≤ c1
 rd : Rd wr A1 L.length (strL L)
 low : ∀ a, A1 = some a → a.block < B
 own : OwnS B wr v O
 eq : Ar.aall (X, []) (d.take k) = some (L, O)
 bel : Below B w0 wr
theorem PI.bound {w0 wr : World} {B : Nat} {X d : List (List UInt8)} {k : Nat} {A1 : Option Addr} {c1 : Nat} {L O : List (List UInt8)} {v : Value} (h : PI w0 wr B X d k A1 c1 L O v) : O.length + L.length ≤ X.length + k ∧ (∀ y ∈ O, y ∈ X ∨ ∃ s ∈ d, y.length ≤ s.length) := by
 obtain ⟨h1, h2, h3⟩ := Ar.M7 _ _ _ _ _ h.eq;refine ⟨by rw [List.length_nil, List.length_take] at h1; omega, fun y hy => ?_⟩;rcases h3 y hy with hy | hy | ⟨s, hs, hy⟩
 ·cases hy
 ·exact .inl hy
 ·exact .inr ⟨s, List.mem_of_mem_take hs, hy⟩
theorem PI.step {w0 wr wr' : World} {B : Nat} {X d : List (List UInt8)} {k : Nat} {A1 A2 : Option Addr} {c1 c2 : Nat} {L O L2 O2 : List (List UInt8)} {v v2 : Value} {s : List UInt8} (h : PI w0 wr B X d k A1 c1 L O v) (hk : k < d.length) (hs : d[k]? = some s) (ha : Ar.astep (L, O) s = some (L2, O2)) (hb : Below B w0 wr') (hr : Rd wr' A2 L2.length (strL L2)) (hlow : ∀ a, A2 = some a → a.block < B) (hown : OwnS B wr' v2 O2) (hc : L2.length ≤ c2) : PI w0 wr' B X d (k + 1) A2 c2 L2 O2 v2 :=
 ⟨hk, hc, hr, hlow, hown, by rw [Ar.Jq hs h.eq, ha], hb⟩
theorem Ot (a : ByteArray) (A : Option Addr) (ca : Nat) (d : List (List UInt8)) (w : World) (hr : Rd w A d.length (strL d)) (ha : a.size ≤ 2000) (hd : d.length ≤ 2000) (hx : ∀ s ∈ d, s.length ≤ 2000) (hR : Ready w) :
  Calls Tryz.prog 33 #[.string a, .slice A d.length ca] w fun e w' => ApA (Ar.apply a.data.toList d) e ∧ Below w.heap.size w w' := by
 have HR := hid hR;have HRD := hid (hr.below ((Below.refl _ _).alloc (Nat.le_refl _) (.cells (strL (Ar.lines a.data.toList)).toArray 9)));have HX := hid hx;have HSH := hid (Ar.Cj a.data.toList);have hll := Ar.DC a.data.toList;have hsz : a.data.toList.length = a.size := AI a;rw [hsz] at hll;have HSZ := hid hsz;have HLN := hid (De a w (by omega) HR.out);clear hsz hr hx hR;generalize hXX : Ar.lines a.data.toList = X at *;have HXX := hid hXX;clear hXX;have HRL := hid (Rd.litS w X);have HB0 := hid ((Below.refl w.heap.size w).alloc (Nat.le_refl _) (.cells (strL X).toArray 9));have HRY := hid (HR.out.below ((Below.refl _ _).alloc (Nat.le_refl _) (.cells (strL X).toArray 9)));have hw1s : (w.alloc (.cells (strL X).toArray 9)).heap.size = w.heap.size + 1 := World.size_alloc _ _;generalize hw1 : w.alloc (.cells (strL X).toArray 9) = w1 at *;have HFIN : Hid (∀ wr, Below (w.heap.size + 1) w1 wr → Below w.heap.size w wr) := hid (fun wr h => HB0.out.trans (h.mono (by omega)));have HPI0 : Hid (PI w1 w1 (w.heap.size + 1) X d 0 (some ⟨w.heap.size, 0, none⟩) X.length X [] (.slice none 0 0)) := hid ⟨Nat.zero_le _, Nat.le_refl _, HRL.out, fun q e => by injection e with e; rw [← e]; exact Nat.lt_succ_self _, World.ownsRow_nil _ _ _ _, rfl, Below.refl _ _⟩;go_enter Tryz.func33, Tryz.ntmps33;go_wp2_with fail;refine HLN.out.mono ?_;rintro e w2 ⟨rfl, rfl⟩;go_wp2_with fail
 go_loopw [6, 7, 19] (fun lx ox ix wr => ∃ (k : Nat) (A1 : Option Addr) (c1 : Nat) (L O : List (List UInt8)), ix = .int .i64 k ∧ lx = .slice A1 L.length c1 ∧ PI w2 wr (w.heap.size + 1) X d k A1 c1 L O ox) (fun _ _ ix _ => d.length - (RowKit.intOf ix).toNat)
 case atStart => exact ⟨0, _, _, X, [], rfl, rfl, HPI0.out⟩
 case round =>
  obtain ⟨k, A1, c1, L, O, rfl, rfl, hpi⟩ := hrel;obtain ⟨AO, capO, rfl⟩ := Ax hpi.own;have HPI := hid hpi;have hkle := hpi.kle;have hcap := hpi.cap;have hbd := hpi.bound;have HBD := hid hbd.2;have hbl := hbd.1;have hwrs := hpi.bel.size;clear hpi hbd;by_cases hlt : k < d.length
  ·obtain ⟨ba, oa, s, rfl, hs, hc0⟩ := (HRD.out.below (by rw [hw1s]; exact HPI.out.bel)).str_at hlt;have HS := hid hs;have HSL : Hid (s.length ≤ 2000) := hid (HX.out s (List.mem_of_getElem? hs));obtain ⟨mx, hmx⟩ := (HRY.out.below (by rw [hw1s]; exact HPI.out.bel)).1;have hcut := Tryz.strings_Cut (bstr s) ⟨#[32]⟩ mx wr (by rw [Ab]; have := HSL.out; omega) hmx;rw [show (bstr s).data.toList = s from rfl, show (⟨#[32]⟩ : ByteArray).data.toList = [32] from rfl] at hcut;have HNO : Hid (Ar.astep (L, O) s = none → ∀ wr', Below (w.heap.size + 1) w2 wr' → ApA (Ar.apply a.data.toList d) (.returned (.tuple #[.string ⟨#[]⟩, .bool false])) ∧ Below w.heap.size w wr') := hid (fun h wr' hb => ⟨.inr ⟨Ar.K9 HS.out (by rw [HXX.out]; exact HPI.out.eq) h, rfl⟩, HFIN.out _ hb⟩);clear hmx hs;rcases Ar.Hm s with hb | ⟨l, t, hst, hb⟩
   ·rw [Ar.Gg hb] at hcut;have HCUT := hid hcut;have HA := hid (Ar.FX (L, O) hb);clear hcut;generalize hss : bstr s = S at *;go_wp2_with fail;refine HCUT.out.mono ?_;rintro e w3 ⟨rfl, q3, rfl⟩;go_wp2_with fail
    go_ret2
    exact HNO.out HA.out _ (below_drewN HPI.out.bel _)
   ·have hcc : Lib.cut s [32] = (l, t, true) := by rw [hst]; exact Ar.O9 hb
    rw [hcc] at hcut;clear hcc;have HCUT := hid hcut;have HST := hid hst;have HBL := hid hb;clear hcut hst hb;rw [show (⟨l.toArray⟩ : ByteArray) = bstr l from rfl, show (⟨t.toArray⟩ : ByteArray) = bstr t from rfl] at HCUT;have HTL : Hid (t.length ≤ 2000) := hid (by have := HSL.out; rw [HST.out, List.length_append, List.length_cons] at this; omega);have htl : (bstr t).size ≤ 2000 := by rw [Ab]; exact HTL.out
    have h61 := Ay l [61];have h45 := Ay l [45];have h43 := Ay l [43];have HB3 : Hid (∀ q, Below (w.heap.size + 1) w2 (wr.drewN q)) := hid (fun q => below_drewN HPI.out.bel q);by_cases k61 : l = [61]
    ·have g61 : ((bstr l).toList == [61]) = true := by rw [h61, k61]; rfl
     have HAS : Hid (Ar.astep (L, O) s = (match Ar.pnum t with | some n => if 1 ≤ n ∧ n ≤ L.length then some (L.drop n.toNat, O ++ L.take n.toNat) else none | none => none)) := hid (by rw [HST.out, k61]; exact Ar.Lv L O t);clear h61 h45 h43 k61;generalize hss : bstr s = S at *;generalize hsl : bstr l = SL at *;by_cases hok : ∃ v, Lib.atoiAll t = .ok v
     ·obtain ⟨v, hv⟩ := hok;have HAT := hid (fun W => MY (bstr t) v W (by omega) hv);have hvr := (Ar.ET hv).1;have HTX := hid (fun W => Bp v W hvr);have hcm := CO (Ar.itoa v) t;have HV := hid hv;clear hv;obtain ⟨hv1, hv2⟩ := hvr;by_cases hne : Ar.itoa v = t
      ·have HPN := hid (Ar.Pg HV.out hne);have gcm : (!((bstr (Ar.itoa v)).toList == (bstr t).toList)) = false := by rw [hcm, hne]; simp
       clear hcm hne;generalize bstr (Ar.itoa v) = TV at *;generalize htt : bstr t = ST at *;by_cases hin : 1 ≤ v ∧ v ≤ L.length
       ·obtain ⟨hin1, hin2⟩ := hin;obtain ⟨T, L2, hLT, hTv⟩ : ∃ T L2, L = T ++ L2 ∧ (T.length : Int) = v := ⟨L.take v.toNat, L.drop v.toNat, (List.take_append_drop _ _).symm, by rw [List.length_take]; omega⟩;subst hTv;have HLT := hid hLT;have hlen : L.length = T.length + L2.length := by rw [hLT, List.length_append]
        obtain ⟨bL, oL, x0, hA1, _, _⟩ := HPI.out.rd.str_at (k := 0) (by omega);subst hA1;have hs1 : ∀ W : World, (Instr.slice 30 (.slice (some ⟨bL, oL, none⟩) L.length c1) none (some (.int .i64 (T.length : Int))) (some (.int .i64 (T.length : Int)))).run Tryz.prog W = .ok (.slice (some ⟨bL, oL, none⟩) T.length T.length) W := fun W => I0 W bL oL L.length c1 T.length (by omega) hcap
        obtain ⟨A2, hA2b, hA2, hs2⟩ := Iz bL oL L.length c1 T.length (by omega) hcap;have hs2' : ∀ W : World, (Instr.slice 30 (.slice (some ⟨bL, oL, none⟩) L.length c1) (some (.int .i64 (T.length : Int))) none none).run Tryz.prog W = .ok (.slice (some A2) L2.length (c1 - T.length)) W := fun W => by rw [hs2 W, hlen, Nat.add_sub_cancel_left]
        have HAS2 : Hid (Ar.astep (L, O) s = some (L2, O ++ T)) := hid (by rw [HAS.out, HPN.out]; simp only; rw [if_pos ⟨hin1, hin2⟩, hLT, Int.toNat_natCast, List.drop_left, List.take_left]);have HRF : Hid (Rd wr (some ⟨bL, oL, none⟩) T.length (strL T)) := hid (by have h := HPI.out.rd; rw [hLT] at h; exact h.front);have HRR : Hid (Rd wr (some A2) L2.length (strL L2)) := hid (by have h := HPI.out.rd; rw [hLT] at h; exact h.rest (by rw [← hLT]; exact hA2));have HLOW : Hid (A2.block < w.heap.size + 1) := hid (by rw [hA2b]; exact HPI.out.low _ rfl);have HLEN := hid hlen;clear hs2 hA2 hA2b hLT hlen;go_wp2_with fail;refine HCUT.out.mono ?_;rintro e w3 ⟨rfl, q3, rfl⟩;go_wp2_with fail;refine (HAT.out _).mono ?_;rintro e w4 ⟨rfl, hb4⟩;have HB4 := hid hb4;clear hb4;go_wp2_with fail;refine (HTX.out _).mono ?_;rintro e w5 ⟨rfl, hb5⟩;have HB5 := hid (HB4.out.trans (hb5.mono HB4.out.size));clear hb5;go_wp2_with fail;have HOW5 : Hid (OwnS (w.heap.size + 1) w5 (.slice AO O.length capO) O) := hid (AQ (show OwnS (w.heap.size + 1) (wr.drewN q3) _ O from HPI.out.own) HB5.out (Nat.le_refl _));have HRF5 : Hid (Rd w5 (some ⟨bL, oL, none⟩) T.length (strL T)) := hid ((HRF.out.drewN q3).below HB5.out);have HRR5 : Hid (Rd w5 (some A2) L2.length (strL L2)) := hid ((HRR.out.drewN q3).below HB5.out);have HBW5 : Hid (Below (w.heap.size + 1) w2 w5) := hid ((HB3.out q3).trans (HB5.out.mono (by show _ ≤ wr.heap.size; omega)));have hs5 := HBW5.out.size;have hTL : T.length ≤ 100000 := by omega
        go_region_law (first | (refine JD rfl _ _ rfl w5.drew (.slice AO O.length capO) O T (w.heap.size + 1) ?_ (some ⟨bL, oL, none⟩) T.length ?_ HOW5.out.drew HRF5.out.drew (by show _ ≤ w5.heap.size; omega) (by omega) ?_; kernel_rfl; kernel_rfl; intro v6 w6 ho6 hg6 hb6; obtain ⟨A6, cap6, rfl⟩ := Ax ho6))
        all_goals
         have HP : Hid (PI w2 w6 (w.heap.size + 1) X d (k + 1) (some A2) (c1 - T.length) L2 (O ++ T) (.slice A6 (O ++ T).length cap6)) := hid (HPI.out.step hlt HS.out HAS2.out (hb6 _ HBW5.out.drew) (HRR5.out.drew.low (hb6 _ (Below.refl _ _)) (fun q e => by injection e with e; rw [← e]; exact HLOW.out)) (fun q e => by injection e with e; rw [← e]; exact HLOW.out) ho6 (by have := HLEN.out; omega));rw [show (O ++ T).length = O.length + T.length from List.length_append] at HP;clear hg6 hb6 ho6;go_wp2_with fail
         go_roundw
         case rel => exact ⟨k + 1, some A2, c1 - T.length, L2, O ++ T, by go_num, rfl, HP.out⟩
         case measure => simp [RowKit.intOf]; omega
       ·have HAN : Hid (Ar.astep (L, O) s = none) := hid (by rw [HAS.out, HPN.out]; simp only; rw [if_neg hin]);by_cases hv0 : v < 1
        ·clear hin;go_wp2_with fail;refine HCUT.out.mono ?_;rintro e w3 ⟨rfl, q3, rfl⟩;go_wp2_with fail;refine (HAT.out _).mono ?_;rintro e w4 ⟨rfl, hb4⟩;have HB4 := hid hb4;clear hb4;go_wp2_with fail;refine (HTX.out _).mono ?_;rintro e w5 ⟨rfl, hb5⟩;have HB5 := hid (HB4.out.trans (hb5.mono HB4.out.size));clear hb5;go_wp2_with fail
         go_ret2
         exact HNO.out HAN.out _ ((HB3.out q3).trans (HB5.out.mono (by show _ ≤ wr.heap.size; omega)))
        ·have hv0' : 1 ≤ v := by omega
         have hvL : (L.length : Int) < v := by omega
         clear hin hv0;go_wp2_with fail;refine HCUT.out.mono ?_;rintro e w3 ⟨rfl, q3, rfl⟩;go_wp2_with fail;refine (HAT.out _).mono ?_;rintro e w4 ⟨rfl, hb4⟩;have HB4 := hid hb4;clear hb4;go_wp2_with fail;refine (HTX.out _).mono ?_;rintro e w5 ⟨rfl, hb5⟩;have HB5 := hid (HB4.out.trans (hb5.mono HB4.out.size));clear hb5;go_wp2_with fail
         go_ret2
         exact HNO.out HAN.out _ ((HB3.out q3).trans (HB5.out.mono (by show _ ≤ wr.heap.size; omega)))
      ·have HAN : Hid (Ar.astep (L, O) s = none) := hid (by rw [HAS.out, Ar.Rp HV.out hne]);have gcm : (!((bstr (Ar.itoa v)).toList == (bstr t).toList)) = true := by rw [hcm]; simpa using hne
       clear hcm hne;generalize bstr (Ar.itoa v) = TV at *;generalize htt : bstr t = ST at *;go_wp2_with fail;refine HCUT.out.mono ?_;rintro e w3 ⟨rfl, q3, rfl⟩;go_wp2_with fail;refine (HAT.out _).mono ?_;rintro e w4 ⟨rfl, hb4⟩;have HB4 := hid hb4;clear hb4;go_wp2_with fail;refine (HTX.out _).mono ?_;rintro e w5 ⟨rfl, hb5⟩;have HB5 := hid (HB4.out.trans (hb5.mono HB4.out.size));clear hb5;go_wp2_with fail
       go_ret2
       exact HNO.out HAN.out _ ((HB3.out q3).trans (HB5.out.mono (by show _ ≤ wr.heap.size; omega)))
     ·have hno : ∀ v, Lib.atoiAll t ≠ .ok v := fun v hv => hok ⟨v, hv⟩
      have HAN : Hid (Ar.astep (L, O) s = none) := hid (by rw [HAS.out, Ar.QZ hno]);have HBAD := hid (fun W hW => KV (bstr t) W hW (by omega) hno);have HRW : Hid (∀ q, Ready (wr.drewN q)) := hid (fun q => (HRY.out.below (by rw [hw1s]; exact below_drewN HPI.out.bel q)));clear hno hok;generalize htt : bstr t = ST at *;go_wp2_with fail;refine HCUT.out.mono ?_;rintro e w3 ⟨rfl, q3, rfl⟩;go_wp2_with fail;refine (HBAD.out _ (HRW.out q3)).mono ?_;rintro e w4 ⟨⟨vn, tn, pn, rfl⟩, hb4⟩;have HB4 := hid hb4;clear hb4;go_wp2_with fail
      go_ret2
      exact HNO.out HAN.out _ ((HB3.out q3).trans (HB4.out.mono (by show _ ≤ wr.heap.size; omega)))
    ·have g61 : ((bstr l).toList == [61]) = false := by rw [h61]; simpa using k61
     by_cases k45 : l = [45]
     ·have g45 : ((bstr l).toList == [45]) = true := by rw [h45, k45]; rfl
      have HS45 : Hid (s = 45 :: 32 :: t) := hid (by rw [HST.out, k45]; rfl);clear h61 h45 h43 k61 k45;by_cases hL0 : L.length = 0
      ·have HAN : Hid (Ar.astep (L, O) s = none) := hid (by rw [HS45.out, List.eq_nil_of_length_eq_zero hL0, Ar.DY]);have z1 : ((L.length : Int) == 0) = true := by rw [hL0]; rfl
       generalize hss : bstr s = S at *;generalize hsl : bstr l = SL at *;generalize htt : bstr t = ST at *;go_wp2_with fail;refine HCUT.out.mono ?_;rintro e w3 ⟨rfl, q3, rfl⟩;go_wp2_with fail
       go_ret2
       exact HNO.out HAN.out _ (HB3.out q3)
      ·have z1 : ((L.length : Int) == 0) = false := by rw [beq_eq_false_iff_ne]; omega
       have z2 : ¬ ((L.length : Int) = 0) := by omega
       have z3 : ¬ (L = []) := fun e => hL0 (by rw [e]; rfl)
       obtain ⟨bL, oL, x0, hA1, hx0, hcx⟩ := HPI.out.rd.str_at (k := 0) (by omega);subst hA1;rw [Nat.add_zero] at hcx;obtain ⟨L2, hLT⟩ : ∃ L2, L = [x0] ++ L2 := by
        cases hh : L with
        | nil => exact absurd hh z3
        | cons y L2 => rw [hh] at hx0; injection hx0 with hx0; exact ⟨L2, by rw [hx0]; rfl⟩
       have hcm := CO x0 t;have hlen : L.length = 1 + L2.length := by rw [hLT, List.length_append]; rfl
       have HLEN := hid hlen;have hl1 : 1 ≤ L.length := by omega
       by_cases hxt : x0 = t
       ·have gcm : (!((bstr x0).toList == (bstr t).toList)) = false := by rw [hcm, hxt]; simp
        have HAS2 : Hid (Ar.astep (L, O) s = some (L2, O)) := hid (by rw [HS45.out, hLT, Ar.DY]; show (if x0 = t then some (L2, O) else none) = _; rw [if_pos hxt]);obtain ⟨A2, hA2b, hA2, hs2⟩ := Iz bL oL L.length c1 1 (by omega) hcap;have hs2' : ∀ W : World, (Instr.slice 30 (.slice (some ⟨bL, oL, none⟩) L.length c1) (some (.int .i64 1)) none none).run Tryz.prog W = .ok (.slice (some A2) L2.length (c1 - 1)) W := fun W => by have h := hs2 W; rw [hlen, Nat.add_sub_cancel_left] at h; rw [hlen]; exact h
        have HRR : Hid (Rd wr (some A2) L2.length (strL L2)) := hid (by have h := HPI.out.rd; rw [hLT] at h; exact h.rest (by rw [← hLT]; exact hA2));have HLOW : Hid (A2.block < w.heap.size + 1) := hid (by rw [hA2b]; exact HPI.out.low _ rfl);have HP : Hid (∀ q, PI w2 (wr.drewN q) (w.heap.size + 1) X d (k + 1) (some A2) (c1 - 1) L2 O (.slice AO O.length capO)) := hid (fun q => HPI.out.step hlt HS.out HAS2.out (HB3.out q) (HRR.out.drewN q) (fun q e => by injection e with e; rw [← e]; exact HLOW.out) HPI.out.own (by have := HLEN.out; omega));clear hs2 hA2 hA2b hLT hlen hcm hxt hx0 hL0;generalize hss : bstr s = S at *;generalize hsl : bstr l = SL at *;generalize htt : bstr t = ST at *;generalize bstr x0 = SX at *;go_wp2_with fail;refine HCUT.out.mono ?_;rintro e w3 ⟨rfl, q3, rfl⟩;go_wp2_with fail
        go_roundw
        case rel => exact ⟨k + 1, some A2, c1 - 1, L2, O, by go_num, rfl, HP.out q3⟩
        case measure => simp [RowKit.intOf]; omega
       ·have gcm : (!((bstr x0).toList == (bstr t).toList)) = true := by rw [hcm]; simpa using hxt
        have HAN : Hid (Ar.astep (L, O) s = none) := hid (by rw [HS45.out, hLT, Ar.DY]; show (if x0 = t then some (L2, O) else none) = _; rw [if_neg hxt]);clear hLT hlen hcm hxt hx0 hL0;generalize hss : bstr s = S at *;generalize hsl : bstr l = SL at *;generalize htt : bstr t = ST at *;generalize bstr x0 = SX at *;go_wp2_with fail;refine HCUT.out.mono ?_;rintro e w3 ⟨rfl, q3, rfl⟩;go_wp2_with fail
        go_ret2
        exact HNO.out HAN.out _ (HB3.out q3)
     ·have g45 : ((bstr l).toList == [45]) = false := by rw [h45]; simpa using k45
      by_cases k43 : l = [43]
      ·have g43 : ((bstr l).toList == [43]) = true := by rw [h43, k43]; rfl
       have HAS : Hid (Ar.astep (L, O) s = if (10 : UInt8) ∈ t then none else some (L, O ++ [t])) := hid (by rw [HST.out, k43]; exact Ar.ID L O t);clear h61 h45 h43 k61 k45 k43;have hcon := fun W => Tryz.strings_Contains_one (bstr t) 10 W
       rw [show (bstr t).data.toList = t from rfl, Ar.Pq] at hcon;by_cases hin : (10 : UInt8) ∈ t
       ·rw [decide_eq_true hin] at hcon;have HCON := hid hcon;have HAN : Hid (Ar.astep (L, O) s = none) := hid (by rw [HAS.out, if_pos hin]);clear hcon hin;generalize hss : bstr s = S at *;generalize hsl : bstr l = SL at *;generalize htt : bstr t = ST at *;go_wp2_with fail;refine HCUT.out.mono ?_;rintro e w3 ⟨rfl, q3, rfl⟩;go_wp2_with fail;refine (HCON.out _).mono ?_;rintro e w4 ⟨rfl, rfl⟩;go_wp2_with fail
        go_ret2
        exact HNO.out HAN.out _ (HB3.out q3)
       ·rw [decide_eq_false hin] at hcon;have HCON := hid hcon;have HAS2 : Hid (Ar.astep (L, O) s = some (L, O ++ [t])) := hid (by rw [HAS.out, if_neg hin]);clear hcon hin;have HSTR : Hid (∀ u ∈ [Value.string (bstr t)], u.oneCell' = true) := hid (Bx [t]);have HTE : Hid (strL [t] = [Value.string (bstr t)]) := hid rfl;have HOWN : Hid (∀ q, (wr.drewN q).ownsRow (w.heap.size + 1) 9 1 (.slice AO O.length capO) O.length (strL O)) := hid (fun q => HPI.out.own);have HSZ3 : Hid (∀ q, w.heap.size + 1 ≤ (wr.drewN q).heap.size) := hid (fun q => by show _ ≤ wr.heap.size; omega);generalize hss : bstr s = S at *;generalize hsl : bstr l = SL at *;generalize htt : bstr t = ST at *;go_wp2_with fail;refine HCUT.out.mono ?_;rintro e w3 ⟨rfl, q3, rfl⟩;go_wp2_with fail;refine (HCON.out _).mono ?_;rintro e w4 ⟨rfl, rfl⟩;go_wp2_with (at_builtin; refine Bt CD rfl _ _ rfl (wr.drewN q3) [.string ST] 1 rfl HSTR.out (.slice AO O.length capO) O.length (strL O) (w.heap.size + 1) rfl (HOWN.out q3) rfl (HSZ3.out q3) (by omega) ?_; intro v6 w6 ho6 hg6 hb6; obtain ⟨A6, cap6, rfl⟩ := GX ho6);have HP : Hid (PI w2 w6 (w.heap.size + 1) X d (k + 1) A1 c1 L (O ++ [t]) (.slice A6 (O.length + 1) cap6)) := hid (HPI.out.step hlt HS.out HAS2.out (hb6 _ (HB3.out q3)) ((HPI.out.rd.drewN q3).low (hb6 _ (Below.refl _ _)) HPI.out.low) HPI.out.low (by unfold OwnS; rw [List.length_append, AJ, HTE.out]; exact ho6) HPI.out.cap);clear hg6 hb6 ho6
        go_roundw
        case rel => exact ⟨k + 1, A1, c1, L, O ++ [t], by go_num, rfl, HP.out⟩
        case measure => simp [RowKit.intOf]; omega
      ·have g43 : ((bstr l).toList == [43]) = false := by rw [h43]; simpa using k43
       have HAN : Hid (Ar.astep (L, O) s = none) := hid (by rw [HST.out]; exact Ar.Hn (L, O) HBL.out k61 k45 k43);clear h61 h45 h43 k61 k45 k43;generalize hss : bstr s = S at *;generalize hsl : bstr l = SL at *;generalize htt : bstr t = ST at *;go_wp2_with fail;refine HCUT.out.mono ?_;rintro e w3 ⟨rfl, q3, rfl⟩;go_wp2_with fail
       go_ret2
       exact HNO.out HAN.out _ (HB3.out q3)
  ·obtain rfl : k = d.length := by omega
   have HEQ : Hid (Ar.aall (X, []) d = some (L, O)) := hid (by have := HPI.out.eq; rwa [List.take_length] at this);have HEND : Hid (Ar.apply a.data.toList d = if L = [] ∧ O ≠ [] then some (Ar.join [10] O) else none) := hid (Ar.NU (by rw [HXX.out]; exact HEQ.out))
   have HJ : Hid ((Ar.join [10] O).length ≤ 100000000) := hid (by
    have h1 := Ar.J9 [10] 2000 O (fun y hy => by
     rcases HBD.out y hy with hy | ⟨q, hq, hy⟩
     ·have := HSH.out y hy;have h2 := HSZ.out;omega
     ·exact Nat.le_trans hy (HX.out q hq))
    have h2 : O.length ≤ 4001 := by omega
    have h3 := Nat.mul_le_mul_right (2000 + [10].length) h2;simp only [List.length_singleton] at h1 h3
    omega)
   by_cases hL0 : L.length = 0
   ·have hL : L = [] := List.eq_nil_of_length_eq_zero hL0;have z1 : ((L.length : Int) == 0) = true := by rw [hL0]; rfl
    by_cases hO0 : O.length = 0
    ·have hO : O = [] := List.eq_nil_of_length_eq_zero hO0;have z2 : ((O.length : Int) == 0) = true := by rw [hO0]; rfl
     have HNN : Hid (Ar.apply a.data.toList d = none) := hid (by rw [HEND.out, if_neg (fun h => h.2 hO)]);clear hL hO;go_wp2_with fail
     go_ret2
     exact ⟨.inr ⟨HNN.out, rfl⟩, HFIN.out _ HPI.out.bel⟩
    ·have z2 : ((O.length : Int) == 0) = false := by rw [beq_eq_false_iff_ne]; omega
     have HNN : Hid (Ar.apply a.data.toList d = some (Ar.join [10] O)) := hid (by rw [HEND.out, if_pos ⟨hL, fun h => hO0 (by rw [h]; rfl)⟩]);clear hL;go_wp2_with fail;refine (Do wr (w.heap.size + 1) (.slice AO O.length capO) O ⟨#[10]⟩ HPI.out.own (by omega) HJ.out).mono ?_;rintro e w3 ⟨rfl, hb3⟩;have HB3 := hid (HPI.out.bel.trans (hb3.mono (by omega)));clear hb3;go_wp2_with fail
     go_ret2
     exact ⟨.inl ⟨_, HNN.out, rfl⟩, HFIN.out _ HB3.out⟩
   ·have z1 : ((L.length : Int) == 0) = false := by rw [beq_eq_false_iff_ne]; omega
    have HNN : Hid (Ar.apply a.data.toList d = none) := hid (by rw [HEND.out, if_neg (fun h => hL0 (by rw [h.1]; rfl))]);go_wp2_with fail
    go_ret2
    exact ⟨.inr ⟨HNN.out, rfl⟩, HFIN.out _ HPI.out.bel⟩
abbrev nilS : Value := .slice none 0 0
abbrev zRm : Array Value := #[.string ⟨#[]⟩, nilS, nilS, nilS, nilS, nilS, .int .i64 0, nilS, nilS]
theorem Ch.low {w w' : World} {g : Nat} {row : Option Nat} (h : Ch w w' g row) (hg : g ≤ w.heap.size) (hr : ∀ k, row = some k → g ≤ k) : Below g w w' := ⟨h.os, h.tape, h.output, h.size, fun k hk => h.block k (by omega) (by omega) (fun e => by have := hr k e.symm; omega)⟩
theorem Ao {P : Program} {fn : Func} {p u v : Tmp} {ty : TypeId} (h : fn.results = #[.cell p ty, .tmp u, .tmp v]) (tmps : Array Value) (w : World) (g : Nat) (t : TypeId) (cs : Array Value) (d : TypeDesc)
  (hp : tmps.getD p undef = .pointer (some ⟨g, 0, none⟩)) (hg : Blk w g t cs)
  (hu : P.underlying ty = some d) (hd : (match d with | .struct _ | .array _ _ => true | _ => false) = true) (hi : (P.info? ty).map (·.size) = some cs.size) :
  (results fn tmps).run P w = .ok (.tuple #[.agg cs, tmps.getD u undef, tmps.getD v undef]) w := by
 have hl := run_loadVar_row w g t ty cs (0, 0) d hg hu hd hi;have e : (results fn tmps).run P w = ((asAddr (tmps.getD p undef)).run P w).andThen fun a w₁ => ((loadVar ty a).run P w₁).andThen fun x w₂ => .ok (.tuple #[x, tmps.getD u undef, tmps.getD v undef]) w₂ := by
  simp only [results, h];simp [Sem.run_bind, Result.andThen]
 rw [e];simp only [hp, asAddr, Sem.run_pure, Result.andThen_ok];rw [hl];rfl
end Go.Proofs.YteadlcncnhbmjaaGreatDoor
