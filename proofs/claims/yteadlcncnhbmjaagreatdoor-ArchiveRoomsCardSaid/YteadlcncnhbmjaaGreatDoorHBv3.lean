/- The text Bv3. -/
import Derived.Test.YteadlcncnhbmjaaGreatDoorHBv1
import Derived.Test.YteadlcncnhbmjaaGreatDoorMda
set_option linter.unusedSimpArgs false
set_option maxHeartbeats 16000000
set_option maxRecDepth 100000
set_option linter.unusedVariables false
namespace Go.Proofs.YteadlcncnhbmjaaGreatDoor
open Go.RowKit Go.Lib
set_option linter.unusedVariables false
theorem xval_txt (s : List UInt8) : Ar.xval (.txt s) = if s = [] then [] else 61 :: Ar.quote s := by
 by_cases h : s = []
 ·subst h; rfl
 ·have e : Ar.FV.text (.txt s) = Ar.quote s := if_neg h
  rw [Ar.xval_other rfl, e, if_neg (Ar.quote_ne s), if_neg h]
theorem xval_flg (b : Bool) : Value.string (if b then ⟨#[32]⟩ else ⟨#[]⟩) = .string (bstr (Ar.xval (.flg b))) := by cases b <;> rfl
theorem value_oth (w : World) (x0 : Int) (x1 : ByteArray) (s1 : List UInt8) (h1 : Hid (x1 = bstr s1 ∧ s1.length ≤ 1000000)) (x2 : ByteArray) (s2 : List UInt8) (h2 : Hid (x2 = bstr s2 ∧ s2.length ≤ 1000000)) (x3 : Int) (x4 : Bool) (x5 : ByteArray) (s5 : List UInt8) (h5 : Hid (x5 = bstr s5 ∧ s5.length ≤ 1000000)) (x6 : Int) (x7 : Int) (A8 : Option Addr) (l8 : List Int) (c8 : Nat) (h8 : Hid (Rd w A8 l8.length (intL l8) ∧ (∀ x ∈ l8, Ar.inInt x) ∧ l8.length ≤ 1000000 ∧ (Ar.join [44] (l8.map Ar.itoa)).length ≤ 100000000)) (A9 : Option Addr) (l9 : List Int) (c9 : Nat) (h9 : Hid (Rd w A9 l9.length (intL l9) ∧ (∀ x ∈ l9, Ar.inInt x) ∧ l9.length ≤ 1000000 ∧ (Ar.join [44] (l9.map Ar.itoa)).length ≤ 100000000)) (x10 : ByteArray) (s10 : List UInt8) (h10 : Hid (x10 = bstr s10 ∧ s10.length ≤ 1000000)) (x11 : Int) (x12 : Int) (x13 : Bool) (x14 : ByteArray) (s14 : List UInt8) (h14 : Hid (x14 = bstr s14 ∧ s14.length ≤ 1000000)) (A15 : Option Addr) (l15 : List (List UInt8)) (c15 : Nat) (h15 : Hid (Rd w A15 l15.length (strL l15) ∧ (∀ x ∈ l15, x.length ≤ 1000000) ∧ l15.length ≤ 1000000 ∧ (Ar.join [44] (l15.map Ar.quote)).length ≤ 100000000)) (A16 : Option Addr) (l16 : List (List UInt8)) (c16 : Nat) (h16 : Hid (Rd w A16 l16.length (strL l16) ∧ (∀ x ∈ l16, x.length ≤ 1000000) ∧ l16.length ≤ 1000000 ∧ (Ar.join [44] (l16.map Ar.quote)).length ≤ 100000000)) (A17 : Option Addr) (l17 : List (List UInt8 × Int)) (c17 : Nat) (h17 : Hid (Rd w A17 (l17.length * 2) (usrL l17) ∧ (∀ x ∈ l17, x.1.length ≤ 1000000 ∧ Ar.inInt x.2) ∧ l17.length ≤ 1000000 ∧ (Ar.join [44] (l17.map Ar.usrT)).length ≤ 100000000)) (A18 : Option Addr) (l18 : List (Int × Int)) (c18 : Nat) (h18 : Hid (Rd w A18 (l18.length * 2) (kndL l18) ∧ (∀ x ∈ l18, Ar.inInt x.1 ∧ Ar.inInt x.2) ∧ l18.length ≤ 1000000 ∧ (Ar.join [44] (l18.map Ar.kndT)).length ≤ 100000000)) (x19 : Int) (x20 : Int) (x21 : Int) (x22 : Int) (x23 : Int) (x24 : Int) (x25 : Int) (x26 : Int) (x27 : ByteArray) (s27 : List UInt8) (h27 : Hid (x27 = bstr s27 ∧ s27.length ≤ 1000000)) (x28 : Int) (j : Int) (v : Ar.FV) (hij : (j = 1 ∧ v = .txt s1) ∨ (j = 2 ∧ v = .txt s2) ∨ (j = 4 ∧ v = .flg x4) ∨ (j = 5 ∧ v = .txt s5) ∨ (j = 8 ∧ v = .nums l8) ∨ (j = 9 ∧ v = .nums l9) ∨ (j = 10 ∧ v = .txt s10) ∨ (j = 13 ∧ v = .flg x13) ∨ (j = 14 ∧ v = .txt s14) ∨ (j = 15 ∧ v = .txts l15) ∨ (j = 16 ∧ v = .txts l16) ∨ (j = 17 ∧ v = .usrs l17) ∨ (j = 18 ∧ v = .knds l18) ∨ (j = 27 ∧ v = .txt s27)) : Calls Tryz.prog 52 #[.agg #[.int .i64 x0, .string x1, .string x2, .int .i64 x3, .bool x4, .string x5, .int .i64 x6, .int .i64 x7, .slice A8 l8.length c8, .slice A9 l9.length c9, .string x10, .int .i64 x11, .int .i64 x12, .bool x13, .string x14, .slice A15 l15.length c15, .slice A16 l16.length c16, .slice A17 l17.length c17, .slice A18 l18.length c18, .int .i64 x19, .int .i64 x20, .int .i64 x21, .int .i64 x22, .int .i64 x23, .int .i64 x24, .int .i64 x25, .int .i64 x26, .string x27, .int .i64 x28], .int .i64 j] w fun e w' => e = .returned (.string (bstr (Ar.xval v))) ∧ Below w.heap.size w w' := by
 have hB0 := (Below.refl w.heap.size w).alloc (Nat.le_refl _) (.cells #[.int .i64 x0, .string x1, .string x2, .int .i64 x3, .bool x4, .string x5, .int .i64 x6, .int .i64 x7, .slice A8 l8.length c8, .slice A9 l9.length c9, .string x10, .int .i64 x11, .int .i64 x12, .bool x13, .string x14, .slice A15 l15.length c15, .slice A16 l16.length c16, .slice A17 l17.length c17, .slice A18 l18.length c18, .int .i64 x19, .int .i64 x20, .int .i64 x21, .int .i64 x22, .int .i64 x23, .int .i64 x24, .int .i64 x25, .int .i64 x26, .string x27, .int .i64 x28] 40)
 have hk := Blk.new w 40 #[.int .i64 x0, .string x1, .string x2, .int .i64 x3, .bool x4, .string x5, .int .i64 x6, .int .i64 x7, .slice A8 l8.length c8, .slice A9 l9.length c9, .string x10, .int .i64 x11, .int .i64 x12, .bool x13, .string x14, .slice A15 l15.length c15, .slice A16 l16.length c16, .slice A17 l17.length c17, .slice A18 l18.length c18, .int .i64 x19, .int .i64 x20, .int .i64 x21, .int .i64 x22, .int .i64 x23, .int .i64 x24, .int .i64 x25, .int .i64 x26, .string x27, .int .i64 x28]
 generalize hw1 : w.alloc (.cells #[.int .i64 x0, .string x1, .string x2, .int .i64 x3, .bool x4, .string x5, .int .i64 x6, .int .i64 x7, .slice A8 l8.length c8, .slice A9 l9.length c9, .string x10, .int .i64 x11, .int .i64 x12, .bool x13, .string x14, .slice A15 l15.length c15, .slice A16 l16.length c16, .slice A17 l17.length c17, .slice A18 l18.length c18, .int .i64 x19, .int .i64 x20, .int .i64 x21, .int .i64 x22, .int .i64 x23, .int .i64 x24, .int .i64 x25, .int .i64 x26, .string x27, .int .i64 x28] 40) = w1 at *
 have hBr := Below.refl w1.heap.size w1
 have hlt0 := hk.lt
 have hL10 : ∀ W, Below w1.heap.size w1 W → W.cell? ⟨w.heap.size, 10, none⟩ = some (.string x10) := fun W h => (h.cell (p := ⟨w.heap.size, 10, none⟩) hlt0).trans (hk.cell 10)
 have hL11 : ∀ W, Below w1.heap.size w1 W → W.cell? ⟨w.heap.size, 11, none⟩ = some (.int .i64 x11) := fun W h => (h.cell (p := ⟨w.heap.size, 11, none⟩) hlt0).trans (hk.cell 11)
 have hL12 : ∀ W, Below w1.heap.size w1 W → W.cell? ⟨w.heap.size, 12, none⟩ = some (.int .i64 x12) := fun W h => (h.cell (p := ⟨w.heap.size, 12, none⟩) hlt0).trans (hk.cell 12)
 have hL13 : ∀ W, Below w1.heap.size w1 W → W.cell? ⟨w.heap.size, 13, none⟩ = some (.bool x13) := fun W h => (h.cell (p := ⟨w.heap.size, 13, none⟩) hlt0).trans (hk.cell 13)
 have hL14 : ∀ W, Below w1.heap.size w1 W → W.cell? ⟨w.heap.size, 14, none⟩ = some (.string x14) := fun W h => (h.cell (p := ⟨w.heap.size, 14, none⟩) hlt0).trans (hk.cell 14)
 have hL15 : ∀ W, Below w1.heap.size w1 W → W.cell? ⟨w.heap.size, 15, none⟩ = some (.slice A15 l15.length c15) := fun W h => (h.cell (p := ⟨w.heap.size, 15, none⟩) hlt0).trans (hk.cell 15)
 have hL16 : ∀ W, Below w1.heap.size w1 W → W.cell? ⟨w.heap.size, 16, none⟩ = some (.slice A16 l16.length c16) := fun W h => (h.cell (p := ⟨w.heap.size, 16, none⟩) hlt0).trans (hk.cell 16)
 have hL17 : ∀ W, Below w1.heap.size w1 W → W.cell? ⟨w.heap.size, 17, none⟩ = some (.slice A17 l17.length c17) := fun W h => (h.cell (p := ⟨w.heap.size, 17, none⟩) hlt0).trans (hk.cell 17)
 have hL18 : ∀ W, Below w1.heap.size w1 W → W.cell? ⟨w.heap.size, 18, none⟩ = some (.slice A18 l18.length c18) := fun W h => (h.cell (p := ⟨w.heap.size, 18, none⟩) hlt0).trans (hk.cell 18)
 have hL19 : ∀ W, Below w1.heap.size w1 W → W.cell? ⟨w.heap.size, 19, none⟩ = some (.int .i64 x19) := fun W h => (h.cell (p := ⟨w.heap.size, 19, none⟩) hlt0).trans (hk.cell 19)
 have hL20 : ∀ W, Below w1.heap.size w1 W → W.cell? ⟨w.heap.size, 20, none⟩ = some (.int .i64 x20) := fun W h => (h.cell (p := ⟨w.heap.size, 20, none⟩) hlt0).trans (hk.cell 20)
 have hL21 : ∀ W, Below w1.heap.size w1 W → W.cell? ⟨w.heap.size, 21, none⟩ = some (.int .i64 x21) := fun W h => (h.cell (p := ⟨w.heap.size, 21, none⟩) hlt0).trans (hk.cell 21)
 have hL22 : ∀ W, Below w1.heap.size w1 W → W.cell? ⟨w.heap.size, 22, none⟩ = some (.int .i64 x22) := fun W h => (h.cell (p := ⟨w.heap.size, 22, none⟩) hlt0).trans (hk.cell 22)
 have hL23 : ∀ W, Below w1.heap.size w1 W → W.cell? ⟨w.heap.size, 23, none⟩ = some (.int .i64 x23) := fun W h => (h.cell (p := ⟨w.heap.size, 23, none⟩) hlt0).trans (hk.cell 23)
 have hL24 : ∀ W, Below w1.heap.size w1 W → W.cell? ⟨w.heap.size, 24, none⟩ = some (.int .i64 x24) := fun W h => (h.cell (p := ⟨w.heap.size, 24, none⟩) hlt0).trans (hk.cell 24)
 have hL25 : ∀ W, Below w1.heap.size w1 W → W.cell? ⟨w.heap.size, 25, none⟩ = some (.int .i64 x25) := fun W h => (h.cell (p := ⟨w.heap.size, 25, none⟩) hlt0).trans (hk.cell 25)
 have HB0 := hid hB0
 have HK := hid hk
 clear hB0 hk hlt0
 go_enter Tryz.func52, Tryz.ntmps52
 go_wp2_with fail
 go_cut [5, 6] from 8 to 12 (fun pa pb wx => ∃ g5 g6 : Nat, pa = .pointer (some ⟨g5, 0, none⟩) ∧ pb = .pointer (some ⟨g6, 0, none⟩) ∧ Blk wx g5 36 #[.string x10, .int .i64 x11, .int .i64 x12, .bool x13, .string x14, .slice A15 l15.length c15, .slice A16 l16.length c16, .slice A17 l17.length c17, .slice A18 l18.length c18, .int .i64 x19, .int .i64 x20, .int .i64 x21, .int .i64 x22, .int .i64 x23, .int .i64 x24, .int .i64 x25] ∧ Blk wx g6 34 #[.slice A17 l17.length c17, .slice A18 l18.length c18, .int .i64 x19, .int .i64 x20, .int .i64 x21, .int .i64 x22, .int .i64 x23, .int .i64 x24, .int .i64 x25] ∧ Below w1.heap.size w1 wx)
 case first =>
  go_region_held3 (fun W => Below w1.heap.size w1 W) (with_reducible (repeat (first | exact hBr | refine below_d1 ?_ | refine below_a1 ?_ _))) (fail)
  all_goals
   go_wp2_with fail
   go_meet
   first
    | exact ⟨_, _, rfl, rfl, blk_d1 (blk_a1 (blk_n0 _ _ _) _), blk_d1 (blk_n1 _ _ _ _), below_d1 (below_a1 (below_a1 hBr _) _)⟩
    | exact ⟨_, _, rfl, rfl, blk_d1 (blk_n1 _ _ _ _), blk_d1 (blk_a1 (blk_n0 _ _ _) _), below_d1 (below_a1 (below_a1 hBr _) _)⟩
 case rest =>
  obtain ⟨g5, g6, rfl, rfl, hC, hV, hbx⟩ := hcut
  have HC := hid hC
  have HV := hid hV
  have HE : Hid (Blk wc w.heap.size 40 #[.int .i64 x0, .string x1, .string x2, .int .i64 x3, .bool x4, .string x5, .int .i64 x6, .int .i64 x7, .slice A8 l8.length c8, .slice A9 l9.length c9, .string x10, .int .i64 x11, .int .i64 x12, .bool x13, .string x14, .slice A15 l15.length c15, .slice A16 l16.length c16, .slice A17 l17.length c17, .slice A18 l18.length c18, .int .i64 x19, .int .i64 x20, .int .i64 x21, .int .i64 x22, .int .i64 x23, .int .i64 x24, .int .i64 x25, .int .i64 x26, .string x27, .int .i64 x28]) := hid (HK.out.below hbx HK.out.lt)
  have HBX : Hid (Below w.heap.size w wc) := hid (HB0.out.trans (hbx.mono HB0.out.size))
  clear hL10 hL11 hL12 hL13 hL14 hL15 hL16 hL17 hL18 hL19 hL20 hL21 hL22 hL23 hL24 hL25 hC hV hbx
  rcases hij with ⟨rfl, rfl⟩ | ⟨rfl, rfl⟩ | ⟨rfl, rfl⟩ | ⟨rfl, rfl⟩ | ⟨rfl, rfl⟩ | ⟨rfl, rfl⟩ | ⟨rfl, rfl⟩ | ⟨rfl, rfl⟩ | ⟨rfl, rfl⟩ | ⟨rfl, rfl⟩ | ⟨rfl, rfl⟩ | ⟨rfl, rfl⟩ | ⟨rfl, rfl⟩ | ⟨rfl, rfl⟩
  ·have hc : wc.cell? ⟨w.heap.size, 1, none⟩ = some (.string x1) := HE.out.cell 1
   have HT := hid (fun W => rtextf_any s1 W h1.out.2)
   rw [← h1.out.1] at HT
   have HX := hid (xval_txt s1)
   have HZ : Hid (Value.string (bstr (if s1 = [] then [] else 61 :: Ar.quote s1)) = .string (bstr (Ar.xval (.txt s1)))) := hid (by rw [HX.out])
   generalize bstr (if s1 = [] then [] else 61 :: Ar.quote s1) = T at *
   go_wp2_with fail
   refine (HT.out _).mono ?_
   rintro e w2 ⟨rfl, hb2⟩
   have HB2 := hid (HBX.out.trans (hb2.mono HBX.out.size))
   clear hb2
   go_wp2_with fail
   go_ret
   exact ⟨congrArg Ending.returned HZ.out, HB2.out⟩
  ·have hc : wc.cell? ⟨w.heap.size, 2, none⟩ = some (.string x2) := HE.out.cell 2
   have HT := hid (fun W => rtextf_any s2 W h2.out.2)
   rw [← h2.out.1] at HT
   have HX := hid (xval_txt s2)
   have HZ : Hid (Value.string (bstr (if s2 = [] then [] else 61 :: Ar.quote s2)) = .string (bstr (Ar.xval (.txt s2)))) := hid (by rw [HX.out])
   generalize bstr (if s2 = [] then [] else 61 :: Ar.quote s2) = T at *
   go_wp2_with fail
   refine (HT.out _).mono ?_
   rintro e w2 ⟨rfl, hb2⟩
   have HB2 := hid (HBX.out.trans (hb2.mono HBX.out.size))
   clear hb2
   go_wp2_with fail
   go_ret
   exact ⟨congrArg Ending.returned HZ.out, HB2.out⟩
  ·have hc : wc.cell? ⟨w.heap.size, 4, none⟩ = some (.bool x4) := HE.out.cell 4
   have HT := hid (fun W => rtruth_any x4 W)
   have HX := hid (xval_flg x4)
   generalize (if x4 then (⟨#[32]⟩ : ByteArray) else ⟨#[]⟩) = T at *
   go_wp2_with fail
   refine (HT.out _).mono ?_
   rintro e w2 ⟨rfl, rfl⟩
   go_wp2_with fail
   go_ret
   exact ⟨congrArg Ending.returned HX.out, HBX.out⟩
  ·have hc : wc.cell? ⟨w.heap.size, 5, none⟩ = some (.string x5) := HE.out.cell 5
   have HT := hid (fun W => rtextf_any s5 W h5.out.2)
   rw [← h5.out.1] at HT
   have HX := hid (xval_txt s5)
   have HZ : Hid (Value.string (bstr (if s5 = [] then [] else 61 :: Ar.quote s5)) = .string (bstr (Ar.xval (.txt s5)))) := hid (by rw [HX.out])
   generalize bstr (if s5 = [] then [] else 61 :: Ar.quote s5) = T at *
   go_wp2_with fail
   refine (HT.out _).mono ?_
   rintro e w2 ⟨rfl, hb2⟩
   have HB2 := hid (HBX.out.trans (hb2.mono HBX.out.size))
   clear hb2
   go_wp2_with fail
   go_ret
   exact ⟨congrArg Ending.returned HZ.out, HB2.out⟩
  ·have hc : wc.cell? ⟨w.heap.size, 8, none⟩ = some (.slice A8 l8.length c8) := HE.out.cell 8
   have HT := hid (rints_any A8 c8 l8 wc (h8.out.1.below HBX.out) h8.out.2.1 h8.out.2.2.1 h8.out.2.2.2)
   have HU := hid (fun W => rlist_any (Ar.join [44] (l8.map Ar.itoa)) W h8.out.2.2.2)
   have HX : Hid (Value.string (bstr (sgnT (Ar.join [44] (l8.map Ar.itoa)))) = .string (bstr (Ar.xval (.nums l8)))) := hid rfl
   generalize bstr (sgnT (Ar.join [44] (l8.map Ar.itoa))) = U at *
   generalize bstr (Ar.join [44] (l8.map Ar.itoa)) = T at *
   go_wp2_with fail
   refine HT.out.mono ?_
   rintro e w2 ⟨rfl, hb2⟩
   have HB2 := hid (HBX.out.trans (hb2.mono HBX.out.size))
   clear hb2
   go_wp2_with fail
   refine (HU.out _).mono ?_
   rintro e w3 ⟨rfl, rfl⟩
   go_wp2_with fail
   go_ret
   exact ⟨congrArg Ending.returned HX.out, HB2.out⟩
  ·have hc : wc.cell? ⟨w.heap.size, 9, none⟩ = some (.slice A9 l9.length c9) := HE.out.cell 9
   have HT := hid (rints_any A9 c9 l9 wc (h9.out.1.below HBX.out) h9.out.2.1 h9.out.2.2.1 h9.out.2.2.2)
   have HU := hid (fun W => rlist_any (Ar.join [44] (l9.map Ar.itoa)) W h9.out.2.2.2)
   have HX : Hid (Value.string (bstr (sgnT (Ar.join [44] (l9.map Ar.itoa)))) = .string (bstr (Ar.xval (.nums l9)))) := hid rfl
   generalize bstr (sgnT (Ar.join [44] (l9.map Ar.itoa))) = U at *
   generalize bstr (Ar.join [44] (l9.map Ar.itoa)) = T at *
   go_wp2_with fail
   refine HT.out.mono ?_
   rintro e w2 ⟨rfl, hb2⟩
   have HB2 := hid (HBX.out.trans (hb2.mono HBX.out.size))
   clear hb2
   go_wp2_with fail
   refine (HU.out _).mono ?_
   rintro e w3 ⟨rfl, rfl⟩
   go_wp2_with fail
   go_ret
   exact ⟨congrArg Ending.returned HX.out, HB2.out⟩
  ·have hc : wc.cell? ⟨g5, 0, none⟩ = some (.string x10) := HC.out.cell 0
   have HT := hid (fun W => rtextf_any s10 W h10.out.2)
   rw [← h10.out.1] at HT
   have HX := hid (xval_txt s10)
   have HZ : Hid (Value.string (bstr (if s10 = [] then [] else 61 :: Ar.quote s10)) = .string (bstr (Ar.xval (.txt s10)))) := hid (by rw [HX.out])
   generalize bstr (if s10 = [] then [] else 61 :: Ar.quote s10) = T at *
   go_wp2_with fail
   refine (HT.out _).mono ?_
   rintro e w2 ⟨rfl, hb2⟩
   have HB2 := hid (HBX.out.trans (hb2.mono HBX.out.size))
   clear hb2
   go_wp2_with fail
   go_ret
   exact ⟨congrArg Ending.returned HZ.out, HB2.out⟩
  ·have hc : wc.cell? ⟨g5, 3, none⟩ = some (.bool x13) := HC.out.cell 3
   have HT := hid (fun W => rtruth_any x13 W)
   have HX := hid (xval_flg x13)
   generalize (if x13 then (⟨#[32]⟩ : ByteArray) else ⟨#[]⟩) = T at *
   go_wp2_with fail
   refine (HT.out _).mono ?_
   rintro e w2 ⟨rfl, rfl⟩
   go_wp2_with fail
   go_ret
   exact ⟨congrArg Ending.returned HX.out, HBX.out⟩
  ·have hc : wc.cell? ⟨g5, 4, none⟩ = some (.string x14) := HC.out.cell 4
   have HT := hid (fun W => rtextf_any s14 W h14.out.2)
   rw [← h14.out.1] at HT
   have HX := hid (xval_txt s14)
   have HZ : Hid (Value.string (bstr (if s14 = [] then [] else 61 :: Ar.quote s14)) = .string (bstr (Ar.xval (.txt s14)))) := hid (by rw [HX.out])
   generalize bstr (if s14 = [] then [] else 61 :: Ar.quote s14) = T at *
   go_wp2_with fail
   refine (HT.out _).mono ?_
   rintro e w2 ⟨rfl, hb2⟩
   have HB2 := hid (HBX.out.trans (hb2.mono HBX.out.size))
   clear hb2
   go_wp2_with fail
   go_ret
   exact ⟨congrArg Ending.returned HZ.out, HB2.out⟩
  ·have hc : wc.cell? ⟨g5, 5, none⟩ = some (.slice A15 l15.length c15) := HC.out.cell 5
   have HT := hid (rtexts_any A15 c15 l15 wc (h15.out.1.below HBX.out) h15.out.2.1 h15.out.2.2.1 h15.out.2.2.2)
   have HU := hid (fun W => rlist_any (Ar.join [44] (l15.map Ar.quote)) W h15.out.2.2.2)
   have HX : Hid (Value.string (bstr (sgnT (Ar.join [44] (l15.map Ar.quote)))) = .string (bstr (Ar.xval (.txts l15)))) := hid rfl
   generalize bstr (sgnT (Ar.join [44] (l15.map Ar.quote))) = U at *
   generalize bstr (Ar.join [44] (l15.map Ar.quote)) = T at *
   go_wp2_with fail
   refine HT.out.mono ?_
   rintro e w2 ⟨rfl, hb2⟩
   have HB2 := hid (HBX.out.trans (hb2.mono HBX.out.size))
   clear hb2
   go_wp2_with fail
   refine (HU.out _).mono ?_
   rintro e w3 ⟨rfl, rfl⟩
   go_wp2_with fail
   go_ret
   exact ⟨congrArg Ending.returned HX.out, HB2.out⟩
  ·have hc : wc.cell? ⟨g5, 6, none⟩ = some (.slice A16 l16.length c16) := HC.out.cell 6
   have HT := hid (rtexts_any A16 c16 l16 wc (h16.out.1.below HBX.out) h16.out.2.1 h16.out.2.2.1 h16.out.2.2.2)
   have HU := hid (fun W => rlist_any (Ar.join [44] (l16.map Ar.quote)) W h16.out.2.2.2)
   have HX : Hid (Value.string (bstr (sgnT (Ar.join [44] (l16.map Ar.quote)))) = .string (bstr (Ar.xval (.txts l16)))) := hid rfl
   generalize bstr (sgnT (Ar.join [44] (l16.map Ar.quote))) = U at *
   generalize bstr (Ar.join [44] (l16.map Ar.quote)) = T at *
   go_wp2_with fail
   refine HT.out.mono ?_
   rintro e w2 ⟨rfl, hb2⟩
   have HB2 := hid (HBX.out.trans (hb2.mono HBX.out.size))
   clear hb2
   go_wp2_with fail
   refine (HU.out _).mono ?_
   rintro e w3 ⟨rfl, rfl⟩
   go_wp2_with fail
   go_ret
   exact ⟨congrArg Ending.returned HX.out, HB2.out⟩
  ·have hc : wc.cell? ⟨g6, 0, none⟩ = some (.slice A17 l17.length c17) := HV.out.cell 0
   have HT := hid (rusers_any A17 c17 l17 wc (h17.out.1.below HBX.out) h17.out.2.1 h17.out.2.2.1 h17.out.2.2.2)
   have HU := hid (fun W => rlist_any (Ar.join [44] (l17.map Ar.usrT)) W h17.out.2.2.2)
   have HX : Hid (Value.string (bstr (sgnT (Ar.join [44] (l17.map Ar.usrT)))) = .string (bstr (Ar.xval (.usrs l17)))) := hid rfl
   generalize bstr (sgnT (Ar.join [44] (l17.map Ar.usrT))) = U at *
   generalize bstr (Ar.join [44] (l17.map Ar.usrT)) = T at *
   go_wp2_with fail
   refine HT.out.mono ?_
   rintro e w2 ⟨rfl, hb2⟩
   have HB2 := hid (HBX.out.trans (hb2.mono HBX.out.size))
   clear hb2
   go_wp2_with fail
   refine (HU.out _).mono ?_
   rintro e w3 ⟨rfl, rfl⟩
   go_wp2_with fail
   go_ret
   exact ⟨congrArg Ending.returned HX.out, HB2.out⟩
  ·have hc : wc.cell? ⟨g6, 1, none⟩ = some (.slice A18 l18.length c18) := HV.out.cell 1
   have HT := hid (rkinds_any A18 c18 l18 wc (h18.out.1.below HBX.out) h18.out.2.1 h18.out.2.2.1 h18.out.2.2.2)
   have HU := hid (fun W => rlist_any (Ar.join [44] (l18.map Ar.kndT)) W h18.out.2.2.2)
   have HX : Hid (Value.string (bstr (sgnT (Ar.join [44] (l18.map Ar.kndT)))) = .string (bstr (Ar.xval (.knds l18)))) := hid rfl
   generalize bstr (sgnT (Ar.join [44] (l18.map Ar.kndT))) = U at *
   generalize bstr (Ar.join [44] (l18.map Ar.kndT)) = T at *
   go_wp2_with fail
   refine HT.out.mono ?_
   rintro e w2 ⟨rfl, hb2⟩
   have HB2 := hid (HBX.out.trans (hb2.mono HBX.out.size))
   clear hb2
   go_wp2_with fail
   refine (HU.out _).mono ?_
   rintro e w3 ⟨rfl, rfl⟩
   go_wp2_with fail
   go_ret
   exact ⟨congrArg Ending.returned HX.out, HB2.out⟩
  ·have hc : wc.cell? ⟨w.heap.size, 27, none⟩ = some (.string x27) := HE.out.cell 27
   have HT := hid (fun W => rtextf_any s27 W h27.out.2)
   rw [← h27.out.1] at HT
   have HX := hid (xval_txt s27)
   have HZ : Hid (Value.string (bstr (if s27 = [] then [] else 61 :: Ar.quote s27)) = .string (bstr (Ar.xval (.txt s27)))) := hid (by rw [HX.out])
   generalize bstr (if s27 = [] then [] else 61 :: Ar.quote s27) = T at *
   go_wp2_with fail
   refine (HT.out _).mono ?_
   rintro e w2 ⟨rfl, hb2⟩
   have HB2 := hid (HBX.out.trans (hb2.mono HBX.out.size))
   clear hb2
   go_wp2_with fail
   go_ret
   exact ⟨congrArg Ending.returned HZ.out, HB2.out⟩
end Go.Proofs.YteadlcncnhbmjaaGreatDoor
