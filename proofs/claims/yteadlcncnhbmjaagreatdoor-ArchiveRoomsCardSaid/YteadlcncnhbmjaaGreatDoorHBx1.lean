/- The text Bx1. -/
import Derived.Test.YteadlcncnhbmjaaGreatDoorMam
import Derived.Test.YteadlcncnhbmjaaGreatDoorMaj
import Derived.Deep.MidRow
set_option linter.unusedSimpArgs false
set_option maxHeartbeats 16000000
set_option maxRecDepth 100000
set_option linter.unusedVariables false
namespace Go.Proofs.YteadlcncnhbmjaaGreatDoor
open Go.RowKit Go.Lib
set_option linter.unusedVariables false
set_option linter.unusedSimpArgs false
def LongA (n8 n9 : Nat) (e : Ending) : Prop := ∃ b, e = .returned (.bool b) ∧ (b = false → n8 ≤ 40 ∧ n9 ≤ 40)
structure EvX (w : World) (X : Array Value) (CL : List Value) (x1 x2 x5 x27 x10 x14 : ByteArray) (A8 A9 A15 A16 A17 A18 : Option Addr) (l8 l9 : List Int) (l15 l16 : List (List UInt8)) (l17 : List (List UInt8 × Int)) (l18 : List (Int × Int)) (c8 c9 c15 c16 c17 c18 : Nat) : Prop where
 size : X.size = 29
 len : CL.length = 16
 one : CL.toArray.all (·.oneCell') = true
 sub : ∀ j v, CL[j]? = some v → X[10 + j]? = some v
 f1 : X[1]? = some (.string x1)
 f2 : X[2]? = some (.string x2)
 f5 : X[5]? = some (.string x5)
 f8 : X[8]? = some (.slice A8 l8.length c8)
 f9 : X[9]? = some (.slice A9 l9.length c9)
 f27 : X[27]? = some (.string x27)
 g0 : CL[0]? = some (.string x10)
 g4 : CL[4]? = some (.string x14)
 g5 : CL[5]? = some (.slice A15 l15.length c15)
 g6 : CL[6]? = some (.slice A16 l16.length c16)
 g7 : CL[7]? = some (.slice A17 l17.length c17)
 g8 : CL[8]? = some (.slice A18 l18.length c18)
 r15 : Rd w A15 l15.length (strL l15)
 r16 : Rd w A16 l16.length (strL l16)
 r17 : Rd w A17 (l17.length * 2) (usrL l17)
theorem long_any (X : Array Value) (CL : List Value) (x1 x2 x5 x27 x10 x14 : ByteArray) (A8 A9 A15 A16 A17 A18 : Option Addr) (l8 l9 : List Int) (l15 l16 : List (List UInt8)) (l17 : List (List UInt8 × Int)) (l18 : List (Int × Int)) (c8 c9 c15 c16 c17 c18 : Nat) (w : World) (h : EvX w X CL x1 x2 x5 x27 x10 x14 A8 A9 A15 A16 A17 A18 l8 l9 l15 l16 l17 l18 c8 c9 c15 c16 c17 c18) : Calls Tryz.prog 46 #[.agg X] w fun e w' => LongA l8.length l9.length e ∧ Below w.heap.size w w' := by
 have hB0 := (Below.refl w.heap.size w).alloc (Nat.le_refl _) (.cells X 40)
 have HB0 := hid hB0
 have HK0 := hid (Blk.new w 40 X)
 have HS0 : Hid ((Tryz.prog.info? 40).map (·.size) = some X.size) := hid (by rw [size_event, h.size])
 have HX := hid h
 clear h hB0
 generalize hw1 : w.alloc (.cells X 40) = w1 at *
 have HRG : Hid (w1.rangeAt w.heap.size 10 CL) := hid (fun j v hj => (HK0.out.cell (10 + j)).trans (HX.out.sub j v hj))
 have HSC : Hid ((Tryz.prog.info? 36).map (·.size) = some CL.length) := hid (by rw [HX.out.len]; kernel_rfl)
 have HSD : Hid ((Tryz.prog.info? 36).map (·.size) = some CL.toArray.size) := hid (by rw [List.size_toArray]; exact HSC.out)
 have HOC := hid HX.out.one
 have HZC : Hid (16 = CL.toArray.size) := hid (by rw [List.size_toArray, HX.out.len])
 by_cases c0 : 40 < l8.length
 ·have d0 : decide ((40 : Int) < (l8.length : Int)) = true := decide_eq_true (by omega)
  go_enter Tryz.func46, Tryz.ntmps46
  go_wp2_with (first
   | (refine load_row_w (by rfl) 40 _ rfl w.heap.size rfl 40 X (0, 0) _ (by rfl) HK4.out Tryz.underlying40 HS0.out ?_)
   | (refine wpList_load_row rfl 40 _ rfl w.heap.size rfl 40 X (0, 0) _ HK4.out Tryz.underlying40 rfl HS0.out ?_)
   | ((with_reducible refine wpList_load_mid rfl 36 _ rfl w.heap.size 10 ?_ CL _ HRG.out Tryz.underlying36 ?_ HSC.out ?_); rfl; rfl)
   | ((with_reducible refine wpList_store_row' rfl 36 _ _ rfl w1.heap.size CL.toArray ?_ ?_ 36 _ (Blk.new w1 36 _) HSD.out ?_ HOC.out ?_); rfl; rfl; exact HZC.out; intro w4 hk4 hs4 hbl4; have hz4 := ((Below.refl w1.heap.size w1).alloc (Nat.le_refl _) _).trans (hbl4 w1.heap.size (Nat.le_refl _)); have HB4 := hid (HB0.out.trans (hz4.mono HB0.out.size)); have HK4 := hid (HK0.out.below hz4 HK0.out.lt); have HC4 := hid hk4; clear hk4 hs4 hbl4 hz4; have f1 := (HK4.out.cell 1).trans HX.out.f1; have f2 := (HK4.out.cell 2).trans HX.out.f2; have f5 := (HK4.out.cell 5).trans HX.out.f5; have f8 := (HK4.out.cell 8).trans HX.out.f8; have f9 := (HK4.out.cell 9).trans HX.out.f9; have f27 := (HK4.out.cell 27).trans HX.out.f27; have g0 := (HC4.out.cell 0).trans (List.getElem?_toArray.trans HX.out.g0); have g4 := (HC4.out.cell 4).trans (List.getElem?_toArray.trans HX.out.g4); have g5 := (HC4.out.cell 5).trans (List.getElem?_toArray.trans HX.out.g5); have g6 := (HC4.out.cell 6).trans (List.getElem?_toArray.trans HX.out.g6); have g7 := (HC4.out.cell 7).trans (List.getElem?_toArray.trans HX.out.g7); have g8 := (HC4.out.cell 8).trans (List.getElem?_toArray.trans HX.out.g8)))
  go_ret
  exact ⟨⟨true, rfl, fun h => by cases h⟩, HB4.out⟩
 have d0 : decide ((40 : Int) < (l8.length : Int)) = false := decide_eq_false (by omega)
 by_cases c1 : 40 < l9.length
 ·have d1 : decide ((40 : Int) < (l9.length : Int)) = true := decide_eq_true (by omega)
  go_enter Tryz.func46, Tryz.ntmps46
  go_wp2_with (first
   | (refine load_row_w (by rfl) 40 _ rfl w.heap.size rfl 40 X (0, 0) _ (by rfl) HK4.out Tryz.underlying40 HS0.out ?_)
   | (refine wpList_load_row rfl 40 _ rfl w.heap.size rfl 40 X (0, 0) _ HK4.out Tryz.underlying40 rfl HS0.out ?_)
   | ((with_reducible refine wpList_load_mid rfl 36 _ rfl w.heap.size 10 ?_ CL _ HRG.out Tryz.underlying36 ?_ HSC.out ?_); rfl; rfl)
   | ((with_reducible refine wpList_store_row' rfl 36 _ _ rfl w1.heap.size CL.toArray ?_ ?_ 36 _ (Blk.new w1 36 _) HSD.out ?_ HOC.out ?_); rfl; rfl; exact HZC.out; intro w4 hk4 hs4 hbl4; have hz4 := ((Below.refl w1.heap.size w1).alloc (Nat.le_refl _) _).trans (hbl4 w1.heap.size (Nat.le_refl _)); have HB4 := hid (HB0.out.trans (hz4.mono HB0.out.size)); have HK4 := hid (HK0.out.below hz4 HK0.out.lt); have HC4 := hid hk4; clear hk4 hs4 hbl4 hz4; have f1 := (HK4.out.cell 1).trans HX.out.f1; have f2 := (HK4.out.cell 2).trans HX.out.f2; have f5 := (HK4.out.cell 5).trans HX.out.f5; have f8 := (HK4.out.cell 8).trans HX.out.f8; have f9 := (HK4.out.cell 9).trans HX.out.f9; have f27 := (HK4.out.cell 27).trans HX.out.f27; have g0 := (HC4.out.cell 0).trans (List.getElem?_toArray.trans HX.out.g0); have g4 := (HC4.out.cell 4).trans (List.getElem?_toArray.trans HX.out.g4); have g5 := (HC4.out.cell 5).trans (List.getElem?_toArray.trans HX.out.g5); have g6 := (HC4.out.cell 6).trans (List.getElem?_toArray.trans HX.out.g6); have g7 := (HC4.out.cell 7).trans (List.getElem?_toArray.trans HX.out.g7); have g8 := (HC4.out.cell 8).trans (List.getElem?_toArray.trans HX.out.g8)))
  go_ret
  exact ⟨⟨true, rfl, fun h => by cases h⟩, HB4.out⟩
 have d1 : decide ((40 : Int) < (l9.length : Int)) = false := decide_eq_false (by omega)
 by_cases c2 : 40 < l15.length
 ·have d2 : decide ((40 : Int) < (l15.length : Int)) = true := decide_eq_true (by omega)
  go_enter Tryz.func46, Tryz.ntmps46
  go_wp2_with (first
   | (refine load_row_w (by rfl) 40 _ rfl w.heap.size rfl 40 X (0, 0) _ (by rfl) HK4.out Tryz.underlying40 HS0.out ?_)
   | (refine wpList_load_row rfl 40 _ rfl w.heap.size rfl 40 X (0, 0) _ HK4.out Tryz.underlying40 rfl HS0.out ?_)
   | ((with_reducible refine wpList_load_mid rfl 36 _ rfl w.heap.size 10 ?_ CL _ HRG.out Tryz.underlying36 ?_ HSC.out ?_); rfl; rfl)
   | ((with_reducible refine wpList_store_row' rfl 36 _ _ rfl w1.heap.size CL.toArray ?_ ?_ 36 _ (Blk.new w1 36 _) HSD.out ?_ HOC.out ?_); rfl; rfl; exact HZC.out; intro w4 hk4 hs4 hbl4; have hz4 := ((Below.refl w1.heap.size w1).alloc (Nat.le_refl _) _).trans (hbl4 w1.heap.size (Nat.le_refl _)); have HB4 := hid (HB0.out.trans (hz4.mono HB0.out.size)); have HK4 := hid (HK0.out.below hz4 HK0.out.lt); have HC4 := hid hk4; clear hk4 hs4 hbl4 hz4; have f1 := (HK4.out.cell 1).trans HX.out.f1; have f2 := (HK4.out.cell 2).trans HX.out.f2; have f5 := (HK4.out.cell 5).trans HX.out.f5; have f8 := (HK4.out.cell 8).trans HX.out.f8; have f9 := (HK4.out.cell 9).trans HX.out.f9; have f27 := (HK4.out.cell 27).trans HX.out.f27; have g0 := (HC4.out.cell 0).trans (List.getElem?_toArray.trans HX.out.g0); have g4 := (HC4.out.cell 4).trans (List.getElem?_toArray.trans HX.out.g4); have g5 := (HC4.out.cell 5).trans (List.getElem?_toArray.trans HX.out.g5); have g6 := (HC4.out.cell 6).trans (List.getElem?_toArray.trans HX.out.g6); have g7 := (HC4.out.cell 7).trans (List.getElem?_toArray.trans HX.out.g7); have g8 := (HC4.out.cell 8).trans (List.getElem?_toArray.trans HX.out.g8)))
  go_ret
  exact ⟨⟨true, rfl, fun h => by cases h⟩, HB4.out⟩
 have d2 : decide ((40 : Int) < (l15.length : Int)) = false := decide_eq_false (by omega)
 by_cases c3 : 40 < l16.length
 ·have d3 : decide ((40 : Int) < (l16.length : Int)) = true := decide_eq_true (by omega)
  go_enter Tryz.func46, Tryz.ntmps46
  go_wp2_with (first
   | (refine load_row_w (by rfl) 40 _ rfl w.heap.size rfl 40 X (0, 0) _ (by rfl) HK4.out Tryz.underlying40 HS0.out ?_)
   | (refine wpList_load_row rfl 40 _ rfl w.heap.size rfl 40 X (0, 0) _ HK4.out Tryz.underlying40 rfl HS0.out ?_)
   | ((with_reducible refine wpList_load_mid rfl 36 _ rfl w.heap.size 10 ?_ CL _ HRG.out Tryz.underlying36 ?_ HSC.out ?_); rfl; rfl)
   | ((with_reducible refine wpList_store_row' rfl 36 _ _ rfl w1.heap.size CL.toArray ?_ ?_ 36 _ (Blk.new w1 36 _) HSD.out ?_ HOC.out ?_); rfl; rfl; exact HZC.out; intro w4 hk4 hs4 hbl4; have hz4 := ((Below.refl w1.heap.size w1).alloc (Nat.le_refl _) _).trans (hbl4 w1.heap.size (Nat.le_refl _)); have HB4 := hid (HB0.out.trans (hz4.mono HB0.out.size)); have HK4 := hid (HK0.out.below hz4 HK0.out.lt); have HC4 := hid hk4; clear hk4 hs4 hbl4 hz4; have f1 := (HK4.out.cell 1).trans HX.out.f1; have f2 := (HK4.out.cell 2).trans HX.out.f2; have f5 := (HK4.out.cell 5).trans HX.out.f5; have f8 := (HK4.out.cell 8).trans HX.out.f8; have f9 := (HK4.out.cell 9).trans HX.out.f9; have f27 := (HK4.out.cell 27).trans HX.out.f27; have g0 := (HC4.out.cell 0).trans (List.getElem?_toArray.trans HX.out.g0); have g4 := (HC4.out.cell 4).trans (List.getElem?_toArray.trans HX.out.g4); have g5 := (HC4.out.cell 5).trans (List.getElem?_toArray.trans HX.out.g5); have g6 := (HC4.out.cell 6).trans (List.getElem?_toArray.trans HX.out.g6); have g7 := (HC4.out.cell 7).trans (List.getElem?_toArray.trans HX.out.g7); have g8 := (HC4.out.cell 8).trans (List.getElem?_toArray.trans HX.out.g8)))
  go_ret
  exact ⟨⟨true, rfl, fun h => by cases h⟩, HB4.out⟩
 have d3 : decide ((40 : Int) < (l16.length : Int)) = false := decide_eq_false (by omega)
 by_cases c4 : 40 < l17.length
 ·have d4 : decide ((40 : Int) < (l17.length : Int)) = true := decide_eq_true (by omega)
  go_enter Tryz.func46, Tryz.ntmps46
  go_wp2_with (first
   | (refine load_row_w (by rfl) 40 _ rfl w.heap.size rfl 40 X (0, 0) _ (by rfl) HK4.out Tryz.underlying40 HS0.out ?_)
   | (refine wpList_load_row rfl 40 _ rfl w.heap.size rfl 40 X (0, 0) _ HK4.out Tryz.underlying40 rfl HS0.out ?_)
   | ((with_reducible refine wpList_load_mid rfl 36 _ rfl w.heap.size 10 ?_ CL _ HRG.out Tryz.underlying36 ?_ HSC.out ?_); rfl; rfl)
   | ((with_reducible refine wpList_store_row' rfl 36 _ _ rfl w1.heap.size CL.toArray ?_ ?_ 36 _ (Blk.new w1 36 _) HSD.out ?_ HOC.out ?_); rfl; rfl; exact HZC.out; intro w4 hk4 hs4 hbl4; have hz4 := ((Below.refl w1.heap.size w1).alloc (Nat.le_refl _) _).trans (hbl4 w1.heap.size (Nat.le_refl _)); have HB4 := hid (HB0.out.trans (hz4.mono HB0.out.size)); have HK4 := hid (HK0.out.below hz4 HK0.out.lt); have HC4 := hid hk4; clear hk4 hs4 hbl4 hz4; have f1 := (HK4.out.cell 1).trans HX.out.f1; have f2 := (HK4.out.cell 2).trans HX.out.f2; have f5 := (HK4.out.cell 5).trans HX.out.f5; have f8 := (HK4.out.cell 8).trans HX.out.f8; have f9 := (HK4.out.cell 9).trans HX.out.f9; have f27 := (HK4.out.cell 27).trans HX.out.f27; have g0 := (HC4.out.cell 0).trans (List.getElem?_toArray.trans HX.out.g0); have g4 := (HC4.out.cell 4).trans (List.getElem?_toArray.trans HX.out.g4); have g5 := (HC4.out.cell 5).trans (List.getElem?_toArray.trans HX.out.g5); have g6 := (HC4.out.cell 6).trans (List.getElem?_toArray.trans HX.out.g6); have g7 := (HC4.out.cell 7).trans (List.getElem?_toArray.trans HX.out.g7); have g8 := (HC4.out.cell 8).trans (List.getElem?_toArray.trans HX.out.g8)))
  go_ret
  exact ⟨⟨true, rfl, fun h => by cases h⟩, HB4.out⟩
 have d4 : decide ((40 : Int) < (l17.length : Int)) = false := decide_eq_false (by omega)
 by_cases c5 : 40 < l18.length
 ·have d5 : decide ((40 : Int) < (l18.length : Int)) = true := decide_eq_true (by omega)
  go_enter Tryz.func46, Tryz.ntmps46
  go_wp2_with (first
   | (refine load_row_w (by rfl) 40 _ rfl w.heap.size rfl 40 X (0, 0) _ (by rfl) HK4.out Tryz.underlying40 HS0.out ?_)
   | (refine wpList_load_row rfl 40 _ rfl w.heap.size rfl 40 X (0, 0) _ HK4.out Tryz.underlying40 rfl HS0.out ?_)
   | ((with_reducible refine wpList_load_mid rfl 36 _ rfl w.heap.size 10 ?_ CL _ HRG.out Tryz.underlying36 ?_ HSC.out ?_); rfl; rfl)
   | ((with_reducible refine wpList_store_row' rfl 36 _ _ rfl w1.heap.size CL.toArray ?_ ?_ 36 _ (Blk.new w1 36 _) HSD.out ?_ HOC.out ?_); rfl; rfl; exact HZC.out; intro w4 hk4 hs4 hbl4; have hz4 := ((Below.refl w1.heap.size w1).alloc (Nat.le_refl _) _).trans (hbl4 w1.heap.size (Nat.le_refl _)); have HB4 := hid (HB0.out.trans (hz4.mono HB0.out.size)); have HK4 := hid (HK0.out.below hz4 HK0.out.lt); have HC4 := hid hk4; clear hk4 hs4 hbl4 hz4; have f1 := (HK4.out.cell 1).trans HX.out.f1; have f2 := (HK4.out.cell 2).trans HX.out.f2; have f5 := (HK4.out.cell 5).trans HX.out.f5; have f8 := (HK4.out.cell 8).trans HX.out.f8; have f9 := (HK4.out.cell 9).trans HX.out.f9; have f27 := (HK4.out.cell 27).trans HX.out.f27; have g0 := (HC4.out.cell 0).trans (List.getElem?_toArray.trans HX.out.g0); have g4 := (HC4.out.cell 4).trans (List.getElem?_toArray.trans HX.out.g4); have g5 := (HC4.out.cell 5).trans (List.getElem?_toArray.trans HX.out.g5); have g6 := (HC4.out.cell 6).trans (List.getElem?_toArray.trans HX.out.g6); have g7 := (HC4.out.cell 7).trans (List.getElem?_toArray.trans HX.out.g7); have g8 := (HC4.out.cell 8).trans (List.getElem?_toArray.trans HX.out.g8)))
  go_ret
  exact ⟨⟨true, rfl, fun h => by cases h⟩, HB4.out⟩
 have d5 : decide ((40 : Int) < (l18.length : Int)) = false := decide_eq_false (by omega)
 by_cases c6 : 2000 < x1.size
 ·have d6 : decide ((2000 : Int) < (x1.size : Int)) = true := decide_eq_true (by omega)
  go_enter Tryz.func46, Tryz.ntmps46
  go_wp2_with (first
   | (refine load_row_w (by rfl) 40 _ rfl w.heap.size rfl 40 X (0, 0) _ (by rfl) HK4.out Tryz.underlying40 HS0.out ?_)
   | (refine wpList_load_row rfl 40 _ rfl w.heap.size rfl 40 X (0, 0) _ HK4.out Tryz.underlying40 rfl HS0.out ?_)
   | ((with_reducible refine wpList_load_mid rfl 36 _ rfl w.heap.size 10 ?_ CL _ HRG.out Tryz.underlying36 ?_ HSC.out ?_); rfl; rfl)
   | ((with_reducible refine wpList_store_row' rfl 36 _ _ rfl w1.heap.size CL.toArray ?_ ?_ 36 _ (Blk.new w1 36 _) HSD.out ?_ HOC.out ?_); rfl; rfl; exact HZC.out; intro w4 hk4 hs4 hbl4; have hz4 := ((Below.refl w1.heap.size w1).alloc (Nat.le_refl _) _).trans (hbl4 w1.heap.size (Nat.le_refl _)); have HB4 := hid (HB0.out.trans (hz4.mono HB0.out.size)); have HK4 := hid (HK0.out.below hz4 HK0.out.lt); have HC4 := hid hk4; clear hk4 hs4 hbl4 hz4; have f1 := (HK4.out.cell 1).trans HX.out.f1; have f2 := (HK4.out.cell 2).trans HX.out.f2; have f5 := (HK4.out.cell 5).trans HX.out.f5; have f8 := (HK4.out.cell 8).trans HX.out.f8; have f9 := (HK4.out.cell 9).trans HX.out.f9; have f27 := (HK4.out.cell 27).trans HX.out.f27; have g0 := (HC4.out.cell 0).trans (List.getElem?_toArray.trans HX.out.g0); have g4 := (HC4.out.cell 4).trans (List.getElem?_toArray.trans HX.out.g4); have g5 := (HC4.out.cell 5).trans (List.getElem?_toArray.trans HX.out.g5); have g6 := (HC4.out.cell 6).trans (List.getElem?_toArray.trans HX.out.g6); have g7 := (HC4.out.cell 7).trans (List.getElem?_toArray.trans HX.out.g7); have g8 := (HC4.out.cell 8).trans (List.getElem?_toArray.trans HX.out.g8)))
  go_ret
  exact ⟨⟨true, rfl, fun h => by cases h⟩, HB4.out⟩
 have d6 : decide ((2000 : Int) < (x1.size : Int)) = false := decide_eq_false (by omega)
 by_cases c7 : 2000 < x2.size
 ·have d7 : decide ((2000 : Int) < (x2.size : Int)) = true := decide_eq_true (by omega)
  go_enter Tryz.func46, Tryz.ntmps46
  go_wp2_with (first
   | (refine load_row_w (by rfl) 40 _ rfl w.heap.size rfl 40 X (0, 0) _ (by rfl) HK4.out Tryz.underlying40 HS0.out ?_)
   | (refine wpList_load_row rfl 40 _ rfl w.heap.size rfl 40 X (0, 0) _ HK4.out Tryz.underlying40 rfl HS0.out ?_)
   | ((with_reducible refine wpList_load_mid rfl 36 _ rfl w.heap.size 10 ?_ CL _ HRG.out Tryz.underlying36 ?_ HSC.out ?_); rfl; rfl)
   | ((with_reducible refine wpList_store_row' rfl 36 _ _ rfl w1.heap.size CL.toArray ?_ ?_ 36 _ (Blk.new w1 36 _) HSD.out ?_ HOC.out ?_); rfl; rfl; exact HZC.out; intro w4 hk4 hs4 hbl4; have hz4 := ((Below.refl w1.heap.size w1).alloc (Nat.le_refl _) _).trans (hbl4 w1.heap.size (Nat.le_refl _)); have HB4 := hid (HB0.out.trans (hz4.mono HB0.out.size)); have HK4 := hid (HK0.out.below hz4 HK0.out.lt); have HC4 := hid hk4; clear hk4 hs4 hbl4 hz4; have f1 := (HK4.out.cell 1).trans HX.out.f1; have f2 := (HK4.out.cell 2).trans HX.out.f2; have f5 := (HK4.out.cell 5).trans HX.out.f5; have f8 := (HK4.out.cell 8).trans HX.out.f8; have f9 := (HK4.out.cell 9).trans HX.out.f9; have f27 := (HK4.out.cell 27).trans HX.out.f27; have g0 := (HC4.out.cell 0).trans (List.getElem?_toArray.trans HX.out.g0); have g4 := (HC4.out.cell 4).trans (List.getElem?_toArray.trans HX.out.g4); have g5 := (HC4.out.cell 5).trans (List.getElem?_toArray.trans HX.out.g5); have g6 := (HC4.out.cell 6).trans (List.getElem?_toArray.trans HX.out.g6); have g7 := (HC4.out.cell 7).trans (List.getElem?_toArray.trans HX.out.g7); have g8 := (HC4.out.cell 8).trans (List.getElem?_toArray.trans HX.out.g8)))
  go_ret
  exact ⟨⟨true, rfl, fun h => by cases h⟩, HB4.out⟩
 have d7 : decide ((2000 : Int) < (x2.size : Int)) = false := decide_eq_false (by omega)
 by_cases c8 : 2000 < x5.size
 ·have d8 : decide ((2000 : Int) < (x5.size : Int)) = true := decide_eq_true (by omega)
  go_enter Tryz.func46, Tryz.ntmps46
  go_wp2_with (first
   | (refine load_row_w (by rfl) 40 _ rfl w.heap.size rfl 40 X (0, 0) _ (by rfl) HK4.out Tryz.underlying40 HS0.out ?_)
   | (refine wpList_load_row rfl 40 _ rfl w.heap.size rfl 40 X (0, 0) _ HK4.out Tryz.underlying40 rfl HS0.out ?_)
   | ((with_reducible refine wpList_load_mid rfl 36 _ rfl w.heap.size 10 ?_ CL _ HRG.out Tryz.underlying36 ?_ HSC.out ?_); rfl; rfl)
   | ((with_reducible refine wpList_store_row' rfl 36 _ _ rfl w1.heap.size CL.toArray ?_ ?_ 36 _ (Blk.new w1 36 _) HSD.out ?_ HOC.out ?_); rfl; rfl; exact HZC.out; intro w4 hk4 hs4 hbl4; have hz4 := ((Below.refl w1.heap.size w1).alloc (Nat.le_refl _) _).trans (hbl4 w1.heap.size (Nat.le_refl _)); have HB4 := hid (HB0.out.trans (hz4.mono HB0.out.size)); have HK4 := hid (HK0.out.below hz4 HK0.out.lt); have HC4 := hid hk4; clear hk4 hs4 hbl4 hz4; have f1 := (HK4.out.cell 1).trans HX.out.f1; have f2 := (HK4.out.cell 2).trans HX.out.f2; have f5 := (HK4.out.cell 5).trans HX.out.f5; have f8 := (HK4.out.cell 8).trans HX.out.f8; have f9 := (HK4.out.cell 9).trans HX.out.f9; have f27 := (HK4.out.cell 27).trans HX.out.f27; have g0 := (HC4.out.cell 0).trans (List.getElem?_toArray.trans HX.out.g0); have g4 := (HC4.out.cell 4).trans (List.getElem?_toArray.trans HX.out.g4); have g5 := (HC4.out.cell 5).trans (List.getElem?_toArray.trans HX.out.g5); have g6 := (HC4.out.cell 6).trans (List.getElem?_toArray.trans HX.out.g6); have g7 := (HC4.out.cell 7).trans (List.getElem?_toArray.trans HX.out.g7); have g8 := (HC4.out.cell 8).trans (List.getElem?_toArray.trans HX.out.g8)))
  go_ret
  exact ⟨⟨true, rfl, fun h => by cases h⟩, HB4.out⟩
 have d8 : decide ((2000 : Int) < (x5.size : Int)) = false := decide_eq_false (by omega)
 by_cases c9 : 2000 < x10.size
 ·have d9 : decide ((2000 : Int) < (x10.size : Int)) = true := decide_eq_true (by omega)
  go_enter Tryz.func46, Tryz.ntmps46
  go_wp2_with (first
   | (refine load_row_w (by rfl) 40 _ rfl w.heap.size rfl 40 X (0, 0) _ (by rfl) HK4.out Tryz.underlying40 HS0.out ?_)
   | (refine wpList_load_row rfl 40 _ rfl w.heap.size rfl 40 X (0, 0) _ HK4.out Tryz.underlying40 rfl HS0.out ?_)
   | ((with_reducible refine wpList_load_mid rfl 36 _ rfl w.heap.size 10 ?_ CL _ HRG.out Tryz.underlying36 ?_ HSC.out ?_); rfl; rfl)
   | ((with_reducible refine wpList_store_row' rfl 36 _ _ rfl w1.heap.size CL.toArray ?_ ?_ 36 _ (Blk.new w1 36 _) HSD.out ?_ HOC.out ?_); rfl; rfl; exact HZC.out; intro w4 hk4 hs4 hbl4; have hz4 := ((Below.refl w1.heap.size w1).alloc (Nat.le_refl _) _).trans (hbl4 w1.heap.size (Nat.le_refl _)); have HB4 := hid (HB0.out.trans (hz4.mono HB0.out.size)); have HK4 := hid (HK0.out.below hz4 HK0.out.lt); have HC4 := hid hk4; clear hk4 hs4 hbl4 hz4; have f1 := (HK4.out.cell 1).trans HX.out.f1; have f2 := (HK4.out.cell 2).trans HX.out.f2; have f5 := (HK4.out.cell 5).trans HX.out.f5; have f8 := (HK4.out.cell 8).trans HX.out.f8; have f9 := (HK4.out.cell 9).trans HX.out.f9; have f27 := (HK4.out.cell 27).trans HX.out.f27; have g0 := (HC4.out.cell 0).trans (List.getElem?_toArray.trans HX.out.g0); have g4 := (HC4.out.cell 4).trans (List.getElem?_toArray.trans HX.out.g4); have g5 := (HC4.out.cell 5).trans (List.getElem?_toArray.trans HX.out.g5); have g6 := (HC4.out.cell 6).trans (List.getElem?_toArray.trans HX.out.g6); have g7 := (HC4.out.cell 7).trans (List.getElem?_toArray.trans HX.out.g7); have g8 := (HC4.out.cell 8).trans (List.getElem?_toArray.trans HX.out.g8)))
  go_ret
  exact ⟨⟨true, rfl, fun h => by cases h⟩, HB4.out⟩
 have d9 : decide ((2000 : Int) < (x10.size : Int)) = false := decide_eq_false (by omega)
 by_cases c10 : 2000 < x14.size
 ·have d10 : decide ((2000 : Int) < (x14.size : Int)) = true := decide_eq_true (by omega)
  go_enter Tryz.func46, Tryz.ntmps46
  go_wp2_with (first
   | (refine load_row_w (by rfl) 40 _ rfl w.heap.size rfl 40 X (0, 0) _ (by rfl) HK4.out Tryz.underlying40 HS0.out ?_)
   | (refine wpList_load_row rfl 40 _ rfl w.heap.size rfl 40 X (0, 0) _ HK4.out Tryz.underlying40 rfl HS0.out ?_)
   | ((with_reducible refine wpList_load_mid rfl 36 _ rfl w.heap.size 10 ?_ CL _ HRG.out Tryz.underlying36 ?_ HSC.out ?_); rfl; rfl)
   | ((with_reducible refine wpList_store_row' rfl 36 _ _ rfl w1.heap.size CL.toArray ?_ ?_ 36 _ (Blk.new w1 36 _) HSD.out ?_ HOC.out ?_); rfl; rfl; exact HZC.out; intro w4 hk4 hs4 hbl4; have hz4 := ((Below.refl w1.heap.size w1).alloc (Nat.le_refl _) _).trans (hbl4 w1.heap.size (Nat.le_refl _)); have HB4 := hid (HB0.out.trans (hz4.mono HB0.out.size)); have HK4 := hid (HK0.out.below hz4 HK0.out.lt); have HC4 := hid hk4; clear hk4 hs4 hbl4 hz4; have f1 := (HK4.out.cell 1).trans HX.out.f1; have f2 := (HK4.out.cell 2).trans HX.out.f2; have f5 := (HK4.out.cell 5).trans HX.out.f5; have f8 := (HK4.out.cell 8).trans HX.out.f8; have f9 := (HK4.out.cell 9).trans HX.out.f9; have f27 := (HK4.out.cell 27).trans HX.out.f27; have g0 := (HC4.out.cell 0).trans (List.getElem?_toArray.trans HX.out.g0); have g4 := (HC4.out.cell 4).trans (List.getElem?_toArray.trans HX.out.g4); have g5 := (HC4.out.cell 5).trans (List.getElem?_toArray.trans HX.out.g5); have g6 := (HC4.out.cell 6).trans (List.getElem?_toArray.trans HX.out.g6); have g7 := (HC4.out.cell 7).trans (List.getElem?_toArray.trans HX.out.g7); have g8 := (HC4.out.cell 8).trans (List.getElem?_toArray.trans HX.out.g8)))
  go_ret
  exact ⟨⟨true, rfl, fun h => by cases h⟩, HB4.out⟩
 have d10 : decide ((2000 : Int) < (x14.size : Int)) = false := decide_eq_false (by omega)
 by_cases c11 : 2000 < x27.size
 ·have d11 : decide ((2000 : Int) < (x27.size : Int)) = true := decide_eq_true (by omega)
  go_enter Tryz.func46, Tryz.ntmps46
  go_wp2_with (first
   | (refine load_row_w (by rfl) 40 _ rfl w.heap.size rfl 40 X (0, 0) _ (by rfl) HK4.out Tryz.underlying40 HS0.out ?_)
   | (refine wpList_load_row rfl 40 _ rfl w.heap.size rfl 40 X (0, 0) _ HK4.out Tryz.underlying40 rfl HS0.out ?_)
   | ((with_reducible refine wpList_load_mid rfl 36 _ rfl w.heap.size 10 ?_ CL _ HRG.out Tryz.underlying36 ?_ HSC.out ?_); rfl; rfl)
   | ((with_reducible refine wpList_store_row' rfl 36 _ _ rfl w1.heap.size CL.toArray ?_ ?_ 36 _ (Blk.new w1 36 _) HSD.out ?_ HOC.out ?_); rfl; rfl; exact HZC.out; intro w4 hk4 hs4 hbl4; have hz4 := ((Below.refl w1.heap.size w1).alloc (Nat.le_refl _) _).trans (hbl4 w1.heap.size (Nat.le_refl _)); have HB4 := hid (HB0.out.trans (hz4.mono HB0.out.size)); have HK4 := hid (HK0.out.below hz4 HK0.out.lt); have HC4 := hid hk4; clear hk4 hs4 hbl4 hz4; have f1 := (HK4.out.cell 1).trans HX.out.f1; have f2 := (HK4.out.cell 2).trans HX.out.f2; have f5 := (HK4.out.cell 5).trans HX.out.f5; have f8 := (HK4.out.cell 8).trans HX.out.f8; have f9 := (HK4.out.cell 9).trans HX.out.f9; have f27 := (HK4.out.cell 27).trans HX.out.f27; have g0 := (HC4.out.cell 0).trans (List.getElem?_toArray.trans HX.out.g0); have g4 := (HC4.out.cell 4).trans (List.getElem?_toArray.trans HX.out.g4); have g5 := (HC4.out.cell 5).trans (List.getElem?_toArray.trans HX.out.g5); have g6 := (HC4.out.cell 6).trans (List.getElem?_toArray.trans HX.out.g6); have g7 := (HC4.out.cell 7).trans (List.getElem?_toArray.trans HX.out.g7); have g8 := (HC4.out.cell 8).trans (List.getElem?_toArray.trans HX.out.g8)))
  go_ret
  exact ⟨⟨true, rfl, fun h => by cases h⟩, HB4.out⟩
 have d11 : decide ((2000 : Int) < (x27.size : Int)) = false := decide_eq_false (by omega)
 go_enter Tryz.func46, Tryz.ntmps46
 go_wp2_with (first
  | (refine load_row_w (by rfl) 40 _ rfl w.heap.size rfl 40 X (0, 0) _ (by rfl) HK4.out Tryz.underlying40 HS0.out ?_)
  | (refine wpList_load_row rfl 40 _ rfl w.heap.size rfl 40 X (0, 0) _ HK4.out Tryz.underlying40 rfl HS0.out ?_)
  | ((with_reducible refine wpList_load_mid rfl 36 _ rfl w.heap.size 10 ?_ CL _ HRG.out Tryz.underlying36 ?_ HSC.out ?_); rfl; rfl)
  | ((with_reducible refine wpList_store_row' rfl 36 _ _ rfl w1.heap.size CL.toArray ?_ ?_ 36 _ (Blk.new w1 36 _) HSD.out ?_ HOC.out ?_); rfl; rfl; exact HZC.out; intro w4 hk4 hs4 hbl4; have hz4 := ((Below.refl w1.heap.size w1).alloc (Nat.le_refl _) _).trans (hbl4 w1.heap.size (Nat.le_refl _)); have HB4 := hid (HB0.out.trans (hz4.mono HB0.out.size)); have HK4 := hid (HK0.out.below hz4 HK0.out.lt); have HC4 := hid hk4; clear hk4 hs4 hbl4 hz4; have f1 := (HK4.out.cell 1).trans HX.out.f1; have f2 := (HK4.out.cell 2).trans HX.out.f2; have f5 := (HK4.out.cell 5).trans HX.out.f5; have f8 := (HK4.out.cell 8).trans HX.out.f8; have f9 := (HK4.out.cell 9).trans HX.out.f9; have f27 := (HK4.out.cell 27).trans HX.out.f27; have g0 := (HC4.out.cell 0).trans (List.getElem?_toArray.trans HX.out.g0); have g4 := (HC4.out.cell 4).trans (List.getElem?_toArray.trans HX.out.g4); have g5 := (HC4.out.cell 5).trans (List.getElem?_toArray.trans HX.out.g5); have g6 := (HC4.out.cell 6).trans (List.getElem?_toArray.trans HX.out.g6); have g7 := (HC4.out.cell 7).trans (List.getElem?_toArray.trans HX.out.g7); have g8 := (HC4.out.cell 8).trans (List.getElem?_toArray.trans HX.out.g8)))
 have HBF := HB4
 have R15 := hid (HX.out.r15.below HB4.out)
 have R16 := hid (HX.out.r16.below HB4.out)
 have R17 := hid (HX.out.r17.below HB4.out)
 go_loopw [4] (fun i wr => ∃ k : Nat, k ≤ l15.length ∧ i = .int .i64 (k : Int) ∧ wr = w4 ∧ ∀ s ∈ l15.take k, s.length ≤ 2000) (fun i _ => l15.length - (RowKit.intOf i).toNat)
 case atStart => exact ⟨0, Nat.zero_le _, rfl, rfl, fun s h => by simp at h⟩
 case round =>
  obtain ⟨k, hk, rfl, rfl, hall⟩ := hrel
  have HALL := hid hall
  clear hall
  by_cases hlt : k < l15.length
  ·obtain ⟨bb, ob, s, rfl, hs, hcs⟩ := R15.out.str_at hlt
   have hss := bstr_size s
   have HS := hid hs
   clear hs
   by_cases hsz : s.length ≤ 2000
   ·have h100 : decide ((2000 : Int) < ((bstr s).size : Int)) = false := decide_eq_false (by omega)
    have HN : Hid (∀ t ∈ l15.take (k + 1), t.length ≤ 2000) := hid (fun t ht => by
     rw [take_snoc HS.out] at ht
     rcases List.mem_append.1 ht with ht | ht
     ·exact HALL.out t ht
     ·rw [List.mem_singleton.1 ht]; exact hsz)
    clear hss
    generalize bstr s = S at *
    go_wp2_with fail
    go_roundw
    case rel => exact ⟨k + 1, by omega, by go_num, by trivial, HN.out⟩
    case measure => simp [RowKit.intOf]; omega
   ·have h100 : decide ((2000 : Int) < ((bstr s).size : Int)) = true := decide_eq_true (by omega)
    clear hss
    generalize bstr s = S at *
    go_wp2_with fail
    go_ret
    exact ⟨⟨true, rfl, fun h => by cases h⟩, HBF.out⟩
  ·obtain rfl : k = l15.length := by omega
   have HA0 : Hid (∀ s ∈ l15, s.length ≤ 2000) := hid (by have := HALL.out; rwa [List.take_length] at this)
   clear HALL
   go_wp2_with fail
   go_loopw [5] (fun i wq => ∃ k : Nat, k ≤ l16.length ∧ i = .int .i64 (k : Int) ∧ wq = wr ∧ ∀ s ∈ l16.take k, s.length ≤ 2000) (fun i _ => l16.length - (RowKit.intOf i).toNat)
   case atStart => exact ⟨0, Nat.zero_le _, rfl, rfl, fun s h => by simp at h⟩
   case round =>
    obtain ⟨k, hk, rfl, rfl, hall⟩ := hrel
    have HALL := hid hall
    clear hall
    by_cases hlt : k < l16.length
    ·obtain ⟨bb, ob, s, rfl, hs, hcs⟩ := R16.out.str_at hlt
     have hss := bstr_size s
     have HS := hid hs
     clear hs
     by_cases hsz : s.length ≤ 2000
     ·have h100 : decide ((2000 : Int) < ((bstr s).size : Int)) = false := decide_eq_false (by omega)
      have HN : Hid (∀ t ∈ l16.take (k + 1), t.length ≤ 2000) := hid (fun t ht => by
       rw [take_snoc HS.out] at ht
       rcases List.mem_append.1 ht with ht | ht
       ·exact HALL.out t ht
       ·rw [List.mem_singleton.1 ht]; exact hsz)
      clear hss
      generalize bstr s = S at *
      go_wp2_with fail
      go_roundw
      case rel => exact ⟨k + 1, by omega, by go_num, by trivial, HN.out⟩
      case measure => simp [RowKit.intOf]; omega
     ·have h100 : decide ((2000 : Int) < ((bstr s).size : Int)) = true := decide_eq_true (by omega)
      clear hss
      generalize bstr s = S at *
      go_wp2_with fail
      go_ret
      exact ⟨⟨true, rfl, fun h => by cases h⟩, HBF.out⟩
    ·obtain rfl : k = l16.length := by omega
     have HA1 : Hid (∀ s ∈ l16, s.length ≤ 2000) := hid (by have := HALL.out; rwa [List.take_length] at this)
     clear HALL
     go_wp2_with fail
     go_loopw [6] (fun i wq => ∃ k : Nat, k ≤ l17.length ∧ i = .int .i64 (k : Int) ∧ wq = wr ∧ ∀ s ∈ l17.take k, s.1.length ≤ 2000) (fun i _ => l17.length - (RowKit.intOf i).toNat)
     case atStart => exact ⟨0, Nat.zero_le _, rfl, rfl, fun s h => by simp at h⟩
     case round =>
      obtain ⟨k, hk, rfl, rfl, hall⟩ := hrel
      have HALL := hid hall
      clear hall
      by_cases hlt : k < l17.length
      ·obtain ⟨bb, ob, s, rfl, hs, hcs, hcn⟩ := R17.out.usr_at hlt
       have hss := bstr_size s.1
       have HS := hid hs
       clear hs hcn
       by_cases hsz : s.1.length ≤ 2000
       ·have h100 : decide ((2000 : Int) < ((bstr s.1).size : Int)) = false := decide_eq_false (by omega)
        have HN : Hid (∀ t ∈ l17.take (k + 1), t.1.length ≤ 2000) := hid (fun t ht => by
         rw [take_snoc HS.out] at ht
         rcases List.mem_append.1 ht with ht | ht
         ·exact HALL.out t ht
         ·rw [List.mem_singleton.1 ht]; exact hsz)
        clear hss
        generalize bstr s.1 = S at *
        go_wp2_with fail
        go_roundw
        case rel => exact ⟨k + 1, by omega, by go_num, by trivial, HN.out⟩
        case measure => simp [RowKit.intOf]; omega
       ·have h100 : decide ((2000 : Int) < ((bstr s.1).size : Int)) = true := decide_eq_true (by omega)
        clear hss
        generalize bstr s.1 = S at *
        go_wp2_with fail
        go_ret
        exact ⟨⟨true, rfl, fun h => by cases h⟩, HBF.out⟩
      ·obtain rfl : k = l17.length := by omega
       have HA2 : Hid (∀ s ∈ l17, s.1.length ≤ 2000) := hid (by have := HALL.out; rwa [List.take_length] at this)
       clear HALL
       go_wp2_with fail
       go_ret
       exact ⟨⟨false, rfl, fun _ => ⟨by omega, by omega⟩⟩, HBF.out⟩
end Go.Proofs.YteadlcncnhbmjaaGreatDoor
