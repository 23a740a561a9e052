/- The text Bv2. -/
import Derived.Test.YteadlcncnhbmjaaGreatDoorHBv1
import Derived.Test.YteadlcncnhbmjaaGreatDoorMda
set_option linter.unusedSimpArgs false
set_option maxHeartbeats 16000000
set_option maxRecDepth 100000
set_option linter.unusedVariables false
namespace Go.Proofs.YteadlcncnhbmjaaGreatDoor
open Go.RowKit Go.Lib
set_option linter.unusedVariables false
theorem value_num (x0 : Int) (x1 : ByteArray) (x2 : ByteArray) (x3 : Int) (x4 : Bool) (x5 : ByteArray) (x6 : Int) (x7 : Int) (A8 : Option Addr) (n8 c8 : Nat) (A9 : Option Addr) (n9 c9 : Nat) (x10 : ByteArray) (x11 : Int) (x12 : Int) (x13 : Bool) (x14 : ByteArray) (A15 : Option Addr) (n15 c15 : Nat) (A16 : Option Addr) (n16 c16 : Nat) (A17 : Option Addr) (n17 c17 : Nat) (A18 : Option Addr) (n18 c18 : Nat) (x19 : Int) (x20 : Int) (x21 : Int) (x22 : Int) (x23 : Int) (x24 : Int) (x25 : Int) (x26 : Int) (x27 : ByteArray) (x28 : Int) (w : World) (i : Nat) (j : Int) (hij : (i = 0 ∧ j = 0) ∨ (i = 3 ∧ j = 3) ∨ (i = 6 ∧ j = 6) ∨ (i = 7 ∧ j = 7) ∨ (i = 11 ∧ j = 11) ∨ (i = 12 ∧ j = 12) ∨ (i = 19 ∧ j = 19) ∨ (i = 20 ∧ j = 20) ∨ (i = 21 ∧ j = 21) ∨ (i = 22 ∧ j = 22) ∨ (i = 23 ∧ j = 23) ∨ (i = 24 ∧ j = 24) ∨ (i = 25 ∧ j = 25) ∨ (i = 26 ∧ j = 26) ∨ (i = 28 ∧ j = 28)) (hnum : ∀ n, (#[.int .i64 x0, .string x1, .string x2, .int .i64 x3, .bool x4, .string x5, .int .i64 x6, .int .i64 x7, .slice A8 n8 c8, .slice A9 n9 c9, .string x10, .int .i64 x11, .int .i64 x12, .bool x13, .string x14, .slice A15 n15 c15, .slice A16 n16 c16, .slice A17 n17 c17, .slice A18 n18 c18, .int .i64 x19, .int .i64 x20, .int .i64 x21, .int .i64 x22, .int .i64 x23, .int .i64 x24, .int .i64 x25, .int .i64 x26, .string x27, .int .i64 x28] : Array Value)[i]? = some (.int .i64 n) → Ar.inInt n) : Calls Tryz.prog 52 #[.agg #[.int .i64 x0, .string x1, .string x2, .int .i64 x3, .bool x4, .string x5, .int .i64 x6, .int .i64 x7, .slice A8 n8 c8, .slice A9 n9 c9, .string x10, .int .i64 x11, .int .i64 x12, .bool x13, .string x14, .slice A15 n15 c15, .slice A16 n16 c16, .slice A17 n17 c17, .slice A18 n18 c18, .int .i64 x19, .int .i64 x20, .int .i64 x21, .int .i64 x22, .int .i64 x23, .int .i64 x24, .int .i64 x25, .int .i64 x26, .string x27, .int .i64 x28], .int .i64 j] w fun e w' => (∃ n, (#[.int .i64 x0, .string x1, .string x2, .int .i64 x3, .bool x4, .string x5, .int .i64 x6, .int .i64 x7, .slice A8 n8 c8, .slice A9 n9 c9, .string x10, .int .i64 x11, .int .i64 x12, .bool x13, .string x14, .slice A15 n15 c15, .slice A16 n16 c16, .slice A17 n17 c17, .slice A18 n18 c18, .int .i64 x19, .int .i64 x20, .int .i64 x21, .int .i64 x22, .int .i64 x23, .int .i64 x24, .int .i64 x25, .int .i64 x26, .string x27, .int .i64 x28] : Array Value)[i]? = some (.int .i64 n) ∧ e = .returned (.string (bstr (Ar.xval (.num n))))) ∧ Below w.heap.size w w' := by
 have HNUM := hid hnum
 have HIJ := hid hij
 clear hnum
 have t1 : ((j : Int) == 1) = false := beq_eq_false_iff_ne.2 (by omega)
 have t2 : ((j : Int) == 2) = false := beq_eq_false_iff_ne.2 (by omega)
 have t4 : ((j : Int) == 4) = false := beq_eq_false_iff_ne.2 (by omega)
 have t5 : ((j : Int) == 5) = false := beq_eq_false_iff_ne.2 (by omega)
 have t8 : ((j : Int) == 8) = false := beq_eq_false_iff_ne.2 (by omega)
 have t9 : ((j : Int) == 9) = false := beq_eq_false_iff_ne.2 (by omega)
 have t10 : ((j : Int) == 10) = false := beq_eq_false_iff_ne.2 (by omega)
 have t13 : ((j : Int) == 13) = false := beq_eq_false_iff_ne.2 (by omega)
 have t14 : ((j : Int) == 14) = false := beq_eq_false_iff_ne.2 (by omega)
 have t15 : ((j : Int) == 15) = false := beq_eq_false_iff_ne.2 (by omega)
 have t16 : ((j : Int) == 16) = false := beq_eq_false_iff_ne.2 (by omega)
 have t17 : ((j : Int) == 17) = false := beq_eq_false_iff_ne.2 (by omega)
 have t18 : ((j : Int) == 18) = false := beq_eq_false_iff_ne.2 (by omega)
 have t27 : ((j : Int) == 27) = false := beq_eq_false_iff_ne.2 (by omega)
 clear hij
 have hB0 := (Below.refl w.heap.size w).alloc (Nat.le_refl _) (.cells #[.int .i64 x0, .string x1, .string x2, .int .i64 x3, .bool x4, .string x5, .int .i64 x6, .int .i64 x7, .slice A8 n8 c8, .slice A9 n9 c9, .string x10, .int .i64 x11, .int .i64 x12, .bool x13, .string x14, .slice A15 n15 c15, .slice A16 n16 c16, .slice A17 n17 c17, .slice A18 n18 c18, .int .i64 x19, .int .i64 x20, .int .i64 x21, .int .i64 x22, .int .i64 x23, .int .i64 x24, .int .i64 x25, .int .i64 x26, .string x27, .int .i64 x28] 40)
 have hk := Blk.new w 40 #[.int .i64 x0, .string x1, .string x2, .int .i64 x3, .bool x4, .string x5, .int .i64 x6, .int .i64 x7, .slice A8 n8 c8, .slice A9 n9 c9, .string x10, .int .i64 x11, .int .i64 x12, .bool x13, .string x14, .slice A15 n15 c15, .slice A16 n16 c16, .slice A17 n17 c17, .slice A18 n18 c18, .int .i64 x19, .int .i64 x20, .int .i64 x21, .int .i64 x22, .int .i64 x23, .int .i64 x24, .int .i64 x25, .int .i64 x26, .string x27, .int .i64 x28]
 generalize hw1 : w.alloc (.cells #[.int .i64 x0, .string x1, .string x2, .int .i64 x3, .bool x4, .string x5, .int .i64 x6, .int .i64 x7, .slice A8 n8 c8, .slice A9 n9 c9, .string x10, .int .i64 x11, .int .i64 x12, .bool x13, .string x14, .slice A15 n15 c15, .slice A16 n16 c16, .slice A17 n17 c17, .slice A18 n18 c18, .int .i64 x19, .int .i64 x20, .int .i64 x21, .int .i64 x22, .int .i64 x23, .int .i64 x24, .int .i64 x25, .int .i64 x26, .string x27, .int .i64 x28] 40) = w1 at *
 have hBr := Below.refl w1.heap.size w1
 have hlt0 := hk.lt
 have hL10 : ∀ W, Below w1.heap.size w1 W → W.cell? ⟨w.heap.size, 10, none⟩ = some (.string x10) := fun W h => (h.cell (p := ⟨w.heap.size, 10, none⟩) hlt0).trans (hk.cell 10)
 have hL11 : ∀ W, Below w1.heap.size w1 W → W.cell? ⟨w.heap.size, 11, none⟩ = some (.int .i64 x11) := fun W h => (h.cell (p := ⟨w.heap.size, 11, none⟩) hlt0).trans (hk.cell 11)
 have hL12 : ∀ W, Below w1.heap.size w1 W → W.cell? ⟨w.heap.size, 12, none⟩ = some (.int .i64 x12) := fun W h => (h.cell (p := ⟨w.heap.size, 12, none⟩) hlt0).trans (hk.cell 12)
 have hL13 : ∀ W, Below w1.heap.size w1 W → W.cell? ⟨w.heap.size, 13, none⟩ = some (.bool x13) := fun W h => (h.cell (p := ⟨w.heap.size, 13, none⟩) hlt0).trans (hk.cell 13)
 have hL14 : ∀ W, Below w1.heap.size w1 W → W.cell? ⟨w.heap.size, 14, none⟩ = some (.string x14) := fun W h => (h.cell (p := ⟨w.heap.size, 14, none⟩) hlt0).trans (hk.cell 14)
 have hL15 : ∀ W, Below w1.heap.size w1 W → W.cell? ⟨w.heap.size, 15, none⟩ = some (.slice A15 n15 c15) := fun W h => (h.cell (p := ⟨w.heap.size, 15, none⟩) hlt0).trans (hk.cell 15)
 have hL16 : ∀ W, Below w1.heap.size w1 W → W.cell? ⟨w.heap.size, 16, none⟩ = some (.slice A16 n16 c16) := fun W h => (h.cell (p := ⟨w.heap.size, 16, none⟩) hlt0).trans (hk.cell 16)
 have hL17 : ∀ W, Below w1.heap.size w1 W → W.cell? ⟨w.heap.size, 17, none⟩ = some (.slice A17 n17 c17) := fun W h => (h.cell (p := ⟨w.heap.size, 17, none⟩) hlt0).trans (hk.cell 17)
 have hL18 : ∀ W, Below w1.heap.size w1 W → W.cell? ⟨w.heap.size, 18, none⟩ = some (.slice A18 n18 c18) := fun W h => (h.cell (p := ⟨w.heap.size, 18, none⟩) hlt0).trans (hk.cell 18)
 have hL19 : ∀ W, Below w1.heap.size w1 W → W.cell? ⟨w.heap.size, 19, none⟩ = some (.int .i64 x19) := fun W h => (h.cell (p := ⟨w.heap.size, 19, none⟩) hlt0).trans (hk.cell 19)
 have hL20 : ∀ W, Below w1.heap.size w1 W → W.cell? ⟨w.heap.size, 20, none⟩ = some (.int .i64 x20) := fun W h => (h.cell (p := ⟨w.heap.size, 20, none⟩) hlt0).trans (hk.cell 20)
 have hL21 : ∀ W, Below w1.heap.size w1 W → W.cell? ⟨w.heap.size, 21, none⟩ = some (.int .i64 x21) := fun W h => (h.cell (p := ⟨w.heap.size, 21, none⟩) hlt0).trans (hk.cell 21)
 have hL22 : ∀ W, Below w1.heap.size w1 W → W.cell? ⟨w.heap.size, 22, none⟩ = some (.int .i64 x22) := fun W h => (h.cell (p := ⟨w.heap.size, 22, none⟩) hlt0).trans (hk.cell 22)
 have hL23 : ∀ W, Below w1.heap.size w1 W → W.cell? ⟨w.heap.size, 23, none⟩ = some (.int .i64 x23) := fun W h => (h.cell (p := ⟨w.heap.size, 23, none⟩) hlt0).trans (hk.cell 23)
 have hL24 : ∀ W, Below w1.heap.size w1 W → W.cell? ⟨w.heap.size, 24, none⟩ = some (.int .i64 x24) := fun W h => (h.cell (p := ⟨w.heap.size, 24, none⟩) hlt0).trans (hk.cell 24)
 have hL25 : ∀ W, Below w1.heap.size w1 W → W.cell? ⟨w.heap.size, 25, none⟩ = some (.int .i64 x25) := fun W h => (h.cell (p := ⟨w.heap.size, 25, none⟩) hlt0).trans (hk.cell 25)
 have HB0 := hid hB0
 have HK := hid hk
 clear hB0 hk hlt0
 go_enter Tryz.func52, Tryz.ntmps52
 go_wp2_with fail
 go_cut [5, 6] from 8 to 12 (fun pa pb wx => ∃ g5 g6 : Nat, pa = .pointer (some ⟨g5, 0, none⟩) ∧ pb = .pointer (some ⟨g6, 0, none⟩) ∧ Blk wx g5 36 #[.string x10, .int .i64 x11, .int .i64 x12, .bool x13, .string x14, .slice A15 n15 c15, .slice A16 n16 c16, .slice A17 n17 c17, .slice A18 n18 c18, .int .i64 x19, .int .i64 x20, .int .i64 x21, .int .i64 x22, .int .i64 x23, .int .i64 x24, .int .i64 x25] ∧ Blk wx g6 34 #[.slice A17 n17 c17, .slice A18 n18 c18, .int .i64 x19, .int .i64 x20, .int .i64 x21, .int .i64 x22, .int .i64 x23, .int .i64 x24, .int .i64 x25] ∧ Below w1.heap.size w1 wx)
 case first =>
  go_region_held3 (fun W => Below w1.heap.size w1 W) (with_reducible (repeat (first | exact hBr | refine below_d1 ?_ | refine below_a1 ?_ _))) (fail)
  all_goals
   go_wp2_with fail
   go_meet
   first
    | exact ⟨_, _, rfl, rfl, blk_d1 (blk_a1 (blk_n0 _ _ _) _), blk_d1 (blk_n1 _ _ _ _), below_d1 (below_a1 (below_a1 hBr _) _)⟩
    | exact ⟨_, _, rfl, rfl, blk_d1 (blk_n1 _ _ _ _), blk_d1 (blk_a1 (blk_n0 _ _ _) _), below_d1 (below_a1 (below_a1 hBr _) _)⟩
 case rest =>
  obtain ⟨g5, g6, rfl, rfl, hC, hV, hbx⟩ := hcut
  have HC := hid hC
  have HV := hid hV
  have HE : Hid (Blk wc w.heap.size 40 #[.int .i64 x0, .string x1, .string x2, .int .i64 x3, .bool x4, .string x5, .int .i64 x6, .int .i64 x7, .slice A8 n8 c8, .slice A9 n9 c9, .string x10, .int .i64 x11, .int .i64 x12, .bool x13, .string x14, .slice A15 n15 c15, .slice A16 n16 c16, .slice A17 n17 c17, .slice A18 n18 c18, .int .i64 x19, .int .i64 x20, .int .i64 x21, .int .i64 x22, .int .i64 x23, .int .i64 x24, .int .i64 x25, .int .i64 x26, .string x27, .int .i64 x28]) := hid (HK.out.below hbx HK.out.lt)
  have HBX : Hid (Below w.heap.size w wc) := hid (HB0.out.trans (hbx.mono HB0.out.size))
  clear hL10 hL11 hL12 hL13 hL14 hL15 hL16 hL17 hL18 hL19 hL20 hL21 hL22 hL23 hL24 hL25 hC hV hbx
  have HF := hid (fun W => figure_any x0 x1 x2 x3 x4 x5 x6 x7 A8 n8 c8 A9 n9 c9 x10 x11 x12 x13 x14 A15 n15 c15 A16 n16 c16 A17 n17 c17 A18 n18 c18 x19 x20 x21 x22 x23 x24 x25 x26 x27 x28 W i j HIJ.out)
  have HES : Hid ((Tryz.prog.info? 40).map (·.size) = some (#[.int .i64 x0, .string x1, .string x2, .int .i64 x3, .bool x4, .string x5, .int .i64 x6, .int .i64 x7, .slice A8 n8 c8, .slice A9 n9 c9, .string x10, .int .i64 x11, .int .i64 x12, .bool x13, .string x14, .slice A15 n15 c15, .slice A16 n16 c16, .slice A17 n17 c17, .slice A18 n18 c18, .int .i64 x19, .int .i64 x20, .int .i64 x21, .int .i64 x22, .int .i64 x23, .int .i64 x24, .int .i64 x25, .int .i64 x26, .string x27, .int .i64 x28] : Array Value).size) := hid (by rw [size_event]; rfl)
  go_wp2_with (refine wpList_load_row rfl 40 _ rfl w.heap.size rfl 40 #[.int .i64 x0, .string x1, .string x2, .int .i64 x3, .bool x4, .string x5, .int .i64 x6, .int .i64 x7, .slice A8 n8 c8, .slice A9 n9 c9, .string x10, .int .i64 x11, .int .i64 x12, .bool x13, .string x14, .slice A15 n15 c15, .slice A16 n16 c16, .slice A17 n17 c17, .slice A18 n18 c18, .int .i64 x19, .int .i64 x20, .int .i64 x21, .int .i64 x22, .int .i64 x23, .int .i64 x24, .int .i64 x25, .int .i64 x26, .string x27, .int .i64 x28] (0, 0) _ HE.out Tryz.underlying40 rfl HES.out ?_)
  refine (HF.out _).mono ?_
  rintro e w2 ⟨⟨n, hn, rfl⟩, hb2⟩
  have HB2 := hid (HBX.out.trans (hb2.mono HBX.out.size))
  have HN := hid hn
  have hin := HNUM.out n hn
  have HT := hid (fun W => rtext_any n W hin)
  have hil : (bstr (Ar.itoa n)).size ≤ 20 := by rw [bstr_size]; exact itoa_len n hin
  have HEQ := hid (eq_str (Ar.itoa n))
  clear hb2 hn hin
  by_cases hz : n = 0
  ·subst hz
   have hz0 : Hid (Value.string (⟨#[]⟩ : ByteArray) = .string (bstr (Ar.xval (.num 0)))) := hid rfl
   clear HT hil HEQ
   go_wp2_with fail
   go_ret
   exact ⟨⟨0, HN.out, congrArg Ending.returned hz0.out⟩, HB2.out⟩
  ·have hz1 : ((n : Int) == 0) = false := beq_eq_false_iff_ne.2 hz
   have HX : Hid (Ar.xval (.num n) = 61 :: Ar.itoa n) := hid (by
    have e : Ar.FV.text (.num n) = Ar.itoa n := if_neg hz
    rw [Ar.xval_other rfl, e, if_neg (Ar.itoa_ne n)])
   have hs1 : ¬ 9223372036854775807 < 1 + (bstr (Ar.itoa n)).size := by omega
   have HZ : Hid (Value.string ((⟨#[61]⟩ : ByteArray) ++ bstr (Ar.itoa n)) = .string (bstr (Ar.xval (.num n)))) := hid (by rw [HX.out, HEQ.out])
   generalize bstr (Ar.itoa n) = T at *
   go_wp2_with fail
   refine (HT.out _).mono ?_
   rintro e w3 ⟨rfl, hb3⟩
   have HB3 := hid (HB2.out.trans (hb3.mono HB2.out.size))
   clear hb3
   go_wp2_with fail
   go_ret
   exact ⟨⟨n, HN.out, congrArg Ending.returned HZ.out⟩, HB3.out⟩
end Go.Proofs.YteadlcncnhbmjaaGreatDoor
