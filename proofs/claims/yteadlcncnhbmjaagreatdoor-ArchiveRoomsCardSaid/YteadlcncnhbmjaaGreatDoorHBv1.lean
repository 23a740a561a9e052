/- The text Bv1. -/
import Derived.Test.YteadlcncnhbmjaaGreatDoorMag
set_option linter.unusedSimpArgs false
set_option maxHeartbeats 16000000
set_option maxRecDepth 100000
set_option linter.unusedVariables false
namespace Go.Proofs.YteadlcncnhbmjaaGreatDoor
open Go.RowKit Go.Lib
set_option linter.unusedVariables false
theorem below_d1 {W w1 : World} (h : Below w1.heap.size w1 W) : Below w1.heap.size w1 W.drew := h.drew
theorem below_a1 {W w1 : World} (h : Below w1.heap.size w1 W) (o : Obj) : Below w1.heap.size w1 (W.alloc o) := h.alloc h.size o
theorem blk_a1 {W : World} {g : Nat} {t : TypeId} {cs : Array Value} (h : Blk W g t cs) (o : Obj) : Blk (W.alloc o) g t cs := h.alloc o
theorem blk_d1 {W : World} {g : Nat} {t : TypeId} {cs : Array Value} (h : Blk W g t cs) : Blk W.drew g t cs := h
theorem blk_n0 (W : World) (t : TypeId) (cs : Array Value) : Blk (W.alloc (.cells cs t)) W.heap.size t cs := Blk.new W t cs
theorem blk_n1 (W : World) (o : Obj) (t : TypeId) (cs : Array Value) : Blk ((W.alloc o).alloc (.cells cs t)) (W.heap.size + 1) t cs := by have := Blk.new (W.alloc o) t cs; rwa [World.size_alloc] at this
theorem figure_any (x0 : Int) (x1 : ByteArray) (x2 : ByteArray) (x3 : Int) (x4 : Bool) (x5 : ByteArray) (x6 : Int) (x7 : Int) (A8 : Option Addr) (n8 c8 : Nat) (A9 : Option Addr) (n9 c9 : Nat) (x10 : ByteArray) (x11 : Int) (x12 : Int) (x13 : Bool) (x14 : ByteArray) (A15 : Option Addr) (n15 c15 : Nat) (A16 : Option Addr) (n16 c16 : Nat) (A17 : Option Addr) (n17 c17 : Nat) (A18 : Option Addr) (n18 c18 : Nat) (x19 : Int) (x20 : Int) (x21 : Int) (x22 : Int) (x23 : Int) (x24 : Int) (x25 : Int) (x26 : Int) (x27 : ByteArray) (x28 : Int) (w : World) (i : Nat) (j : Int) (hij : (i = 0 ∧ j = 0) ∨ (i = 3 ∧ j = 3) ∨ (i = 6 ∧ j = 6) ∨ (i = 7 ∧ j = 7) ∨ (i = 11 ∧ j = 11) ∨ (i = 12 ∧ j = 12) ∨ (i = 19 ∧ j = 19) ∨ (i = 20 ∧ j = 20) ∨ (i = 21 ∧ j = 21) ∨ (i = 22 ∧ j = 22) ∨ (i = 23 ∧ j = 23) ∨ (i = 24 ∧ j = 24) ∨ (i = 25 ∧ j = 25) ∨ (i = 26 ∧ j = 26) ∨ (i = 28 ∧ j = 28)) : Calls Tryz.prog 121 #[.agg #[.int .i64 x0, .string x1, .string x2, .int .i64 x3, .bool x4, .string x5, .int .i64 x6, .int .i64 x7, .slice A8 n8 c8, .slice A9 n9 c9, .string x10, .int .i64 x11, .int .i64 x12, .bool x13, .string x14, .slice A15 n15 c15, .slice A16 n16 c16, .slice A17 n17 c17, .slice A18 n18 c18, .int .i64 x19, .int .i64 x20, .int .i64 x21, .int .i64 x22, .int .i64 x23, .int .i64 x24, .int .i64 x25, .int .i64 x26, .string x27, .int .i64 x28], .int .i64 j] w fun e w' => (∃ n, (#[.int .i64 x0, .string x1, .string x2, .int .i64 x3, .bool x4, .string x5, .int .i64 x6, .int .i64 x7, .slice A8 n8 c8, .slice A9 n9 c9, .string x10, .int .i64 x11, .int .i64 x12, .bool x13, .string x14, .slice A15 n15 c15, .slice A16 n16 c16, .slice A17 n17 c17, .slice A18 n18 c18, .int .i64 x19, .int .i64 x20, .int .i64 x21, .int .i64 x22, .int .i64 x23, .int .i64 x24, .int .i64 x25, .int .i64 x26, .string x27, .int .i64 x28] : Array Value)[i]? = some (.int .i64 n) ∧ e = .returned (.int .i64 n)) ∧ Below w.heap.size w w' := by
 have hB0 := (Below.refl w.heap.size w).alloc (Nat.le_refl _) (.cells #[.int .i64 x0, .string x1, .string x2, .int .i64 x3, .bool x4, .string x5, .int .i64 x6, .int .i64 x7, .slice A8 n8 c8, .slice A9 n9 c9, .string x10, .int .i64 x11, .int .i64 x12, .bool x13, .string x14, .slice A15 n15 c15, .slice A16 n16 c16, .slice A17 n17 c17, .slice A18 n18 c18, .int .i64 x19, .int .i64 x20, .int .i64 x21, .int .i64 x22, .int .i64 x23, .int .i64 x24, .int .i64 x25, .int .i64 x26, .string x27, .int .i64 x28] 40)
 have hk := Blk.new w 40 #[.int .i64 x0, .string x1, .string x2, .int .i64 x3, .bool x4, .string x5, .int .i64 x6, .int .i64 x7, .slice A8 n8 c8, .slice A9 n9 c9, .string x10, .int .i64 x11, .int .i64 x12, .bool x13, .string x14, .slice A15 n15 c15, .slice A16 n16 c16, .slice A17 n17 c17, .slice A18 n18 c18, .int .i64 x19, .int .i64 x20, .int .i64 x21, .int .i64 x22, .int .i64 x23, .int .i64 x24, .int .i64 x25, .int .i64 x26, .string x27, .int .i64 x28]
 generalize hw1 : w.alloc (.cells #[.int .i64 x0, .string x1, .string x2, .int .i64 x3, .bool x4, .string x5, .int .i64 x6, .int .i64 x7, .slice A8 n8 c8, .slice A9 n9 c9, .string x10, .int .i64 x11, .int .i64 x12, .bool x13, .string x14, .slice A15 n15 c15, .slice A16 n16 c16, .slice A17 n17 c17, .slice A18 n18 c18, .int .i64 x19, .int .i64 x20, .int .i64 x21, .int .i64 x22, .int .i64 x23, .int .i64 x24, .int .i64 x25, .int .i64 x26, .string x27, .int .i64 x28] 40) = w1 at *
 have hBr := Below.refl w1.heap.size w1
 have hlt0 := hk.lt
 have hL10 : ∀ W, Below w1.heap.size w1 W → W.cell? ⟨w.heap.size, 10, none⟩ = some (.string x10) := fun W h => (h.cell (p := ⟨w.heap.size, 10, none⟩) hlt0).trans (hk.cell 10)
 have hL11 : ∀ W, Below w1.heap.size w1 W → W.cell? ⟨w.heap.size, 11, none⟩ = some (.int .i64 x11) := fun W h => (h.cell (p := ⟨w.heap.size, 11, none⟩) hlt0).trans (hk.cell 11)
 have hL12 : ∀ W, Below w1.heap.size w1 W → W.cell? ⟨w.heap.size, 12, none⟩ = some (.int .i64 x12) := fun W h => (h.cell (p := ⟨w.heap.size, 12, none⟩) hlt0).trans (hk.cell 12)
 have hL13 : ∀ W, Below w1.heap.size w1 W → W.cell? ⟨w.heap.size, 13, none⟩ = some (.bool x13) := fun W h => (h.cell (p := ⟨w.heap.size, 13, none⟩) hlt0).trans (hk.cell 13)
 have hL14 : ∀ W, Below w1.heap.size w1 W → W.cell? ⟨w.heap.size, 14, none⟩ = some (.string x14) := fun W h => (h.cell (p := ⟨w.heap.size, 14, none⟩) hlt0).trans (hk.cell 14)
 have hL15 : ∀ W, Below w1.heap.size w1 W → W.cell? ⟨w.heap.size, 15, none⟩ = some (.slice A15 n15 c15) := fun W h => (h.cell (p := ⟨w.heap.size, 15, none⟩) hlt0).trans (hk.cell 15)
 have hL16 : ∀ W, Below w1.heap.size w1 W → W.cell? ⟨w.heap.size, 16, none⟩ = some (.slice A16 n16 c16) := fun W h => (h.cell (p := ⟨w.heap.size, 16, none⟩) hlt0).trans (hk.cell 16)
 have hL17 : ∀ W, Below w1.heap.size w1 W → W.cell? ⟨w.heap.size, 17, none⟩ = some (.slice A17 n17 c17) := fun W h => (h.cell (p := ⟨w.heap.size, 17, none⟩) hlt0).trans (hk.cell 17)
 have hL18 : ∀ W, Below w1.heap.size w1 W → W.cell? ⟨w.heap.size, 18, none⟩ = some (.slice A18 n18 c18) := fun W h => (h.cell (p := ⟨w.heap.size, 18, none⟩) hlt0).trans (hk.cell 18)
 have hL19 : ∀ W, Below w1.heap.size w1 W → W.cell? ⟨w.heap.size, 19, none⟩ = some (.int .i64 x19) := fun W h => (h.cell (p := ⟨w.heap.size, 19, none⟩) hlt0).trans (hk.cell 19)
 have hL20 : ∀ W, Below w1.heap.size w1 W → W.cell? ⟨w.heap.size, 20, none⟩ = some (.int .i64 x20) := fun W h => (h.cell (p := ⟨w.heap.size, 20, none⟩) hlt0).trans (hk.cell 20)
 have hL21 : ∀ W, Below w1.heap.size w1 W → W.cell? ⟨w.heap.size, 21, none⟩ = some (.int .i64 x21) := fun W h => (h.cell (p := ⟨w.heap.size, 21, none⟩) hlt0).trans (hk.cell 21)
 have hL22 : ∀ W, Below w1.heap.size w1 W → W.cell? ⟨w.heap.size, 22, none⟩ = some (.int .i64 x22) := fun W h => (h.cell (p := ⟨w.heap.size, 22, none⟩) hlt0).trans (hk.cell 22)
 have hL23 : ∀ W, Below w1.heap.size w1 W → W.cell? ⟨w.heap.size, 23, none⟩ = some (.int .i64 x23) := fun W h => (h.cell (p := ⟨w.heap.size, 23, none⟩) hlt0).trans (hk.cell 23)
 have hL24 : ∀ W, Below w1.heap.size w1 W → W.cell? ⟨w.heap.size, 24, none⟩ = some (.int .i64 x24) := fun W h => (h.cell (p := ⟨w.heap.size, 24, none⟩) hlt0).trans (hk.cell 24)
 have hL25 : ∀ W, Below w1.heap.size w1 W → W.cell? ⟨w.heap.size, 25, none⟩ = some (.int .i64 x25) := fun W h => (h.cell (p := ⟨w.heap.size, 25, none⟩) hlt0).trans (hk.cell 25)
 have HB0 := hid hB0
 have HK := hid hk
 clear hB0 hk hlt0
 go_enter Tryz.func121, Tryz.ntmps121
 go_wp2_with fail
 go_cut [5, 6] from 7 to 11 (fun pa pb wx => ∃ g5 g6 : Nat, pa = .pointer (some ⟨g5, 0, none⟩) ∧ pb = .pointer (some ⟨g6, 0, none⟩) ∧ Blk wx g5 36 #[.string x10, .int .i64 x11, .int .i64 x12, .bool x13, .string x14, .slice A15 n15 c15, .slice A16 n16 c16, .slice A17 n17 c17, .slice A18 n18 c18, .int .i64 x19, .int .i64 x20, .int .i64 x21, .int .i64 x22, .int .i64 x23, .int .i64 x24, .int .i64 x25] ∧ Blk wx g6 34 #[.slice A17 n17 c17, .slice A18 n18 c18, .int .i64 x19, .int .i64 x20, .int .i64 x21, .int .i64 x22, .int .i64 x23, .int .i64 x24, .int .i64 x25] ∧ Below w1.heap.size w1 wx)
 case first =>
  go_region_held3 (fun W => Below w1.heap.size w1 W) (with_reducible (repeat (first | exact hBr | refine below_d1 ?_ | refine below_a1 ?_ _))) (fail)
  all_goals
   go_wp2_with fail
   go_meet
   first
    | exact ⟨_, _, rfl, rfl, blk_d1 (blk_a1 (blk_n0 _ _ _) _), blk_d1 (blk_n1 _ _ _ _), below_d1 (below_a1 (below_a1 hBr _) _)⟩
    | exact ⟨_, _, rfl, rfl, blk_d1 (blk_n1 _ _ _ _), blk_d1 (blk_a1 (blk_n0 _ _ _) _), below_d1 (below_a1 (below_a1 hBr _) _)⟩
 case rest =>
  obtain ⟨g5, g6, rfl, rfl, hC, hV, hbx⟩ := hcut
  have HC := hid hC
  have HV := hid hV
  have HE : Hid (Blk wc w.heap.size 40 #[.int .i64 x0, .string x1, .string x2, .int .i64 x3, .bool x4, .string x5, .int .i64 x6, .int .i64 x7, .slice A8 n8 c8, .slice A9 n9 c9, .string x10, .int .i64 x11, .int .i64 x12, .bool x13, .string x14, .slice A15 n15 c15, .slice A16 n16 c16, .slice A17 n17 c17, .slice A18 n18 c18, .int .i64 x19, .int .i64 x20, .int .i64 x21, .int .i64 x22, .int .i64 x23, .int .i64 x24, .int .i64 x25, .int .i64 x26, .string x27, .int .i64 x28]) := hid (HK.out.below hbx HK.out.lt)
  have HBX : Hid (Below w.heap.size w wc) := hid (HB0.out.trans (hbx.mono HB0.out.size))
  clear hL10 hL11 hL12 hL13 hL14 hL15 hL16 hL17 hL18 hL19 hL20 hL21 hL22 hL23 hL24 hL25 hC hV hbx
  rcases hij with ⟨rfl, rfl⟩ | ⟨rfl, rfl⟩ | ⟨rfl, rfl⟩ | ⟨rfl, rfl⟩ | ⟨rfl, rfl⟩ | ⟨rfl, rfl⟩ | ⟨rfl, rfl⟩ | ⟨rfl, rfl⟩ | ⟨rfl, rfl⟩ | ⟨rfl, rfl⟩ | ⟨rfl, rfl⟩ | ⟨rfl, rfl⟩ | ⟨rfl, rfl⟩ | ⟨rfl, rfl⟩ | ⟨rfl, rfl⟩
  ·have hc : wc.cell? ⟨w.heap.size, 0, none⟩ = some (.int .i64 x0) := HE.out.cell 0
   go_wp2_with fail
   go_ret
   exact ⟨⟨_, rfl, rfl⟩, HBX.out⟩
  ·have hc : wc.cell? ⟨w.heap.size, 3, none⟩ = some (.int .i64 x3) := HE.out.cell 3
   go_wp2_with fail
   go_ret
   exact ⟨⟨_, rfl, rfl⟩, HBX.out⟩
  ·have hc : wc.cell? ⟨w.heap.size, 6, none⟩ = some (.int .i64 x6) := HE.out.cell 6
   go_wp2_with fail
   go_ret
   exact ⟨⟨_, rfl, rfl⟩, HBX.out⟩
  ·have hc : wc.cell? ⟨w.heap.size, 7, none⟩ = some (.int .i64 x7) := HE.out.cell 7
   go_wp2_with fail
   go_ret
   exact ⟨⟨_, rfl, rfl⟩, HBX.out⟩
  ·have hc : wc.cell? ⟨g5, 1, none⟩ = some (.int .i64 x11) := HC.out.cell 1
   go_wp2_with fail
   go_ret
   exact ⟨⟨_, rfl, rfl⟩, HBX.out⟩
  ·have hc : wc.cell? ⟨g5, 2, none⟩ = some (.int .i64 x12) := HC.out.cell 2
   go_wp2_with fail
   go_ret
   exact ⟨⟨_, rfl, rfl⟩, HBX.out⟩
  ·have hc : wc.cell? ⟨g6, 2, none⟩ = some (.int .i64 x19) := HV.out.cell 2
   go_wp2_with fail
   go_ret
   exact ⟨⟨_, rfl, rfl⟩, HBX.out⟩
  ·have hc : wc.cell? ⟨g6, 3, none⟩ = some (.int .i64 x20) := HV.out.cell 3
   go_wp2_with fail
   go_ret
   exact ⟨⟨_, rfl, rfl⟩, HBX.out⟩
  ·have hc : wc.cell? ⟨g6, 4, none⟩ = some (.int .i64 x21) := HV.out.cell 4
   go_wp2_with fail
   go_ret
   exact ⟨⟨_, rfl, rfl⟩, HBX.out⟩
  ·have hc : wc.cell? ⟨g6, 5, none⟩ = some (.int .i64 x22) := HV.out.cell 5
   go_wp2_with fail
   go_ret
   exact ⟨⟨_, rfl, rfl⟩, HBX.out⟩
  ·have hc : wc.cell? ⟨g6, 6, none⟩ = some (.int .i64 x23) := HV.out.cell 6
   go_wp2_with fail
   go_ret
   exact ⟨⟨_, rfl, rfl⟩, HBX.out⟩
  ·have hc : wc.cell? ⟨g6, 7, none⟩ = some (.int .i64 x24) := HV.out.cell 7
   go_wp2_with fail
   go_ret
   exact ⟨⟨_, rfl, rfl⟩, HBX.out⟩
  ·have hc : wc.cell? ⟨g6, 8, none⟩ = some (.int .i64 x25) := HV.out.cell 8
   go_wp2_with fail
   go_ret
   exact ⟨⟨_, rfl, rfl⟩, HBX.out⟩
  ·have hc : wc.cell? ⟨w.heap.size, 26, none⟩ = some (.int .i64 x26) := HE.out.cell 26
   go_wp2_with fail
   go_ret
   exact ⟨⟨_, rfl, rfl⟩, HBX.out⟩
  ·have hc : wc.cell? ⟨w.heap.size, 28, none⟩ = some (.int .i64 x28) := HE.out.cell 28
   go_wp2_with fail
   go_ret
   exact ⟨⟨_, rfl, rfl⟩, HBX.out⟩
end Go.Proofs.YteadlcncnhbmjaaGreatDoor
