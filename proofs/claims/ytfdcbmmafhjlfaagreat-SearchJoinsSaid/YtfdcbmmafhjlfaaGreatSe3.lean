/- The walks over an empty room: what a search finds there. -/
import Derived.Test.YtfdcbmmafhjlfaaGreatSe2
import Derived.Test.YtfdcbmmafhjlfaaGreatSw3
namespace Go.Proofs.YtfdcbmmafhjlfaaGreat
open Go.RowKit Go.Lib
set_option linter.unusedVariables false

theorem shown0' (id u : ByteArray) (w : World) : Calls Tryz.prog 63 #[.agg #[.string id, .slice none 0 0, .slice none 0 0, .slice none 0 0, .slice none 0 0, .slice none 0 0, .int .i64 0, .slice none 0 0, .slice none 0 0], .string u] w fun e w' => e = .returned (.slice none 0 0) ∧ Below w.heap.size w w' := shown0 id u w
set_option maxRecDepth 100000 in
theorem after0 (id u : ByteArray) (w : World) : Calls Tryz.prog 40 #[.agg #[.string id, .slice none 0 0, .slice none 0 0, .slice none 0 0, .slice none 0 0, .slice none 0 0, .int .i64 0, .slice none 0 0, .slice none 0 0], .string u, .int .i64 0] w fun e w' => e = .returned (.slice none 0 0) ∧ Below w.heap.size w w' := by
  go_enter Tryz.func40, Tryz.ntmps40
  go_wp2_with (go_at_call 63; refine (shown0' _ _ _).mono ?_; rintro e w1 ⟨rfl, hb1⟩)
  refine wp_loop_once ?_
  go_wp2_with fail
  go_ret
  exact ⟨rfl, ((Below.refl _ _).alloc (Nat.le_refl _) _).trans (hb1.mono (by simp))⟩
theorem mkevents0 (w : World) : (Instr.makeSlice 28 (.int .i64 0) (.int .i64 0)).run Tryz.prog w = .ok (.slice (some ⟨w.heap.size, 0, none⟩) 0 0) (w.alloc (.cells #[] 41)) := by kernel_rfl
set_option maxRecDepth 100000 in
theorem of0 (w : World) : Calls Tryz.prog 39 #[.slice none 0 0, .slice none 0 0] w fun e w' => (∃ A, e = .returned (.slice A 0 0)) ∧ Below w.heap.size w w' := by
  have hm := mkevents0
  go_enter Tryz.func39, Tryz.ntmps39
  go_wp2_with fail
  refine wp_loop_once ?_
  go_wp2_with fail
  go_ret
  exact ⟨⟨_, rfl⟩, (Below.refl _ _).alloc (Nat.le_refl _) _⟩
set_option maxRecDepth 100000 in
theorem list0 (id u : ByteArray) (w : World) : Calls Tryz.prog 30 #[.agg #[.string id, .slice none 0 0, .slice none 0 0, .slice none 0 0, .slice none 0 0, .slice none 0 0, .int .i64 0, .slice none 0 0, .slice none 0 0], .string u] w fun e w' => e = .returned (.slice none 0 0) ∧ Below w.heap.size w w' := by
  go_enter Tryz.func30, Tryz.ntmps30
  go_wp2_with fail
  have hR := Room0.new id w
  have hz : w.heap.size < (w.alloc (.cells #[.string id, .slice none 0 0, .slice none 0 0, .slice none 0 0, .slice none 0 0, .slice none 0 0, .int .i64 0, .slice none 0 0, .slice none 0 0] 55)).heap.size := by simp
  have hb0 := (Below.refl w.heap.size w).alloc (Nat.le_refl _) (.cells #[.string id, .slice none 0 0, .slice none 0 0, .slice none 0 0, .slice none 0 0, .slice none 0 0, .int .i64 0, .slice none 0 0, .slice none 0 0] 55)
  generalize w.alloc (.cells #[.string id, .slice none 0 0, .slice none 0 0, .slice none 0 0, .slice none 0 0, .slice none 0 0, .int .i64 0, .slice none 0 0, .slice none 0 0] 55) = w0 at *
  refine (gone0 _).mono ?_
  rintro e w1 ⟨rfl, hb1⟩
  have hR1 := hR.below hb1 hz
  have hz1 : w.heap.size < w1.heap.size := Nat.lt_of_lt_of_le hz hb1.size
  go_wp2_with fail
  have hR' := hR1
  unfold Room0 at hR'
  go_region_held3 (fun W => W.cell? ⟨w.heap.size, 0, none⟩ = some (.string id) ∧ W.cell? ⟨w.heap.size, 1, none⟩ = some (.slice none 0 0) ∧ W.cell? ⟨w.heap.size, 2, none⟩ = some (.slice none 0 0) ∧ W.cell? ⟨w.heap.size, 3, none⟩ = some (.slice none 0 0) ∧ W.cell? ⟨w.heap.size, 4, none⟩ = some (.slice none 0 0) ∧ W.cell? ⟨w.heap.size, 5, none⟩ = some (.slice none 0 0) ∧ W.cell? ⟨w.heap.size, 6, none⟩ = some (.int .i64 0) ∧ W.cell? ⟨w.heap.size, 7, none⟩ = some (.slice none 0 0) ∧ W.cell? ⟨w.heap.size, 8, none⟩ = some (.slice none 0 0)) (first | exact hR' | exact Room0.below (w := World.drew _) hR1 hbA hz1 | exact Room0.below (Room0.below (w := World.drew _) hR1 hbA hz1) hbB (Nat.lt_of_lt_of_le hz1 hbA.size)) (first | (go_at_call 40; refine (after0 _ _ _).mono ?_; rintro e wA ⟨rfl, hbA⟩) | (go_at_call 39; refine (of0 _).mono ?_; rintro e wB ⟨⟨Ab, rfl⟩, hbB⟩))
  all_goals
    go_wp2_with fail
    refine wp_loop_once ?_
    go_wp2_with fail
    go_ret
    exact ⟨rfl, (hb0.trans (hb1.mono (Nat.le_of_lt hz))).drew.trans ((hbA.mono (Nat.le_of_lt hz1)).trans (hbB.mono (Nat.le_of_lt (Nat.lt_of_lt_of_le hz1 hbA.size))))⟩
end Go.Proofs.YtfdcbmmafhjlfaaGreat
