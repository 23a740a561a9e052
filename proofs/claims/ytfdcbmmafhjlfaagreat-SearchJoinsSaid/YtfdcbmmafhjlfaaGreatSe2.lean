/- The walks over an empty room. -/
import Derived.Test.YtfdcbmmafhjlfaaGreatSe1
import Derived.Deep.RegionHeld3
import Derived.Deep.MidRow
namespace Go.Proofs.YtfdcbmmafhjlfaaGreat
open Go.RowKit Go.Lib
set_option linter.unusedVariables false

def room0 (id : ByteArray) : Value := .agg #[.string id, .slice none 0 0, .slice none 0 0, .slice none 0 0, .slice none 0 0, .slice none 0 0, .int .i64 0, .slice none 0 0, .slice none 0 0]
set_option maxRecDepth 100000 in
theorem run0 (w : World) : Calls Tryz.prog 98 #[.slice none 0 0] w fun e w' => (∃ g, e = .returned (.pointer (some ⟨g, 0, none⟩))) ∧ Below w.heap.size w w' := by
  have hmm := @run_makeMap Tryz.prog
  go_enter Tryz.func98, Tryz.ntmps98
  go_wp2_with (first | (go_at_call 122; refine (check0 _).mono ?_; rintro e w' ⟨rfl, rfl⟩) | (go_at_call 123; refine (depths0 _).mono ?_; rintro e w1 ⟨rfl, hb1⟩) | (go_at_call 124; refine (order0 _).mono ?_; rintro e w2 ⟨⟨A, c, rfl⟩, hb2⟩))
  refine wp_loop_once ?_
  go_wp2_with fail
  go_ret
  have s1 := hb1.size
  exact ⟨⟨_, rfl⟩, ((((hb1.alloc s1 _).alloc (by simp; omega) _).alloc (by simp; omega) _).alloc (by simp; omega) _).trans (hb2.mono (by simp; omega))⟩
set_option maxRecDepth 100000 in
theorem pick0 (f : Value) (w : World) : Calls Tryz.prog 126 #[.slice none 0 0, f] w fun e w' => e = .returned (.slice none 0 0) ∧ w = w' := by
  go_enter Tryz.func126, Tryz.ntmps126
  go_wp2_with fail
  refine wp_loop_once ?_
  go_wp2_with fail
  go_ret
  exact ⟨rfl, rfl⟩
set_option maxRecDepth 100000 in
theorem accepted0 (g : Nat) (w : World) : Calls Tryz.prog 99 #[.pointer (some ⟨g, 0, none⟩), .slice none 0 0] w fun e w' => e = .returned (.slice none 0 0) ∧ Below w.heap.size w w' := by
  go_enter Tryz.func99, Tryz.ntmps99
  go_wp2_with (go_at_call 126; refine (pick0 _ _).mono ?_; rintro e w' ⟨rfl, rfl⟩)
  go_ret
  exact ⟨rfl, (Below.refl _ _).alloc (Nat.le_refl _) _⟩
set_option maxRecDepth 100000 in
theorem acc0 (w : World) : Calls Tryz.prog 80 #[.slice none 0 0] w fun e w' => e = .returned (.slice none 0 0) ∧ Below w.heap.size w w' := by
  go_enter Tryz.func80, Tryz.ntmps80
  go_wp2_with (first | (go_at_call 98; refine (run0 _).mono ?_; rintro e w1 ⟨⟨g, rfl⟩, hb1⟩) | (go_at_call 99; refine (accepted0 _ _).mono ?_; rintro e w2 ⟨rfl, hb2⟩))
  go_ret
  exact ⟨rfl, hb1.trans (hb2.mono hb1.size)⟩
set_option maxRecDepth 100000 in
theorem eff0 (w : World) : Calls Tryz.prog 59 #[.slice none 0 0] w fun e w' => e = .returned (.slice none 0 0) ∧ Below w.heap.size w w' := by
  go_enter Tryz.func59, Tryz.ntmps59
  go_wp2_with (go_at_call 80; refine (acc0 _).mono ?_; rintro e w1 ⟨rfl, hb1⟩)
  refine wp_loop_once ?_
  go_wp2_with fail
  go_ret
  exact ⟨rfl, hb1⟩
set_option maxRecDepth 100000 in
theorem gone0 (w : World) : Calls Tryz.prog 38 #[.slice none 0 0] w fun e w' => e = .returned (.slice none 0 0) ∧ Below w.heap.size w w' := by
  go_enter Tryz.func38, Tryz.ntmps38
  go_wp2_with (go_at_call 59; refine (eff0 _).mono ?_; rintro e w1 ⟨rfl, hb1⟩)
  refine wp_loop_once ?_
  go_wp2_with (first | (go_at_call 60; refine (Tryz.slices_Sort_int_none _ _ _).mono ?_; rintro e w' ⟨rfl, rfl⟩) | (go_at_call 61; refine (Tryz.slices_Compact_int_empty _ _ _).mono ?_; rintro e w' ⟨rfl, rfl⟩))
  go_ret
  exact ⟨rfl, hb1⟩
set_option maxRecDepth 100000 in
theorem left0 (id : ByteArray) (w : World) : Calls Tryz.prog 85 #[room0 id] w fun e w' => e = .returned (.slice none 0 0) ∧ Below w.heap.size w w' := by
  unfold room0
  go_enter Tryz.func85, Tryz.ntmps85
  go_wp2_with fail
  refine wp_loop_once ?_
  go_wp2_with fail
  go_ret
  exact ⟨rfl, (Below.refl _ _).alloc (Nat.le_refl _) _⟩
set_option maxRecDepth 100000 in
theorem vrows0 (id u : ByteArray) (w : World) : Calls Tryz.prog 84 #[room0 id, .string u] w fun e w' => e = .returned (.slice none 0 0) ∧ Below w.heap.size w w' := by
  unfold room0
  go_enter Tryz.func84, Tryz.ntmps84
  go_wp2_with fail
  refine wp_loop_once ?_
  go_wp2_with fail
  go_ret
  exact ⟨rfl, (Below.refl _ _).alloc (Nat.le_refl _) _⟩
def Room0 (id : ByteArray) (g : Nat) (W : World) : Prop := W.cell? ⟨g, 0, none⟩ = some (.string id) ∧ W.cell? ⟨g, 1, none⟩ = some (.slice none 0 0) ∧ W.cell? ⟨g, 2, none⟩ = some (.slice none 0 0) ∧ W.cell? ⟨g, 3, none⟩ = some (.slice none 0 0) ∧ W.cell? ⟨g, 4, none⟩ = some (.slice none 0 0) ∧ W.cell? ⟨g, 5, none⟩ = some (.slice none 0 0) ∧ W.cell? ⟨g, 6, none⟩ = some (.int .i64 0) ∧ W.cell? ⟨g, 7, none⟩ = some (.slice none 0 0) ∧ W.cell? ⟨g, 8, none⟩ = some (.slice none 0 0)
theorem Room0.below {id : ByteArray} {g B : Nat} {w w' : World} (h : Room0 id g w) (hb : Below B w w') (hg : g < B) : Room0 id g w' := by
  have e : ∀ i, w'.cell? ⟨g, i, none⟩ = w.cell? ⟨g, i, none⟩ := fun i => hb.cell (p := ⟨g, i, none⟩) hg
  unfold Room0 at h ⊢
  simp only [e]
  exact h
theorem Room0.new (id : ByteArray) (w : World) : Room0 id w.heap.size (w.alloc (.cells #[.string id, .slice none 0 0, .slice none 0 0, .slice none 0 0, .slice none 0 0, .slice none 0 0, .int .i64 0, .slice none 0 0, .slice none 0 0] 55)) := by
  unfold Room0
  have h := fun i => (Blk.new w 55 #[.string id, .slice none 0 0, .slice none 0 0, .slice none 0 0, .slice none 0 0, .slice none 0 0, .int .i64 0, .slice none 0 0, .slice none 0 0]).cell i
  simp only [h]
  exact ⟨rfl, rfl, rfl, rfl, rfl, rfl, rfl, rfl, rfl⟩
theorem vrows0' (id u : ByteArray) (w : World) : Calls Tryz.prog 84 #[.agg #[.string id, .slice none 0 0, .slice none 0 0, .slice none 0 0, .slice none 0 0, .slice none 0 0, .int .i64 0, .slice none 0 0, .slice none 0 0], .string u] w fun e w' => e = .returned (.slice none 0 0) ∧ Below w.heap.size w w' := vrows0 id u w
theorem left0' (id : ByteArray) (w : World) : Calls Tryz.prog 85 #[.agg #[.string id, .slice none 0 0, .slice none 0 0, .slice none 0 0, .slice none 0 0, .slice none 0 0, .int .i64 0, .slice none 0 0, .slice none 0 0]] w fun e w' => e = .returned (.slice none 0 0) ∧ Below w.heap.size w w' := left0 id w
set_option maxRecDepth 100000 in
theorem shown0 (id u : ByteArray) (w : World) : Calls Tryz.prog 63 #[room0 id, .string u] w fun e w' => e = .returned (.slice none 0 0) ∧ Below w.heap.size w w' := by
  unfold room0
  go_enter Tryz.func63, Tryz.ntmps63
  go_wp2_with fail
  have hR := Room0.new id w
  have hz : w.heap.size < (w.alloc (.cells #[.string id, .slice none 0 0, .slice none 0 0, .slice none 0 0, .slice none 0 0, .slice none 0 0, .int .i64 0, .slice none 0 0, .slice none 0 0] 55)).heap.size := by simp
  have hb0 := (Below.refl w.heap.size w).alloc (Nat.le_refl _) (.cells #[.string id, .slice none 0 0, .slice none 0 0, .slice none 0 0, .slice none 0 0, .slice none 0 0, .int .i64 0, .slice none 0 0, .slice none 0 0] 55)
  generalize w.alloc (.cells #[.string id, .slice none 0 0, .slice none 0 0, .slice none 0 0, .slice none 0 0, .slice none 0 0, .int .i64 0, .slice none 0 0, .slice none 0 0] 55) = w0 at *
  have hR' := hR
  unfold Room0 at hR'
  go_region_held3 (fun W => W.cell? ⟨w.heap.size, 0, none⟩ = some (.string id) ∧ W.cell? ⟨w.heap.size, 1, none⟩ = some (.slice none 0 0) ∧ W.cell? ⟨w.heap.size, 2, none⟩ = some (.slice none 0 0) ∧ W.cell? ⟨w.heap.size, 3, none⟩ = some (.slice none 0 0) ∧ W.cell? ⟨w.heap.size, 4, none⟩ = some (.slice none 0 0) ∧ W.cell? ⟨w.heap.size, 5, none⟩ = some (.slice none 0 0) ∧ W.cell? ⟨w.heap.size, 6, none⟩ = some (.int .i64 0) ∧ W.cell? ⟨w.heap.size, 7, none⟩ = some (.slice none 0 0) ∧ W.cell? ⟨w.heap.size, 8, none⟩ = some (.slice none 0 0)) (first | exact hR' | exact hR.below (w := w0) (w' := World.drew w0) (Below.refl _ _).drew hz | exact Room0.below (w := World.drew _) hR hbA hz | exact Room0.below (w := World.drew _) hR hbB hz | exact Room0.below (Room0.below (w := World.drew _) hR hbA hz) hbB (Nat.lt_of_lt_of_le hz hbA.size) | exact Room0.below (Room0.below (w := World.drew _) hR hbB hz) hbA (Nat.lt_of_lt_of_le hz hbB.size)) (first | (go_at_call 84; refine (vrows0' _ _ _).mono ?_; rintro e wA ⟨rfl, hbA⟩) | (go_at_call 85; refine (left0' _ _).mono ?_; rintro e wB ⟨rfl, hbB⟩))
  all_goals
    go_wp2_with fail
    refine wp_loop_once ?_
    go_wp2_with fail
    go_ret
    exact ⟨rfl, hb0.drew.trans ((hbA.mono (Nat.le_of_lt hz)).trans (hbB.mono (Nat.le_of_lt (Nat.lt_of_lt_of_le hz hbA.size))))⟩
end Go.Proofs.YtfdcbmmafhjlfaaGreat
