/- The iterator over an empty slice hands nothing out; what a search of an empty room finds. -/
import Derived.RangeFuncNested
import Derived.RangeFuncBound
import Derived.RangeFuncCalls
import Derived.RangeFuncLeaves
import Derived.Shelf.Abstract
import Derived.Shelf.RegionOpen
import Derived.WalkKit
import Derived.OwnWalkIn
import Derived.TacticsInMore
import Derived.LoopNIn
import Derived.LoopIn
import Derived.Test.YtfdcbmmafhjlfaaGreatSe3
namespace Go.Proofs.YtfdcbmmafhjlfaaGreat
open Go.RowKit Go.Lib Go.Shelf
set_option linter.unusedVariables false
attribute [local go_sem] Oper.semAt_some

/-- The loop body's argument where nothing comes. -/
inductive Never : Type

set_option maxRecDepth 100000 in
theorem backward1 (f : Value) (b : Nat) (w : World) (hc : w.cell? ⟨b, 0, none⟩ = some (.slice none 0 0)) :
    Calls Tryz.prog 43 #[f, .pointer (some ⟨b, 0, none⟩)] w fun e w' => (∃ v, e = .returned v) ∧ w' = w := by
  go_enter Tryz.func43, Tryz.ntmps43
  go_wp2_with fail
  refine wp_loop_once ?_
  go_wp2_with fail
  go_end0
  exact ⟨⟨_, rfl⟩, rfl⟩

theorem backward_stops (b : Nat) (Kp : World → World → Prop) (w : World) (n : Nat) (hb : b < w.heap.size) (hc : w.cell? ⟨b, 0, none⟩ = some (.slice none 0 0)) :
    SeqStopsK Fence.wide n Tryz.prog 43 #[.pointer (some ⟨b, 0, none⟩)] (fun x : Never => #[undef, undef]) Kp (fun xs => xs = []) (fun _ => False) 0 w := by
  intro l J Jx W hW _ _ _ h0
  refine callsIn_wide.2 ((backward1 _ _ _ ((hW.cell (p := ⟨b, 0, none⟩) hb).trans hc)).mono ?_)
  rintro e w' ⟨he, rfl⟩
  exact ⟨he, .inl ⟨[], rfl, h0⟩⟩

set_option maxRecDepth 100000 in
theorem backward0 (w : World) : Calls Tryz.prog 31 #[.slice none 0 0] w fun e w' =>
    e = .returned (.func (.func 43) #[] #[.pointer (some ⟨w.heap.size, 0, none⟩)]) ∧ w' = w.alloc (.cells #[.slice none 0 0] 28) := by
  go_enter Tryz.func31, Tryz.ntmps31
  go_wp2_with fail
  go_ret
  exact ⟨rfl, rfl⟩

theorem words_x (w : World) : Calls Tryz.prog 8 #[.string (bstr [120])] w fun e w' => (∃ A cap, e = .returned (.slice A 1 cap)) ∧ Below w.heap.size w w' := by
  refine (words_any (bstr [120]) w (by decide)).mono ?_
  rintro e w1 ⟨⟨v, rfl, A, cap, rfl, ho⟩, hb1⟩
  exact ⟨⟨A, cap, by rw [show (Sr.words (bstr [120]).data.toList).length = 1 from by decide +kernel]⟩, hb1⟩

set_option maxRecDepth 100000 in
theorem find0 (id u : ByteArray) (w : World) : Calls Tryz.prog 20 #[.agg #[.string id, .slice none 0 0, .slice none 0 0, .slice none 0 0, .slice none 0 0, .slice none 0 0, .int .i64 0, .slice none 0 0, .slice none 0 0], .string u, .string (bstr [120]), .int .i64 5] w fun e w' => e = .returned (.slice none 0 0) ∧ Below w.heap.size w w' := by
  have h1 : 1 ≤ 6 := by omega
  refine (callsIn_wide (n := 6)).1 ?_
  refine callsIn_of_wp_marks Tryz.func20 rfl trivial ?_ rfl
  simp only [Tryz.ntmps20, List.size_toArray, List.length_cons, List.length_nil, Nat.reduceAdd, Nat.reduceSub, Array.replicate_succ, Array.replicate_zero, List.push_toArray, List.append_toArray, List.nil_append, List.cons_append]
  gi_wp2
  have r0 : Room0 id w.heap.size ((((w.alloc (.cells #[.string id, .slice none 0 0, .slice none 0 0, .slice none 0 0, .slice none 0 0, .slice none 0 0, .int .i64 0, .slice none 0 0, .slice none 0 0] 55)).alloc (.cells #[.string (bstr [120])] 9)).alloc (.cells #[.int .i64 5] 3)).alloc (.cells #[.slice none 0 0] 37)) := (((Room0.new id w).below ((Below.refl _ _).alloc (Nat.le_refl _) _) (by simp)).below ((Below.refl _ _).alloc (Nat.le_refl _) _) (by simp; omega)).below ((Below.refl _ _).alloc (Nat.le_refl _) _) (by simp; omega)
  have s0 : ((((w.alloc (.cells #[.string id, .slice none 0 0, .slice none 0 0, .slice none 0 0, .slice none 0 0, .slice none 0 0, .int .i64 0, .slice none 0 0, .slice none 0 0] 55)).alloc (.cells #[.string (bstr [120])] 9)).alloc (.cells #[.int .i64 5] 3)).alloc (.cells #[.slice none 0 0] 37)).heap.size = w.heap.size + 4 := by simp
  have b0 : Below w.heap.size w ((((w.alloc (.cells #[.string id, .slice none 0 0, .slice none 0 0, .slice none 0 0, .slice none 0 0, .slice none 0 0, .int .i64 0, .slice none 0 0, .slice none 0 0] 55)).alloc (.cells #[.string (bstr [120])] 9)).alloc (.cells #[.int .i64 5] 3)).alloc (.cells #[.slice none 0 0] 37)) := ((((Below.refl _ w).alloc (Nat.le_refl _) _).alloc (by simp) _).alloc (by simp; omega) _).alloc (by simp; omega) _
  have x0 := Boxed.new (((w.alloc (.cells #[.string id, .slice none 0 0, .slice none 0 0, .slice none 0 0, .slice none 0 0, .slice none 0 0, .int .i64 0, .slice none 0 0, .slice none 0 0] 55)).alloc (.cells #[.string (bstr [120])] 9)).alloc (.cells #[.int .i64 5] 3)) 37 (.slice none 0 0)
  have x1 : (((w.alloc (.cells #[.string id, .slice none 0 0, .slice none 0 0, .slice none 0 0, .slice none 0 0, .slice none 0 0, .int .i64 0, .slice none 0 0, .slice none 0 0] 55)).alloc (.cells #[.string (bstr [120])] 9)).alloc (.cells #[.int .i64 5] 3)).heap.size = w.heap.size + 1 + 1 + 1 := by simp
  rw [x1] at x0
  clear x1
  generalize ((((w.alloc (.cells #[.string id, .slice none 0 0, .slice none 0 0, .slice none 0 0, .slice none 0 0, .slice none 0 0, .int .i64 0, .slice none 0 0, .slice none 0 0] 55)).alloc (.cells #[.string (bstr [120])] 9)).alloc (.cells #[.int .i64 5] 3)).alloc (.cells #[.slice none 0 0] 37)) = w0 at *
  have c0 := x0.cell
  have f0 := x0.frozen
  clear x0
  refine ⟨trivial, ?_⟩
  refine (callsIn_wide.2 (words_x _)).mono ?_
  rintro e w1 ⟨⟨A, cap, rfl⟩, hb1⟩
  have hlt : w.heap.size + 1 + 1 + 1 < w0.heap.size := by omega
  have r1 := r0.below hb1 (by omega)
  have c1 := (hb1.cell (p := ⟨w.heap.size + 1 + 1 + 1, 0, none⟩) hlt).trans c0
  have f1 := (hb1.frozen (p := ⟨w.heap.size + 1 + 1 + 1, 0, none⟩) hlt).trans f0
  have z0 := hb1.size
  have z1 : w.heap.size < w1.heap.size := by omega
  have z2 : w.heap.size + 1 + 1 + 1 < w1.heap.size := by omega
  have b1 := b0.trans (hb1.mono (by omega))
  have r1' := r1
  obtain ⟨q0, q1, q2, q3, q4, q5, q6, q7, q8⟩ := r1'
  gi_wp2
  refine ⟨trivial, ?_⟩
  have b2 := b1.alloc (Nat.le_of_lt z1) (.cells #[.int .i64 1] 3)
  have bb : Below w1.heap.size w1 (w1.alloc (.cells #[.int .i64 1] 3)) := (Below.refl _ _).alloc (Nat.le_refl _) _
  have c2 := (bb.cell (p := ⟨w.heap.size + 1 + 1 + 1, 0, none⟩) z2).trans c1
  have f2 := (bb.frozen (p := ⟨w.heap.size + 1 + 1 + 1, 0, none⟩) z2).trans f1
  clear bb
  have z4 : w.heap.size + 1 + 1 + 1 < (w1.alloc (.cells #[.int .i64 1] 3)).heap.size := by simp; omega
  generalize w1.alloc (.cells #[.int .i64 1] 3) = w2 at *
  clear q0 q1 q2 q3 q4 q5 q6 q7 q8 r1 c1 f1 z1 z2 b1
  refine (callsIn_wide.2 (list0 _ _ _)).mono ?_
  rintro e w3 ⟨rfl, hb3⟩
  have c3 := (hb3.cell (p := ⟨w.heap.size + 1 + 1 + 1, 0, none⟩) z4).trans c2
  have f3 := (hb3.frozen (p := ⟨w.heap.size + 1 + 1 + 1, 0, none⟩) z4).trans f2
  have z5 := hb3.size
  have b3 := b2.trans (hb3.mono (by omega))
  have z6 : w.heap.size + 1 + 1 + 1 < w3.heap.size := by omega
  clear c2 f2 z4 b2
  gi_wp2
  refine ⟨trivial, ?_⟩
  have bb : Below w3.heap.size w3 ((w3.alloc (.cells #[.slice none 0 0] 28)).alloc (.cells #[.slice none 0 0] 37)) := ((Below.refl _ _).alloc (Nat.le_refl _) _).alloc (by simp) _
  have c4 := (bb.cell (p := ⟨w.heap.size + 1 + 1 + 1, 0, none⟩) z6).trans c3
  have f4 := (bb.frozen (p := ⟨w.heap.size + 1 + 1 + 1, 0, none⟩) z6).trans f3
  have x4 := Boxed.new (w3.alloc (.cells #[.slice none 0 0] 28)) 37 (.slice none 0 0)
  rw [World.size_alloc] at x4
  have b4 := b3.trans (bb.mono (by omega))
  have z7 : w3.heap.size + 1 < ((w3.alloc (.cells #[.slice none 0 0] 28)).alloc (.cells #[.slice none 0 0] 37)).heap.size := by simp
  clear bb c3 f3 b3 hb3
  generalize ((w3.alloc (.cells #[.slice none 0 0] 28)).alloc (.cells #[.slice none 0 0] 37)) = w4 at *
  refine (callsIn_wide.2 (backward0 _)).mono ?_
  rintro e w5 ⟨rfl, rfl⟩
  gi_wp2
  refine wpIn_rangeFunc_ownF rfl h1 (gf := 43) (lb := #[.pointer (some ⟨w4.heap.size, 0, none⟩)]) rfl trivial (enters_of Tryz.func43 (by kernel_rfl) rfl)
    (backward_stops w4.heap.size (Below w.heap.size) (w4.alloc (.cells #[.slice none 0 0] 28)) 5 (by simp) (Boxed.new w4 28 (.slice none 0 0)).cell) belowK_t (belowK_b (by simp; omega)) (Below.refl _ _) (fun x => nomatch x)
    (fun pre W => (W.cell? ⟨w.heap.size + 1 + 1 + 1, 0, none⟩ = some (.slice none 0 0) ∧ W.frozen? ⟨w.heap.size + 1 + 1 + 1, 0, none⟩ = false ∧ W.cell? ⟨w3.heap.size + 1, 0, none⟩ = some (.slice none 0 0)) ∧ Below w.heap.size w W)
    (fun _ _ _ => False)
    (OwnFrom.and (Own.from (fun s A B row hs hg hr => ⟨cell_kept hs.1 hg hr, (frozen_kept hs.1 hg hr).trans hs.2.1, cell_kept hs.2.2 hg hr⟩) _) (ownFrom_below (Nat.le_refl _) (by simp; omega)))
    (fun _ _ _ _ _ hs _ _ => hs)
    ?init (fun x => nomatch x) ?assign ?body ?done ?stop
  case init =>
    have bb : Below w4.heap.size w4 (w4.alloc (.cells #[.slice none 0 0] 28)) := (Below.refl _ _).alloc (Nat.le_refl _) _
    have l4 : w.heap.size + 1 + 1 + 1 < w4.heap.size := by omega
    exact ⟨⟨(bb.cell (p := ⟨w.heap.size + 1 + 1 + 1, 0, none⟩) l4).trans c4, (bb.frozen (p := ⟨w.heap.size + 1 + 1 + 1, 0, none⟩) l4).trans f4, (bb.cell (p := ⟨w3.heap.size + 1, 0, none⟩) z7).trans x4.cell⟩, b4.trans (bb.mono (by omega))⟩
  case assign => intro l x; exact nomatch x
  case body => intro l pre x; exact nomatch x
  case stop => rintro D c pre W _ h; exact h.elim
  case done =>
    rintro D ys W hD rfl ⟨⟨hc, hf, hx⟩, hB⟩ hK
    have zD : w.heap.size + 1 + 1 + 1 < D := by simp at hD; omega
    gi_wp2
    have hK' := (KeepsOthers.setCell W ⟨w.heap.size + 1 + 1 + 1, 0, none⟩ (.slice none 0 0)).same D _ hK rfl
    have hc5 := cell_kept (World.cell?_setCell_same' W ⟨w.heap.size + 1 + 1 + 1, 0, none⟩ (.slice none 0 0) (by rw [hc]; rfl)) (grownBy_putObj' _ D (.deferred none)) (fun r e => by cases e; exact ⟨_, hK', rfl⟩)
    refine ⟨by simp, .inl ⟨_, _, rfl, run_takeDeferred hK', ?_⟩⟩
    refine ⟨.slice none 0 0, ?_, rfl, (hB.setCell (p := ⟨w.heap.size + 1 + 1 + 1, 0, none⟩) (by simp; omega) _).trans (belowK_b (w := w) (Nat.le_refl _) _ D _ _ (by omega) hK' rfl rfl)⟩
    simp [results, Tryz.f20, go_sem, hc5]
end Go.Proofs.YtfdcbmmafhjlfaaGreat
