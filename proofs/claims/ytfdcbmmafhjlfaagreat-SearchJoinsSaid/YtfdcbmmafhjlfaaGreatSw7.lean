/- Sorting and compacting a row of texts of the call's own. -/
import Derived.Test.YtfdcbmmafhjlfaaGreatSw5
import Derived.Test.YtfdcbmmafhjlfaaGreatShelf
namespace Go.Proofs.YtfdcbmmafhjlfaaGreat
open Go.RowKit Go.Lib Go.Sort
set_option linter.unusedVariables false

theorem own_shrink {w : World} {base g cap n k : Nat} {e : TypeId} {xs : List Value} (h : w.ownsRow base e 1 (.slice (some ⟨g, 0, none⟩) n cap) n xs) (hk : k ≤ n) :
    w.ownsRow base e 1 (.slice (some ⟨g, 0, none⟩) k cap) k (xs.take k) := by
  obtain ⟨h1, h2⟩ := h
  rcases h2 with ⟨h0, _⟩ | ⟨g', cap', cur, hv, hg, hh, hn, hcap, hsz, ht⟩
  · simp at h0
  · simp only [Value.slice.injEq, Option.some.injEq, Addr.mk.injEq, and_true, true_and] at hv
    obtain ⟨rfl, rfl⟩ := hv
    refine ⟨by rw [List.length_take]; omega, .inr ⟨g, cap, cur, rfl, hg, hh, by omega, hcap, hsz, ?_⟩⟩
    rw [← ht, List.take_take]
    congr 1
    omega
theorem own_form {w : World} {base n cap : Nat} {e : TypeId} {A : Option Addr} {xs : List Value} (h : w.ownsRow base e 1 (.slice A n cap) n xs) (hn : 0 < n) :
    ∃ g cur, A = some ⟨g, 0, none⟩ ∧ base ≤ g ∧ w.heap[g]? = some (.cells cur e (0, 0)) ∧ n ≤ cap ∧ cap ≤ maxLen ∧ cur.size = cap * 1 ∧ cur.toList.take n = xs := by
  rcases h.2 with ⟨_, h0⟩ | ⟨g, cap', cur, hv, h1, h2, h3, h4, h5, h6⟩
  · omega
  · simp only [Value.slice.injEq, true_and] at hv
    obtain ⟨rfl, rfl⟩ := hv
    exact ⟨g, cur, rfl, h1, h2, h3, h4, h5, by rw [← h6]; simp⟩
theorem own_base {w : World} {base base' n : Nat} {e : TypeId} {v : Value} {xs : List Value} (h : w.ownsRow base e 1 v n xs) (hb : base' ≤ base) : w.ownsRow base' e 1 v n xs := Joins.ownsRow_le h hb

theorem sort_own {w : World} {base : Nat} {A : Option Addr} {cap : Nat} {ss : List (List UInt8)} (h : w.ownsRow base 9 1 (.slice A ss.length cap) ss.length (strL ss)) (hl : ss.length ≤ 1000000) :
    Calls Tryz.prog 22 #[.slice A ss.length cap] w fun e w' => e = .returned (.tuple #[]) ∧
      w'.ownsRow base 9 1 (.slice A ss.length cap) ss.length (strL (ss.mergeSort fun x y => decide (x ≤ y))) ∧ w.grownBy w' (Value.slice A ss.length cap).ownBlock := by
  rcases Nat.eq_zero_or_pos ss.length with h0 | h0
  · have hs : ss = [] := List.eq_nil_of_length_eq_zero h0
    subst hs
    refine (Tryz.slices_Sort_string_none A cap w).mono ?_
    rintro e w' ⟨rfl, rfl⟩
    exact ⟨rfl, by rw [List.mergeSort_nil]; exact h, World.grownBy.refl _ _⟩
  · obtain ⟨g, cur, rfl, hg, hh, hn, hcap, hsz, ht⟩ := own_form h h0
    have hlt : g < w.heap.size := (Array.getElem?_eq_some_iff.1 hh).1
    refine (Tryz.slices_Sort_string g 0 cap ss w (holds_of_block hh ht) hlt (by omega)).mono ?_
    rintro e w' ⟨rfl, nn, os, rfl⟩
    refine ⟨rfl, ?_, ?_⟩
    · have := ownsRow_sorted (n := nn) (os := os) (ts := ss.mergeSort fun x y => decide (x ≤ y)) (ss := ss) (by simp) hg hh hn hcap hsz
      exact this
    · exact grownBy_sorted _
theorem sort_own_n {w : World} {base n : Nat} {A : Option Addr} {cap : Nat} {ss : List (List UInt8)} (hn : ss.length = n) (h : w.ownsRow base 9 1 (.slice A n cap) n (strL ss)) (hl : n ≤ 1000000) :
    Calls Tryz.prog 22 #[.slice A n cap] w fun e w' => e = .returned (.tuple #[]) ∧
      w'.ownsRow base 9 1 (.slice A n cap) n (strL (ss.mergeSort fun x y => decide (x ≤ y))) ∧ w.grownBy w' (Value.slice A n cap).ownBlock := by
  subst hn
  exact sort_own h hl
theorem compact_len (l : List (List UInt8)) : (Lib.compact l).length ≤ l.length := Lib.compact_length_le l
theorem compact_own {w : World} {base : Nat} {A : Option Addr} {cap : Nat} {ss : List (List UInt8)} (h : w.ownsRow base 9 1 (.slice A ss.length cap) ss.length (strL ss)) (hl : ss.length ≤ 1000000) :
    Calls Tryz.prog 23 #[.slice A ss.length cap] w fun e w' => e = .returned (.slice A (Lib.compact ss).length cap) ∧
      w'.ownsRow base 9 1 (.slice A (Lib.compact ss).length cap) (Lib.compact ss).length (strL (Lib.compact ss)) ∧ w.grownBy w' (Value.slice A ss.length cap).ownBlock := by
  rcases Nat.eq_zero_or_pos ss.length with h0 | h0
  · have hs : ss = [] := List.eq_nil_of_length_eq_zero h0
    subst hs
    refine (Tryz.slices_Compact_string_empty A cap w).mono ?_
    rintro e w' ⟨rfl, rfl⟩
    exact ⟨rfl, h, World.grownBy.refl _ _⟩
  · obtain ⟨g, cur, rfl, hg, hh, hn, hcap, hsz, ht⟩ := own_form h h0
    have hcl := compact_len ss
    refine (Tryz.slices_Compact_string g 0 cap ss w (holds_of_block hh ht) (by omega) hn).mono ?_
    rintro e w' ⟨rfl, q, rfl⟩
    have hts : (Lib.compact ss ++ List.replicate (ss.length - (Lib.compact ss).length) []).length = ss.length := by rw [List.length_append, List.length_replicate]; omega
    refine ⟨rfl, ?_, ?_⟩
    · have h1 := ownsRow_sorted (n := q) (os := #[]) (ts := Lib.compact ss ++ List.replicate (ss.length - (Lib.compact ss).length) []) (ss := ss) hts hg hh hn hcap hsz
      rw [grow_empty] at h1
      have h2 := own_shrink h1 hcl
      have e : (strL (Lib.compact ss ++ List.replicate (ss.length - (Lib.compact ss).length) [])).take (Lib.compact ss).length = strL (Lib.compact ss) := by
        rw [strL_append]
        exact List.take_left' (strL_len _)
      exact e ▸ h2
    · have := grownBy_sorted (w := w) (g := g) (n := q) (os := #[]) (Lib.compact ss ++ List.replicate (ss.length - (Lib.compact ss).length) []).toArray
      rw [grow_empty] at this
      exact this
theorem compact_own_n {w : World} {base n : Nat} {A : Option Addr} {cap : Nat} {ss : List (List UInt8)} (hn : ss.length = n) (h : w.ownsRow base 9 1 (.slice A n cap) n (strL ss)) (hl : n ≤ 1000000) :
    Calls Tryz.prog 23 #[.slice A n cap] w fun e w' => e = .returned (.slice A (Lib.compact ss).length cap) ∧
      w'.ownsRow base 9 1 (.slice A (Lib.compact ss).length cap) (Lib.compact ss).length (strL (Lib.compact ss)) ∧ w.grownBy w' (Value.slice A n cap).ownBlock := by
  subst hn
  exact compact_own h hl
/-- what the two calls leave together -/
theorem names_own {w' : World} {base : Nat} {A : Option Addr} {cap : Nat} {ss : List (List UInt8)} (h : w'.ownsRow base 9 1 (.slice A (Lib.compact (ss.mergeSort fun x y => decide (x ≤ y))).length cap) (Lib.compact (ss.mergeSort fun x y => decide (x ≤ y))).length (strL (Lib.compact (ss.mergeSort fun x y => decide (x ≤ y))))) (base' : Nat) (hb : base' ≤ base) :
    OwnS base' w' (.slice A (Lib.compact (ss.mergeSort fun x y => decide (x ≤ y))).length cap) (Sr.names ss) := by
  rw [Sr.compact_merge] at h ⊢
  exact ⟨A, cap, rfl, own_base h hb⟩
end Go.Proofs.YtfdcbmmafhjlfaaGreat
