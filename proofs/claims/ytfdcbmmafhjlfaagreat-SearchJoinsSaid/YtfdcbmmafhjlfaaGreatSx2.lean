/- The walk of SameCounts, of equal lists. -/
import Derived.Test.YtfdcbmmafhjlfaaGreatSx1
namespace Go.Proofs.YtfdcbmmafhjlfaaGreat
open Go.RowKit Go.Lib
set_option linter.unusedVariables false

theorem cntL_get : ∀ (cs : List Sr.Cnt) (k : Nat) (t : List UInt8) (c : Nat), cs[k]? = some (t, c) → (cntL cs)[k * 2]? = some (.string (bstr t)) ∧ (cntL cs)[k * 2 + 1]? = some (.int .i64 (c : Int))
  | [], k, t, c, h => by simp at h
  | p :: r, 0, t, c, h => by
    obtain rfl : p = (t, c) := by simpa using h
    exact ⟨rfl, rfl⟩
  | p :: r, k + 1, t, c, h => by
    have ih := cntL_get r k t c (by simpa using h)
    have e : cntL (p :: r) = .string (bstr p.1) :: .int .i64 (p.2 : Int) :: cntL r := rfl
    rw [e, show (k + 1) * 2 = k * 2 + 1 + 1 from by omega]
    exact ih
/-- a row of words with numbers, to be read -/
def Rc (w : World) (A : Option Addr) (cs : List Sr.Cnt) : Prop := ∀ (k : Nat) (t : List UInt8) (c : Nat), cs[k]? = some (t, c) → ∃ b off, A = some ⟨b, off, none⟩ ∧ w.cell? ⟨b, off + k * 2, none⟩ = some (.string (bstr t)) ∧ w.cell? ⟨b, off + k * 2 + 1, none⟩ = some (.int .i64 (c : Int))
theorem Rc.of_own {w : World} {base n cap : Nat} {A : Option Addr} {cs : List Sr.Cnt} {e : TypeId} (h : w.ownsRow base e 2 (.slice A n cap) n (cntL cs)) (hn : cs.length = n) : Rc w A cs := by
  intro k t c hk
  have hlt : k < n := by rw [← hn]; exact (List.getElem?_eq_some_iff.1 hk).1
  obtain ⟨g, cap', hv, hb, hg⟩ := h.form (by omega)
  simp only [Value.slice.injEq, true_and] at hv
  obtain ⟨rfl, rfl⟩ := hv
  have h2 := cntL_get cs k t c hk
  refine ⟨g, 0, rfl, ?_, ?_⟩
  · rw [Nat.zero_add]; exact (h.cellAt (k * 2) (by omega)).trans h2.1
  · rw [Nat.zero_add]; exact (h.cellAt (k * 2 + 1) (by omega)).trans h2.2
theorem Rc.below {w w' : World} {A : Option Addr} {cs : List Sr.Cnt} (h : Rc w A cs) (hb : Below w.heap.size w w') : Rc w' A cs := by
  intro k t c hk
  obtain ⟨b, off, e, h1, h2⟩ := h k t c hk
  exact ⟨b, off, e, (hb.cell (p := ⟨b, off + k * 2, none⟩) (block_lt h1)).trans h1, (hb.cell (p := ⟨b, off + k * 2 + 1, none⟩) (block_lt h2)).trans h2⟩
theorem Rc.of_blk {w : World} {g : Nat} {e : TypeId} {cs : List Sr.Cnt} (h : Blk w g e (cntL cs).toArray) : Rc w (some ⟨g, 0, none⟩) cs := by
  intro k t c hk
  have h2 := cntL_get cs k t c hk
  refine ⟨g, 0, rfl, ?_, ?_⟩
  · rw [Nat.zero_add, h.cell, List.getElem?_toArray]; exact h2.1
  · rw [Nat.zero_add, h.cell, List.getElem?_toArray]; exact h2.2

set_option maxRecDepth 100000 in
theorem samecounts_any (A B : Option Addr) (n ca cb : Nat) (cs : List Sr.Cnt) (w : World) (ha : Rc w A cs) (hb : Rc w B cs) (hl : cs.length = n) (hn : n ≤ 100000) :
    Calls Tryz.prog 13 #[.slice A n ca, .slice B n cb] w fun e w' => e = .returned (.bool true) ∧ ∃ q, w' = w.drewN q := by
  have HL := Lib.hid hl
  have HA := Lib.hid ha
  have HB := Lib.hid hb
  clear hl ha hb
  have hne : ((n : Int) != (n : Int)) = false := by rw [bne_eq_false_iff_eq]
  go_enter Tryz.func13, Tryz.ntmps13
  go_wp2_with fail
  go_loopw [5] (fun i wr => ∃ k q : Nat, k ≤ n ∧ i = .int .i64 k ∧ wr = w.drewN q) (fun i _ => n - (intOf i).toNat)
  case atStart => exact ⟨0, 0, by omega, rfl, rfl⟩
  case round =>
    obtain ⟨k, q, hk, rfl, rfl⟩ := hrel
    by_cases hlt : k < n
    · obtain ⟨⟨t, c⟩, hp⟩ : ∃ p, cs[k]? = some p := ⟨_, List.getElem?_eq_getElem (by rw [HL.out]; exact hlt)⟩
      obtain ⟨ba, oa, rfl, ha0, ha1⟩ := HA.out k t c hp
      obtain ⟨bb, ob, rfl, hb0, hb1⟩ := HB.out k t c hp
      have h1 : (!((bstr t).toList == (bstr t).toList)) = false := by rw [str_beq]; simp
      have h2 : ((c : Int) != (c : Int)) = false := by rw [bne_eq_false_iff_eq]
      clear hp
      generalize bstr t = sx at *
      go_wp2_with fail
      go_quiet (fail)
      go_wp2_with fail
      go_roundw
      case rel => exact ⟨k + 1, _, by omega, by go_num, rfl⟩
      case measure => simp [intOf]; omega
    · obtain rfl : k = n := by omega
      go_wp2_with fail
      go_ret
      exact ⟨rfl, _, rfl⟩
end Go.Proofs.YtfdcbmmafhjlfaaGreat
