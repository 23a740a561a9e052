/- Plain law: what a range over a string skips: the bytes behind the first one of a rune are 128 or more. -/
import Derived.Laws.RangeAny
import Derived.Test.YtfdcbmmafhjlfaaGreatWords
namespace Go.Proofs.YtfdcbmmafhjlfaaGreat
open Go
theorem get_bang (s : ByteArray) (i : Nat) (h : i < s.size) : s.get! i = s[i]'h := by
  have := get_at s i h
  simpa using this
/-- at a byte of 128 or more: the rune is 128 or more, all bytes that it takes are, and they lie in the text -/
theorem decode_skip (s : ByteArray) (pos : Nat) (h : pos < s.size) (ha : 128 ≤ (s[pos]'h).toNat) :
    1 ≤ (Utf8.decode s pos).2 ∧ pos + (Utf8.decode s pos).2 ≤ s.size ∧ ∀ j, j < (Utf8.decode s pos).2 → ∀ hj : pos + j < s.size, 128 ≤ (s[pos + j]'hj).toNat := by
  have e0 := get_at s pos h
  have one : ∀ j, j < 1 → ∀ hj : pos + j < s.size, 128 ≤ (s[pos + j]'hj).toNat := by
    intro j hj hj'
    have : j = 0 := by omega
    subst this
    exact ha
  have step : ∀ k, (pos + k < s.size ∧ (s.get! (pos + k)).toNat / 64 = 2) → pos + k < s.size ∧ ∀ hk : pos + k < s.size, 128 ≤ (s[pos + k]'hk).toNat := by
    intro k ⟨h1, h2⟩
    refine ⟨h1, fun hk => ?_⟩
    rw [get_bang s _ hk] at h2
    omega
  have small : (1 ≤ (1 : Nat) ∧ pos + 1 ≤ s.size ∧ ∀ j, j < 1 → ∀ hj : pos + j < s.size, 128 ≤ (s[pos + j]'hj).toNat) := ⟨Nat.le_refl _, h, one⟩
  unfold Utf8.decode
  simp only [e0]
  rw [if_neg (by omega)]
  split
  · rename_i c1
    simp only [Bool.and_eq_true, decide_eq_true_eq, beq_iff_eq] at c1
    have s1 := step 1 c1.2
    split
    · refine ⟨by show 1 ≤ 2; omega, by show pos + 2 ≤ s.size; omega, fun j hj hj' => ?_⟩
      have hj : j < 2 := hj
      rcases (by omega : j = 0 ∨ j = 1) with rfl | rfl
      · exact ha
      · exact s1.2 _
    · exact small
  · split
    · rename_i c1
      simp only [Bool.and_eq_true, decide_eq_true_eq, beq_iff_eq] at c1
      have s1 := step 1 c1.1.2
      have s2 := step 2 c1.2
      split
      · refine ⟨by show 1 ≤ 3; omega, by show pos + 3 ≤ s.size; omega, fun j hj hj' => ?_⟩
        have hj : j < 3 := hj
        rcases (by omega : j = 0 ∨ j = 1 ∨ j = 2) with rfl | rfl | rfl
        · exact ha
        · exact s1.2 _
        · exact s2.2 _
      · exact small
    · split
      · rename_i c1
        simp only [Bool.and_eq_true, decide_eq_true_eq, beq_iff_eq] at c1
        have s1 := step 1 c1.1.1.2
        have s2 := step 2 c1.1.2
        have s3 := step 3 c1.2
        split
        · refine ⟨by show 1 ≤ 4; omega, by show pos + 4 ≤ s.size; omega, fun j hj hj' => ?_⟩
          have hj : j < 4 := hj
          rcases (by omega : j = 0 ∨ j = 1 ∨ j = 2 ∨ j = 3) with rfl | rfl | rfl | rfl
          · exact ha
          · exact s1.2 _
          · exact s2.2 _
          · exact s3.2 _
        · exact small
      · exact small
theorem list_at (s : ByteArray) (k : Nat) (h : k < s.data.toList.length) : s.data.toList[k] = s[k]'(by rw [Array.length_toList] at h; exact h) := rfl
/-- one rune that separates is as one separating byte -/
theorem run_skip (p : Sr.St) (s : ByteArray) (pos n : Nat) (hn : 1 ≤ n) (hle : pos + n ≤ s.size) (h : ∀ j, j < n → ∀ hj : pos + j < s.size, 128 ≤ (s[pos + j]'hj).toNat) :
    Sr.run p (s.data.toList.take (pos + n)) = (Sr.fl (Sr.run p (s.data.toList.take pos)).1 (Sr.run p (s.data.toList.take pos)).2, []) := by
  have hl : s.data.toList.length = s.size := by rw [Array.length_toList]; rfl
  rw [List.take_add, Sr.run_append]
  refine Sr.run_seps _ _ ?_ ?_
  · intro e
    have := congrArg List.length e
    rw [List.length_take, List.length_drop, hl] at this
    simp at this
    omega
  · intro c hc
    obtain ⟨j, hj, rfl⟩ := List.mem_iff_getElem.1 hc
    rw [List.length_take, List.length_drop, hl] at hj
    rw [List.getElem_take, List.getElem_drop]
    apply Sr.small_high
    rw [list_at]
    exact h j (by omega) (by omega)
end Go.Proofs.YtfdcbmmafhjlfaaGreat
