/- Plain law: putting an element into its place, by places. -/
import Derived.Test.YtfdcbmmafhjlfaaGreatStr
namespace Go.Proofs.YtfdcbmmafhjlfaaGreat
namespace Sr
theorem ins_split (x : List UInt8) : ∀ (l : List (List UInt8)) (j : Nat), j ≤ l.length → (∀ y ∈ l.take j, y < x) → (∀ y, l[j]? = some y → ¬ y < x) → ins x l = if l[j]? = some x then l else l.take j ++ x :: l.drop j
  | [], j, _, _, _ => by simp [ins]
  | y :: r, 0, _, _, h => by
    have h1 : ¬ y < x := h y rfl
    unfold ins
    rw [if_neg h1]
    by_cases e : y = x
    · rw [if_pos e, if_pos (by simp [e])]
    · rw [if_neg e, if_neg (by simpa using e)]; rfl
  | y :: r, j + 1, hj, h1, h2 => by
    have hy : y < x := h1 y (by simp)
    have ih := ins_split x r j (by simpa using hj) (fun z hz => h1 z (by simp [hz])) (fun z hz => h2 z (by simpa using hz))
    unfold ins
    rw [if_pos hy, ih, List.getElem?_cons_succ]
    by_cases e : r[j]? = some x
    · rw [if_pos e, if_pos e]
    · rw [if_neg e, if_neg e]; rfl
/-- the list with a place made at j, whatever stands there -/
def gap (l : List (List UInt8)) (j : Nat) (z : List UInt8) : List (List UInt8) := l.take j ++ z :: l.drop j
theorem gap_len (l : List (List UInt8)) (j : Nat) (z : List UInt8) (h : j ≤ l.length) : (gap l j z).length = l.length + 1 := by
  unfold gap; rw [List.length_append, List.length_cons, List.length_take, List.length_drop]; omega
theorem gap_end (l : List (List UInt8)) (z : List UInt8) : gap l l.length z = l ++ [z] := by simp [gap]
theorem gap_at (l : List (List UInt8)) (j : Nat) (z y : List UInt8) (h : l[j]? = some y) : (gap l (j + 1) z)[j]? = some y := by
  obtain ⟨h1, h2⟩ := List.getElem?_eq_some_iff.1 h
  unfold gap
  rw [List.getElem?_append_left (by rw [List.length_take]; omega), List.getElem?_take_of_lt (by omega), h]
theorem gap_set (l : List (List UInt8)) (j : Nat) (z y : List UInt8) (h : j ≤ l.length) : (gap l j z).set j y = gap l j y := by
  unfold gap
  rw [List.set_append_right _ _ (by rw [List.length_take]; omega)]
  have e : j - (l.take j).length = 0 := by rw [List.length_take]; omega
  rw [e]; rfl
theorem gap_move (l : List (List UInt8)) (j : Nat) (y : List UInt8) (h : l[j]? = some y) : gap l (j + 1) y = gap l j y := by
  obtain ⟨h1, h2⟩ := List.getElem?_eq_some_iff.1 h
  unfold gap
  rw [List.take_succ_eq_append_getElem h1, List.drop_eq_getElem_cons h1, h2]
  simp
end Sr
end Go.Proofs.YtfdcbmmafhjlfaaGreat
