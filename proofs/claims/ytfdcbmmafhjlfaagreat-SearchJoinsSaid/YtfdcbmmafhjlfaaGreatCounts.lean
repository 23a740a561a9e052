/- Plain law: how often each element of a list occurs: by runs of the sorted list, and by counting. -/
import Derived.Test.YtfdcbmmafhjlfaaGreatStr
namespace Go.Proofs.YtfdcbmmafhjlfaaGreat
namespace Sr
open Go.Lib

abbrev Cnt := List UInt8 × Nat
/-- one more element of a sorted list: the last run grows, or a new one begins -/
def cstep (out : List Cnt) (w : List UInt8) : List Cnt :=
  match out.getLast? with
  | some (t, n) => if t = w then out.dropLast ++ [(t, n + 1)] else out ++ [(w, 1)]
  | none => [(w, 1)]
def runs (l : List (List UInt8)) : List Cnt := l.foldl cstep []
def counts (l : List (List UInt8)) : List Cnt := (names l).map fun w => (w, l.count w)
def sorted (l : List (List UInt8)) : List (List UInt8) := l.mergeSort fun x y => decide (x ≤ y)

theorem names_sorted_snoc (l : List (List UInt8)) (x : List UInt8) (hs : (l ++ [x]).Pairwise (fun a b => ¬ b < a)) : names (l ++ [x]) = if l.getLast? = some x then names l else names l ++ [x] := by
  have h1 := compact_sorted _ _ rfl hs
  have h2 := compact_sorted _ l rfl (List.pairwise_append.1 hs).1
  have e1 : compact (l ++ [x]) = names (l ++ [x]) := inc_ext _ _ h1.1 (inc_names _) fun z => by rw [h1.2.1, mem_names]
  have e2 : compact l = names l := inc_ext _ _ h2.1 (inc_names _) fun z => by rw [h2.2.1, mem_names]
  rw [← e1, ← e2]
  exact compact_snoc l x
theorem runs_sorted : ∀ (k : Nat) (l : List (List UInt8)), l.length = k → l.Pairwise (fun a b => ¬ b < a) → runs l = counts l := by
  intro k
  induction k with
  | zero => intro l hl _; obtain rfl := List.eq_nil_of_length_eq_zero hl; rfl
  | succ k ih =>
    intro l hl hs
    have hne : l ≠ [] := by intro e; subst e; simp at hl
    obtain ⟨l', x, rfl⟩ : ∃ l' x, l = l' ++ [x] := ⟨_, _, (List.dropLast_concat_getLast hne).symm⟩
    have hp := List.pairwise_append.1 hs
    have e0 : runs (l' ++ [x]) = cstep (runs l') x := by unfold runs; rw [List.foldl_append]; rfl
    rw [e0, ih l' (by simpa using hl) hp.1]
    have hn := names_sorted_snoc l' x hs
    have hcs := compact_sorted _ l' rfl hp.1
    have e2 : compact l' = names l' := inc_ext _ _ hcs.1 (inc_names _) fun z => by rw [hcs.2.1, mem_names]
    have hlast := hcs.2.2
    rw [e2] at hlast
    unfold counts
    rw [hn]
    by_cases c : l'.getLast? = some x
    · rw [if_pos c]
      have hx := (hlast x).2 c
      have hnn : names l' ≠ [] := by intro e; rw [e] at hx; simp at hx
      obtain ⟨m, hm⟩ : ∃ m, names l' = m ++ [x] := by
        refine ⟨(names l').dropLast, ?_⟩
        have h3 := List.dropLast_concat_getLast hnn
        rw [List.getLast?_eq_some_getLast hnn] at hx
        injection hx with hx
        rw [hx] at h3
        exact h3.symm
      rw [hm]
      unfold cstep
      simp only [List.map_append, List.map_cons, List.map_nil, List.getLast?_append, List.getLast?_singleton, Option.some_or, List.dropLast_concat, if_true]
      congr 1
      · apply List.map_congr_left
        intro z hz
        have hinc := inc_names l'
        rw [hm, inc_append] at hinc
        have hzx : z ≠ x := by intro e; subst e; exact blt_irrefl _ (hinc.2.2 z hz z (by simp))
        simp [List.count_append, Ne.symm hzx]
      · simp [List.count_append]
    · rw [if_neg c]
      have hx : x ∉ l' := by
        intro hx
        apply c
        have hne' : l' ≠ [] := List.ne_nil_of_mem hx
        rw [List.getLast?_eq_some_getLast hne']
        congr 1
        have h1 : ¬ x < l'.getLast hne' := hp.2.2 _ (List.getLast_mem hne') x (by simp)
        obtain ⟨m, hm⟩ : ∃ m, l' = m ++ [l'.getLast hne'] := ⟨_, (List.dropLast_concat_getLast hne').symm⟩
        have hs1 := hp.1
        rw [hm, List.pairwise_append] at hs1
        rw [hm] at hx
        rcases List.mem_append.1 hx with q | q
        · have h2 := hs1.2.2 x q (l'.getLast hne') (by simp)
          rcases blt_total x (l'.getLast hne') with r | r | r
          · exact absurd r h1
          · exact r.symm
          · exact absurd r h2
        · exact (List.mem_singleton.1 q).symm
      rw [List.map_append]
      have e3 : (names l').map (fun w => (w, (l' ++ [x]).count w)) = (names l').map fun w => (w, l'.count w) := by
        apply List.map_congr_left
        intro z hz
        have hzx : z ≠ x := by intro e; subst e; exact hx ((mem_names _ _).1 hz)
        simp [List.count_append, Ne.symm hzx]
      rw [e3]
      have hc : (l' ++ [x]).count x = 1 := by simp [List.count_append, List.count_eq_zero_of_not_mem hx]
      simp only [List.map_cons, List.map_nil, hc]
      unfold cstep
      cases hg : ((names l').map fun w => (w, l'.count w)).getLast? with
      | none =>
        have : (names l').map (fun w => (w, l'.count w)) = [] := by simpa using hg
        rw [this]
        rfl
      | some p =>
        obtain ⟨t, n⟩ := p
        have ht : (names l').getLast? = some t := by
          rw [List.getLast?_map] at hg
          cases hq : (names l').getLast? with
          | none => rw [hq] at hg; cases hg
          | some z => rw [hq] at hg; simp at hg; rw [hg.1]
        have htx : t ≠ x := by intro e; subst e; exact c ((hlast t).1 ht)
        simp [htx]
theorem sorted_le (l : List (List UInt8)) : (sorted l).Pairwise (fun a b => ¬ b < a) := by
  have := List.pairwise_mergeSort (le := fun x y : List UInt8 => decide (x ≤ y)) (fun a b c h1 h2 => by
    simp only [decide_eq_true_eq] at *
    exact List.le_trans h1 h2) (fun a b => by
    simp only [Bool.or_eq_true, decide_eq_true_eq]
    exact List.le_total a b) l
  exact this.imp fun {a b} h => by
    simp only [decide_eq_true_eq] at h
    exact h
theorem runs_eq (l : List (List UInt8)) : runs (sorted l) = counts l := by
  rw [runs_sorted _ _ rfl (sorted_le l)]
  unfold counts
  have e : names (sorted l) = names l := names_ext fun x => by unfold sorted; rw [List.mem_mergeSort]
  rw [e]
  apply List.map_congr_left
  intro z _
  unfold sorted
  rw [(List.mergeSort_perm l _).count_eq]
end Sr
end Go.Proofs.YtfdcbmmafhjlfaaGreat
