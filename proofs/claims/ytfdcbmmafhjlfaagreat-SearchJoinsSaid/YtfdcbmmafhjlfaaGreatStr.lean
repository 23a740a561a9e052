/- Plain law: strings as lists of bytes, in their order; the different elements of a list. -/
import Derived.Lib.SlicesCompact
namespace Go.Proofs.YtfdcbmmafhjlfaaGreat
namespace Sr
open Go.Lib

theorem blt_irrefl (a : List UInt8) : ¬ a < a := List.lt_irrefl a
theorem blt_trans {a b c : List UInt8} (h : a < b) (k : b < c) : a < c := List.lt_trans h k
theorem blt_total (a b : List UInt8) : a < b ∨ a = b ∨ b < a := by
  by_cases h : a < b
  · exact .inl h
  · by_cases k : b < a
    · exact .inr (.inr k)
    · exact .inr (.inl (List.le_antisymm (List.not_lt.1 k) (List.not_lt.1 h)))
theorem blt_asymm {a b : List UInt8} (h : a < b) : ¬ b < a := fun k => blt_irrefl _ (blt_trans h k)

abbrev Inc (l : List (List UInt8)) : Prop := l.Pairwise (· < ·)
theorem inc_cons {x : List UInt8} {a : List (List UInt8)} : Inc (x :: a) ↔ (∀ y, y ∈ a → x < y) ∧ Inc a := List.pairwise_cons
theorem inc_append {a b : List (List UInt8)} : Inc (a ++ b) ↔ Inc a ∧ Inc b ∧ ∀ x, x ∈ a → ∀ y, y ∈ b → x < y := List.pairwise_append
/-- increasing lists with the same elements are equal -/
theorem inc_ext : ∀ (a b : List (List UInt8)), Inc a → Inc b → (∀ x, x ∈ a ↔ x ∈ b) → a = b
  | [], [], _, _, _ => rfl
  | [], y :: b, _, _, h => absurd ((h y).2 (by simp)) (by simp)
  | x :: a, [], _, _, h => absurd ((h x).1 (by simp)) (by simp)
  | x :: a, y :: b, ha, hb, h => by
    rw [inc_cons] at ha hb
    have hxy : x = y := by
      rcases List.mem_cons.1 ((h x).1 (by simp)) with e | e
      · exact e
      · rcases List.mem_cons.1 ((h y).2 (by simp)) with e2 | e2
        · exact e2.symm
        · exact absurd (blt_trans (hb.1 x e) (ha.1 y e2)) (blt_irrefl _)
    subst hxy
    rw [inc_ext a b ha.2 hb.2 fun z => ?_]
    constructor
    · intro hz
      rcases List.mem_cons.1 ((h z).1 (by simp [hz])) with e | e
      · subst e; exact absurd (ha.1 _ hz) (blt_irrefl _)
      · exact e
    · intro hz
      rcases List.mem_cons.1 ((h z).2 (by simp [hz])) with e | e
      · subst e; exact absurd (hb.1 _ hz) (blt_irrefl _)
      · exact e

/-- an element put into its place, if it is not there -/
def ins (x : List UInt8) : List (List UInt8) → List (List UInt8)
  | [] => [x]
  | y :: r => if y < x then y :: ins x r else if y = x then y :: r else x :: y :: r
def names (l : List (List UInt8)) : List (List UInt8) := l.foldl (fun acc x => ins x acc) []
theorem mem_ins (x : List UInt8) : ∀ l z, z ∈ ins x l ↔ z = x ∨ z ∈ l
  | [], z => by simp [ins]
  | y :: r, z => by
    unfold ins
    by_cases h : y < x
    · rw [if_pos h]; simp only [List.mem_cons, mem_ins x r z]
      constructor
      · rintro (a | a | a) <;> simp [a]
      · rintro (a | a | a) <;> simp [a]
    · rw [if_neg h]
      by_cases k : y = x
      · rw [if_pos k]; subst k; simp
      · rw [if_neg k]; simp
theorem inc_ins (x : List UInt8) : ∀ l, Inc l → Inc (ins x l)
  | [], _ => by simp [ins]
  | y :: r, h => by
    rw [inc_cons] at h
    unfold ins
    by_cases c : y < x
    · rw [if_pos c, inc_cons]
      refine ⟨fun z hz => ?_, inc_ins x r h.2⟩
      rcases (mem_ins x r z).1 hz with e | e
      · rw [e]; exact c
      · exact h.1 z e
    · rw [if_neg c]
      by_cases k : y = x
      · rw [if_pos k, inc_cons]; exact h
      · rw [if_neg k, inc_cons]
        have hxy : x < y := by rcases blt_total x y with a | a | a; exact a; exact absurd a.symm k; exact absurd a c
        refine ⟨fun z hz => ?_, inc_cons.2 h⟩
        rcases List.mem_cons.1 hz with e | e
        · rw [e]; exact hxy
        · exact blt_trans hxy (h.1 z e)
theorem gen_names (l : List (List UInt8)) : ∀ acc, Inc acc → Inc (l.foldl (fun acc x => ins x acc) acc) ∧ ∀ z, z ∈ l.foldl (fun acc x => ins x acc) acc ↔ z ∈ l ∨ z ∈ acc := by
  induction l with
  | nil => intro acc h; exact ⟨h, by simp⟩
  | cons x l ih =>
    intro acc h
    obtain ⟨h1, h2⟩ := ih (ins x acc) (inc_ins x acc h)
    refine ⟨h1, fun z => ?_⟩
    rw [List.foldl_cons, h2, mem_ins, List.mem_cons]
    constructor
    · rintro (a | a | a) <;> simp [a]
    · rintro ((a | a) | a) <;> simp [a]
theorem inc_names (l : List (List UInt8)) : Inc (names l) := (gen_names l [] (by simp)).1
theorem mem_names (l : List (List UInt8)) (z : List UInt8) : z ∈ names l ↔ z ∈ l := by
  have := (gen_names l [] (by simp)).2 z
  simpa [names] using this
theorem names_ext {a b : List (List UInt8)} (h : ∀ x, x ∈ a ↔ x ∈ b) : names a = names b :=
  inc_ext _ _ (inc_names a) (inc_names b) fun x => by rw [mem_names, mem_names, h x]
theorem names_inc {a : List (List UInt8)} (h : Inc a) : names a = a := inc_ext _ _ (inc_names a) h (mem_names a)
theorem names_snoc (l : List (List UInt8)) (x : List UInt8) : names (l ++ [x]) = ins x (names l) := by unfold names; rw [List.foldl_append]; rfl

theorem compactUpTo_congr (d d' : Array (List UInt8)) (m : Nat) (h : ∀ j, j < m → d[j]! = d'[j]!) : compactUpTo d m = compactUpTo d' m := by
  induction m with
  | zero => rfl
  | succ m ih =>
    rw [compactUpTo_succ, compactUpTo_succ, ih (fun j hj => h j (by omega))]
    have hk : keeps d m = keeps d' m := by
      unfold keeps
      by_cases e : m = 0
      · simp [e]
      · rw [h m (by omega), h (m - 1) (by omega)]
    rw [hk, h m (by omega)]
theorem compact_snoc (l : List (List UInt8)) (x : List UInt8) : compact (l ++ [x]) = if l.getLast? = some x then compact l else compact l ++ [x] := by
  unfold compact
  rw [List.length_append, List.length_singleton, compactUpTo_succ]
  rw [compactUpTo_congr (l ++ [x]).toArray l.toArray l.length (fun j hj => by simp [getElem!_pos, hj, List.getElem_append_left, Nat.lt_succ_of_lt hj])]
  have hx : (l ++ [x]).toArray[l.length]! = x := by simp [getElem!_pos]
  rw [hx]
  by_cases e : l = []
  · subst e; simp [keeps]
  · have hlen : 0 < l.length := by cases l; exact absurd rfl e; simp
    have hp : (l ++ [x]).toArray[l.length - 1]! = l.getLast e := by
      rw [List.getLast_eq_getElem]
      have h1 : l.length - 1 < l.length := by omega
      simp [getElem!_pos, List.getElem_append_left, h1, Nat.lt_succ_of_lt h1]
    have hk : keeps (l ++ [x]).toArray l.length = decide (x ≠ l.getLast e) := by
      unfold keeps
      rw [hx, hp]
      have : l.length ≠ 0 := by omega
      simp [this]
    rw [hk, List.getLast?_eq_some_getLast e]
    by_cases c : l.getLast e = x
    · simp [c]
    · have c' : ¬ x = l.getLast e := fun h => c h.symm
      simp [c, c']
/-- what sorting and compacting leaves -/
theorem compact_sorted : ∀ (k : Nat) (l : List (List UInt8)), l.length = k → l.Pairwise (fun a b => ¬ b < a) → Inc (compact l) ∧ (∀ z, z ∈ compact l ↔ z ∈ l) ∧ (∀ z, (compact l).getLast? = some z ↔ l.getLast? = some z) := by
  intro k
  induction k with
  | zero =>
    intro l hl _
    obtain rfl := List.eq_nil_of_length_eq_zero hl
    exact ⟨by simp [compact, compactUpTo], by simp [compact, compactUpTo], by simp [compact, compactUpTo]⟩
  | succ k ih =>
    intro l hl hs
    have hne : l ≠ [] := by intro e; subst e; simp at hl
    obtain ⟨l', x, rfl⟩ : ∃ l' x, l = l' ++ [x] := ⟨_, _, (List.dropLast_concat_getLast hne).symm⟩
    rw [List.pairwise_append] at hs
    obtain ⟨h1, h2, h3⟩ := ih l' (by simpa using hl) hs.1
    rw [compact_snoc]
    by_cases c : l'.getLast? = some x
    · rw [if_pos c]
      refine ⟨h1, fun z => ?_, fun z => ?_⟩
      · rw [h2, List.mem_append, List.mem_singleton]
        constructor
        · exact Or.inl
        · rintro (a | a)
          · exact a
          · rw [a]; exact List.mem_of_getLast? c
      · rw [h3, c]; simp
    · rw [if_neg c]
      refine ⟨?_, fun z => by rw [List.mem_append, List.mem_append, h2], fun z => by simp⟩
      rw [inc_append]
      refine ⟨h1, by simp, fun a ha b hb => ?_⟩
      rw [List.mem_singleton.1 hb]
      rcases blt_total a x with e | e | e
      · exact e
      · exfalso
        subst e
        have ha' := (h2 a).1 ha
        have hne' : l' ≠ [] := List.ne_nil_of_mem ha'
        apply c
        rw [List.getLast?_eq_some_getLast hne']
        congr 1
        -- a is in l', and the last one of l' is neither less nor greater
        have hlast : ¬ a < l'.getLast hne' := hs.2.2 _ (List.getLast_mem hne') a (by simp)
        obtain ⟨m, hm⟩ : ∃ m, l' = m ++ [l'.getLast hne'] := ⟨_, (List.dropLast_concat_getLast hne').symm⟩
        have hs1 := hs.1
        rw [hm, List.pairwise_append] at hs1
        rw [hm] at ha'
        rcases List.mem_append.1 ha' with q | q
        · have := hs1.2.2 a q (l'.getLast hne') (by simp)
          rcases blt_total a (l'.getLast hne') with r | r | r
          · exact absurd r hlast
          · exact r.symm
          · exact absurd r this
        · exact (List.mem_singleton.1 q).symm
      · exact absurd e (hs.2.2 a ((h2 a).1 ha) x (by simp))
theorem compact_merge (l : List (List UInt8)) : compact (l.mergeSort fun x y => decide (x ≤ y)) = names l := by
  have hs : (l.mergeSort fun x y => decide (x ≤ y)).Pairwise (fun a b => ¬ b < a) := by
    have := List.pairwise_mergeSort (le := fun x y : List UInt8 => decide (x ≤ y)) (fun a b c h1 h2 => by
      simp only [decide_eq_true_eq] at *
      exact List.le_trans h1 h2) (fun a b => by
      simp only [Bool.or_eq_true, decide_eq_true_eq]
      exact List.le_total a b) l
    exact this.imp fun {a b} h => by
      simp only [decide_eq_true_eq] at h
      exact h
  obtain ⟨h1, h2, _⟩ := compact_sorted _ _ rfl hs
  exact inc_ext _ _ h1 (inc_names l) fun x => by rw [h2, mem_names, List.mem_mergeSort]
end Sr
end Go.Proofs.YtfdcbmmafhjlfaaGreat
