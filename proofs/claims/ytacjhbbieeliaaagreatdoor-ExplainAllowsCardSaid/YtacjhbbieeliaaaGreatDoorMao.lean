/- The text Ex. -/
import Derived.Lib.SplitLaws
import Derived.Test.YtacjhbbieeliaaaGreatDoorMah
set_option linter.unusedSimpArgs false
set_option maxHeartbeats 16000000
set_option maxRecDepth 100000
namespace Rn
theorem index_cutB (c : UInt8) : ∀ (s : Str), (match cutB c s with
  | some (a, b) => Go.Lib.indexByte s c = (a.length : Int) ∧ s = a ++ c :: b
  | none => Go.Lib.indexByte s c = -1)
 | [] => rfl
 | x :: r => by
  have ih := index_cutB c r
  unfold cutB
  by_cases h : x = c
  ·rw [if_pos h]
   subst h
   exact ⟨by unfold Go.Lib.indexByte; simp, rfl⟩
  ·rw [if_neg h]
   have hb : (x == c) = false := beq_eq_false_iff_ne.2 h
   cases hc : cutB c r with
   | none =>
    rw [hc] at ih
    show Go.Lib.indexByte (x :: r) c = -1
    have ih' : Go.Lib.indexByte r c = -1 := ih
    unfold Go.Lib.indexByte
    rw [hb, ih']
    rfl
   | some p =>
    obtain ⟨a, b⟩ := p
    rw [hc] at ih
    obtain ⟨h1, h2⟩ : Go.Lib.indexByte r c = (a.length : Int) ∧ r = a ++ c :: b := ih
    show Go.Lib.indexByte (x :: r) c = ((x :: a).length : Int) ∧ x :: r = (x :: a) ++ c :: b
    refine ⟨?_, by rw [h2]; rfl⟩
    unfold Go.Lib.indexByte
    rw [hb, h1]
    have : ((a.length : Int) == -1) = false := by rw [beq_eq_false_iff_ne]; omega
    rw [this]
    simp
theorem index_none {c : UInt8} {s : Str} (h : cutB c s = none) : Go.Lib.index s [c] = -1 := by
 have := index_cutB c s
 rw [h] at this
 rw [Go.Lib.index_one]
 exact this
theorem index_some {c : UInt8} {s a b : Str} (h : cutB c s = some (a, b)) : Go.Lib.index s [c] = (a.length : Int) ∧ s = a ++ c :: b := by
 have := index_cutB c s
 rw [h] at this
 rw [Go.Lib.index_one]
 exact this
theorem lib_cutB (c : UInt8) (s : Str) : Go.Lib.cut s [c] = match cutB c s with
  | some (a, b) => (a, b, true)
  | none => (s, [], false) := by
 unfold Go.Lib.cut
 cases hc : cutB c s with
 | none => rw [index_none hc]; rfl
 | some p =>
  obtain ⟨a, b⟩ := p
  obtain ⟨h1, h2⟩ := index_some hc
  show (if _ then _ else _) = (a, b, true)
  rw [h1, if_pos (by omega)]
  rw [h2]
  simp
def pieces : Nat → Str → List Str
 | 0, s => [s]
 | n + 1, s => match cutB 32 s with
  | none => [s]
  | some (a, b) => a :: pieces n b
theorem count_none {c : UInt8} : ∀ {s : Str}, cutB c s = none → s.count c = 0
 | [], _ => rfl
 | x :: r, h => by
  unfold cutB at h
  by_cases hx : x = c
  ·rw [if_pos hx] at h; cases h
  ·rw [if_neg hx] at h
   rw [List.count_cons, count_none (by cases hr : cutB c r with
    | none => rfl
    | some p => rw [hr] at h; cases h)]
   simp [hx]
theorem count_some {c : UInt8} {s a b : Str} (h : cutB c s = some (a, b)) : s.count c = b.count c + 1 := by
 obtain ⟨h1, h2⟩ := cutB_some h
 rw [h1, List.count_append, List.count_eq_zero.2 h2, List.count_cons]
 simp
theorem split_pieces : ∀ (n : Nat) (s : Str), Go.Lib.splitK [32] 0 n s = pieces n s
 | 0, _ => rfl
 | n + 1, s => by
  unfold Go.Lib.splitK pieces
  cases hc : cutB 32 s with
  | none => rw [index_none hc]; rfl
  | some p =>
   obtain ⟨a, b⟩ := p
   obtain ⟨h1, h2⟩ := index_some hc
   have hm : ¬ (((a.length : Int) == -1) = true) := by simp
   rw [h1, if_neg hm]
   show (s.take ((a.length : Int).toNat + 0)) :: Go.Lib.splitK [32] 0 n (s.drop ((a.length : Int).toNat + 1)) = a :: pieces n b
   rw [split_pieces n, h2]
   simp
def blanks (s : Str) : Nat := s.count 32
def parts (s : Str) : List Str := pieces (blanks s) s
theorem parts_len (s : Str) : (parts s).length = blanks s + 1 := by
 have : ∀ (n : Nat) (s : Str), blanks s = n → (pieces n s).length = n + 1 := by
  intro n
  induction n with
  | zero => intro s _; rfl
  | succ n ih =>
   intro s hs
   unfold pieces
   cases hc : cutB 32 s with
   | none => rw [blanks, count_none hc] at hs; omega
   | some p =>
    obtain ⟨a, b⟩ := p
    have := count_some hc
    rw [List.length_cons, ih b (by unfold blanks at *; omega)]
 exact this _ s rfl
def body (lv : Nat) (t : Str) : Option Rw := match parts t with
 | [a, b, c] => if ruled a then match Sm.un b, code c with
  | some i, some e => some ⟨lv, a, (i : Int), e⟩
  | _, _ => none
  else none
 | _ => none
theorem code_blank {c : Str} (h : 32 ∈ c) : code c = none := by
 cases hc : code c with
 | none => rfl
 | some e => exact absurd rfl (name_plain e 32 (by rw [(code_some hc).2.2]; exact h)).1
theorem row_body (s : Str) : row s = body (strip s).1 (strip s).2 := by
 unfold row body parts
 generalize strip s = q
 obtain ⟨lv, t⟩ := q
 simp only
 cases h1 : cutB 32 t with
 | none =>
  rw [blanks, count_none h1]
  rfl
 | some p =>
  obtain ⟨a, r⟩ := p
  have e1 : blanks t = blanks r + 1 := count_some h1
  rw [e1]
  unfold pieces
  rw [h1]
  simp only
  cases h2 : cutB 32 r with
  | none =>
   have e2 : blanks r = 0 := count_none h2
   rw [e2]
   simp only [pieces]
   split <;> rfl
  | some p =>
   obtain ⟨b, c⟩ := p
   have e2 : blanks r = blanks c + 1 := count_some h2
   rw [e2]
   unfold pieces
   rw [h2]
   simp only
   cases h3 : cutB 32 c with
   | none =>
    have e3 : blanks c = 0 := count_none h3
    rw [e3]
    rfl
   | some p =>
    obtain ⟨d, f⟩ := p
    have e3 : blanks c = blanks f + 1 := count_some h3
    rw [e3]
    have hb : code c = none := code_blank (by rw [(cutB_some h3).1]; simp)
    rw [hb]
    unfold pieces
    rw [h3]
    simp only
    have hl : ∃ x y, pieces (blanks f) f = x :: y := by
     cases hp : pieces (blanks f) f with
     | nil => have := parts_len f; unfold parts at this; rw [hp] at this; simp at this
     | cons x y => exact ⟨x, y, rfl⟩
    obtain ⟨x, y, hl⟩ := hl
    rw [hl]
    cases Sm.un b <;> simp
theorem strip_yes {s : Str} (h : [32, 32] <+: s) : strip s = ((strip (s.drop 2)).1 + 1, (strip (s.drop 2)).2) := by
 obtain ⟨t, rfl⟩ := h
 show strip (32 :: 32 :: t) = _
 conv => lhs; unfold strip
 rw [if_pos ⟨rfl, rfl⟩]
 rfl
theorem strip_no {s : Str} (h : ¬ [32, 32] <+: s) : strip s = (0, s) := by
 unfold strip
 split
 ·rename_i a b r
  rw [if_neg]
  rintro ⟨rfl, rfl⟩
  exact h ⟨r, rfl⟩
 ·rfl
theorem strip_len : ∀ s : Str, 2 * (strip s).1 + (strip s).2.length = s.length := by
 intro s
 have := congrArg List.length (strip_inv s)
 rw [List.length_append, List.length_replicate] at this
 omega
def untilF (c : UInt8) (s : Str) (k : Nat) : Nat := k + ((s.drop k).takeWhile fun x => x != c).length
theorem until_cut {c : UInt8} {s : Str} {k : Nat} (hk : k ≤ s.length) : (match cutB c (s.drop k) with
  | some (a, b) => untilF c s k = k + a.length ∧ k + a.length < s.length ∧ (s.drop k).take a.length = a ∧ s.drop (k + a.length + 1) = b
  | none => untilF c s k = s.length) := by
 have tw : ∀ (a b : Str), c ∉ a → ((a ++ c :: b).takeWhile fun x => x != c) = a := by
  intro a
  induction a with
  | nil => intro b _; rw [List.nil_append, List.takeWhile_cons]; simp
  | cons x a ih =>
   intro b h
   simp only [List.mem_cons, not_or] at h
   rw [List.cons_append, List.takeWhile_cons, ih b h.2]
   have : (x != c) = true := by rw [bne_iff_ne]; exact Ne.symm h.1
   rw [if_pos this]
 cases hc : cutB c (s.drop k) with
 | none =>
  show untilF c s k = s.length
  unfold untilF
  have : ((s.drop k).takeWhile fun x => x != c) = s.drop k := by
   have hn : c ∉ s.drop k := fun h => by
    have := count_none hc
    rw [List.count_eq_zero] at this
    exact this h
   generalize s.drop k = t at hn
   induction t with
   | nil => rfl
   | cons x a ih =>
    simp only [List.mem_cons, not_or] at hn
    rw [List.takeWhile_cons, ih hn.2, if_pos (by rw [bne_iff_ne]; exact Ne.symm hn.1)]
  rw [this, List.length_drop]
  omega
 | some p =>
  obtain ⟨a, b⟩ := p
  obtain ⟨h1, h2⟩ := cutB_some hc
  show untilF c s k = k + a.length ∧ _
  have hl := congrArg List.length h1
  rw [List.length_drop, List.length_append, List.length_cons] at hl
  refine ⟨?_, by omega, by rw [h1]; simp, ?_⟩
  ·unfold untilF
   rw [h1, tw a b h2]
  ·have : (s.drop k).drop (a.length + 1) = b := by rw [h1]; simp
   rw [← this, List.drop_drop]
   congr 1
end Rn
