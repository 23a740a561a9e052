/- The texts Af, Ag, Al of this proof, one behind the other. -/
import Derived.Lib.Join
import Derived.Lib.Strings
import Derived.Test.YtchkiegehejfmaaGreatDoorMsab
set_option linter.unusedSimpArgs false
set_option maxHeartbeats 16000000
set_option maxRecDepth 100000
set_option linter.unusedVariables false
namespace Ar
abbrev RS := Str × Bool
def az (c : UInt8) : Bool := decide (97 ≤ c.toNat ∧ c.toNat ≤ 122)
def word (r : RS) : Str × RS := (r.1.takeWhile az, (r.1.dropWhile az, r.2))
end Ar
namespace Ar
end Ar
namespace Ar
def lines : Str → List Str
 | [] => [[]]
 | c :: s => if c = 10 then [] :: lines s else match lines s with
  | l :: r => (c :: l) :: r
  | [] => [[c]]
theorem It : ∀ s : Str, lines s ≠ []
 | [] => by simp [lines]
 | c :: s => by
  unfold lines;split
  ·simp
  ·split <;> simp
def Fw : List Str → Str
 | [] => []
 | [l] => l
 | l :: m :: r => l ++ 10 :: Fw (m :: r)
theorem E4 : ∀ (s : Str), ∀ l ∈ lines s, (10 : UInt8) ∉ l
 | [], l, h => by simp [lines] at h; subst h; simp
 | c :: s, l, h => by
  have ih := E4 s;unfold lines at h;split at h
  ·simp only [List.mem_cons] at h;rcases h with rfl | h
   ·simp
   ·exact ih l h
  ·rename_i hc
   cases hl : lines s with
   | nil => rw [hl] at h; simp at h; subst h; simp; exact fun e => hc e.symm
   | cons m r =>
    rw [hl] at h ih;simp only [List.mem_cons] at h;rcases h with rfl | h
    ·have := ih m (by simp);simp only [List.mem_cons, not_or];exact ⟨fun e => hc e.symm, this⟩
    ·exact ih l (by simp [h])
theorem Bt : ∀ (s : Str), (10 : UInt8) ∉ s → lines s = [s]
 | [], _ => rfl
 | c :: s, h => by
  simp only [List.mem_cons, not_or] at h;unfold lines;rw [if_neg (fun e => h.1 e.symm), Bt s h.2]
theorem Cg : ∀ (l : Str) (s : Str), (10 : UInt8) ∉ l → lines (l ++ 10 :: s) = l :: lines s
 | [], s, _ => by simp [lines]
 | c :: l, s, h => by
  simp only [List.mem_cons, not_or] at h;show lines (c :: (l ++ 10 :: s)) = _;rw [lines, if_neg (fun e => h.1 e.symm), Cg l s h.2]
theorem Cy : ∀ s : Str, (lines s).length ≤ s.length + 1
 | [] => by simp [lines]
 | c :: s => by
  have ih := Cy s;unfold lines;split
  ·simp; omega
  ·cases hl : lines s with
   | nil => simp
   | cons l r => rw [hl] at ih; simp at ih ⊢; omega
theorem BQ : ∀ s : Str, ∀ l ∈ lines s, l.length ≤ s.length
 | [], l, h => by simp [lines] at h; subst h; simp
 | c :: s, l, h => by
  have ih := BQ s;unfold lines at h;split at h
  ·simp only [List.mem_cons] at h;rcases h with rfl | h
   ·simp
   ·have := ih l h; simp; omega
  ·cases hl : lines s with
   | nil => rw [hl] at h; simp at h; subst h; simp
   | cons m r =>
    rw [hl] at h ih;simp only [List.mem_cons] at h;rcases h with rfl | h
    ·have := ih m (by simp); simp; omega
    ·have := ih l (by simp [h]); simp; omega
def dis : List Str → List Str → Nat
 | [], y => y.length
 | a :: x, [] => (a :: x).length
 | a :: x, b :: y => if a = b then dis x y else 1 + min (dis x (b :: y)) (dis (a :: x) y)
termination_by x y => x.length + y.length
end Ar
