/- The text Ae. -/
import Derived.Lib.AtoiAll
import Derived.Test.YtchkiegehejfmaaGreatDoorMsaa
set_option linter.unusedSimpArgs false
set_option maxHeartbeats 16000000
set_option maxRecDepth 100000
set_option linter.unusedVariables false
namespace Ar
abbrev Str := List UInt8
def digF : Nat → Nat → Str
 | 0, _ => []
 | f + 1, n => if n < 10 then [UInt8.ofNat (48 + n)] else digF f (n / 10) ++ [UInt8.ofNat (48 + n % 10)]
def digs (n : Nat) : Str := digF (n + 1) n
def itoa (n : Int) : Str := if n < 0 then 45 :: digs n.natAbs else digs n.natAbs
theorem CE : ∀ (f g n : Nat), n < f → n < g → digF f n = digF g n
 | 0, _, _, h, _ => by omega
 | _ + 1, 0, _, _, h => by omega
 | f + 1, g + 1, n, h1, h2 => by
  unfold digF;split
  ·rfl
  ·rw [CE f g (n / 10) (by omega) (by omega)]
theorem AQ (n : Nat) (h : n < 10) : digs n = [UInt8.ofNat (48 + n)] := by unfold digs digF; rw [if_pos h]
theorem AY (n : Nat) (h : 10 ≤ n) : digs n = digs (n / 10) ++ [UInt8.ofNat (48 + n % 10)] := by
 unfold digs;rw [digF, if_neg (by omega), CE n (n / 10 + 1) (n / 10) (by omega) (by omega)]
def isDig (c : UInt8) : Bool := decide (48 ≤ c.toNat ∧ c.toNat ≤ 57)
theorem CA (n : Nat) (h : n < 10) : isDig (UInt8.ofNat (48 + n)) = true ∧ (UInt8.ofNat (48 + n)).toNat = 48 + n := by
 have e : (UInt8.ofNat (48 + n)).toNat = 48 + n := by rw [UInt8.toNat_ofNat']; omega
 refine ⟨?_, e⟩;unfold isDig;rw [e];exact decide_eq_true ⟨by omega, by omega⟩
theorem EB : ∀ (k n : Nat), n ≤ k → ∀ c ∈ digs n, isDig c = true := by
 intro k
 induction k with
 | zero =>
  intro n h c hc;rw [AQ n (by omega)] at hc;rw [List.mem_singleton.1 hc];exact (CA n (by omega)).1
 | succ k ih =>
  intro n h c hc;by_cases h10 : n < 10
  ·rw [AQ n h10] at hc;rw [List.mem_singleton.1 hc];exact (CA n h10).1
  ·rw [AY n (by omega)] at hc;rcases List.mem_append.1 hc with hc | hc
   ·exact ih (n / 10) (by omega) c hc
   ·rw [List.mem_singleton.1 hc];exact (CA (n % 10) (by omega)).1
theorem CT (n : Nat) : digs n ≠ [] := by
 by_cases h : n < 10
 ·rw [AQ n h]; simp
 ·rw [AY n (by omega)]; simp
def val10 (l : Str) : Nat := l.foldl (fun a c => a * 10 + (c.toNat - 48)) 0
theorem C0 (l : Str) (c : UInt8) : val10 (l ++ [c]) = val10 l * 10 + (c.toNat - 48) := by unfold val10; rw [List.foldl_append]; rfl
def inInt (n : Int) : Prop := -9223372036854775808 ≤ n ∧ n ≤ 9223372036854775807
def Stop (p : UInt8 → Bool) (t : Str) : Prop := ∀ c r, t = c :: r → p c = false
theorem DF {p : UInt8 → Bool} : ∀ {l t : Str}, (∀ c ∈ l, p c = true) → Stop p t → (l ++ t).takeWhile p = l ∧ (l ++ t).dropWhile p = t
 | [], [], _, _ => ⟨rfl, rfl⟩
 | [], c :: r, _, h => by
  have := h c r rfl;simp [this]
 | a :: l, t, hl, h => by
  have h1 := hl a (by simp);have ih := DF (l := l) (t := t) (fun c hc => hl c (by simp [hc])) h;rw [List.cons_append, List.takeWhile_cons, List.dropWhile_cons, h1];simp only [if_true];exact ⟨by rw [ih.1], ih.2⟩
end Ar
