/- The text Ae. -/
import Derived.Lib.AtoiAll
import Derived.Test.YtacjhbbieeliaaaGreatDoorMaa
set_option linter.unusedSimpArgs false
set_option maxHeartbeats 16000000
set_option maxRecDepth 100000
namespace Ar
abbrev Str := List UInt8
def digF : Nat → Nat → Str
 | 0, _ => []
 | f + 1, n => if n < 10 then [UInt8.ofNat (48 + n)] else digF f (n / 10) ++ [UInt8.ofNat (48 + n % 10)]
def digs (n : Nat) : Str := digF (n + 1) n
def itoa (n : Int) : Str := if n < 0 then 45 :: digs n.natAbs else digs n.natAbs
theorem digF_enough : ∀ (f g n : Nat), n < f → n < g → digF f n = digF g n
 | 0, _, _, h, _ => by omega
 | _ + 1, 0, _, _, h => by omega
 | f + 1, g + 1, n, h1, h2 => by
  unfold digF
  split
  ·rfl
  ·rw [digF_enough f g (n / 10) (by omega) (by omega)]
theorem digs_small (n : Nat) (h : n < 10) : digs n = [UInt8.ofNat (48 + n)] := by unfold digs digF; rw [if_pos h]
theorem digs_step (n : Nat) (h : 10 ≤ n) : digs n = digs (n / 10) ++ [UInt8.ofNat (48 + n % 10)] := by
 unfold digs
 rw [digF, if_neg (by omega), digF_enough n (n / 10 + 1) (n / 10) (by omega) (by omega)]
def isDig (c : UInt8) : Bool := decide (48 ≤ c.toNat ∧ c.toNat ≤ 57)
theorem dig_of (n : Nat) (h : n < 10) : isDig (UInt8.ofNat (48 + n)) = true ∧ (UInt8.ofNat (48 + n)).toNat = 48 + n := by
 have e : (UInt8.ofNat (48 + n)).toNat = 48 + n := by rw [UInt8.toNat_ofNat']; omega
 refine ⟨?_, e⟩
 unfold isDig
 rw [e]
 exact decide_eq_true ⟨by omega, by omega⟩
theorem digs_all : ∀ (k n : Nat), n ≤ k → ∀ c ∈ digs n, isDig c = true := by
 intro k
 induction k with
 | zero =>
  intro n h c hc
  rw [digs_small n (by omega)] at hc
  rw [List.mem_singleton.1 hc]
  exact (dig_of n (by omega)).1
 | succ k ih =>
  intro n h c hc
  by_cases h10 : n < 10
  ·rw [digs_small n h10] at hc
   rw [List.mem_singleton.1 hc]
   exact (dig_of n h10).1
  ·rw [digs_step n (by omega)] at hc
   rcases List.mem_append.1 hc with hc | hc
   ·exact ih (n / 10) (by omega) c hc
   ·rw [List.mem_singleton.1 hc]
    exact (dig_of (n % 10) (by omega)).1
theorem digs_ne (n : Nat) : digs n ≠ [] := by
 by_cases h : n < 10
 ·rw [digs_small n h]; simp
 ·rw [digs_step n (by omega)]; simp
def val10 (l : Str) : Nat := l.foldl (fun a c => a * 10 + (c.toNat - 48)) 0
theorem val10_snoc (l : Str) (c : UInt8) : val10 (l ++ [c]) = val10 l * 10 + (c.toNat - 48) := by unfold val10; rw [List.foldl_append]; rfl
theorem val10_digs : ∀ (k n : Nat), n ≤ k → val10 (digs n) = n := by
 intro k
 induction k with
 | zero =>
  intro n h
  have h0 : n = 0 := by omega
  subst h0
  rfl
 | succ k ih =>
  intro n h
  by_cases h10 : n < 10
  ·rw [digs_small n h10]
   show 0 * 10 + ((UInt8.ofNat (48 + n)).toNat - 48) = n
   rw [(dig_of n h10).2]
   omega
  ·rw [digs_step n (by omega), val10_snoc, ih (n / 10) (by omega), (dig_of (n % 10) (by omega)).2]
   omega
theorem parse_digs (l : Str) : ∀ acc : Nat, (∀ c ∈ l, isDig c = true) → acc * 10 ^ l.length + val10 l < 18446744073709551616 → Go.Lib.parseUint10 acc l = .ok (acc * 10 ^ l.length + val10 l) := by
 induction l with
 | nil => intro acc _ _; simp [Go.Lib.parseUint10, val10]
 | cons c r ih =>
  intro acc h hb
  have hc := of_decide_eq_true (h c (by simp))
  have e : val10 (c :: r) = (c.toNat - 48) * 10 ^ r.length + val10 r := by
   have key : ∀ (r : Str) (a : Nat), r.foldl (fun a c => a * 10 + (c.toNat - 48)) a = a * 10 ^ r.length + val10 r := by
    intro r
    induction r with
    | nil => intro a; simp [val10]
    | cons d r ih =>
     intro a
     show r.foldl _ (a * 10 + (d.toNat - 48)) = _
     rw [ih, show val10 (d :: r) = r.foldl (fun a c => a * 10 + (c.toNat - 48)) (0 * 10 + (d.toNat - 48)) from rfl, ih, List.length_cons, Nat.pow_succ]
     rw [Nat.add_mul, Nat.mul_assoc, Nat.mul_comm 10, Nat.zero_mul, Nat.zero_add]
     omega
   show r.foldl (fun a c => a * 10 + (c.toNat - 48)) (0 * 10 + (c.toNat - 48)) = _
   rw [key, Nat.zero_mul, Nat.zero_add]
  rw [e, List.length_cons, Nat.pow_succ] at hb
  have e2 : acc * (10 ^ r.length * 10) + ((c.toNat - 48) * 10 ^ r.length + val10 r) = (acc * 10 + (c.toNat - 48)) * 10 ^ r.length + val10 r := by
   rw [Nat.add_mul, Nat.mul_assoc acc 10, Nat.mul_comm 10]
   omega
  rw [e2] at hb
  have hp : 0 < 10 ^ r.length := Nat.pow_pos (by omega)
  have hlt : acc * 10 + (c.toNat - 48) < 18446744073709551616 := by
   have := Nat.le_mul_of_pos_right (acc * 10 + (c.toNat - 48)) hp
   omega
  rw [Go.Lib.parseUint10, if_pos hc, if_neg (by omega), if_neg (by omega), ih _ (fun d hd => h d (by simp [hd])) hb, e, List.length_cons, Nat.pow_succ, e2]
def inInt (n : Int) : Prop := -9223372036854775808 ≤ n ∧ n ≤ 9223372036854775807
theorem digs_head (n : Nat) : ∃ c r, digs n = c :: r ∧ isDig c = true := by
 cases h : digs n with
 | nil => exact absurd h (digs_ne n)
 | cons c r => exact ⟨c, r, rfl, digs_all n n (Nat.le_refl _) c (by rw [h]; simp)⟩
theorem parseMag_digs (n : Nat) (h : n < 18446744073709551616) : Go.Lib.parseMag (digs n) = .ok n := by
 unfold Go.Lib.parseMag
 rw [if_neg (digs_ne n)]
 have hv := val10_digs n n (Nat.le_refl _)
 have := parse_digs (digs n) 0 (digs_all n n (Nat.le_refl _)) (by rw [hv]; omega)
 rw [this, hv, Nat.zero_mul, Nat.zero_add]
theorem atoi_itoa (n : Int) (h : inInt n) : Go.Lib.atoiAll (itoa n) = .ok n := by
 unfold inInt at h
 unfold itoa
 by_cases hn : n < 0
 ·rw [if_pos hn]
  unfold Go.Lib.atoiAll
  simp only
  rw [if_pos (Or.inr (by decide)), parseMag_digs _ (by omega)]
  simp only
  rw [if_neg (fun h => h.1 (by decide)), if_neg (fun h => by have := h.2; omega)]
  rw [if_pos (by decide)]
  congr 1
  omega
 ·rw [if_neg hn]
  obtain ⟨c, r, e, hc⟩ := digs_head n.natAbs
  have hd := of_decide_eq_true hc
  have hp := parseMag_digs n.natAbs (by omega)
  rw [e] at hp ⊢
  unfold Go.Lib.atoiAll
  simp only
  rw [if_neg (by omega), hp]
  simp only
  rw [if_neg (fun h => by have := h.2; omega), if_neg (fun h => by have := h.1; omega), if_neg (by omega)]
  congr 1
  omega
def numch (c : UInt8) : Bool := decide (c.toNat = 45 ∨ 48 ≤ c.toNat ∧ c.toNat ≤ 57)
theorem itoa_numch (n : Int) : ∀ c ∈ itoa n, numch c = true := by
 intro c hc
 unfold itoa at hc
 unfold numch
 have key : ∀ c ∈ digs n.natAbs, decide (c.toNat = 45 ∨ 48 ≤ c.toNat ∧ c.toNat ≤ 57) = true := fun c hc => decide_eq_true (.inr (of_decide_eq_true (digs_all _ _ (Nat.le_refl _) c hc)))
 split at hc
 ·rcases List.mem_cons.1 hc with rfl | hc
  ·decide
  ·exact key c hc
 ·exact key c hc
theorem itoa_ne (n : Int) : itoa n ≠ [] := by
 unfold itoa
 split
 ·simp
 ·exact digs_ne _
def Stop (p : UInt8 → Bool) (t : Str) : Prop := ∀ c r, t = c :: r → p c = false
theorem take_stop {p : UInt8 → Bool} : ∀ {l t : Str}, (∀ c ∈ l, p c = true) → Stop p t → (l ++ t).takeWhile p = l ∧ (l ++ t).dropWhile p = t
 | [], [], _, _ => ⟨rfl, rfl⟩
 | [], c :: r, _, h => by
  have := h c r rfl
  simp [this]
 | a :: l, t, hl, h => by
  have h1 := hl a (by simp)
  have ih := take_stop (l := l) (t := t) (fun c hc => hl c (by simp [hc])) h
  rw [List.cons_append, List.takeWhile_cons, List.dropWhile_cons, h1]
  simp only [if_true]
  exact ⟨by rw [ih.1], ih.2⟩
end Ar
