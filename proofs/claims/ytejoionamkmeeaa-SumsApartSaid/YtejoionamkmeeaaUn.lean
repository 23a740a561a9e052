/- The plain law of Unhex. -/
import Derived.Test.YtejoionamkmeeaaDig
namespace Go.Proofs.Ytejoionamkmeeaa
namespace Sm
/-- the program's nibble -/
def pv (c : UInt8) : Nat := if 97 ≤ c.toNat then (c.toNat - 97 + 10) % 16 else ((c.toNat + 208) % 256) % 16
def pstep (u : Nat) (c : UInt8) : Nat := u * 16 + pv c
def pval (l : List UInt8) : Nat := l.foldl pstep 0
/-- the reference's digit -/
def dval (c : UInt8) : Int := if 48 ≤ c.toNat ∧ c.toNat ≤ 57 then (c.toNat : Int) - 48 else if 97 ≤ c.toNat ∧ c.toNat ≤ 102 then (c.toNat : Int) - 97 + 10 else -1
def okB (c : UInt8) : Bool := decide (0 ≤ dval c)
def un (s : List UInt8) : Option Nat := if s.length = 16 ∧ digs (pval s % 4611686018427387904) = s then some (pval s % 4611686018427387904) else none

theorem all256 (p : Nat → Bool) (h : (List.range 256).all p = true) (c : UInt8) : p c.toNat = true := by
  rw [List.all_eq_true] at h
  exact h _ (List.mem_range.2 c.toNat_lt)
theorem pv_lt (c : UInt8) : pv c < 16 := by unfold pv; split <;> omega
theorem ok_dval (c : UInt8) (h : okB c = true) : (pv c : Int) = dval c := by
  have h : 0 ≤ dval c := by simpa [okB] using h
  have := c.toNat_lt
  revert h
  unfold dval pv
  split
  · intro _; rw [if_neg (by omega)]; omega
  · split
    · intro _; rw [if_pos (by omega)]; omega
    · intro h; omega
theorem hx_nat (m : Nat) (h : m < 16) : (hx m).toNat = if m < 10 then 48 + m else 87 + m := by
  unfold hx; split <;> rw [UInt8.toNat_ofNat'] <;> omega
theorem hx_ok (m : Nat) (h : m < 16) : okB (hx m) = true ∧ dval (hx m) = m := by
  have e := hx_nat m h
  have : dval (hx m) = m := by
    unfold dval
    rw [e]
    by_cases c : m < 10
    · rw [if_pos c, if_pos (by omega)]; omega
    · rw [if_neg c, if_neg (by omega), if_pos (by omega)]; omega
  exact ⟨by unfold okB; rw [this]; simp, this⟩
theorem ok_hx (c : UInt8) (h : okB c = true) : hx (pv c) = c := by
  have e := ok_dval c h
  have l := pv_lt c
  have h : 0 ≤ dval c := by simpa [okB] using h
  apply UInt8.toNat_inj.1
  rw [hx_nat _ l]
  have := c.toNat_lt
  revert h e
  unfold dval
  split
  · intro e _; split <;> omega
  · split
    · intro e _; split <;> omega
    · intro _ h; omega

def digsN : Nat → Nat → List UInt8
  | 0, _ => []
  | k + 1, v => digsN k (v / 16) ++ [hx (v % 16)]
theorem digsN_eq (v : Nat) : digsN 16 v = digs v := by
  simp [digsN, digs, dig, List.range, List.range.loop, Nat.div_div_eq_div_mul]
theorem pval_snoc (l : List UInt8) (c : UInt8) : pval (l ++ [c]) = pval l * 16 + pv c := gen_snoc pstep 0 l c
theorem digsN_val (k : Nat) : ∀ l : List UInt8, l.length = k → (∀ c ∈ l, okB c = true) → digsN k (pval l) = l := by
  induction k with
  | zero => intro l hl _; rw [List.eq_nil_of_length_eq_zero hl]; rfl
  | succ k ih =>
    intro l hl ho
    have hne : l ≠ [] := by intro e; subst e; simp at hl
    obtain ⟨l', c, rfl⟩ : ∃ l' c, l = l' ++ [c] := ⟨_, _, (List.dropLast_concat_getLast hne).symm⟩
    have hp := pv_lt c
    rw [pval_snoc]
    unfold digsN
    rw [show (pval l' * 16 + pv c) / 16 = pval l' by omega, show (pval l' * 16 + pv c) % 16 = pv c by omega, ih l' (by simpa using hl) (fun c hc => ho c (by simp [hc])), ok_hx c (ho c (by simp))]
theorem digsN_ok (k : Nat) : ∀ v, ∀ c ∈ digsN k v, okB c = true := by
  induction k with
  | zero => intro v c h; simp [digsN] at h
  | succ k ih =>
    intro v c h
    unfold digsN at h
    rcases List.mem_append.1 h with h | h
    · exact ih _ _ h
    · rw [List.mem_singleton.1 h]; exact (hx_ok _ (by omega)).1
theorem pval_lt (l : List UInt8) : pval l < 16 ^ l.length := by
  suffices h : ∀ (k : Nat) (l : List UInt8), l.length = k → pval l < 16 ^ k from h _ l rfl
  intro k
  induction k with
  | zero => intro l hl; rw [List.eq_nil_of_length_eq_zero hl]; decide
  | succ k ih =>
    intro l hl
    have hne : l ≠ [] := by intro e; subst e; simp at hl
    obtain ⟨l', c, rfl⟩ : ∃ l' c, l = l' ++ [c] := ⟨_, _, (List.dropLast_concat_getLast hne).symm⟩
    have hp := pv_lt c
    have h2 := ih l' (by simpa using hl)
    rw [pval_snoc, Nat.pow_succ]
    omega
theorem digsN_pval (k : Nat) : ∀ v, v < 16 ^ k → pval (digsN k v) = v := by
  induction k with
  | zero => intro v h; simp at h; subst h; rfl
  | succ k ih =>
    intro v h
    rw [Nat.pow_succ] at h
    unfold digsN
    have e := hx_ok (v % 16) (by omega)
    have e2 := ok_dval _ e.1
    rw [pval_snoc, ih (v / 16) (by omega)]
    omega
theorem pval_cons (c : UInt8) (l : List UInt8) : pval (c :: l) = pv c * 16 ^ l.length + pval l := by
  suffices h : ∀ (k : Nat) (l : List UInt8), l.length = k → pval (c :: l) = pv c * 16 ^ k + pval l from h _ l rfl
  intro k
  induction k with
  | zero => intro l hl; rw [List.eq_nil_of_length_eq_zero hl]; simp [pval, pstep]
  | succ k ih =>
    intro l hl
    have hne : l ≠ [] := by intro e; subst e; simp at hl
    obtain ⟨l', d, rfl⟩ : ∃ l' c, l = l' ++ [c] := ⟨_, _, (List.dropLast_concat_getLast hne).symm⟩
    have h2 := ih l' (by simpa using hl)
    rw [← List.cons_append, pval_snoc, pval_snoc, h2, Nat.pow_succ]
    rw [Nat.add_mul, Nat.mul_assoc]
    omega
/-- what both functions accept -/
theorem un_eq (c : UInt8) (l : List UInt8) (hl : l.length = 15) : un (c :: l) = if dval c ≤ 3 ∧ ∀ x ∈ c :: l, okB x = true then some (pval (c :: l)) else none := by
  unfold un
  have hlen : (c :: l).length = 16 := by simp [hl]
  have hp := pval_lt l
  have hc := pval_cons c l
  rw [hl] at hp hc
  have e16 : (16 : Nat) ^ 15 = 1152921504606846976 := by decide
  rw [e16] at hp hc
  by_cases h : dval c ≤ 3 ∧ ∀ x ∈ c :: l, okB x = true
  · rw [if_pos h]
    have h1 := ok_dval c (h.2 c (by simp))
    have e : pval (c :: l) % 4611686018427387904 = pval (c :: l) := Nat.mod_eq_of_lt (by omega)
    rw [e, if_pos ⟨hlen, by rw [← digsN_eq]; exact digsN_val 16 _ hlen h.2⟩]
  · rw [if_neg h, if_neg]
    rintro ⟨_, h2⟩
    apply h
    rw [← digsN_eq] at h2
    have hok : ∀ x ∈ c :: l, okB x = true := by rw [← h2]; exact digsN_ok 16 _
    refine ⟨?_, hok⟩
    have h3 := digsN_val 16 _ hlen hok
    have h4 := digsN_pval 16 (pval (c :: l) % 4611686018427387904) (by have : (16 : Nat) ^ 16 = 18446744073709551616 := by decide
                                                                       omega)
    rw [h2] at h4
    have h1 := ok_dval c (hok c (by simp))
    omega
theorem un_digs (v : Nat) (hv : v < 4611686018427387904) : un (digs v) = some v := by
  unfold un
  have h := digsN_pval 16 v (by have : (16 : Nat) ^ 16 = 18446744073709551616 := by decide
                                omega)
  rw [digsN_eq] at h
  rw [h, Nat.mod_eq_of_lt hv, if_pos ⟨digs_len v, rfl⟩]
theorem pval_small (c : UInt8) (t : List UInt8) (h : dval c ≤ 3) (hok : okB c = true) (ht : t.length ≤ 15) : pval (c :: t) < 4611686018427387904 := by
  have h1 := ok_dval c hok
  have h2 := pval_lt t
  have h3 : (16 : Nat) ^ t.length ≤ 16 ^ 15 := Nat.pow_le_pow_right (by omega) ht
  have e16 : (16 : Nat) ^ 15 = 1152921504606846976 := by decide
  rw [e16] at h3
  rw [pval_cons]
  generalize (16 : Nat) ^ t.length = p at *
  have h5 : pv c ≤ 3 := by omega
  have h6 : pv c * p ≤ 3 * p := Nat.mul_le_mul_right p h5
  omega
theorem un_long (s : List UInt8) (h : s.length ≠ 16) : un s = none := by unfold un; rw [if_neg (fun x => h x.1)]
/-- as Go hands it back -/
def unN (s : List UInt8) : Int := match un s with | some n => (n : Int) | none => 0
def unB (s : List UInt8) : Bool := (un s).isSome
theorem unN_none {s : List UInt8} (h : un s = none) : unN s = 0 := by unfold unN; rw [h]
theorem unB_none {s : List UInt8} (h : un s = none) : unB s = false := by unfold unB; rw [h]; rfl
theorem unN_some {s : List UInt8} {n : Nat} (h : un s = some n) : unN s = n := by unfold unN; rw [h]
theorem unB_some {s : List UInt8} {n : Nat} (h : un s = some n) : unB s = true := by unfold unB; rw [h]; rfl
theorem un_head (s : List UInt8) (c : UInt8) (h : s.length = 16) (hc : s[0]? = some c) (hd : ¬ dval c ≤ 3) : un s = none := by
  match s, hc with
  | x :: t, hc =>
    simp at hc
    subst hc
    rw [un_eq _ _ (by simpa using h), if_neg (fun z => hd z.1)]
theorem un_bad (s : List UInt8) (k : Nat) (c : UInt8) (h : s.length = 16) (hc : s[k]? = some c) (hd : ¬ 0 ≤ dval c) : un s = none := by
  match s, h, hc with
  | x :: t, h, hc =>
    rw [un_eq _ _ (by simpa using h), if_neg]
    rintro ⟨_, z⟩
    have := z c (List.mem_of_getElem? hc)
    simp [okB] at this
    exact hd this
theorem un_good (s : List UInt8) (c : UInt8) (h : s.length = 16) (hc : s[0]? = some c) (hd : dval c ≤ 3) (hok : ∀ x ∈ s, okB x = true) : un s = some (pval s) := by
  match s, hc with
  | x :: t, hc =>
    simp at hc
    subst hc
    rw [un_eq _ _ (by simpa using h), if_pos ⟨hd, hok⟩]
theorem take_small (s : List UInt8) (c : UInt8) (k : Nat) (h : s.length = 16) (hc : s[0]? = some c) (hd : dval c ≤ 3) (hok : ∀ x ∈ s.take k, okB x = true) : pval (s.take k) < 4611686018427387904 := by
  match s, hc, k with
  | x :: t, hc, 0 => simp [pval]
  | x :: t, hc, k + 1 =>
    simp at hc
    subst hc
    rw [List.take_succ_cons] at hok ⊢
    refine pval_small x _ hd (hok x (by simp)) ?_
    rw [List.length_take]
    simp at h
    omega
theorem dval_lo (c : UInt8) : -1 ≤ dval c := by unfold dval; split; omega; split <;> omega
theorem dval_hi (c : UInt8) : dval c ≤ 15 := by unfold dval; split; omega; split <;> omega
theorem ok_of (c : UInt8) (h : 0 ≤ dval c) : okB c = true := by unfold okB; exact decide_eq_true h
theorem pval_next (s : List UInt8) (k : Nat) (c : UInt8) (h : s[k]? = some c) (hd : 0 ≤ dval c) : (pval (s.take (k + 1)) : Int) = (pval (s.take k) : Int) * 16 + dval c := by
  obtain ⟨h1, h2⟩ := List.getElem?_eq_some_iff.1 h
  rw [List.take_succ_eq_append_getElem h1, h2, pval_snoc]
  have := ok_dval c (ok_of c hd)
  omega
theorem ok_next (s : List UInt8) (k : Nat) (c : UInt8) (h : s[k]? = some c) (hd : 0 ≤ dval c) (hok : ∀ x ∈ s.take k, okB x = true) : ∀ x ∈ s.take (k + 1), okB x = true := by
  obtain ⟨h1, h2⟩ := List.getElem?_eq_some_iff.1 h
  rw [List.take_succ_eq_append_getElem h1, h2]
  intro x hx
  rcases List.mem_append.1 hx with hx | hx
  · exact hok x hx
  · rw [List.mem_singleton.1 hx]; exact ok_of c hd
theorem take_lt (s : List UInt8) (k : Nat) (h : k ≤ 15) : pval (s.take k) < 1152921504606846976 := by
  have h1 := pval_lt (s.take k)
  have h2 : (16 : Nat) ^ (s.take k).length ≤ 16 ^ 15 := Nat.pow_le_pow_right (by omega) (Nat.le_trans (List.length_take_le _ _) h)
  have e16 : (16 : Nat) ^ 15 = 1152921504606846976 := by decide
  omega
theorem pval_take (s : List UInt8) (k : Nat) (c : UInt8) (h : s[k]? = some c) : (pval (s.take (k + 1)) : Int) = (pval (s.take k) : Int) * 16 + (pv c : Int) := by
  obtain ⟨h1, h2⟩ := List.getElem?_eq_some_iff.1 h
  rw [List.take_succ_eq_append_getElem h1, h2, pval_snoc]
  omega
theorem pv_high (c : UInt8) (h : 97 ≤ c.toNat) : ((c.toNat : Int) - 97 + 10) % 16 = (pv c : Int) := by
  unfold pv; rw [if_pos h]; omega
theorem pv_low (c : UInt8) (h : ¬ 97 ≤ c.toNat) : ((c.toNat : Int) - 48) % 16 = (pv c : Int) := by
  unfold pv; rw [if_neg h]; omega
def un2 (s : List UInt8) : Nat := pval s % 4611686018427387904
theorem un_two (s : List UInt8) (h : s.length = 16) : un s = if digs (un2 s) = s then some (un2 s) else none := by
  unfold un un2
  by_cases c : digs (pval s % 4611686018427387904) = s
  · rw [if_pos ⟨h, c⟩, if_pos c]
  · rw [if_neg (fun x => c x.2), if_neg c]
theorem un2_lt (s : List UInt8) : un2 s < 4611686018427387904 := Nat.mod_lt _ (by decide)
theorem and_back (s : List UInt8) (h : s.length = 16) : bits .and .u64 (pval s : Int) 4611686018427387903 = (un2 s : Int) := by
  have h1 := pval_lt s
  rw [h] at h1
  have : (16 : Nat) ^ 16 = 18446744073709551616 := by decide
  rw [and_mask _ (by omega)]
  unfold un2 M62
  rfl
theorem cut_nat (n : Nat) (h : n < 4611686018427387904) : cut (n : Int) = n := by unfold cut; omega
end Sm
end Go.Proofs.Ytejoionamkmeeaa
