/- The texts Sm, Et, Eu, Ey of this proof, one behind the other. -/
import Derived.Laws.BitsAllLaws
import Derived.Laws.BitsLemmas
import Derived.Laws.Tables
import Derived.RowKit
import Derived.Test.YtacjhbbieeliaaaGreatDoorMae
set_option linter.unusedSimpArgs false
set_option maxHeartbeats 16000000
set_option maxRecDepth 100000
/- The text Sm. -/
open Go Go.RowKit
set_option linter.unusedVariables false
namespace Sm
def M62 : Nat := 4611686018427387904
def mixed (v : Nat) (c : UInt8) : Nat := v ^^^ c.toNat
def fstep (v : Nat) (c : UInt8) : Nat := (mixed v c * 1099511628211) % M62
def fold (v : Nat) (bs : List UInt8) : Nat := bs.foldl fstep v
def cut (h : Int) : Nat := (h % 4611686018427387904).toNat
theorem cut_lt (h : Int) : cut h < 4611686018427387904 := by unfold cut; omega
theorem fstep_lt (v : Nat) (c : UInt8) : fstep v c < 4611686018427387904 := by unfold fstep M62; omega
theorem mixed_lt (v : Nat) (c : UInt8) (hv : v < 4611686018427387904) : mixed v c < 4611686018427387904 := by
  have : v ^^^ c.toNat < 2 ^ 62 := Nat.xor_lt_two_pow (by omega) (by have := c.toNat_lt; omega)
  unfold mixed; omega
theorem fold_lt (bs : List UInt8) : ∀ v, v < 4611686018427387904 → fold v bs < 4611686018427387904 := by
  induction bs with
  | nil => intro v h; exact h
  | cons c bs ih => intro v _; exact ih _ (fstep_lt v c)
theorem gen_append {α β : Type} (f : α → β → α) (v : α) (a b : List β) : (a ++ b).foldl f v = b.foldl f (a.foldl f v) := List.foldl_append
theorem gen_snoc {α β : Type} (f : α → β → α) (v : α) (a : List β) (c : β) : (a ++ [c]).foldl f v = f (a.foldl f v) c := by simp
theorem fold_append (v : Nat) (a b : List UInt8) : fold v (a ++ b) = fold (fold v a) b := gen_append fstep v a b
theorem fold_snoc (v : Nat) (a : List UInt8) (c : UInt8) : fold v (a ++ [c]) = fstep (fold v a) c := gen_snoc fstep v a c
theorem fold_one (v : Nat) (c : UInt8) : fold v [c] = fstep v c := gen_snoc fstep v [] c
theorem and_62 (n : Nat) : n &&& 4611686018427387903 = n % 4611686018427387904 := by
  have h := Nat.and_two_pow_sub_one_eq_mod n 62
  have e : 2 ^ 62 - 1 = 4611686018427387903 := by decide
  rw [e] at h
  omega
theorem and_gen (n m : Nat) (hm : m = 4611686018427387903) (hn : n < 18446744073709551616) : bits .and .u64 (n : Int) (m : Int) = ((n &&& m : Nat) : Int) := u64_and_nat n m hn (by omega)
theorem and_mask (n : Nat) (hn : n < 18446744073709551616) : bits .and .u64 (n : Int) 4611686018427387903 = ((n % M62 : Nat) : Int) := by
  obtain ⟨m, hm⟩ : ∃ m : Nat, m = 4611686018427387903 := ⟨_, rfl⟩
  have e0 : (4611686018427387903 : Int) = (m : Int) := by omega
  rw [e0, and_gen n m hm hn, hm, and_62]
  rfl
theorem start_and (h : Int) : bits .and .u64 (IntKind.u64.wrap h) 4611686018427387903 = (cut h : Int) := by
  rw [IntKind.wrap_u64]
  obtain ⟨n, hn⟩ := Int.eq_ofNat_of_zero_le (show 0 ≤ h % 18446744073709551616 by omega)
  rw [hn, and_mask n (by omega)]
  unfold cut M62
  omega
theorem start_rem (h : Int) : (IntKind.u64.wrap h).tmod 4611686018427387904 = (cut h : Int) := by
  rw [IntKind.wrap_u64, Int.tmod_eq_emod_of_nonneg (by omega)]
  unfold cut
  omega
theorem xor_mix (v : Nat) (c : UInt8) (hv : v < 4611686018427387904) : bits .xor .u64 (v : Int) (c.toNat : Int) = (mixed v c : Int) :=
  u64_xor_nat v c.toNat (by omega) (by have := c.toNat_lt; omega)
theorem mul_wrap (m : Nat) : IntKind.u64.wrap ((m : Int) * 1099511628211) = ((m * 1099511628211 % 18446744073709551616 : Nat) : Int) := by
  rw [IntKind.wrap_u64]; omega
theorem step_and (v : Nat) (c : UInt8) : bits .and .u64 (IntKind.u64.wrap ((mixed v c : Int) * 1099511628211)) 4611686018427387903 = (fstep v c : Int) := by
  rw [mul_wrap, and_mask _ (by omega)]
  unfold fstep M62
  omega
theorem step_rem (v : Nat) (c : UInt8) : (IntKind.u64.wrap ((mixed v c : Int) * 1099511628211)).tmod 4611686018427387904 = (fstep v c : Int) := by
  rw [mul_wrap, Int.tmod_eq_emod_of_nonneg (by omega)]
  unfold fstep M62
  omega
theorem back (n : Nat) (hn : n < 4611686018427387904) : wrap64 (n : Int) = (n : Int) := by
  unfold wrap64; omega
end Sm
namespace Sm
def hx (v : Nat) : UInt8 := if v < 10 then UInt8.ofNat (48 + v) else UInt8.ofNat (87 + v)
def dig (v i : Nat) : UInt8 := hx (v / 16 ^ (15 - i) % 16)
def dcell (v k i : Nat) : Value := if 15 - i < k then .int .u8 ((dig v i).toNat : Int) else .int .u8 0
def dcells (v k : Nat) : Array Value := ((List.range 16).map (dcell v k)).toArray
def digs (v : Nat) : List UInt8 := (List.range 16).map (dig v)
theorem dcells_zero (v : Nat) : dcells v 0 = #[.int .u8 0, .int .u8 0, .int .u8 0, .int .u8 0, .int .u8 0, .int .u8 0, .int .u8 0, .int .u8 0, .int .u8 0, .int .u8 0, .int .u8 0, .int .u8 0, .int .u8 0, .int .u8 0, .int .u8 0, .int .u8 0] := by
  simp [dcells, dcell, List.range, List.range.loop]
theorem dcells_full (v : Nat) : dcells v 16 = ((digs v).map fun c => Value.int .u8 (c.toNat : Int)).toArray := by
  simp [dcells, dcell, digs, List.range, List.range.loop]
theorem dcells_size (v k : Nat) : (dcells v k).size = 16 := by simp [dcells]
theorem dcells_get (v k i : Nat) (h : i < (dcells v k).size) : (dcells v k)[i] = dcell v k i := by simp [dcells]
theorem dcells_succ (v k : Nat) (hk : k < 16) : (dcells v k).setIfInBounds (15 - k) (.int .u8 ((hx (v / 16 ^ k % 16)).toNat : Int)) = dcells v (k + 1) := by
  apply Array.ext
  · rw [Array.size_setIfInBounds, dcells_size, dcells_size]
  · intro i h1 h2
    have hi : i < 16 := by rw [dcells_size] at h2; exact h2
    rw [Array.getElem_setIfInBounds (by rw [dcells_size]; exact hi), dcells_get v k i, dcells_get]
    unfold dcell
    by_cases e : 15 - k = i
    · subst e
      have e2 : 15 - (15 - k) = k := by omega
      simp [dig, e2]
    · rw [if_neg e]
      by_cases c : 15 - i < k
      · rw [if_pos c, if_pos (by omega)]
      · rw [if_neg c, if_neg (by omega)]
theorem pow_step (v k : Nat) : v / 16 ^ k / 16 = v / 16 ^ (k + 1) := by rw [Nat.div_div_eq_div_mul, Nat.pow_succ]
theorem rem16 (q : Nat) : ((q : Nat) : Int).tmod 16 = ((q % 16 : Nat) : Int) := by rw [Int.tmod_eq_emod_of_nonneg (by omega)]; omega
theorem quo16 (q : Nat) (hq : q < 4611686018427387904) : IntKind.u64.wrap ((q : Int).tdiv 16) = ((q / 16 : Nat) : Int) := by
  rw [Int.tdiv_eq_ediv_of_nonneg (by omega), IntKind.wrap_u64]; omega
theorem div_lt (v k : Nat) (h : v < 4611686018427387904) : v / 16 ^ k < 4611686018427387904 := Nat.lt_of_le_of_lt (Nat.div_le_self _ _) h
theorem hx_at : ∀ m : Fin 16, (#[48, 49, 50, 51, 52, 53, 54, 55, 56, 57, 97, 98, 99, 100, 101, 102] : Array UInt8)[m.val] = hx m.val := by decide
theorem hx_get (m : Nat) (hm : m < 16) (h : m < (ByteArray.mk #[48, 49, 50, 51, 52, 53, 54, 55, 56, 57, 97, 98, 99, 100, 101, 102]).size) : (ByteArray.mk #[48, 49, 50, 51, 52, 53, 54, 55, 56, 57, 97, 98, 99, 100, 101, 102])[m] = hx m := hx_at ⟨m, hm⟩
theorem dcells_one (v k : Nat) : (dcells v k).all (·.oneCell') = true := by
  rw [Array.all_eq_true]
  intro i h
  rw [dcells_get]
  unfold dcell
  split <;> rfl
theorem hx_low (m : Nat) (h : m < 10) : ((hx m).toNat : Int) = 48 + (m : Int) := by
  unfold hx; rw [if_pos h, UInt8.toNat_ofNat']; omega
theorem hx_high (m : Nat) (h : ¬ m < 10) (h2 : m < 16) : ((hx m).toNat : Int) = 97 + (m : Int) - 10 := by
  unfold hx; rw [if_neg h, UInt8.toNat_ofNat']; omega
theorem digs_drop (v k : Nat) (hk : k < 16) : (digs v).drop (16 - (k + 1)) = hx (v / 16 ^ k % 16) :: (digs v).drop (16 - k) := by
  have hl : (digs v).length = 16 := by simp [digs]
  rw [List.drop_eq_getElem_cons (by omega)]
  have e : 16 - (k + 1) + 1 = 16 - k := by omega
  have e2 : 15 - (16 - (k + 1)) = k := by omega
  rw [e]
  congr 1
  simp only [digs, List.getElem_map, List.getElem_range, dig, e2]
theorem digs_len (v : Nat) : (digs v).length = 16 := by simp [digs]
end Sm
namespace Sm
def pv (c : UInt8) : Nat := if 97 ≤ c.toNat then (c.toNat - 97 + 10) % 16 else ((c.toNat + 208) % 256) % 16
def pstep (u : Nat) (c : UInt8) : Nat := u * 16 + pv c
def pval (l : List UInt8) : Nat := l.foldl pstep 0
def dval (c : UInt8) : Int := if 48 ≤ c.toNat ∧ c.toNat ≤ 57 then (c.toNat : Int) - 48 else if 97 ≤ c.toNat ∧ c.toNat ≤ 102 then (c.toNat : Int) - 97 + 10 else -1
def okB (c : UInt8) : Bool := decide (0 ≤ dval c)
def un (s : List UInt8) : Option Nat := if s.length = 16 ∧ digs (pval s % 4611686018427387904) = s then some (pval s % 4611686018427387904) else none
theorem all256 (p : Nat → Bool) (h : (List.range 256).all p = true) (c : UInt8) : p c.toNat = true := by
  rw [List.all_eq_true] at h
  exact h _ (List.mem_range.2 c.toNat_lt)
theorem pv_lt (c : UInt8) : pv c < 16 := by unfold pv; split <;> omega
theorem ok_dval (c : UInt8) (h : okB c = true) : (pv c : Int) = dval c := by
  have h : 0 ≤ dval c := by simpa [okB] using h
  have := c.toNat_lt
  revert h
  unfold dval pv
  split
  · intro _; rw [if_neg (by omega)]; omega
  · split
    · intro _; rw [if_pos (by omega)]; omega
    · intro h; omega
theorem hx_nat (m : Nat) (h : m < 16) : (hx m).toNat = if m < 10 then 48 + m else 87 + m := by
  unfold hx; split <;> rw [UInt8.toNat_ofNat'] <;> omega
theorem hx_ok (m : Nat) (h : m < 16) : okB (hx m) = true ∧ dval (hx m) = m := by
  have e := hx_nat m h
  have : dval (hx m) = m := by
    unfold dval
    rw [e]
    by_cases c : m < 10
    · rw [if_pos c, if_pos (by omega)]; omega
    · rw [if_neg c, if_neg (by omega), if_pos (by omega)]; omega
  exact ⟨by unfold okB; rw [this]; simp, this⟩
theorem ok_hx (c : UInt8) (h : okB c = true) : hx (pv c) = c := by
  have e := ok_dval c h
  have l := pv_lt c
  have h : 0 ≤ dval c := by simpa [okB] using h
  apply UInt8.toNat_inj.1
  rw [hx_nat _ l]
  have := c.toNat_lt
  revert h e
  unfold dval
  split
  · intro e _; split <;> omega
  · split
    · intro e _; split <;> omega
    · intro _ h; omega
def digsN : Nat → Nat → List UInt8
  | 0, _ => []
  | k + 1, v => digsN k (v / 16) ++ [hx (v % 16)]
theorem digsN_eq (v : Nat) : digsN 16 v = digs v := by
  simp [digsN, digs, dig, List.range, List.range.loop, Nat.div_div_eq_div_mul]
theorem pval_snoc (l : List UInt8) (c : UInt8) : pval (l ++ [c]) = pval l * 16 + pv c := gen_snoc pstep 0 l c
theorem digsN_val (k : Nat) : ∀ l : List UInt8, l.length = k → (∀ c ∈ l, okB c = true) → digsN k (pval l) = l := by
  induction k with
  | zero => intro l hl _; rw [List.eq_nil_of_length_eq_zero hl]; rfl
  | succ k ih =>
    intro l hl ho
    have hne : l ≠ [] := by intro e; subst e; simp at hl
    obtain ⟨l', c, rfl⟩ : ∃ l' c, l = l' ++ [c] := ⟨_, _, (List.dropLast_concat_getLast hne).symm⟩
    have hp := pv_lt c
    rw [pval_snoc]
    unfold digsN
    rw [show (pval l' * 16 + pv c) / 16 = pval l' by omega, show (pval l' * 16 + pv c) % 16 = pv c by omega, ih l' (by simpa using hl) (fun c hc => ho c (by simp [hc])), ok_hx c (ho c (by simp))]
theorem digsN_ok (k : Nat) : ∀ v, ∀ c ∈ digsN k v, okB c = true := by
  induction k with
  | zero => intro v c h; simp [digsN] at h
  | succ k ih =>
    intro v c h
    unfold digsN at h
    rcases List.mem_append.1 h with h | h
    · exact ih _ _ h
    · rw [List.mem_singleton.1 h]; exact (hx_ok _ (by omega)).1
theorem pval_lt (l : List UInt8) : pval l < 16 ^ l.length := by
  suffices h : ∀ (k : Nat) (l : List UInt8), l.length = k → pval l < 16 ^ k from h _ l rfl
  intro k
  induction k with
  | zero => intro l hl; rw [List.eq_nil_of_length_eq_zero hl]; decide
  | succ k ih =>
    intro l hl
    have hne : l ≠ [] := by intro e; subst e; simp at hl
    obtain ⟨l', c, rfl⟩ : ∃ l' c, l = l' ++ [c] := ⟨_, _, (List.dropLast_concat_getLast hne).symm⟩
    have hp := pv_lt c
    have h2 := ih l' (by simpa using hl)
    rw [pval_snoc, Nat.pow_succ]
    omega
theorem digsN_pval (k : Nat) : ∀ v, v < 16 ^ k → pval (digsN k v) = v := by
  induction k with
  | zero => intro v h; simp at h; subst h; rfl
  | succ k ih =>
    intro v h
    rw [Nat.pow_succ] at h
    unfold digsN
    have e := hx_ok (v % 16) (by omega)
    have e2 := ok_dval _ e.1
    rw [pval_snoc, ih (v / 16) (by omega)]
    omega
theorem pval_cons (c : UInt8) (l : List UInt8) : pval (c :: l) = pv c * 16 ^ l.length + pval l := by
  suffices h : ∀ (k : Nat) (l : List UInt8), l.length = k → pval (c :: l) = pv c * 16 ^ k + pval l from h _ l rfl
  intro k
  induction k with
  | zero => intro l hl; rw [List.eq_nil_of_length_eq_zero hl]; simp [pval, pstep]
  | succ k ih =>
    intro l hl
    have hne : l ≠ [] := by intro e; subst e; simp at hl
    obtain ⟨l', d, rfl⟩ : ∃ l' c, l = l' ++ [c] := ⟨_, _, (List.dropLast_concat_getLast hne).symm⟩
    have h2 := ih l' (by simpa using hl)
    rw [← List.cons_append, pval_snoc, pval_snoc, h2, Nat.pow_succ]
    rw [Nat.add_mul, Nat.mul_assoc]
    omega
theorem un_eq (c : UInt8) (l : List UInt8) (hl : l.length = 15) : un (c :: l) = if dval c ≤ 3 ∧ ∀ x ∈ c :: l, okB x = true then some (pval (c :: l)) else none := by
  unfold un
  have hlen : (c :: l).length = 16 := by simp [hl]
  have hp := pval_lt l
  have hc := pval_cons c l
  rw [hl] at hp hc
  have e16 : (16 : Nat) ^ 15 = 1152921504606846976 := by decide
  rw [e16] at hp hc
  by_cases h : dval c ≤ 3 ∧ ∀ x ∈ c :: l, okB x = true
  · rw [if_pos h]
    have h1 := ok_dval c (h.2 c (by simp))
    have e : pval (c :: l) % 4611686018427387904 = pval (c :: l) := Nat.mod_eq_of_lt (by omega)
    rw [e, if_pos ⟨hlen, by rw [← digsN_eq]; exact digsN_val 16 _ hlen h.2⟩]
  · rw [if_neg h, if_neg]
    rintro ⟨_, h2⟩
    apply h
    rw [← digsN_eq] at h2
    have hok : ∀ x ∈ c :: l, okB x = true := by rw [← h2]; exact digsN_ok 16 _
    refine ⟨?_, hok⟩
    have h3 := digsN_val 16 _ hlen hok
    have h4 := digsN_pval 16 (pval (c :: l) % 4611686018427387904) (by have : (16 : Nat) ^ 16 = 18446744073709551616 := by decide
                                                                       omega)
    rw [h2] at h4
    have h1 := ok_dval c (hok c (by simp))
    omega
theorem un_digs (v : Nat) (hv : v < 4611686018427387904) : un (digs v) = some v := by
  unfold un
  have h := digsN_pval 16 v (by have : (16 : Nat) ^ 16 = 18446744073709551616 := by decide
                                omega)
  rw [digsN_eq] at h
  rw [h, Nat.mod_eq_of_lt hv, if_pos ⟨digs_len v, rfl⟩]
theorem pval_small (c : UInt8) (t : List UInt8) (h : dval c ≤ 3) (hok : okB c = true) (ht : t.length ≤ 15) : pval (c :: t) < 4611686018427387904 := by
  have h1 := ok_dval c hok
  have h2 := pval_lt t
  have h3 : (16 : Nat) ^ t.length ≤ 16 ^ 15 := Nat.pow_le_pow_right (by omega) ht
  have e16 : (16 : Nat) ^ 15 = 1152921504606846976 := by decide
  rw [e16] at h3
  rw [pval_cons]
  generalize (16 : Nat) ^ t.length = p at *
  have h5 : pv c ≤ 3 := by omega
  have h6 : pv c * p ≤ 3 * p := Nat.mul_le_mul_right p h5
  omega
theorem un_long (s : List UInt8) (h : s.length ≠ 16) : un s = none := by unfold un; rw [if_neg (fun x => h x.1)]
def unN (s : List UInt8) : Int := match un s with | some n => (n : Int) | none => 0
def unB (s : List UInt8) : Bool := (un s).isSome
theorem unN_none {s : List UInt8} (h : un s = none) : unN s = 0 := by unfold unN; rw [h]
theorem unB_none {s : List UInt8} (h : un s = none) : unB s = false := by unfold unB; rw [h]; rfl
theorem unN_some {s : List UInt8} {n : Nat} (h : un s = some n) : unN s = n := by unfold unN; rw [h]
theorem unB_some {s : List UInt8} {n : Nat} (h : un s = some n) : unB s = true := by unfold unB; rw [h]; rfl
theorem un_head (s : List UInt8) (c : UInt8) (h : s.length = 16) (hc : s[0]? = some c) (hd : ¬ dval c ≤ 3) : un s = none := by
  match s, hc with
  | x :: t, hc =>
    simp at hc
    subst hc
    rw [un_eq _ _ (by simpa using h), if_neg (fun z => hd z.1)]
theorem un_bad (s : List UInt8) (k : Nat) (c : UInt8) (h : s.length = 16) (hc : s[k]? = some c) (hd : ¬ 0 ≤ dval c) : un s = none := by
  match s, h, hc with
  | x :: t, h, hc =>
    rw [un_eq _ _ (by simpa using h), if_neg]
    rintro ⟨_, z⟩
    have := z c (List.mem_of_getElem? hc)
    simp [okB] at this
    exact hd this
theorem un_good (s : List UInt8) (c : UInt8) (h : s.length = 16) (hc : s[0]? = some c) (hd : dval c ≤ 3) (hok : ∀ x ∈ s, okB x = true) : un s = some (pval s) := by
  match s, hc with
  | x :: t, hc =>
    simp at hc
    subst hc
    rw [un_eq _ _ (by simpa using h), if_pos ⟨hd, hok⟩]
theorem take_small (s : List UInt8) (c : UInt8) (k : Nat) (h : s.length = 16) (hc : s[0]? = some c) (hd : dval c ≤ 3) (hok : ∀ x ∈ s.take k, okB x = true) : pval (s.take k) < 4611686018427387904 := by
  match s, hc, k with
  | x :: t, hc, 0 => simp [pval]
  | x :: t, hc, k + 1 =>
    simp at hc
    subst hc
    rw [List.take_succ_cons] at hok ⊢
    refine pval_small x _ hd (hok x (by simp)) ?_
    rw [List.length_take]
    simp at h
    omega
theorem dval_lo (c : UInt8) : -1 ≤ dval c := by unfold dval; split; omega; split <;> omega
theorem dval_hi (c : UInt8) : dval c ≤ 15 := by unfold dval; split; omega; split <;> omega
theorem ok_of (c : UInt8) (h : 0 ≤ dval c) : okB c = true := by unfold okB; exact decide_eq_true h
theorem pval_next (s : List UInt8) (k : Nat) (c : UInt8) (h : s[k]? = some c) (hd : 0 ≤ dval c) : (pval (s.take (k + 1)) : Int) = (pval (s.take k) : Int) * 16 + dval c := by
  obtain ⟨h1, h2⟩ := List.getElem?_eq_some_iff.1 h
  rw [List.take_succ_eq_append_getElem h1, h2, pval_snoc]
  have := ok_dval c (ok_of c hd)
  omega
theorem ok_next (s : List UInt8) (k : Nat) (c : UInt8) (h : s[k]? = some c) (hd : 0 ≤ dval c) (hok : ∀ x ∈ s.take k, okB x = true) : ∀ x ∈ s.take (k + 1), okB x = true := by
  obtain ⟨h1, h2⟩ := List.getElem?_eq_some_iff.1 h
  rw [List.take_succ_eq_append_getElem h1, h2]
  intro x hx
  rcases List.mem_append.1 hx with hx | hx
  · exact hok x hx
  · rw [List.mem_singleton.1 hx]; exact ok_of c hd
theorem take_lt (s : List UInt8) (k : Nat) (h : k ≤ 15) : pval (s.take k) < 1152921504606846976 := by
  have h1 := pval_lt (s.take k)
  have h2 : (16 : Nat) ^ (s.take k).length ≤ 16 ^ 15 := Nat.pow_le_pow_right (by omega) (Nat.le_trans (List.length_take_le _ _) h)
  have e16 : (16 : Nat) ^ 15 = 1152921504606846976 := by decide
  omega
theorem pval_take (s : List UInt8) (k : Nat) (c : UInt8) (h : s[k]? = some c) : (pval (s.take (k + 1)) : Int) = (pval (s.take k) : Int) * 16 + (pv c : Int) := by
  obtain ⟨h1, h2⟩ := List.getElem?_eq_some_iff.1 h
  rw [List.take_succ_eq_append_getElem h1, h2, pval_snoc]
  omega
theorem pv_high (c : UInt8) (h : 97 ≤ c.toNat) : ((c.toNat : Int) - 97 + 10) % 16 = (pv c : Int) := by
  unfold pv; rw [if_pos h]; omega
theorem pv_low (c : UInt8) (h : ¬ 97 ≤ c.toNat) : ((c.toNat : Int) - 48) % 16 = (pv c : Int) := by
  unfold pv; rw [if_neg h]; omega
def un2 (s : List UInt8) : Nat := pval s % 4611686018427387904
theorem un_two (s : List UInt8) (h : s.length = 16) : un s = if digs (un2 s) = s then some (un2 s) else none := by
  unfold un un2
  by_cases c : digs (pval s % 4611686018427387904) = s
  · rw [if_pos ⟨h, c⟩, if_pos c]
  · rw [if_neg (fun x => c x.2), if_neg c]
theorem un2_lt (s : List UInt8) : un2 s < 4611686018427387904 := Nat.mod_lt _ (by decide)
theorem and_back (s : List UInt8) (h : s.length = 16) : bits .and .u64 (pval s : Int) 4611686018427387903 = (un2 s : Int) := by
  have h1 := pval_lt s
  rw [h] at h1
  have : (16 : Nat) ^ 16 = 18446744073709551616 := by decide
  rw [and_mask _ (by omega)]
  unfold un2 M62
  rfl
theorem cut_nat (n : Nat) (h : n < 4611686018427387904) : cut (n : Int) = n := by unfold cut; omega
end Sm
/- The text Et. -/
namespace Rn
def names : List Str := [[111, 107],
 [97, 114, 103],
 [114, 97, 110, 103, 101],
 [110, 97, 109, 101],
 [116, 119, 105, 99, 101],
 [110, 111, 110, 101],
 [102, 111, 114, 109],
 [108, 111, 110, 103],
 [111, 114, 100, 101, 114],
 [115, 104, 111, 114, 116],
 [116, 101, 120, 116],
 [115, 117, 109],
 [115, 105, 103, 110],
 [114, 111, 111, 109],
 [103, 97, 112],
 [99, 121, 99, 108, 101],
 [97, 117, 116, 104],
 [99, 114, 101, 97, 116, 101],
 [109, 101, 109, 98, 101, 114],
 [98, 97, 110, 110, 101, 100],
 [108, 101, 118, 101, 108],
 [114, 117, 108, 101],
 [97, 99, 99, 101, 115, 115],
 [104, 105, 100, 100, 101, 110],
 [115, 111, 102, 116],
 [114, 97, 116, 101],
 [115, 116, 97, 116, 101],
 [103, 111, 110, 101],
 [116, 114, 117, 115, 116],
 [102, 117, 108, 108],
 [100, 111, 119, 110]]
def nameOf (e : Int) : Str := if 0 ≤ e ∧ e < 31 then names.getD e.toNat [] else [117, 110, 107, 110, 111, 119, 110]
def codeF : Nat → List Str → Str → Option Int
 | _, [], _ => none
 | k, a :: r, s => if a = s then some (k : Int) else codeF (k + 1) r s
def code (s : Str) : Option Int := codeF 0 names s
def line (lv : Nat) (r : Str) (i e : Int) : Str := List.replicate (2 * lv) 32 ++ (r ++ 32 :: (Sm.digs (Sm.cut i) ++ 32 :: nameOf e))
mutual
def lines : Nat → Tr → Str
 | lv, .mk r i e ks => line lv r i e ++ 10 :: linesL (lv + 1) ks
def linesL : Nat → List Tr → Str
 | _, [] => []
 | lv, c :: r => lines lv c ++ linesL lv r
end
def text (x : Tr) : Str := if plain 40 x then lines 0 x else []
def cutB (c : UInt8) : Str → Option (Str × Str)
 | [] => none
 | x :: r => if x = c then some ([], r) else (cutB c r).map fun p => (x :: p.1, p.2)
def strip : Str → Nat × Str
 | a :: b :: r => if a = 32 ∧ b = 32 then ((strip r).1 + 1, (strip r).2) else (0, a :: b :: r)
 | s => (0, s)
structure Rw where
 lv : Nat
 rule : Str
 id : Int
 err : Int
def row (s : Str) : Option Rw := match cutB 32 (strip s).2 with
 | none => none
 | some (a, r) => if ruled a then match cutB 32 r with
  | none => none
  | some (b, c) => match Sm.un b, code c with
   | some i, some e => some ⟨(strip s).1, a, (i : Int), e⟩
   | _, _ => none
  else none
def okLv : Option Nat → Nat → Bool
 | none, lv => decide (lv = 0)
 | some p, lv => decide (1 ≤ lv) && decide (lv ≤ p + 1) && decide (lv ≤ 39)
def last (l : List Rw) : Option Nat := l.getLast?.map (·.lv)
def parseF : Nat → List Rw → Str → Nat ⊕ List Rw
 | 0, l, _ => .inr l
 | f + 1, l, s => if s = [] ∧ l ≠ [] then .inr l else match cutB 10 s with
  | none => .inl (l.length + 1)
  | some (a, r) => match row a with
   | none => .inl (l.length + 1)
   | some x => if okLv (last l) x.lv then parseF f (l ++ [x]) r else .inl (l.length + 1)
def kidsF : Nat → Nat → List Rw → List Tr × List Rw
 | 0, _, l => ([], l)
 | _ + 1, _, [] => ([], [])
 | n + 1, lv, x :: l => if lv < x.lv then
   (.mk x.rule x.id x.err (kidsF n x.lv l).1 :: (kidsF n lv (kidsF n x.lv l).2).1, (kidsF n lv (kidsF n x.lv l).2).2)
  else ([], x :: l)
def grow : List Rw → Tr
 | [] => default
 | x :: l => .mk x.rule x.id x.err (kidsF (l.length + 1) x.lv l).1
inductive Res where
 | bad (n : Nat) (e : Int)
 | ok (x : Tr)
def parse (s : Str) : Res := if 100000 < s.length then .bad 0 7 else match parseF (s.length + 1) [] s with
 | .inl n => .bad n 10
 | .inr l => .ok (grow l)
def feeds (s : Str) : Nat := (s.filter (· == 10)).length
theorem cutB_some {c : UInt8} : ∀ {s a r : Str}, cutB c s = some (a, r) → s = a ++ c :: r ∧ c ∉ a
 | [], a, r, h => by cases h
 | x :: t, a, r, h => by
  unfold cutB at h
  by_cases hx : x = c
  ·rw [if_pos hx] at h; injection h with h; injection h with h1 h2; subst h1 h2 hx; exact ⟨rfl, by simp⟩
  ·rw [if_neg hx] at h
   cases ht : cutB c t with
   | none => rw [ht] at h; cases h
   | some p =>
    obtain ⟨a', r'⟩ := p
    rw [ht] at h
    injection h with h; injection h with h1 h2; subst h1 h2
    obtain ⟨h3, h4⟩ := cutB_some ht
    exact ⟨by rw [h3]; rfl, by simp [h4, Ne.symm hx]⟩
theorem cutB_at {c : UInt8} : ∀ {a r : Str}, c ∉ a → cutB c (a ++ c :: r) = some (a, r)
 | [], r, _ => by unfold cutB; rw [List.nil_append]; simp
 | x :: a, r, h => by
  simp only [List.mem_cons, not_or] at h
  rw [List.cons_append]
  unfold cutB
  rw [if_neg (Ne.symm h.1), cutB_at h.2]
  rfl
theorem cutB_none {c : UInt8} : ∀ {s : Str}, c ∉ s → cutB c s = none
 | [], _ => rfl
 | x :: t, h => by
  simp only [List.mem_cons, not_or] at h
  unfold cutB
  rw [if_neg (Ne.symm h.1), cutB_none h.2]
  rfl
theorem names_len : names.length = 31 := rfl
theorem codeF_some : ∀ {l : List Str} {k : Nat} {s : Str} {e : Int}, codeF k l s = some e → ∃ i, l[i]? = some s ∧ e = ((k + i : Nat) : Int)
 | [], k, s, e, h => by cases h
 | a :: r, k, s, e, h => by
  unfold codeF at h
  by_cases ha : a = s
  ·rw [if_pos ha] at h; injection h with h; exact ⟨0, by rw [← ha]; rfl, by rw [← h]; rfl⟩
  ·rw [if_neg ha] at h
   obtain ⟨i, h1, h2⟩ := codeF_some h
   exact ⟨i + 1, by rw [List.getElem?_cons_succ]; exact h1, by rw [h2]; congr 1; omega⟩
theorem code_some {s : Str} {e : Int} (h : code s = some e) : 0 ≤ e ∧ e ≤ 30 ∧ nameOf e = s := by
 obtain ⟨i, h1, h2⟩ := codeF_some h
 have hi := (List.getElem?_eq_some_iff.1 h1).1
 rw [names_len] at hi
 rw [Nat.zero_add] at h2
 subst h2
 refine ⟨by omega, by omega, ?_⟩
 unfold nameOf
 rw [if_pos (by omega), Int.toNat_natCast, List.getD_eq_getElem?_getD, h1]
 rfl
theorem code_name (e : Int) (h0 : 0 ≤ e) (h1 : e ≤ 30) : code (nameOf e) = some e := by
 obtain ⟨n, rfl⟩ := Int.eq_ofNat_of_zero_le h0
 have : ∀ m : Fin 31, code (nameOf (m.val : Int)) = some (m.val : Int) := by decide +kernel
 exact this ⟨n, by omega⟩
theorem name_plain (e : Int) : ∀ c ∈ nameOf e, c ≠ 32 ∧ c ≠ 10 := by
 intro c hc
 unfold nameOf at hc
 by_cases h : 0 ≤ e ∧ e < 31
 ·rw [if_pos h] at hc
  have : ∀ m : Fin 31, ∀ c ∈ names.getD m.val [], c ≠ 32 ∧ c ≠ 10 := by decide +kernel
  exact this ⟨e.toNat, by omega⟩ c hc
 ·rw [if_neg h] at hc
  revert c
  decide
theorem name_len (e : Int) : (nameOf e).length ≤ 7 := by
 unfold nameOf
 by_cases h : 0 ≤ e ∧ e < 31
 ·rw [if_pos h]
  have : ∀ m : Fin 31, (names.getD m.val []).length ≤ 7 := by decide +kernel
  exact this ⟨e.toNat, by omega⟩
 ·rw [if_neg h]; decide
theorem strip_rep : ∀ (n : Nat) (s : Str), (s.head? ≠ some 32) → strip (List.replicate (2 * n) 32 ++ s) = (n, s)
 | 0, s, h => by
  show strip s = (0, s)
  unfold strip
  split
  ·rename_i a b r
   rw [if_neg]
   rintro ⟨h1, h2⟩
   exact h (by rw [h1]; rfl)
  ·rfl
 | n + 1, s, h => by
  have e : List.replicate (2 * (n + 1)) (32 : UInt8) ++ s = 32 :: 32 :: (List.replicate (2 * n) 32 ++ s) := rfl
  rw [e]
  unfold strip
  rw [if_pos ⟨rfl, rfl⟩, strip_rep n s h]
theorem strip_inv : ∀ s : Str, s = List.replicate (2 * (strip s).1) 32 ++ (strip s).2
 | [] => rfl
 | [a] => rfl
 | a :: b :: r => by
  have ih := strip_inv r
  unfold strip
  by_cases h : a = 32 ∧ b = 32
  ·rw [if_pos h]
   obtain ⟨rfl, rfl⟩ := h
   show (32 : UInt8) :: 32 :: r = 32 :: 32 :: (List.replicate (2 * (strip r).1) 32 ++ (strip r).2)
   rw [← ih]
  ·rw [if_neg h]; rfl
theorem rule_plain {r : Str} (h : ruled r = true) : r ≠ [] ∧ r.length ≤ 32 ∧ ∀ c ∈ r, c ≠ 32 ∧ c ≠ 10 := by
 unfold ruled at h
 simp only [Bool.and_eq_true, decide_eq_true_eq, List.all_eq_true] at h
 obtain ⟨⟨h1, h2⟩, h3⟩ := h
 refine ⟨fun e => by rw [e] at h1; simp at h1, h2, fun c hc => ?_⟩
 have := h3 c hc
 unfold ruleB at this
 simp only [Bool.or_eq_true, beq_iff_eq, Bool.and_eq_true, decide_eq_true_eq] at this
 refine ⟨?_, ?_⟩ <;> (intro e; subst e; revert this; decide)
theorem digs_plain (n : Nat) : ∀ c ∈ Sm.digs n, c ≠ 32 ∧ c ≠ 10 := by
 intro c hc
 rw [← Sm.digsN_eq] at hc
 have := Sm.digsN_ok 16 n c hc
 have h : 0 ≤ Sm.dval c := by simpa [Sm.okB] using this
 refine ⟨?_, ?_⟩ <;> (intro e; subst e; revert h; decide)
theorem fit_open {r : Str} {i e : Int} (h : fit r i e = true) : ruled r = true ∧ 0 ≤ i ∧ i < 4611686018427387904 ∧ 0 ≤ e ∧ e ≤ 30 := by
 unfold fit at h
 simp only [Bool.and_eq_true, decide_eq_true_eq] at h
 exact ⟨h.1.1.1.1, h.1.1.1.2, h.1.1.2, h.1.2, h.2⟩
theorem cut_id {i : Int} (h0 : 0 ≤ i) (h1 : i < 4611686018427387904) : ((Sm.cut i : Nat) : Int) = i := by unfold Sm.cut; omega
theorem row_line (lv : Nat) {r : Str} {i e : Int} (h : fit r i e = true) : row (line lv r i e) = some ⟨lv, r, i, e⟩ := by
 obtain ⟨h1, h2, h3, h4, h5⟩ := fit_open h
 obtain ⟨h6, h7, h8⟩ := rule_plain h1
 unfold row line
 have hh : (r ++ 32 :: (Sm.digs (Sm.cut i) ++ 32 :: nameOf e)).head? ≠ some 32 := by
  cases r with
  | nil => exact absurd rfl h6
  | cons c t =>
   intro e'
   injection e' with e'
   exact (h8 c (by simp)).1 e'
 rw [strip_rep lv _ hh]
 simp only
 rw [cutB_at (fun hc => (h8 _ hc).1 rfl)]
 simp only
 rw [if_pos h1, cutB_at (fun hc => (digs_plain _ _ hc).1 rfl)]
 simp only
 rw [Sm.un_digs _ (Sm.cut_lt i), code_name e h4 h5]
 simp only
 rw [cut_id h2 h3]
theorem row_inv {s : Str} {x : Rw} (h : row s = some x) : s = line x.lv x.rule x.id x.err ∧ fit x.rule x.id x.err = true := by
 unfold row at h
 have hs := strip_inv s
 generalize strip s = q at *
 obtain ⟨lv, t⟩ := q
 simp only at h hs
 cases h1 : cutB 32 t with
 | none => rw [h1] at h; cases h
 | some p =>
  obtain ⟨a, r⟩ := p
  rw [h1] at h
  simp only at h
  by_cases ha : ruled a = true
  ·rw [if_pos ha] at h
   cases h2 : cutB 32 r with
   | none => rw [h2] at h; cases h
   | some p =>
    obtain ⟨b, c⟩ := p
    rw [h2] at h
    simp only at h
    cases h3 : Sm.un b with
    | none => rw [h3] at h; cases h
    | some i =>
     cases h4 : code c with
     | none => rw [h3, h4] at h; cases h
     | some e =>
      rw [h3, h4] at h
      injection h with h
      subst h
      obtain ⟨e1, _⟩ := cutB_some h1
      obtain ⟨e2, _⟩ := cutB_some h2
      obtain ⟨e3, e4, e5⟩ := code_some h4
      have hi : i < 4611686018427387904 ∧ Sm.digs i = b := by
       unfold Sm.un at h3
       split at h3
       ·rename_i hc
        injection h3 with h3
        subst h3
        exact ⟨Nat.mod_lt _ (by decide), hc.2⟩
       ·cases h3
      refine ⟨?_, ?_⟩
      ·unfold line
       simp only
       rw [show Sm.cut (i : Int) = i by unfold Sm.cut; omega, hi.2, e5, ← e2, ← e1, ← hs]
      ·unfold fit
       simp only [Bool.and_eq_true, decide_eq_true_eq]
       exact ⟨⟨⟨⟨ha, by omega⟩, by omega⟩, e3⟩, e4⟩
  ·rw [if_neg ha] at h; cases h
theorem line_plain (lv : Nat) {r : Str} (i e : Int) (h : ruled r = true) : 10 ∉ line lv r i e := by
 obtain ⟨_, _, h8⟩ := rule_plain h
 intro hc
 unfold line at hc
 simp only [List.mem_append, List.mem_cons, List.mem_replicate] at hc
 rcases hc with ⟨_, h⟩ | h | h | h | h | h
 ·cases h
 ·exact (h8 _ h).2 rfl
 ·cases h
 ·exact (digs_plain _ _ h).2 rfl
 ·cases h
 ·exact (name_plain _ _ h).2 rfl
end Rn
/- The text Eu. -/
namespace Rn
mutual
def rowsT : Nat → Tr → List Rw
 | lv, .mk r i e ks => ⟨lv, r, i, e⟩ :: rowsL (lv + 1) ks
def rowsL : Nat → List Tr → List Rw
 | _, [] => []
 | lv, c :: r => rowsT lv c ++ rowsL lv r
end
def lineOf (x : Rw) : Str := line x.lv x.rule x.id x.err ++ [10]
def linesOf (l : List Rw) : Str := l.flatMap lineOf
theorem linesOf_app (a b : List Rw) : linesOf (a ++ b) = linesOf a ++ linesOf b := List.flatMap_append
mutual
theorem lines_rows : ∀ (lv : Nat) (x : Tr), lines lv x = linesOf (rowsT lv x)
 | lv, .mk r i e ks => by
  unfold lines rowsT linesOf
  rw [List.flatMap_cons, linesL_rows (lv + 1) ks]
  unfold lineOf
  rw [List.append_assoc]
  rfl
theorem linesL_rows : ∀ (lv : Nat) (ks : List Tr), linesL lv ks = linesOf (rowsL lv ks)
 | lv, [] => rfl
 | lv, c :: r => by unfold linesL rowsL; rw [linesOf_app, lines_rows lv c, linesL_rows lv r]
end
def chain : Option Nat → List Rw → Prop
 | _, [] => True
 | p, x :: r => okLv p x.lv = true ∧ chain (some x.lv) r
def Fit (x : Rw) : Prop := fit x.rule x.id x.err = true
theorem last_snoc (l : List Rw) (x : Rw) : last (l ++ [x]) = some x.lv := by unfold last; rw [List.getLast?_concat]; rfl
theorem cut_line (x : Rw) (h : Fit x) (t : Str) : cutB 10 (lineOf x ++ t) = some (line x.lv x.rule x.id x.err, t) := by
 unfold lineOf
 rw [List.append_assoc]
 exact cutB_at (line_plain _ _ _ (fit_open h).1)
theorem lineOf_ne (x : Rw) (t : Str) : lineOf x ++ t ≠ [] := by unfold lineOf; simp
theorem parse_lines : ∀ (r l : List Rw) (f : Nat), r.length < f → chain (last l) r → (∀ x ∈ r, Fit x) → l ++ r ≠ [] → parseF f l (linesOf r) = .inr (l ++ r)
 | _, _, 0, h, _, _, _ => absurd h (Nat.not_lt_zero _)
 | [], l, f + 1, _, _, _, hne => by
  unfold parseF
  rw [List.append_nil] at hne ⊢
  rw [if_pos ⟨rfl, hne⟩]
 | x :: r, l, f + 1, h, hc, hf, _ => by
  have e : linesOf (x :: r) = lineOf x ++ linesOf r := List.flatMap_cons
  have h1 : Fit x := hf x (by simp)
  rw [e]
  unfold parseF
  rw [if_neg (fun h => lineOf_ne _ _ h.1), cut_line x h1]
  simp only
  rw [row_line x.lv h1]
  simp only
  obtain ⟨hc1, hc2⟩ := hc
  rw [if_pos hc1]
  have := parse_lines r (l ++ [x]) f (by simp at h; omega) (by rw [last_snoc]; exact hc2) (fun y hy => hf y (by simp [hy])) (by simp)
  rw [this, List.append_assoc]
  rfl
theorem parse_inv : ∀ (f : Nat) (l : List Rw) (s : Str) (l' : List Rw), s.length < f → parseF f l s = .inr l' → l' ≠ [] ∧ ∃ r, l' = l ++ r ∧ s = linesOf r ∧ chain (last l) r ∧ ∀ x ∈ r, Fit x
 | 0, _, _, _, h, _ => absurd h (Nat.not_lt_zero _)
 | f + 1, l, s, l', hs, h => by
  unfold parseF at h
  by_cases h0 : s = [] ∧ l ≠ []
  ·rw [if_pos h0] at h
   injection h with h
   subst h
   exact ⟨h0.2, [], by simp, h0.1, trivial, by simp⟩
  ·rw [if_neg h0] at h
   cases h1 : cutB 10 s with
   | none => rw [h1] at h; cases h
   | some p =>
    obtain ⟨a, t⟩ := p
    rw [h1] at h
    simp only at h
    cases h2 : row a with
    | none => rw [h2] at h; cases h
    | some x =>
     rw [h2] at h
     simp only at h
     by_cases h3 : okLv (last l) x.lv = true
     ·rw [if_pos h3] at h
      obtain ⟨e1, _⟩ := cutB_some h1
      obtain ⟨e2, e3⟩ := row_inv h2
      have hl : t.length < f := by rw [e1] at hs; simp at hs; omega
      obtain ⟨hne, r, e4, e5, e6, e7⟩ := parse_inv f (l ++ [x]) t l' hl h
      refine ⟨hne, x :: r, by rw [e4, List.append_assoc]; rfl, ?_, ⟨h3, by rw [last_snoc] at e6; exact e6⟩, fun y hy => ?_⟩
      ·have e : linesOf (x :: r) = lineOf x ++ linesOf r := List.flatMap_cons
       rw [e, e1, ← e5]
       unfold lineOf
       rw [← e2, List.append_assoc]
       rfl
      ·rcases List.mem_cons.1 hy with rfl | hy
       ·exact e3
       ·exact e7 y hy
     ·rw [if_neg h3] at h; cases h
mutual
theorem chainT : ∀ (m lv : Nat) (x : Tr) (p : Option Nat) (rest : List Rw), plain m x = true → lv + m ≤ 40 → okLv p lv = true → (∀ q, lv ≤ q → chain (some q) rest) → chain p (rowsT lv x ++ rest)
 | 0, _, x, _, _, h, _, _, _ => by unfold plain at h; cases h
 | m + 1, lv, .mk r i e ks, p, rest, h, hm, ho, hr => by
  unfold plain at h
  simp only [Bool.and_eq_true] at h
  unfold rowsT
  exact ⟨ho, chainL m (lv + 1) lv ks rest h.2 (by omega) (by omega) (by omega) (fun q hq => hr q (by omega))⟩
theorem chainL : ∀ (m lv q : Nat) (ks : List Tr) (rest : List Rw), plainL m ks = true → lv + m ≤ 40 → 1 ≤ lv → lv ≤ q + 1 → (∀ q, lv ≤ q + 1 → chain (some q) rest) → chain (some q) (rowsL lv ks ++ rest)
 | m, lv, q, [], rest, _, _, _, hq, hr => hr q hq
 | m, lv, q, c :: r, rest, h, hm, h1, hq, hr => by
  unfold plainL at h
  simp only [Bool.and_eq_true] at h
  unfold rowsL
  rw [List.append_assoc]
  have hm1 : 1 ≤ m := by
   rcases m with _ | m
   ·have := h.1; unfold plain at this; cases this
   ·omega
  refine chainT m lv c _ _ h.1 hm ?_ (fun q' hq' => chainL m lv q' r rest h.2 hm h1 (by omega) hr)
  unfold okLv
  simp only [Bool.and_eq_true, decide_eq_true_eq]
  omega
end
mutual
theorem fitsT : ∀ (m lv : Nat) (x : Tr), plain m x = true → ∀ y ∈ rowsT lv x, Fit y
 | 0, _, x, h => by unfold plain at h; cases h
 | m + 1, lv, .mk r i e ks, h => by
  unfold plain at h
  simp only [Bool.and_eq_true] at h
  intro y hy
  unfold rowsT at hy
  rcases List.mem_cons.1 hy with rfl | hy
  ·exact h.1
  ·exact fitsL m (lv + 1) ks h.2 y hy
theorem fitsL : ∀ (m lv : Nat) (ks : List Tr), plainL m ks = true → ∀ y ∈ rowsL lv ks, Fit y
 | m, lv, [], h => by unfold rowsL; simp
 | m, lv, c :: r, h => by
  unfold plainL at h
  simp only [Bool.and_eq_true] at h
  intro y hy
  unfold rowsL at hy
  rcases List.mem_append.1 hy with hy | hy
  ·exact fitsT m lv c h.1 y hy
  ·exact fitsL m lv r h.2 y hy
end
mutual
theorem rowsT_len : ∀ (lv : Nat) (x : Tr), (rowsT lv x).length = nodes x
 | lv, .mk r i e ks => by unfold rowsT nodes; rw [List.length_cons, rowsL_len (lv + 1) ks]
theorem rowsL_len : ∀ (lv : Nat) (ks : List Tr), (rowsL lv ks).length = nodesL ks
 | lv, [] => rfl
 | lv, c :: r => by unfold rowsL nodesL; rw [List.length_append, rowsT_len lv c, rowsL_len lv r]
end
def low (lv : Nat) (l : List Rw) : Prop := ∀ x, l.head? = some x → x.lv ≤ lv
theorem low_rows (lv : Nat) (ks : List Tr) (rest : List Rw) (h : low lv rest) : low lv (rowsL lv ks ++ rest) := by
 cases ks with
 | nil => exact h
 | cons c r =>
  cases c with
  | mk a b d k =>
   intro x hx
   unfold rowsL rowsT at hx
   simp at hx
   subst hx
   exact Nat.le_refl _
theorem low_mono {a b : Nat} {l : List Rw} (h : low a l) (hab : a ≤ b) : low b l := fun x hx => Nat.le_trans (h x hx) hab
theorem kids_rows : ∀ (n lv : Nat) (ks : List Tr) (rest : List Rw), (rowsL (lv + 1) ks ++ rest).length < n → low lv rest → kidsF n lv (rowsL (lv + 1) ks ++ rest) = (ks, rest)
 | 0, _, _, _, h, _ => absurd h (Nat.not_lt_zero _)
 | n + 1, lv, [], [], _, _ => rfl
 | n + 1, lv, [], x :: rest, _, hl => by
  show kidsF (n + 1) lv (x :: rest) = _
  unfold kidsF
  rw [if_neg (by have := hl x rfl; omega)]
 | n + 1, lv, .mk a b d k :: r, rest, h, hl => by
  have e : rowsL (lv + 1) (.mk a b d k :: r) ++ rest = ⟨lv + 1, a, b, d⟩ :: (rowsL (lv + 1 + 1) k ++ (rowsL (lv + 1) r ++ rest)) := by
   rw [rowsL, rowsT]; simp
  rw [e] at h ⊢
  simp only [List.length_cons, List.length_append] at h
  unfold kidsF
  rw [if_pos (Nat.lt_succ_self lv), kids_rows n (lv + 1) k (rowsL (lv + 1) r ++ rest) (by simp; omega) (low_rows _ _ _ (low_mono hl (by omega))), kids_rows n lv r rest (by simp; omega) hl]
theorem grow_rows (x : Tr) : grow (rowsT 0 x) = x := by
 cases x with
 | mk a b d k =>
  unfold rowsT grow
  have := kids_rows ((rowsL (0 + 1) k).length + 1) 0 k [] (by simp) (fun x h => by cases h)
  rw [List.append_nil] at this
  show Tr.mk a b d (kidsF _ 0 (rowsL (0 + 1) k)).1 = _
  rw [this]
theorem kids_inv : ∀ (n lv : Nat) (l : List Rw), l.length < n → low (lv + 1) l → (∃ p, chain p l) →
  l = rowsL (lv + 1) (kidsF n lv l).1 ++ (kidsF n lv l).2 ∧ low lv (kidsF n lv l).2 ∧ (∃ p, chain p (kidsF n lv l).2) ∧ (kidsF n lv l).2.length ≤ l.length
 | 0, _, _, h, _, _ => absurd h (Nat.not_lt_zero _)
 | n + 1, lv, [], _, _, h3 => by
  refine ⟨rfl, ?_, ⟨none, trivial⟩, Nat.le_refl _⟩
  intro x h
  cases h
 | n + 1, lv, x :: l, h, h2, ⟨p, h3⟩ => by
  by_cases hx : lv < x.lv
  ·obtain ⟨h4, h5⟩ := h3
   have e : x.lv = lv + 1 := by have := h2 x rfl; omega
   have h6 : low (x.lv + 1) l := by
    intro y hy
    cases l with
    | nil => cases hy
    | cons z t =>
     injection hy with hy
     subst hy
     have := h5.1
     unfold okLv at this
     simp only [Bool.and_eq_true, decide_eq_true_eq] at this
     omega
   simp only [List.length_cons] at h
   obtain ⟨i1, i2, i3, i4⟩ := kids_inv n x.lv l (by omega) h6 ⟨_, h5⟩
   obtain ⟨j1, j2, j3, j4⟩ := kids_inv n lv (kidsF n x.lv l).2 (by omega) (by rw [← e]; exact i2) i3
   rw [kidsF, if_pos hx]
   refine ⟨?_, j2, j3, by simp only [List.length_cons]; omega⟩
   simp only
   rw [rowsL, rowsT, List.append_assoc, ← j1, List.cons_append, ← e, ← i1]
  ·rw [kidsF, if_neg hx]
   exact ⟨rfl, fun y hy => by injection hy with hy; subst hy; omega, ⟨p, h3⟩, Nat.le_refl _⟩
theorem rows_grow {l : List Rw} (h : chain none l) (hne : l ≠ []) : rowsT 0 (grow l) = l := by
 cases l with
 | nil => exact absurd rfl hne
 | cons x l =>
  obtain ⟨h1, h2⟩ := h
  have e : x.lv = 0 := of_decide_eq_true h1
  have h6 : low (x.lv + 1) l := by
   intro y hy
   cases l with
   | nil => cases hy
   | cons z t =>
    injection hy with hy
    subst hy
    have := h2.1
    unfold okLv at this
    simp only [Bool.and_eq_true, decide_eq_true_eq] at this
    omega
  obtain ⟨i1, i2, ⟨p, i3⟩, i4⟩ := kids_inv (l.length + 1) x.lv l (Nat.lt_succ_self _) h6 ⟨_, h2⟩
  have hr : (kidsF (l.length + 1) x.lv l).2 = [] := by
   -- every row behind the first has a level from 1 on
   have hall : ∀ (l : List Rw) (q : Nat), chain (some q) l → ∀ y ∈ l, 1 ≤ y.lv := by
    intro l
    induction l with
    | nil => intro q _ y hy; cases hy
    | cons z t ih =>
     intro q hc y hy
     rcases List.mem_cons.1 hy with rfl | hy
     ·have := hc.1
      unfold okLv at this
      simp only [Bool.and_eq_true, decide_eq_true_eq] at this
      omega
     ·exact ih _ hc.2 y hy
   have hl1 := hall l _ h2
   cases hk : (kidsF (l.length + 1) x.lv l).2 with
   | nil => rfl
   | cons z t =>
    have h7 := i2 z (by rw [hk]; rfl)
    have h8 := hl1 z (by rw [i1, hk]; simp)
    omega
  rw [hr, List.append_nil] at i1
  unfold grow
  rw [rowsT, ← e, ← i1]
mutual
theorem plain_rows : ∀ (lv : Nat) (x : Tr), (∀ y ∈ rowsT lv x, Fit y ∧ y.lv ≤ 39) → plain (40 - lv) x = true
 | lv, .mk r i e ks, h => by
  unfold rowsT at h
  have h1 := h _ (List.mem_cons_self ..)
  have e2 : 40 - lv = (39 - lv) + 1 := by have := h1.2; simp only at this; omega
  rw [e2]
  unfold plain
  rw [Bool.and_eq_true]
  refine ⟨h1.1, ?_⟩
  have := plainL_rows (lv + 1) ks (fun y hy => h y (by simp [hy]))
  rwa [show 40 - (lv + 1) = 39 - lv by omega] at this
theorem plainL_rows : ∀ (lv : Nat) (ks : List Tr), (∀ y ∈ rowsL lv ks, Fit y ∧ y.lv ≤ 39) → plainL (40 - lv) ks = true
 | lv, [], _ => rfl
 | lv, c :: r, h => by
  unfold rowsL at h
  unfold plainL
  rw [Bool.and_eq_true]
  exact ⟨plain_rows lv c (fun y hy => h y (by simp [hy])), plainL_rows lv r (fun y hy => h y (by simp [hy]))⟩
end
theorem line_len (lv : Nat) {r : Str} (i e : Int) (h : ruled r = true) : (line lv r i e).length ≤ 2 * lv + 57 := by
 obtain ⟨_, h7, _⟩ := rule_plain h
 have := name_len e
 unfold line
 simp only [List.length_append, List.length_cons, List.length_replicate, Sm.digs_len]
 omega
theorem low_len {l : List Rw} (h : ∀ x ∈ l, Fit x ∧ x.lv ≤ 39) : (linesOf l).length ≤ 136 * l.length := by
 induction l with
 | nil => simp [linesOf]
 | cons x r ih =>
  have e : linesOf (x :: r) = lineOf x ++ linesOf r := List.flatMap_cons
  have h1 := ih (fun y hy => h y (by simp [hy]))
  have h2 := line_len x.lv x.id x.err (fit_open (h x (by simp)).1).1
  have h3 := (h x (by simp)).2
  rw [e, List.length_append, List.length_cons]
  unfold lineOf
  rw [List.length_append, List.length_singleton]
  omega
theorem chain_low : ∀ (l : List Rw) (p : Option Nat), chain p l → (∀ q, p = some q → q ≤ 39) → ∀ y ∈ l, y.lv ≤ 39
 | [], _, _, _, y, hy => by cases hy
 | x :: l, p, ⟨h1, h2⟩, _, y, hy => by
  have hx : x.lv ≤ 39 := by
   cases p with
   | none => have := of_decide_eq_true h1; omega
   | some q =>
    unfold okLv at h1
    simp only [Bool.and_eq_true, decide_eq_true_eq] at h1
    exact h1.2
  rcases List.mem_cons.1 hy with rfl | hy
  ·exact hx
  ·exact chain_low l (some x.lv) h2 (fun q hq => by injection hq with hq; omega) y hy
theorem plain_chain {x : Tr} (h : plain 40 x = true) : chain none (rowsT 0 x) := by
 have := chainT 40 0 x none [] h (by omega) rfl (fun _ _ => trivial)
 rwa [List.append_nil] at this
theorem rows_ne (x : Tr) : rowsT 0 x ≠ [] := by cases x; unfold rowsT; simp
theorem parse_text {x : Tr} (h : plain 40 x = true) (hn : nodes x ≤ 60) : parse (lines 0 x) = .ok x := by
 have hc := plain_chain h
 have hf := fitsT 40 0 x h
 have hlow := chain_low _ _ hc (fun q hq => by cases hq)
 have hlen := low_len (fun y hy => ⟨hf y hy, hlow y hy⟩)
 rw [rowsT_len] at hlen
 have hl2 : ∀ l : List Rw, l.length ≤ (linesOf l).length := by
  intro l
  induction l with
  | nil => simp
  | cons y r ih =>
   have e : linesOf (y :: r) = lineOf y ++ linesOf r := List.flatMap_cons
   rw [e, List.length_append, List.length_cons]
   unfold lineOf
   rw [List.length_append, List.length_singleton]
   omega
 unfold parse
 rw [lines_rows, if_neg (by omega), parse_lines (rowsT 0 x) [] _ (by have := hl2 (rowsT 0 x); omega) hc hf (rows_ne x)]
 simp only [List.nil_append]
 rw [grow_rows]
theorem text_parse {s : Str} {x : Tr} (h : parse s = .ok x) : plain 40 x = true ∧ lines 0 x = s := by
 unfold parse at h
 by_cases hl : 100000 < s.length
 ·rw [if_pos hl] at h; cases h
 ·rw [if_neg hl] at h
  cases hp : parseF (s.length + 1) [] s with
  | inl n => rw [hp] at h; cases h
  | inr l =>
   rw [hp] at h
   injection h with h
   subst h
   obtain ⟨hne, r, e1, e2, e3, e4⟩ := parse_inv _ _ _ _ (Nat.lt_succ_self _) hp
   rw [List.nil_append] at e1
   subst e1
   have hg := rows_grow e3 hne
   refine ⟨?_, by rw [lines_rows, hg, ← e2]⟩
   refine plain_rows 0 _ (fun y hy => ?_)
   rw [hg] at hy
   exact ⟨e4 y hy, chain_low _ _ e3 (fun q hq => by cases hq) y hy⟩
theorem feeds_app (a b : Str) : feeds (a ++ b) = feeds a + feeds b := by unfold feeds; rw [List.filter_append, List.length_append]
theorem feeds_line (x : Rw) (h : Fit x) : feeds (lineOf x) = 1 := by
 unfold lineOf
 rw [feeds_app]
 have : feeds (line x.lv x.rule x.id x.err) = 0 := by
  unfold feeds
  rw [List.filter_eq_nil_iff.2]
  ·rfl
  ·intro c hc he
   rw [beq_iff_eq] at he
   subst he
   exact line_plain _ _ _ (fit_open h).1 hc
 rw [this]
 rfl
theorem feeds_lines {x : Tr} (h : plain 40 x = true) : feeds (lines 0 x) = nodes x := by
 rw [lines_rows, ← rowsT_len 0 x]
 have hf := fitsT 40 0 x h
 generalize rowsT 0 x = l at *
 induction l with
 | nil => rfl
 | cons y r ih =>
  have e : linesOf (y :: r) = lineOf y ++ linesOf r := List.flatMap_cons
  rw [e, feeds_app, feeds_line y (hf y (by simp)), ih (fun z hz => hf z (by simp [hz])), List.length_cons]
  omega
theorem lines_ne (x : Tr) : lines 0 x ≠ [] := by
 cases x
 unfold lines
 simp
theorem parse_nil : parse [] = .bad 1 10 := rfl
end Rn
/- The text Ey. -/
namespace Rn
theorem kids_len : ∀ (n lv : Nat) (l : List Rw), (kidsF n lv l).2.length ≤ l.length
 | 0, _, _ => Nat.le_refl _
 | _ + 1, _, [] => Nat.le_refl _
 | n + 1, lv, x :: l => by
  unfold kidsF
  by_cases h : lv < x.lv
  ·rw [if_pos h]
   have h1 := kids_len n x.lv l
   have h2 := kids_len n lv (kidsF n x.lv l).2
   simp only [List.length_cons]
   omega
  ·rw [if_neg h]; exact Nat.le_refl _
theorem kids_more : ∀ (n m lv : Nat) (l : List Rw), l.length < n → l.length < m → kidsF n lv l = kidsF m lv l
 | 0, _, _, _, h, _ => absurd h (Nat.not_lt_zero _)
 | _, 0, _, _, _, h => absurd h (Nat.not_lt_zero _)
 | _ + 1, _ + 1, _, [], _, _ => rfl
 | n + 1, m + 1, lv, x :: l, h1, h2 => by
  simp only [List.length_cons] at h1 h2
  unfold kidsF
  by_cases h : lv < x.lv
  ·rw [if_pos h, if_pos h]
   have e1 := kids_more n m x.lv l (by omega) (by omega)
   have hl := kids_len m x.lv l
   have e2 := kids_more n m lv (kidsF m x.lv l).2 (by omega) (by omega)
   rw [e1, e2]
  ·rw [if_neg h, if_neg h]
def kidsA (lv : Nat) (l : List Rw) : List Tr × List Rw := kidsF (l.length + 1) lv l
theorem kidsA_nil (lv : Nat) : kidsA lv [] = ([], []) := rfl
theorem kidsA_stop {lv : Nat} {x : Rw} {l : List Rw} (h : ¬ lv < x.lv) : kidsA lv (x :: l) = ([], x :: l) := by
 unfold kidsA kidsF
 rw [if_neg h]
theorem kidsA_step {lv : Nat} {x : Rw} {l : List Rw} (h : lv < x.lv) : kidsA lv (x :: l) = (.mk x.rule x.id x.err (kidsA x.lv l).1 :: (kidsA lv (kidsA x.lv l).2).1, (kidsA lv (kidsA x.lv l).2).2) := by
 have e1 : kidsF (x :: l).length x.lv l = kidsA x.lv l := kids_more _ _ _ _ (by simp) (by omega)
 have hl : (kidsA x.lv l).2.length ≤ l.length := kids_len _ _ _
 have e2 : kidsF (x :: l).length lv (kidsA x.lv l).2 = kidsA lv (kidsA x.lv l).2 := kids_more _ _ _ _ (by simp; omega) (by omega)
 show kidsF ((x :: l).length + 1) lv (x :: l) = _
 rw [kidsF, if_pos h, e1, e2]
theorem kidsA_len (lv : Nat) (l : List Rw) : (kidsA lv l).2.length ≤ l.length := kids_len _ _ _
theorem grow_is (x : Rw) (l : List Rw) : grow (x :: l) = .mk x.rule x.id x.err (kidsA x.lv l).1 := rfl
theorem parseF_more : ∀ (n m : Nat) (l : List Rw) (s : Str), s.length < n → s.length < m → parseF n l s = parseF m l s
 | 0, _, _, _, h, _ => absurd h (Nat.not_lt_zero _)
 | _, 0, _, _, _, h => absurd h (Nat.not_lt_zero _)
 | n + 1, m + 1, l, s, h1, h2 => by
  unfold parseF
  by_cases h0 : s = [] ∧ l ≠ []
  ·rw [if_pos h0, if_pos h0]
  ·rw [if_neg h0, if_neg h0]
   cases hc : cutB 10 s with
   | none => rfl
   | some p =>
    obtain ⟨a, r⟩ := p
    simp only
    cases hr : row a with
    | none => rfl
    | some x =>
     simp only
     have hl := congrArg List.length (cutB_some hc).1
     rw [List.length_append, List.length_cons] at hl
     rw [parseF_more n m (l ++ [x]) r (by omega) (by omega)]
def parseA (l : List Rw) (s : Str) : Nat ⊕ List Rw := parseF (s.length + 1) l s
theorem parseA_done {l : List Rw} (h : l ≠ []) : parseA l [] = .inr l := by
 unfold parseA parseF
 rw [if_pos ⟨rfl, h⟩]
theorem parseA_open {l : List Rw} {s : Str} (h : ¬ (s = [] ∧ l ≠ [])) : parseA l s = match cutB 10 s with
  | none => .inl (l.length + 1)
  | some (a, r) => match row a with
   | none => .inl (l.length + 1)
   | some x => if okLv (last l) x.lv then parseA (l ++ [x]) r else .inl (l.length + 1) := by
 unfold parseA
 rw [parseF, if_neg h]
 cases hc : cutB 10 s with
 | none => rfl
 | some p =>
  obtain ⟨a, r⟩ := p
  simp only
  cases hr : row a with
  | none => rfl
  | some x =>
   simp only
   have hl := congrArg List.length (cutB_some hc).1
   rw [List.length_append, List.length_cons] at hl
   rw [parseF_more s.length (r.length + 1) (l ++ [x]) r (by omega) (by omega)]
end Rn
