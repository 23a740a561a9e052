/- The plain law of the sums: the numbers that Fold computes, over lists of bytes. -/
import Derived.Laws.BitsAllLaws
import Derived.Laws.BitsLemmas
import Derived.RowKit
namespace Go.Proofs.Ytejoionamkmeeaa
open Go.RowKit
namespace Sm

def M62 : Nat := 4611686018427387904
def mixed (v : Nat) (c : UInt8) : Nat := v ^^^ c.toNat
def fstep (v : Nat) (c : UInt8) : Nat := (mixed v c * 1099511628211) % M62
def fold (v : Nat) (bs : List UInt8) : Nat := bs.foldl fstep v
def cut (h : Int) : Nat := (h % 4611686018427387904).toNat

theorem cut_lt (h : Int) : cut h < 4611686018427387904 := by unfold cut; omega
theorem fstep_lt (v : Nat) (c : UInt8) : fstep v c < 4611686018427387904 := by unfold fstep M62; omega
theorem mixed_lt (v : Nat) (c : UInt8) (hv : v < 4611686018427387904) : mixed v c < 4611686018427387904 := by
  have : v ^^^ c.toNat < 2 ^ 62 := Nat.xor_lt_two_pow (by omega) (by have := c.toNat_lt; omega)
  unfold mixed; omega
theorem fold_lt (bs : List UInt8) : ∀ v, v < 4611686018427387904 → fold v bs < 4611686018427387904 := by
  induction bs with
  | nil => intro v h; exact h
  | cons c bs ih => intro v _; exact ih _ (fstep_lt v c)
theorem gen_append {α β : Type} (f : α → β → α) (v : α) (a b : List β) : (a ++ b).foldl f v = b.foldl f (a.foldl f v) := List.foldl_append
theorem gen_snoc {α β : Type} (f : α → β → α) (v : α) (a : List β) (c : β) : (a ++ [c]).foldl f v = f (a.foldl f v) c := by simp
theorem fold_append (v : Nat) (a b : List UInt8) : fold v (a ++ b) = fold (fold v a) b := gen_append fstep v a b
theorem fold_snoc (v : Nat) (a : List UInt8) (c : UInt8) : fold v (a ++ [c]) = fstep (fold v a) c := gen_snoc fstep v a c
theorem fold_one (v : Nat) (c : UInt8) : fold v [c] = fstep v c := gen_snoc fstep v [] c

theorem and_62 (n : Nat) : n &&& 4611686018427387903 = n % 4611686018427387904 := by
  have h := Nat.and_two_pow_sub_one_eq_mod n 62
  have e : 2 ^ 62 - 1 = 4611686018427387903 := by decide
  rw [e] at h
  omega
theorem and_gen (n m : Nat) (hm : m = 4611686018427387903) (hn : n < 18446744073709551616) : bits .and .u64 (n : Int) (m : Int) = ((n &&& m : Nat) : Int) := u64_and_nat n m hn (by omega)
theorem and_mask (n : Nat) (hn : n < 18446744073709551616) : bits .and .u64 (n : Int) 4611686018427387903 = ((n % M62 : Nat) : Int) := by
  obtain ⟨m, hm⟩ : ∃ m : Nat, m = 4611686018427387903 := ⟨_, rfl⟩
  have e0 : (4611686018427387903 : Int) = (m : Int) := by omega
  rw [e0, and_gen n m hm hn, hm, and_62]
  rfl

theorem start_and (h : Int) : bits .and .u64 (IntKind.u64.wrap h) 4611686018427387903 = (cut h : Int) := by
  rw [IntKind.wrap_u64]
  obtain ⟨n, hn⟩ := Int.eq_ofNat_of_zero_le (show 0 ≤ h % 18446744073709551616 by omega)
  rw [hn, and_mask n (by omega)]
  unfold cut M62
  omega
theorem start_rem (h : Int) : (IntKind.u64.wrap h).tmod 4611686018427387904 = (cut h : Int) := by
  rw [IntKind.wrap_u64, Int.tmod_eq_emod_of_nonneg (by omega)]
  unfold cut
  omega
theorem xor_mix (v : Nat) (c : UInt8) (hv : v < 4611686018427387904) : bits .xor .u64 (v : Int) (c.toNat : Int) = (mixed v c : Int) :=
  u64_xor_nat v c.toNat (by omega) (by have := c.toNat_lt; omega)
theorem mul_wrap (m : Nat) : IntKind.u64.wrap ((m : Int) * 1099511628211) = ((m * 1099511628211 % 18446744073709551616 : Nat) : Int) := by
  rw [IntKind.wrap_u64]; omega
theorem step_and (v : Nat) (c : UInt8) : bits .and .u64 (IntKind.u64.wrap ((mixed v c : Int) * 1099511628211)) 4611686018427387903 = (fstep v c : Int) := by
  rw [mul_wrap, and_mask _ (by omega)]
  unfold fstep M62
  omega
theorem step_rem (v : Nat) (c : UInt8) : (IntKind.u64.wrap ((mixed v c : Int) * 1099511628211)).tmod 4611686018427387904 = (fstep v c : Int) := by
  rw [mul_wrap, Int.tmod_eq_emod_of_nonneg (by omega)]
  unfold fstep M62
  omega
theorem back (n : Nat) (hn : n < 4611686018427387904) : wrap64 (n : Int) = (n : Int) := by
  unfold wrap64; omega
end Sm
end Go.Proofs.Ytejoionamkmeeaa
