/- The plain law: including one byte, or the same bytes, keeps sums apart. -/
import Derived.Test.YtejoionamkmeeaaUn
namespace Go.Proofs.Ytejoionamkmeeaa
namespace Sm
def Mod : Nat := 4611686018427387904
theorem back_mul (m : Nat) (h : m < 4611686018427387904) : (m * 1099511628211 % 4611686018427387904) * 1051115900582139259 % 4611686018427387904 = m := by
  rw [Nat.mod_mul_mod, Nat.mul_assoc]
  have e : 1099511628211 * 1051115900582139259 = 250605559587 * 4611686018427387904 + 1 := by decide
  rw [e]
  omega
theorem fstep_mixed {u v : Nat} {a b : UInt8} (hu : u < 4611686018427387904) (hv : v < 4611686018427387904) (h : fstep u a = fstep v b) : mixed u a = mixed v b := by
  have e1 := back_mul (mixed u a) (mixed_lt u a hu)
  have e2 := back_mul (mixed v b) (mixed_lt v b hv)
  have h' : mixed u a * 1099511628211 % 4611686018427387904 = mixed v b * 1099511628211 % 4611686018427387904 := h
  rw [h'] at e1
  rw [← e1, e2]
theorem fstep_byte {u : Nat} {a b : UInt8} (hu : u < 4611686018427387904) (h : fstep u a = fstep u b) : a = b := by
  have h1 := fstep_mixed hu hu h
  unfold mixed at h1
  apply UInt8.toNat_inj.1
  have h2 := congrArg (fun x => u ^^^ x) h1
  simpa [← Nat.xor_assoc] using h2
theorem fstep_sum {u v : Nat} {a : UInt8} (hu : u < 4611686018427387904) (hv : v < 4611686018427387904) (h : fstep u a = fstep v a) : u = v := by
  have h1 := fstep_mixed hu hv h
  unfold mixed at h1
  have h2 := congrArg (fun x => x ^^^ a.toNat) h1
  simpa [Nat.xor_assoc] using h2
theorem fold_sum (bs : List UInt8) : ∀ u v : Nat, u < 4611686018427387904 → v < 4611686018427387904 → fold u bs = fold v bs → u = v := by
  induction bs with
  | nil => intro u v _ _ h; exact h
  | cons c bs ih =>
    intro u v hu hv h
    exact fstep_sum hu hv (ih _ _ (fstep_lt u c) (fstep_lt v c) h)
theorem bytes_iff (u : Nat) (a b : UInt8) (hu : u < 4611686018427387904) : (fstep u a = fstep u b) ↔ a = b := ⟨fstep_byte hu, fun h => by rw [h]⟩
end Sm
end Go.Proofs.Ytejoionamkmeeaa
