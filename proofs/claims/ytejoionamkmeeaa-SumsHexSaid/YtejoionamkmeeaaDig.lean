/- The plain law of the hexadecimal digits. -/
import Derived.Test.YtejoionamkmeeaaPlain
import Derived.Laws.Tables
namespace Go.Proofs.Ytejoionamkmeeaa
namespace Sm
def hx (v : Nat) : UInt8 := if v < 10 then UInt8.ofNat (48 + v) else UInt8.ofNat (87 + v)
def dig (v i : Nat) : UInt8 := hx (v / 16 ^ (15 - i) % 16)
def dcell (v k i : Nat) : Value := if 15 - i < k then .int .u8 ((dig v i).toNat : Int) else .int .u8 0
def dcells (v k : Nat) : Array Value := ((List.range 16).map (dcell v k)).toArray
def digs (v : Nat) : List UInt8 := (List.range 16).map (dig v)

theorem dcells_zero (v : Nat) : dcells v 0 = #[.int .u8 0, .int .u8 0, .int .u8 0, .int .u8 0, .int .u8 0, .int .u8 0, .int .u8 0, .int .u8 0, .int .u8 0, .int .u8 0, .int .u8 0, .int .u8 0, .int .u8 0, .int .u8 0, .int .u8 0, .int .u8 0] := by
  simp [dcells, dcell, List.range, List.range.loop]
theorem dcells_full (v : Nat) : dcells v 16 = ((digs v).map fun c => Value.int .u8 (c.toNat : Int)).toArray := by
  simp [dcells, dcell, digs, List.range, List.range.loop]
theorem dcells_size (v k : Nat) : (dcells v k).size = 16 := by simp [dcells]
theorem dcells_get (v k i : Nat) (h : i < (dcells v k).size) : (dcells v k)[i] = dcell v k i := by simp [dcells]
theorem dcells_succ (v k : Nat) (hk : k < 16) : (dcells v k).setIfInBounds (15 - k) (.int .u8 ((hx (v / 16 ^ k % 16)).toNat : Int)) = dcells v (k + 1) := by
  apply Array.ext
  · rw [Array.size_setIfInBounds, dcells_size, dcells_size]
  · intro i h1 h2
    have hi : i < 16 := by rw [dcells_size] at h2; exact h2
    rw [Array.getElem_setIfInBounds (by rw [dcells_size]; exact hi), dcells_get v k i, dcells_get]
    unfold dcell
    by_cases e : 15 - k = i
    · subst e
      have e2 : 15 - (15 - k) = k := by omega
      simp [dig, e2]
    · rw [if_neg e]
      by_cases c : 15 - i < k
      · rw [if_pos c, if_pos (by omega)]
      · rw [if_neg c, if_neg (by omega)]
theorem pow_step (v k : Nat) : v / 16 ^ k / 16 = v / 16 ^ (k + 1) := by rw [Nat.div_div_eq_div_mul, Nat.pow_succ]
theorem rem16 (q : Nat) : ((q : Nat) : Int).tmod 16 = ((q % 16 : Nat) : Int) := by rw [Int.tmod_eq_emod_of_nonneg (by omega)]; omega
theorem quo16 (q : Nat) (hq : q < 4611686018427387904) : IntKind.u64.wrap ((q : Int).tdiv 16) = ((q / 16 : Nat) : Int) := by
  rw [Int.tdiv_eq_ediv_of_nonneg (by omega), IntKind.wrap_u64]; omega
theorem div_lt (v k : Nat) (h : v < 4611686018427387904) : v / 16 ^ k < 4611686018427387904 := Nat.lt_of_le_of_lt (Nat.div_le_self _ _) h
theorem hx_at : ∀ m : Fin 16, (#[48, 49, 50, 51, 52, 53, 54, 55, 56, 57, 97, 98, 99, 100, 101, 102] : Array UInt8)[m.val] = hx m.val := by decide
theorem hx_get (m : Nat) (hm : m < 16) (h : m < (ByteArray.mk #[48, 49, 50, 51, 52, 53, 54, 55, 56, 57, 97, 98, 99, 100, 101, 102]).size) : (ByteArray.mk #[48, 49, 50, 51, 52, 53, 54, 55, 56, 57, 97, 98, 99, 100, 101, 102])[m] = hx m := hx_at ⟨m, hm⟩
theorem dcells_one (v k : Nat) : (dcells v k).all (·.oneCell') = true := by
  rw [Array.all_eq_true]
  intro i h
  rw [dcells_get]
  unfold dcell
  split <;> rfl
theorem hx_low (m : Nat) (h : m < 10) : ((hx m).toNat : Int) = 48 + (m : Int) := by
  unfold hx; rw [if_pos h, UInt8.toNat_ofNat']; omega
theorem hx_high (m : Nat) (h : ¬ m < 10) (h2 : m < 16) : ((hx m).toNat : Int) = 97 + (m : Int) - 10 := by
  unfold hx; rw [if_neg h, UInt8.toNat_ofNat']; omega
theorem digs_drop (v k : Nat) (hk : k < 16) : (digs v).drop (16 - (k + 1)) = hx (v / 16 ^ k % 16) :: (digs v).drop (16 - k) := by
  have hl : (digs v).length = 16 := by simp [digs]
  rw [List.drop_eq_getElem_cons (by omega)]
  have e : 16 - (k + 1) + 1 = 16 - k := by omega
  have e2 : 15 - (16 - (k + 1)) = k := by omega
  rw [e]
  congr 1
  simp only [digs, List.getElem_map, List.getElem_range, dig, e2]
theorem digs_len (v : Nat) : (digs v).length = 16 := by simp [digs]
end Sm
end Go.Proofs.Ytejoionamkmeeaa
