/- The walks of Fold. -/
import Derived.Test.YtejoionamkmeeaaRows
import Derived.Test.YtejoionamkmeeaaPlain
import Derived.WalkKit
import Derived.ProofKit
import Derived.Below
import Derived.Lib.Hide
import Derived.Outline
import Derived.Laws.BitsAllLaws
namespace Go.Proofs.Ytejoionamkmeeaa
open Go.RowKit

def Bs (w : World) (A : Option Addr) (n : Nat) (bs : List UInt8) : Prop :=
  bs.length = n ∧ ∀ j, j < n → ∃ b off c, A = some ⟨b, off, none⟩ ∧ bs[j]? = some c ∧ w.cell? ⟨b, off + j, none⟩ = some (.int .u8 (c.toNat : Int))

theorem ret_int {k : IntKind} {a b : Int} (h : a = b) : Ending.returned (.int k a) = .returned (.int k b) := by rw [h]
theorem take_snoc {l : List UInt8} {k : Nat} {c : UInt8} (h : l[k]? = some c) : l.take (k + 1) = l.take k ++ [c] := by
  obtain ⟨h1, h2⟩ := List.getElem?_eq_some_iff.1 h
  rw [List.take_succ_eq_append_getElem h1, h2]
theorem u64_byte (c : UInt8) : IntKind.u64.wrap (c.toNat : Int) = (c.toNat : Int) := by rw [IntKind.wrap_u64]; have := c.toNat_lt; omega

theorem fold_any (h : Int) (A : Option Addr) (len cap : Nat) (bs : List UInt8) (w : World) (hr : Bs w A len bs) (hlen : len ≤ 1000) :
    Calls Try.prog 10 #[.int .i64 h, .slice A len cap] w fun e w' => e = .returned (.int .i64 (Sm.fold (Sm.cut h) bs)) ∧ w = w' := by
  obtain ⟨hl, hc⟩ := hr
  have HL : Hid (bs.length = len) := Lib.hid hl
  have hst := Sm.start_and h
  have hlt0 := Sm.cut_lt h
  clear hl
  go_enter Try.func10, Try.ntmps10
  go_wp2
  clear hst
  go_loop [5, 13] (fun u i => ∃ k : Nat, k ≤ len ∧ i = .int .i64 k ∧ u = .int .u64 (Sm.fold (Sm.cut h) (bs.take k))) (fun _ i => len - (intOf i).toNat)
  case atStart => exact ⟨0, Nat.zero_le _, rfl, rfl⟩
  case round =>
    obtain ⟨k, hk, rfl, rfl⟩ := hrel
    by_cases hlt : k < len
    · obtain ⟨b, off, c, rfl, hbc, hcell⟩ := hc k hlt
      have hv := Sm.fold_lt (bs.take k) _ hlt0
      have hx := Sm.xor_mix _ c hv
      have hw := u64_byte c
      have hs := Sm.step_and (Sm.fold (Sm.cut h) (bs.take k)) c
      have HS : Hid (Sm.fold (Sm.cut h) (bs.take (k + 1)) = Sm.fstep (Sm.fold (Sm.cut h) (bs.take k)) c) :=
        Lib.hid (by rw [take_snoc hbc, Sm.fold_snoc])
      clear hc hlt0 hbc
      go_wp2
      go_round
      case rel => exact ⟨k + 1, by omega, by go_num, by rw [HS.out]⟩
      case measure => simp [intOf]; omega
    · have hb := Sm.fold_lt bs _ hlt0
      have HB := Lib.hid (Sm.back _ hb)
      have : k = len := by omega
      subst this
      clear hlt0 hb
      go_wp2
      go_ret
      exact ⟨ret_int (by rw [List.take_of_length_le (by rw [HL.out]; omega)]; exact HB.out), rfl⟩

theorem rfold_any (h : Int) (A : Option Addr) (len cap : Nat) (bs : List UInt8) (w : World) (hr : Bs w A len bs) (hlen : len ≤ 1000) :
    Calls Try.prog 11 #[.int .i64 h, .slice A len cap] w fun e w' => e = .returned (.int .i64 (Sm.fold (Sm.cut h) bs)) ∧ w = w' := by
  obtain ⟨hl, hc⟩ := hr
  have HL : Hid (bs.length = len) := Lib.hid hl
  have hst := Sm.start_rem h
  have hlt0 := Sm.cut_lt h
  clear hl
  go_enter Try.func11, Try.ntmps11
  go_wp2
  clear hst
  go_loop [5, 6] (fun u i => ∃ k : Nat, k ≤ len ∧ i = .int .i64 k ∧ u = .int .u64 (Sm.fold (Sm.cut h) (bs.take k))) (fun _ i => len - (intOf i).toNat)
  case atStart => exact ⟨0, Nat.zero_le _, rfl, rfl⟩
  case round =>
    obtain ⟨k, hk, rfl, rfl⟩ := hrel
    by_cases hlt : k < len
    · obtain ⟨b, off, c, rfl, hbc, hcell⟩ := hc k hlt
      have hv := Sm.fold_lt (bs.take k) _ hlt0
      have hx := Sm.xor_mix _ c hv
      have hw := u64_byte c
      have hs := Sm.step_rem (Sm.fold (Sm.cut h) (bs.take k)) c
      have HS : Hid (Sm.fold (Sm.cut h) (bs.take (k + 1)) = Sm.fstep (Sm.fold (Sm.cut h) (bs.take k)) c) :=
        Lib.hid (by rw [take_snoc hbc, Sm.fold_snoc])
      clear hc hlt0 hbc
      go_wp2
      go_round
      case rel => exact ⟨k + 1, by omega, by go_num, by rw [HS.out]⟩
      case measure => simp [intOf]; omega
    · have hb := Sm.fold_lt bs _ hlt0
      have HB := Lib.hid (Sm.back _ hb)
      have : k = len := by omega
      subst this
      clear hlt0 hb
      go_wp2
      go_ret
      exact ⟨ret_int (by rw [List.take_of_length_le (by rw [HL.out]; omega)]; exact HB.out), rfl⟩
end Go.Proofs.Ytejoionamkmeeaa
