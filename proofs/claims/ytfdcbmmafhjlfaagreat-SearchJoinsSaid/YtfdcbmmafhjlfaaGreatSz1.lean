/- The walks of ids.Find, of ids.Names (a map of what was seen), and of turned. -/
import Derived.Maps.OwnSet
import Derived.Maps.OwnOps
import Derived.StringKeys
import Derived.Test.YtfdcbmmafhjlfaaGreatSx4
namespace Go.Proofs.YtfdcbmmafhjlfaaGreat
open Go.RowKit Go.Lib
set_option linter.unusedVariables false

set_option maxRecDepth 100000 in
theorem ifind_any (A : Option Addr) (n ca : Nat) (a : List (List UInt8)) (x : List UInt8) (w : World) (ha : Rd w A n (strL a)) (hn : n ≤ 100000) :
    Calls Tryz.prog 18 #[.slice A n ca, .string (bstr x)] w fun e w' => e = .returned (.int .i64 (findI a x)) ∧ w = w' := by
  have HLA := Lib.hid ha.strs
  have HA := Lib.hid ha
  clear ha
  obtain ⟨sx, hsx⟩ : ∃ sx, bstr x = sx := ⟨_, rfl⟩
  have HSX := Lib.hid hsx
  rw [hsx]
  clear hsx
  go_enter Tryz.func18, Tryz.ntmps18
  go_wp2_with fail
  go_loop [9] (fun i => ∃ k : Nat, k ≤ n ∧ i = .int .i64 k ∧ Hid (x ∉ a.take k)) (fun i => n - (intOf i).toNat)
  case atStart => exact ⟨0, by omega, rfl, Lib.hid (by simp)⟩
  case round =>
    obtain ⟨k, hk, rfl, hno⟩ := hrel
    by_cases hlt : k < n
    · obtain ⟨ba, oa, y, rfl, hy, hcy⟩ := HA.out.str hlt
      have hsb := str_beq y x
      rw [HSX.out] at hsb
      by_cases hyx : y = x
      · have h1 : ((bstr y).toList == sx.toList) = true := by rw [hsb, hyx]; simp
        have HF : Hid (findI a x = k) := Lib.hid (findI_some (by rw [hy, hyx]) hno.out)
        clear hy hyx hsb
        generalize bstr y = sy at *
        go_wp2_with fail
        go_ret
        exact ⟨ret_int HF.out.symm, rfl⟩
      · have h1 : ((bstr y).toList == sx.toList) = false := by rw [hsb]; simpa using hyx
        have HN : Hid (x ∉ a.take (k + 1)) := Lib.hid (by
          rw [take_snoc hy, List.mem_append, List.mem_singleton]
          rintro (e | e)
          · exact hno.out e
          · exact hyx e.symm)
        clear hy hyx hsb
        generalize bstr y = sy at *
        go_wp2_with fail
        go_round
        case rel => exact ⟨k + 1, by omega, by go_num, HN⟩
        case measure => simp [intOf]; omega
    · obtain rfl : k = n := by omega
      have HF : Hid (findI a x = -1) := Lib.hid (findI_none (by
        have := hno.out
        rwa [List.take_of_length_le (by rw [HLA.out]; omega)] at this))
      go_wp2_with fail
      go_ret
      exact ⟨ret_int HF.out.symm, rfl⟩
end Go.Proofs.YtfdcbmmafhjlfaaGreat
