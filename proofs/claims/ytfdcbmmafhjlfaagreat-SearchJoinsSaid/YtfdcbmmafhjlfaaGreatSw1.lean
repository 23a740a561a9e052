/- The walks of the words of a text: the bytes. -/
import Derived.Test.YtfdcbmmafhjlfaaGreatProg
import Derived.Test.YtfdcbmmafhjlfaaGreatKit
import Derived.Test.YtfdcbmmafhjlfaaGreatDecode
namespace Go.Proofs.YtfdcbmmafhjlfaaGreat
open Go.RowKit
set_option linter.unusedVariables false

theorem small_low (c : UInt8) (w : World) (h : c.toNat < 128) :
    Calls Tryz.prog 21 #[.int .i32 (c.toNat : Int)] w fun e w' => e = .returned (.int .u8 ((Sr.small c).toNat : Int)) ∧ w = w' := by
  have hd : ((Sr.small c).toNat : Int) = if 97 ≤ c.toNat ∧ c.toNat ≤ 122 ∨ 48 ≤ c.toNat ∧ c.toNat ≤ 57 then (c.toNat : Int) else if 65 ≤ c.toNat ∧ c.toNat ≤ 90 then (c.toNat : Int) - 65 + 97 else 0 := by
    unfold Sr.small
    split
    · rfl
    · split
      · rw [UInt8.toNat_ofNat']; omega
      · rfl
  generalize (Sr.small c).toNat = d at *
  generalize c.toNat = n at *
  by_cases h1 : 97 ≤ n ∧ n ≤ 122
  · rw [if_pos (.inl h1)] at hd
    rw [hd]
    obtain ⟨h2, h3⟩ := h1
    clear hd
    go_enter Tryz.func21, Tryz.ntmps21
    go_wp2
    go_ret
    exact ⟨rfl, rfl⟩
  · by_cases h2 : 48 ≤ n ∧ n ≤ 57
    · rw [if_pos (.inr h2)] at hd
      rw [hd]
      obtain ⟨h3, h4⟩ := h2
      clear hd h1
      go_enter Tryz.func21, Tryz.ntmps21
      go_wp2
      go_ret
      exact ⟨rfl, rfl⟩
    · rw [if_neg (by omega)] at hd
      by_cases h3 : 65 ≤ n ∧ n ≤ 90
      · rw [if_pos h3] at hd
        rw [hd]
        obtain ⟨h4, h5⟩ := h3
        clear hd h1 h2
        go_enter Tryz.func21, Tryz.ntmps21
        go_wp2
        go_ret
        exact ⟨rfl, rfl⟩
      · rw [if_neg h3] at hd
        rw [hd]
        clear hd
        go_enter Tryz.func21, Tryz.ntmps21
        go_wp2
        all_goals go_ret
        all_goals exact ⟨rfl, rfl⟩
theorem small_high (r : Nat) (w : World) (h : 128 ≤ r) (h2 : r ≤ 2147483647) :
    Calls Tryz.prog 21 #[.int .i32 (r : Int)] w fun e w' => e = .returned (.int .u8 0) ∧ w = w' := by
  go_enter Tryz.func21, Tryz.ntmps21
  go_wp2
  go_ret
  exact ⟨rfl, rfl⟩
theorem rsmall_any (c : UInt8) (w : World) :
    Calls Tryz.prog 24 #[.int .u8 (c.toNat : Int)] w fun e w' => e = .returned (.int .u8 ((Sr.small c).toNat : Int)) ∧ w = w' := by
  have hc := c.toNat_lt
  have hd : ((Sr.small c).toNat : Int) = if 97 ≤ c.toNat ∧ c.toNat ≤ 122 ∨ 48 ≤ c.toNat ∧ c.toNat ≤ 57 then (c.toNat : Int) else if 65 ≤ c.toNat ∧ c.toNat ≤ 90 then (c.toNat : Int) + 32 else 0 := by
    unfold Sr.small
    split
    · rfl
    · split
      · rw [UInt8.toNat_ofNat']; omega
      · rfl
  generalize (Sr.small c).toNat = d at *
  generalize c.toNat = n at *
  by_cases h1 : 97 ≤ n ∧ n ≤ 122
  · rw [if_pos (.inl h1)] at hd
    rw [hd]
    obtain ⟨h2, h3⟩ := h1
    clear hd
    go_enter Tryz.func24, Tryz.ntmps24
    go_wp2
    go_ret
    exact ⟨rfl, rfl⟩
  · by_cases h2 : 48 ≤ n ∧ n ≤ 57
    · rw [if_pos (.inr h2)] at hd
      rw [hd]
      obtain ⟨h3, h4⟩ := h2
      clear hd h1
      go_enter Tryz.func24, Tryz.ntmps24
      go_wp2
      go_ret
      exact ⟨rfl, rfl⟩
    · rw [if_neg (by omega)] at hd
      by_cases h3 : 65 ≤ n ∧ n ≤ 90
      · rw [if_pos h3] at hd
        rw [hd]
        obtain ⟨h4, h5⟩ := h3
        clear hd h1 h2
        go_enter Tryz.func24, Tryz.ntmps24
        go_wp2
        go_ret
        exact ⟨rfl, rfl⟩
      · rw [if_neg h3] at hd
        rw [hd]
        clear hd
        go_enter Tryz.func24, Tryz.ntmps24
        go_wp2
        all_goals go_ret
        all_goals exact ⟨rfl, rfl⟩
end Go.Proofs.YtfdcbmmafhjlfaaGreat
