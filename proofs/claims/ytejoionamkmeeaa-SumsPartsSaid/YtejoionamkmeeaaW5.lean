/- The walks of Unhex. -/
import Derived.Test.YtejoionamkmeeaaW4
import Derived.Test.YtejoionamkmeeaaUn
import Derived.Stop.BytesEq
import Derived.Laws.CopyRow
namespace Go.Proofs.Ytejoionamkmeeaa
open Go.RowKit

theorem digit_any (c : UInt8) (w : World) :
    Calls Try.prog 22 #[.int .u8 (c.toNat : Int)] w fun e w' => e = .returned (.int .i64 (Sm.dval c)) ∧ w = w' := by
  have hc := c.toNat_lt
  have hd : Sm.dval c = if 48 ≤ c.toNat ∧ c.toNat ≤ 57 then (c.toNat : Int) - 48 else if 97 ≤ c.toNat ∧ c.toNat ≤ 102 then (c.toNat : Int) - 97 + 10 else -1 := rfl
  generalize Sm.dval c = d at *
  generalize c.toNat = n at *
  by_cases h1 : 48 ≤ n ∧ n ≤ 57
  · rw [if_pos h1] at hd
    subst hd
    obtain ⟨h2, h3⟩ := h1
    go_enter Try.func22, Try.ntmps22
    go_wp2
    go_ret
    exact ⟨rfl, rfl⟩
  · rw [if_neg h1] at hd
    by_cases h2 : 97 ≤ n ∧ n ≤ 102
    · rw [if_pos h2] at hd
      subst hd
      obtain ⟨h3, h4⟩ := h2
      clear h1
      go_enter Try.func22, Try.ntmps22
      go_wp2
      go_ret
      exact ⟨rfl, rfl⟩
    · rw [if_neg h2] at hd
      subst hd
      go_enter Try.func22, Try.ntmps22
      go_wp2
      all_goals go_ret
      all_goals exact ⟨rfl, rfl⟩
theorem str_size (s : ByteArray) : s.size = s.data.toList.length := by rw [Array.length_toList]; rfl
theorem ret_un {a b : Int} {x y : Bool} (h : a = b) (h' : x = y) : Ending.returned (.tuple #[.int .i64 a, .bool x]) = .returned (.tuple #[.int .i64 b, .bool y]) := by rw [h, h']
theorem at_str (s : ByteArray) (k : Nat) (h : k < s.size) : s.data.toList[k]? = some s[k] := by
  rw [List.getElem?_eq_getElem (by rw [← str_size]; exact h)]; rfl
theorem runhex_any (s : ByteArray) (w : World) (hs : s.size ≤ 9223372036854775807) :
    Calls Try.prog 18 #[.string s] w fun e w' => e = .returned (.tuple #[.int .i64 (Sm.unN s.data.toList), .bool (Sm.unB s.data.toList)]) ∧ w = w' := by
  have hsz := str_size s
  by_cases h16 : s.size = 16
  · have HL : Hid (s.data.toList.length = 16) := Lib.hid (by omega)
    have ha := fun k h => at_str s k h
    have p0 : 0 < s.size := by omega
    have HC0 := Lib.hid (ha 0 p0)
    obtain ⟨c, hc0⟩ : ∃ c, s[0]'p0 = c := ⟨_, rfl⟩
    rw [hc0] at HC0
    by_cases h3 : Sm.dval c ≤ 3
    · have hn : ¬ (3 < Sm.dval c) := by omega
      have HA := Lib.hid ha
      clear ha
      have h16' : 16 ≤ s.size := by omega
      have h16'' : s.size ≤ 16 := by omega
      have hne2 : ((s.size : Int) != 16) = false := by rw [bne_eq_false_iff_eq]; omega
      have H16 := Lib.hid h16
      have HZ := Lib.hid hsz
      clear h16 hsz
      go_enter Try.func18, Try.ntmps18
      go_wp2_with (go_at_call 22; refine (digit_any _ _).mono ?_; rintro e w' ⟨rfl, rfl⟩)
      go_loop [4, 5] (fun n i => ∃ k : Nat, k ≤ 16 ∧ i = .int .i64 k ∧ n = .int .i64 (Sm.pval (s.data.toList.take k)) ∧ Hid (∀ x ∈ s.data.toList.take k, Sm.okB x = true)) (fun _ i => 16 - (intOf i).toNat)
      case atStart => exact ⟨0, by omega, rfl, rfl, Lib.hid (by intro x hx; simp at hx)⟩
      case round =>
        obtain ⟨k, hk, rfl, rfl, hok⟩ := hrel
        by_cases hlt : k < 16
        · have hks : k < s.size := by omega
          have hck := HA.out k hks
          obtain ⟨d, hd⟩ : ∃ d, s[k]'hks = d := ⟨_, rfl⟩
          rw [hd] at hck
          have hlo := Sm.dval_lo d
          have hhi := Sm.dval_hi d
          by_cases hneg : Sm.dval d < 0
          · have hu := Sm.un_bad _ k d HL.out hck (by omega)
            have h1 := Lib.hid (Sm.unN_none hu)
            have h2 := Lib.hid (Sm.unB_none hu)
            clear hu hck
            go_wp2_with (go_at_call 22; refine (digit_any _ _).mono ?_; rintro e w' ⟨rfl, rfl⟩)
            go_ret2
            exact ⟨ret_un h1.out.symm h2.out.symm, rfl⟩
          · have hn := Sm.pval_next _ k d hck (by omega)
            have hk1 := Sm.ok_next _ k d hck (by omega) hok.out
            have hs1 := Sm.take_small _ c (k + 1) HL.out HC0.out h3 hk1
            have hs0 := Sm.take_small _ c k HL.out HC0.out h3 hok.out
            have HK := Lib.hid hk1
            have HN := Lib.hid hn
            have hs2 : (Sm.pval (s.data.toList.take k) : Int) * 16 + Sm.dval d < 4611686018427387904 := by omega
            clear hn hk1 hs1 hck
            go_wp2_with (go_at_call 22; refine (digit_any _ _).mono ?_; rintro e w' ⟨rfl, rfl⟩)
            go_round
            case rel => exact ⟨k + 1, by omega, by go_num, congrArg (Value.int .i64) HN.out.symm, HK⟩
            case measure => simp [intOf]; omega
        · have : k = 16 := by omega
          subst this
          have ht : s.data.toList.take 16 = s.data.toList := List.take_of_length_le (by rw [HL.out]; omega)
          have hu := Sm.un_good _ c HL.out HC0.out h3 (by rw [← ht]; exact hok.out)
          have h1 := Lib.hid (Sm.unN_some hu)
          have h2 := Lib.hid (Sm.unB_some hu)
          have HT := Lib.hid ht
          clear hu ht
          go_wp2
          go_ret2
          exact ⟨ret_un (by rw [h1.out, HT.out]) h2.out.symm, rfl⟩
    · have hu := Sm.un_head _ c HL.out HC0.out h3
      have h1 := Lib.hid (Sm.unN_none hu)
      have h2 := Lib.hid (Sm.unB_none hu)
      have hn : 3 < Sm.dval c := by omega
      have hne2 : ((s.size : Int) != 16) = false := by rw [bne_eq_false_iff_eq]; omega
      clear hu ha hsz
      have H16 := Lib.hid h16
      clear h16
      go_enter Try.func18, Try.ntmps18
      go_wp2_with (go_at_call 22; refine (digit_any _ _).mono ?_; rintro e w' ⟨rfl, rfl⟩)
      go_ret2
      exact ⟨ret_un h1.out.symm h2.out.symm, rfl⟩
  · have hu := Sm.un_long s.data.toList (by omega)
    have h1 := Lib.hid (Sm.unN_none hu)
    have h2 := Lib.hid (Sm.unB_none hu)
    have hne : ((s.size : Int) == 16) = false := beq_eq_false_iff_ne.2 (by omega)
    have hne2 : ((s.size : Int) != 16) = true := by rw [bne_iff_ne]; omega
    clear hu hsz
    go_enter Try.func18, Try.ntmps18
    go_wp2
    go_ret2
    exact ⟨ret_un h1.out.symm h2.out.symm, rfl⟩
end Go.Proofs.Ytejoionamkmeeaa
