/- The text Ef. -/
import Derived.WalkLawsBesides
import Derived.Test.YtacjhbbieeliaaaGreatDoorMag
import Derived.Test.YtacjhbbieeliaaaGreatDoorMah
set_option linter.unusedSimpArgs false
set_option maxHeartbeats 16000000
set_option maxRecDepth 100000
namespace Rn
theorem ruled_short {s : Str} (h : s.length < 1) : ruled s = false := by unfold ruled; rw [decide_eq_false (by omega)]; rfl
theorem ruled_long {s : Str} (h : 32 < s.length) : ruled s = false := by unfold ruled; rw [decide_eq_false (p := s.length ≤ 32) (by omega), Bool.and_false]; rfl
theorem ruled_bad {s : Str} {k : Nat} {c : UInt8} (h : s[k]? = some c) (hc : ruleB c = false) : ruled s = false := by
 unfold ruled
 have : s.all ruleB = false := by
  rw [Bool.eq_false_iff, Ne, List.all_eq_true]
  intro ha
  have := ha c (List.mem_of_getElem? h)
  rw [hc] at this
  cases this
 rw [this, Bool.and_false]
theorem ruled_all {s : Str} (h : ∀ c ∈ s.take s.length, ruleB c = true) : ruled s = (decide (1 ≤ s.length) && decide (s.length ≤ 32)) := by
 rw [List.take_length] at h
 unfold ruled
 rw [List.all_eq_true.2 h, Bool.and_true]
theorem ruleB_iff (c : UInt8) : ruleB c = true ↔ c.toNat = 45 ∨ (97 ≤ c.toNat ∧ c.toNat ≤ 122) := by
 unfold ruleB
 rw [Bool.or_eq_true, Bool.and_eq_true, decide_eq_true_eq, decide_eq_true_eq, beq_iff_eq]
 refine or_congr ⟨fun h => by rw [h]; rfl, fun h => UInt8.toNat_inj.1 h⟩ Iff.rfl
theorem take_rule {s : Str} {k : Nat} {c : UInt8} (h : s[k]? = some c) (hc : ruleB c = true) (ht : ∀ d ∈ s.take k, ruleB d = true) : ∀ d ∈ s.take (k + 1), ruleB d = true := by
 obtain ⟨h1, h2⟩ := List.getElem?_eq_some_iff.1 h
 rw [List.take_succ_eq_append_getElem h1, h2]
 intro d hd
 rcases List.mem_append.1 hd with hd | hd
 ·exact ht d hd
 ·rw [List.mem_singleton.1 hd]; exact hc
end Rn
namespace Go.Proofs.YtacjhbbieeliaaaGreatDoor
open Go.RowKit Go.Lib
set_option linter.unusedVariables false
set_option linter.unusedSimpArgs false
theorem byte_ways (c : UInt8) : (Rn.ruleB c = true ∧ ((c.toNat : Int) != 45) = false) ∨ (Rn.ruleB c = true ∧ ((c.toNat : Int) != 45) = true ∧ decide ((c.toNat : Int) < 97) = false ∧ decide (122 < (c.toNat : Int)) = false) ∨
  (Rn.ruleB c = false ∧ ((c.toNat : Int) != 45) = true ∧ decide ((c.toNat : Int) < 97) = true) ∨ (Rn.ruleB c = false ∧ ((c.toNat : Int) != 45) = true ∧ decide ((c.toNat : Int) < 97) = false ∧ decide (122 < (c.toNat : Int)) = true) := by
 have h := Rn.ruleB_iff c
 by_cases h1 : c.toNat = 45
 ·exact .inl ⟨h.2 (.inl h1), by rw [bne_eq_false_iff_eq]; omega⟩
 ·have e1 : ((c.toNat : Int) != 45) = true := by rw [bne_iff_ne]; omega
  by_cases h2 : c.toNat < 97
  ·refine .inr (.inr (.inl ⟨?_, e1, decide_eq_true (by omega)⟩))
   rw [Bool.eq_false_iff, Ne, h]; omega
  ·by_cases h3 : 122 < c.toNat
   ·refine .inr (.inr (.inr ⟨?_, e1, decide_eq_false (by omega), decide_eq_true (by omega)⟩))
    rw [Bool.eq_false_iff, Ne, h]; omega
   ·exact .inr (.inl ⟨h.2 (.inr ⟨by omega, by omega⟩), e1, decide_eq_false (by omega), decide_eq_false (by omega)⟩)
theorem ruled_any (S : ByteArray) (w : World) (hs : S.size ≤ 1000000) : Calls Tryz.prog 102 #[.string S] w fun e w' => e = .returned (.bool (Rn.ruled S.data.toList)) ∧ w = w' := by
 have hsz := str_size S
 by_cases h1 : S.size < 1
 ·have HR := hid (Rn.ruled_short (s := S.data.toList) (by omega))
  rw [HR.out]
  have g1 : decide ((S.size : Int) < 1) = true := decide_eq_true (by omega)
  clear hsz
  go_enter Tryz.func102, Tryz.ntmps102
  go_wp2_with fail
  go_ret
  exact ⟨rfl, rfl⟩
 by_cases h2 : 32 < S.size
 ·have HR := hid (Rn.ruled_long (s := S.data.toList) (by omega))
  rw [HR.out]
  have g1 : decide ((S.size : Int) < 1) = false := decide_eq_false (by omega)
  have g2 : decide (32 < (S.size : Int)) = true := decide_eq_true (by omega)
  clear hsz
  go_enter Tryz.func102, Tryz.ntmps102
  go_wp2_with fail
  go_ret
  exact ⟨rfl, rfl⟩
 have g1 : decide ((S.size : Int) < 1) = false := decide_eq_false (by omega)
 have g2 : decide (32 < (S.size : Int)) = false := decide_eq_false (by omega)
 have HAT := hid (at_str S)
 have HSZ := hid hsz
 clear hsz
 go_enter Tryz.func102, Tryz.ntmps102
 go_wp2_with fail
 go_loop [3, 14] (fun _ i => ∃ k : Nat, k ≤ S.size ∧ i = .int .i64 (k : Int) ∧ ∀ c ∈ S.data.toList.take k, Rn.ruleB c = true) (fun _ i => S.size - (RowKit.intOf i).toNat)
 case atStart => exact ⟨0, Nat.zero_le _, rfl, by simp⟩
 case round =>
  obtain ⟨k, hk, rfl, hall⟩ := hrel
  have HA := hid hall
  clear hall
  by_cases hlt : k < S.size
  ·have HC := hid (HAT.out k hlt)
   have hw := byte_ways S[k]
   rcases hw with ⟨hb, g1⟩ | ⟨hb, g1, g2, g3⟩ | ⟨hb, g1, g2⟩ | ⟨hb, g1, g2, g3⟩
   ·have HB := hid (Rn.take_rule HC.out hb HA.out)
    clear hb
    go_wp2_with fail
    go_round
    case rel => exact ⟨k + 1, by omega, by go_num, HB.out⟩
    case measure => simp [RowKit.intOf]; omega
   ·have HB := hid (Rn.take_rule HC.out hb HA.out)
    clear hb
    go_wp2_with fail
    go_round
    case rel => exact ⟨k + 1, by omega, by go_num, HB.out⟩
    case measure => simp [RowKit.intOf]; omega
   ·have HB := hid (Rn.ruled_bad HC.out hb)
    clear hb
    go_wp2_with fail
    go_ret
    exact ⟨congrArg (fun b => Ending.returned (Value.bool b)) HB.out.symm, rfl⟩
   ·have HB := hid (Rn.ruled_bad HC.out hb)
    clear hb
    go_wp2_with fail
    go_ret
    exact ⟨congrArg (fun b => Ending.returned (Value.bool b)) HB.out.symm, rfl⟩
  ·obtain rfl : k = S.size := by omega
   have HB := hid (Rn.ruled_all (s := S.data.toList) (by rw [← HSZ.out]; exact HA.out))
   go_wp2_with fail
   go_ret
   refine ⟨?_, rfl⟩
   rw [HB.out, ← HSZ.out, decide_eq_true (by omega), decide_eq_true (by omega)]
   rfl
end Go.Proofs.YtacjhbbieeliaaaGreatDoor
