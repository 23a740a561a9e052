/- The walk of ArchiveApplies. Written by genla.py. -/
import Derived.Test.YteadlcncnhbmjaaGreatDoorMat
import Derived.Test.YteadlcncnhbmjaaGreatDoorMbb
import Derived.Test.YteadlcncnhbmjaaGreatDoorMba
set_option linter.unusedSimpArgs false
namespace Go.Proofs.YteadlcncnhbmjaaGreatDoor
open Go.RowKit Go.Lib
set_option linter.unusedVariables false

set_option maxHeartbeats 4000000 in
set_option maxRecDepth 100000 in
theorem applies_law (a : ByteArray) (A : Option Addr) (ca : Nat) (d : List (List UInt8)) (w : World) (hr : Rd w A d.length (strL d)) (hR : Ready w) : Calls Tryz.prog 11 #[.string a, .slice A d.length ca] w fun e w' => e = .returned (.bool true) ∧ Below w.heap.size w w' := by
  have HRY := Lib.hid hR
  have HRD0 := Lib.hid hr
  have HSH := Lib.hid (short_any a a w)
  have HLV : Hid (∀ W, Ready W → Calls Tryz.prog 13 #[] W fun e w' => e = .returned (.bool true) ∧ Below W.heap.size W w') := Lib.hid (fun W h => lives_any W h)
  clear hR hr
  go_enter Tryz.func11, Tryz.ntmps11
  go_wp2_with fail
  refine HSH.out.mono ?_
  rintro e w1 ⟨⟨s, rfl, hs⟩, hb1⟩
  have HB1 := Lib.hid hb1
  have HRD := Lib.hid (HRD0.out.below hb1)
  clear hb1
  cases s with
  | false =>
    clear hs
    go_wp2_with fail
    refine (HLV.out _ (HRY.out.below HB1.out)).mono ?_
    rintro e w2 ⟨rfl, hb2⟩
    have HB2 := Lib.hid (HB1.out.trans (hb2.mono HB1.out.size))
    clear hb2
    go_wp2_with fail
    go_ret
    exact ⟨rfl, HB2.out⟩
  | true =>
    obtain ⟨hsa, _, hla, _⟩ := hs rfl
    clear hs
    by_cases hlen : 60 < d.length
    · have h60 : decide ((60 : Int) < (d.length : Int)) = true := decide_eq_true (by omega)
      go_wp2_with fail
      refine (HLV.out _ (HRY.out.below HB1.out)).mono ?_
      rintro e w2 ⟨rfl, hb2⟩
      have HB2 := Lib.hid (HB1.out.trans (hb2.mono HB1.out.size))
      clear hb2
      go_wp2_with fail
      go_ret
      exact ⟨rfl, HB2.out⟩
    · have h60 : decide ((60 : Int) < (d.length : Int)) = false := decide_eq_false (by omega)
      have h60b : d.length ≤ 60 := by omega
      clear hlen
      go_wp2_with fail
      go_loopw [5] (fun ix wr => ∃ k q : Nat, k ≤ d.length ∧ ix = .int .i64 k ∧ wr = w1.drewN q ∧ ∀ s ∈ d.take k, s.length ≤ 100) (fun ix _ => d.length - (RowKit.intOf ix).toNat)
      case atStart => exact ⟨0, 0, Nat.zero_le _, rfl, rfl, fun s h => by simp at h⟩
      case round =>
        obtain ⟨k, q, hk, rfl, rfl, hall⟩ := hrel
        have HALL := Lib.hid hall
        have HBQ := Lib.hid (below_drewN HB1.out q)
        have HRQ := Lib.hid (HRD.out.drewN q)
        clear hall
        by_cases hlt : k < d.length
        · obtain ⟨ba, oa, s, rfl, hs, hc0⟩ := HRQ.out.str_at hlt
          have hss := bstr_size s
          have HS := Lib.hid hs
          clear hs
          by_cases hl : 100 < s.length
          · have h100 : (100 : Int) < ((bstr s).size : Int) := by omega
            generalize bstr s = S at *
            go_wp2_with fail
            try (go_quiet (fail); go_wp2_with fail)
            refine (HLV.out _ (by first | exact HRY.out.below HBQ.out | exact HRY.out.below (below_drewN HB1.out _))).mono ?_
            rintro e w2 ⟨rfl, hb2⟩
            have HB2 : Hid (Below w.heap.size w w2) := Lib.hid (by first | exact HBQ.out.trans (hb2.mono HBQ.out.size) | exact (below_drewN HB1.out _).trans (hb2.mono (below_drewN HB1.out _).size))
            clear hb2
            go_wp2_with fail
            go_ret
            exact ⟨rfl, HB2.out⟩
          · have h100 : decide ((100 : Int) < ((bstr s).size : Int)) = false := decide_eq_false (by omega)
            have HN : Hid (∀ t ∈ d.take (k + 1), t.length ≤ 100) := Lib.hid (fun t ht => by
              rw [take_snoc HS.out] at ht
              rcases List.mem_append.1 ht with ht | ht
              · exact HALL.out t ht
              · rw [List.mem_singleton.1 ht]; omega)
            clear hl hss
            generalize bstr s = S at *
            go_wp2_with fail
            try (go_quiet (fail); go_wp2_with fail)
            go_roundw
            case rel => exact ⟨k + 1, _, by omega, by go_num, rfl, HN.out⟩
            case measure => simp [RowKit.intOf]; omega
        · obtain rfl : k = d.length := by omega
          have HX : Hid (∀ s ∈ d, s.length ≤ 100) := Lib.hid (by have := HALL.out; rwa [List.take_length] at this)
          have HRYQ := Lib.hid (HRY.out.below HBQ.out)
          have HAP := Lib.hid (apply_any a A ca d (w1.drewN q) HRQ.out (by omega) (by omega) (fun s h => by have := HX.out s h; omega) HRYQ.out)
          have HRA := Lib.hid (fun W h => rapply_any a A ca d W h (by omega) (by omega) (fun s h => by have := HX.out s h; omega))
          generalize Ar.apply a.data.toList d = R at *
          go_wp2_with fail
          refine HAP.out.mono ?_
          rintro e w2 ⟨hap, hb2⟩
          have HB2 := Lib.hid (HBQ.out.trans (hb2.mono HBQ.out.size))
          have HRD2 := Lib.hid (HRQ.out.below hb2)
          clear hb2 HAP
          rcases hap with ⟨t, rfl, rfl⟩ | ⟨rfl, rfl⟩
          · have hee := beq_self_eq_true (bstr t).toList
            have HRB : Hid (∀ e, ApA (some t) e → e = .returned (.tuple #[.string (bstr t), .bool true])) := Lib.hid (fun e h => by
              rcases h with ⟨t2, h1, h2⟩ | ⟨h1, _⟩
              · injection h1 with h1; rw [h2, ← h1]
              · cases h1)
            generalize bstr t = TB at *
            go_wp2_with fail
            refine (HRA.out _ HRD2.out).mono ?_
            rintro e w3 ⟨hap, hb3⟩
            have hap2 := HRB.out _ hap
            subst hap2
            have HB3 := Lib.hid (HB2.out.trans (hb3.mono HB2.out.size))
            clear hb3 hap
            go_wp2_with fail
            refine (HLV.out _ (HRY.out.below HB3.out)).mono ?_
            rintro e w4 ⟨rfl, hb4⟩
            have HB4 := Lib.hid (HB3.out.trans (hb4.mono HB3.out.size))
            clear hb4
            go_wp2_with fail
            go_ret
            exact ⟨rfl, HB4.out⟩
          · have HRB : Hid (∀ e, ApA none e → e = .returned (.tuple #[.string ⟨#[]⟩, .bool false])) := Lib.hid (fun e h => by
              rcases h with ⟨t2, h1, h2⟩ | ⟨_, h1⟩
              · cases h1
              · exact h1)
            go_wp2_with fail
            refine (HRA.out _ HRD2.out).mono ?_
            rintro e w3 ⟨hap, hb3⟩
            have hap2 := HRB.out _ hap
            subst hap2
            have HB3 := Lib.hid (HB2.out.trans (hb3.mono HB2.out.size))
            clear hb3 hap
            go_wp2_with fail
            refine (HLV.out _ (HRY.out.below HB3.out)).mono ?_
            rintro e w4 ⟨rfl, hb4⟩
            have HB4 := Lib.hid (HB3.out.trans (hb4.mono HB3.out.size))
            clear hb4
            go_wp2_with fail
            go_ret
            exact ⟨rfl, HB4.out⟩
end Go.Proofs.YteadlcncnhbmjaaGreatDoor
