/- The walk of ArchiveLeast. Written by genla.py. -/
import Derived.Test.YteadlcncnhbmjaaGreatDoorMat
import Derived.Test.YteadlcncnhbmjaaGreatDoorMas
import Derived.Test.YteadlcncnhbmjaaGreatDoorMba
set_option linter.unusedSimpArgs false
namespace Ar
theorem apply_bound {a t : Str} {d : List Str} (h : apply a d = some t) (M : Nat) (hM : ∀ s ∈ d, s.length ≤ M) (ha : a.length ≤ M) : (lines t).length ≤ (lines a).length + d.length ∧ t.length ≤ ((lines a).length + d.length) * (M + 1) := by
  unfold apply at h
  split at h
  · rename_i l o hl
    split at h
    · rename_i hc
      injection h with h
      obtain ⟨rfl, hne⟩ := hc
      obtain ⟨h1, h2, h3⟩ := aall_le _ _ _ _ _ hl
      have h4 := aall_noLF d (lines a) [] _ hl (lines_noLF a) (by simp)
      simp only [List.length_nil] at h1
      subst h
      refine ⟨by rw [lines_unlines o hne h4]; omega, ?_⟩
      rw [← unlines_join]
      have h5 := join_le [10] M o (fun y hy => by
        rcases h3 y hy with hy | hy | ⟨s, hs, hy⟩
        · cases hy
        · exact Nat.le_trans (lines_short a y hy) ha
        · exact Nat.le_trans hy (hM s hs))
      have h6 := Nat.mul_le_mul_right (M + [10].length) (show o.length ≤ (lines a).length + d.length by omega)
      simp only [List.length_singleton] at h5 h6
      omega
    · cases h
  · cases h
end Ar
namespace Go.Proofs.YteadlcncnhbmjaaGreatDoor
open Go.RowKit Go.Lib
set_option linter.unusedVariables false

set_option maxHeartbeats 4000000 in
set_option maxRecDepth 100000 in
theorem least_law (a : ByteArray) (A : Option Addr) (ca : Nat) (d : List (List UInt8)) (w : World) (hr : Rd w A d.length (strL d)) (hR : Ready w) : Calls Tryz.prog 10 #[.string a, .slice A d.length ca] w fun e w' => e = .returned (.bool true) ∧ Below w.heap.size w w' := by
  have HRY := Lib.hid hR
  have HRD0 := Lib.hid hr
  have HSH := Lib.hid (short_any a a w)
  have HLV : Hid (∀ W, Ready W → Calls Tryz.prog 13 #[] W fun e w' => e = .returned (.bool true) ∧ Below W.heap.size W w') := Lib.hid (fun W h => lives_any W h)
  clear hR hr
  go_enter Tryz.func10, Tryz.ntmps10
  go_wp2_with fail
  refine HSH.out.mono ?_
  rintro e w1 ⟨⟨s, rfl, hs⟩, hb1⟩
  have HB1 := Lib.hid hb1
  have HRD := Lib.hid (HRD0.out.below hb1)
  clear hb1
  cases s with
  | false =>
    clear hs
    go_wp2_with fail
    refine (HLV.out _ (HRY.out.below HB1.out)).mono ?_
    rintro e w2 ⟨rfl, hb2⟩
    have HB2 := Lib.hid (HB1.out.trans (hb2.mono HB1.out.size))
    clear hb2
    go_wp2_with fail
    go_ret
    exact ⟨rfl, HB2.out⟩
  | true =>
    obtain ⟨hsa, _, hla, _⟩ := hs rfl
    clear hs
    by_cases hlen : 60 < d.length
    · have h60 : decide ((60 : Int) < (d.length : Int)) = true := decide_eq_true (by omega)
      go_wp2_with fail
      refine (HLV.out _ (HRY.out.below HB1.out)).mono ?_
      rintro e w2 ⟨rfl, hb2⟩
      have HB2 := Lib.hid (HB1.out.trans (hb2.mono HB1.out.size))
      clear hb2
      go_wp2_with fail
      go_ret
      exact ⟨rfl, HB2.out⟩
    · have h60 : decide ((60 : Int) < (d.length : Int)) = false := decide_eq_false (by omega)
      have h60b : d.length ≤ 60 := by omega
      clear hlen
      go_wp2_with fail
      go_loopw [5] (fun ix wr => ∃ k q : Nat, k ≤ d.length ∧ ix = .int .i64 k ∧ wr = w1.drewN q ∧ ∀ s ∈ d.take k, s.length ≤ 100) (fun ix _ => d.length - (RowKit.intOf ix).toNat)
      case atStart => exact ⟨0, 0, Nat.zero_le _, rfl, rfl, fun s h => by simp at h⟩
      case round =>
        obtain ⟨k, q, hk, rfl, rfl, hall⟩ := hrel
        have HALL := Lib.hid hall
        have HBQ := Lib.hid (below_drewN HB1.out q)
        have HRQ := Lib.hid (HRD.out.drewN q)
        clear hall
        by_cases hlt : k < d.length
        · obtain ⟨ba, oa, s, rfl, hs, hc0⟩ := HRQ.out.str_at hlt
          have hss := bstr_size s
          have HS := Lib.hid hs
          clear hs
          by_cases hl : 100 < s.length
          · have h100 : (100 : Int) < ((bstr s).size : Int) := by omega
            generalize bstr s = S at *
            go_wp2_with fail
            try (go_quiet (fail); go_wp2_with fail)
            refine (HLV.out _ (by first | exact HRY.out.below HBQ.out | exact HRY.out.below (below_drewN HB1.out _))).mono ?_
            rintro e w2 ⟨rfl, hb2⟩
            have HB2 : Hid (Below w.heap.size w w2) := Lib.hid (by first | exact HBQ.out.trans (hb2.mono HBQ.out.size) | exact (below_drewN HB1.out _).trans (hb2.mono (below_drewN HB1.out _).size))
            clear hb2
            go_wp2_with fail
            go_ret
            exact ⟨rfl, HB2.out⟩
          · have h100 : decide ((100 : Int) < ((bstr s).size : Int)) = false := decide_eq_false (by omega)
            have HN : Hid (∀ t ∈ d.take (k + 1), t.length ≤ 100) := Lib.hid (fun t ht => by
              rw [take_snoc HS.out] at ht
              rcases List.mem_append.1 ht with ht | ht
              · exact HALL.out t ht
              · rw [List.mem_singleton.1 ht]; omega)
            clear hl hss
            generalize bstr s = S at *
            go_wp2_with fail
            try (go_quiet (fail); go_wp2_with fail)
            go_roundw
            case rel => exact ⟨k + 1, _, by omega, by go_num, rfl, HN.out⟩
            case measure => simp [RowKit.intOf]; omega
        · obtain rfl : k = d.length := by omega
          have HX : Hid (∀ s ∈ d, s.length ≤ 100) := Lib.hid (by have := HALL.out; rwa [List.take_length] at this)
          have HRYQ := Lib.hid (HRY.out.below HBQ.out)
          have HAP := Lib.hid (apply_any a A ca d (w1.drewN q) HRQ.out (by omega) (by omega) (fun s h => by have := HX.out s h; omega) HRYQ.out)
          have HLE : Hid (∀ t, Ar.apply a.data.toList d = some t → t.length ≤ 100000 ∧ (Ar.lines t).length ≤ 2000 ∧ (encs (Ar.diff (Ar.lines a.data.toList) (Ar.lines t))).length ≤ 1000000 ∧ Ar.chgsS (encs (Ar.diff (Ar.lines a.data.toList) (Ar.lines t))) ≤ Ar.chgsS d) := Lib.hid (fun t ht => by
            have hz : a.data.toList.length = a.size := str_size a
            obtain ⟨h1, h2⟩ := Ar.apply_bound ht 600 (fun s h => by have := HX.out s h; omega) (by omega)
            have h3 := Nat.mul_le_mul_right (600 + 1) (show (Ar.lines a.data.toList).length + d.length ≤ 100 by omega)
            have hx : ∀ l ∈ Ar.lines a.data.toList, l.length ≤ 100000 := fun l h => by have := Ar.lines_short a.data.toList l h; omega
            have hy : ∀ l ∈ Ar.lines t, l.length ≤ 100000 := fun l h => by have := Ar.lines_short t l h; omega
            obtain ⟨h4, _⟩ := Ar.dl_size 100000 _ (Ar.lines a.data.toList) (Ar.lines t) 0 (Nat.le_refl _) (by omega) (by omega) hx hy
            refine ⟨by omega, by omega, ?_, ?_⟩
            · unfold encs Ar.diff; rw [List.length_map]; omega
            · rw [show encs (Ar.diff (Ar.lines a.data.toList) (Ar.lines t)) = (Ar.diff (Ar.lines a.data.toList) (Ar.lines t)).map Ar.Ed.enc from rfl, Ar.chgsS_enc]
              exact Ar.least ht)
          have HDF := Lib.hid (fun (t : List UInt8) (W : World) (h : Ready W) (h1 : t.length ≤ 100000) (h2 : (Ar.lines (bstr t).data.toList).length ≤ 2000) => diff_any a (bstr t) W (by omega) (by rw [bstr_size]; exact h1) h (by omega) h2)
          have hcd : Ar.chgsS d ≤ 60 := Nat.le_trans (Ar.chgsS_le d) h60b
          go_wp2_with fail
          refine HAP.out.mono ?_
          rintro e w2 ⟨hap, hb2⟩
          have HB2 := Lib.hid (HBQ.out.trans (hb2.mono HBQ.out.size))
          have HRD2 := Lib.hid (HRQ.out.below hb2)
          clear hb2
          rcases hap with ⟨t, ht, rfl⟩ | ⟨ht, rfl⟩
          · obtain ⟨ht1, ht2, ht3, ht4⟩ := HLE.out t ht
            have HD := Lib.hid (HDF.out t w2 (HRY.out.below HB2.out) ht1 ht2)
            rw [show (bstr t).data.toList = t from rfl] at HD
            clear ht ht1 ht2 HLE HDF HAP
            generalize encs (Ar.diff (Ar.lines a.data.toList) (Ar.lines t)) = D at *
            generalize bstr t = TB at *
            go_wp2_with fail
            refine HD.out.mono ?_
            rintro e w3 ⟨v3, rfl, ho3, hb3⟩
            obtain ⟨A3, c3, rfl⟩ := own_any ho3
            have HD3 := Lib.hid (Rd.of_own ho3)
            have HRD3 := Lib.hid (HRD2.out.below hb3)
            have HB3 := Lib.hid (HB2.out.trans (hb3.mono HB2.out.size))
            clear ho3 hb3
            have HC1 := Lib.hid (changes_any A3 c3 D w3 HD3.out ht3)
            have HC2 := Lib.hid (fun W h => changes_any A ca d W h (by omega))
            generalize Ar.chgsS D = c1 at *
            generalize Ar.chgsS d = c2 at *
            have hcc : decide ((c1 : Int) ≤ (c2 : Int)) = true := decide_eq_true (by omega)
            go_wp2_with fail
            refine HC1.out.mono ?_
            rintro e w4 ⟨rfl, q4, rfl⟩
            have HB4 := Lib.hid (below_drewN HB3.out q4)
            have HRD4 := Lib.hid (HRD3.out.drewN q4)
            generalize w3.drewN q4 = w4 at *
            go_wp2_with fail
            refine (HC2.out _ HRD4.out).mono ?_
            rintro e w5 ⟨rfl, q5, rfl⟩
            have HB5 := Lib.hid (below_drewN HB4.out q5)
            generalize w4.drewN q5 = w5 at *
            go_wp2_with fail
            refine (HLV.out _ (HRY.out.below HB5.out)).mono ?_
            rintro e w6 ⟨rfl, hb6⟩
            have HB6 := Lib.hid (HB5.out.trans (hb6.mono HB5.out.size))
            clear hb6
            go_wp2_with fail
            go_ret
            exact ⟨rfl, HB6.out⟩
          · clear ht HLE HDF HAP
            go_wp2_with fail
            refine (HLV.out _ (HRY.out.below HB2.out)).mono ?_
            rintro e w3 ⟨rfl, hb3⟩
            have HB3 := Lib.hid (HB2.out.trans (hb3.mono HB2.out.size))
            clear hb3
            go_wp2_with fail
            go_ret
            exact ⟨rfl, HB3.out⟩
end Go.Proofs.YteadlcncnhbmjaaGreatDoor
