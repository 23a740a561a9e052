/- The walks of ArchiveQuotes and ArchiveUnquotes. -/
import Derived.Test.YteadlcncnhbmjaaGreatDoorMat
set_option linter.unusedSimpArgs false
namespace Go.Proofs.YteadlcncnhbmjaaGreatDoor
open Go.RowKit Go.Lib
set_option linter.unusedVariables false

theorem beq_bstr (x y : List UInt8) (h : x = y) : ((bstr x).toList == (bstr y).toList) = true := by rw [str_beq, h]; exact beq_self_eq_true _
set_option maxHeartbeats 4000000 in
set_option maxRecDepth 100000 in
theorem quotes_law (a b : ByteArray) (w : World) (hR : Ready w) : Calls Tryz.prog 3 #[.string a, .string b] w fun e w' => e = .returned (.bool true) ∧ Below w.heap.size w w' := by
  have HRY := Lib.hid hR
  clear hR
  by_cases hbig : 500 < a.size ∨ 500 < b.size
  · have HLV := Lib.hid (lives_any w HRY.out)
    by_cases h1 : 500 < a.size
    · have h1' : (500 : Int) < (a.size : Int) := by omega
      clear hbig
      go_enter Tryz.func3, Tryz.ntmps3
      go_wp2_with fail
      refine HLV.out.mono ?_
      rintro e w2 ⟨rfl, hb2⟩
      go_wp2_with fail
      go_ret
      exact ⟨rfl, hb2⟩
    · have h2 : 500 < b.size := by omega
      have h1' : decide ((500 : Int) < (a.size : Int)) = false := decide_eq_false (by omega)
      have h2' : decide ((500 : Int) < (b.size : Int)) = true := decide_eq_true (by omega)
      clear hbig h1 h2
      go_enter Tryz.func3, Tryz.ntmps3
      go_wp2_with fail
      refine HLV.out.mono ?_
      rintro e w2 ⟨rfl, hb2⟩
      go_wp2_with fail
      go_ret
      exact ⟨rfl, hb2⟩
  · have ha : a.size ≤ 500 := by omega
    have hb : b.size ≤ 500 := by omega
    have h1' : decide ((500 : Int) < (a.size : Int)) = false := decide_eq_false (by omega)
    have h2' : decide ((500 : Int) < (b.size : Int)) = false := decide_eq_false (by omega)
    clear hbig
    have HQ := Lib.hid (fun W => quote_any a W (by omega))
    have HRQ := Lib.hid (fun W => rquote_any a W (by omega))
    have hql : (Ar.quote a.data.toList).length ≤ 2002 := by have := Ar.quote_len a.data.toList; have h3 : a.data.toList.length = a.size := str_size a; omega
    have hrng := Ar.quote_range a.data.toList
    have HUQ : Hid (∀ W, Calls Tryz.prog 15 #[.string (bstr (Ar.quote a.data.toList) ++ b)] W fun e w' => e = .returned (.tuple #[.string a, .string b, .bool true]) ∧ Below W.heap.size W w') := Lib.hid (fun W => by
      have h := unquote_any (bstr (Ar.quote a.data.toList) ++ b) W (by rw [ByteArray.size_append, bstr_size]; omega)
      rw [show (bstr (Ar.quote a.data.toList) ++ b).data.toList = Ar.quote a.data.toList ++ b.data.toList from by simp [bstr], Ar.unquote_quote] at h
      have e : uqV (some (a.data.toList, b.data.toList)) = .tuple #[.string a, .string b, .bool true] := by
        show Value.tuple #[.string (bstr a.data.toList), .string (bstr b.data.toList), .bool true] = _
        rw [bstr_of, bstr_of]
      rw [e] at h
      exact h)
    have HRG : Hid (∀ k (h : k < (bstr (Ar.quote a.data.toList)).size), 32 ≤ ((bstr (Ar.quote a.data.toList))[k]'h).toNat ∧ ((bstr (Ar.quote a.data.toList))[k]'h).toNat ≤ 126) := Lib.hid (fun k h => by
      have h1 := at_str _ k h
      exact hrng _ (List.mem_of_getElem? h1))
    have hqs : (bstr (Ar.quote a.data.toList)).size ≤ 2002 := by rw [bstr_size]; exact hql
    have hqq : ((bstr (Ar.quote a.data.toList)).toList == (bstr (Ar.quote a.data.toList)).toList) = true := beq_self_eq_true _
    have haa : (a.toList == a.toList) = true := beq_self_eq_true _
    have hbb : (b.toList == b.toList) = true := beq_self_eq_true _
    have HLV := Lib.hid (fun W h => lives_any W h)
    clear hrng hql
    generalize bstr (Ar.quote a.data.toList) = Q at *
    go_enter Tryz.func3, Tryz.ntmps3
    go_wp2_with fail
    refine (HQ.out _).mono ?_
    rintro e w2 ⟨rfl, hb2⟩
    have HB2 := Lib.hid hb2
    clear hb2
    go_wp2_with fail
    go_loopw [6] (fun ix wr => ∃ k q : Nat, k ≤ Q.size ∧ ix = .int .i64 k ∧ wr = w2.drewN q) (fun ix _ => Q.size - (RowKit.intOf ix).toNat)
    case atStart => exact ⟨0, 0, Nat.zero_le _, rfl, rfl⟩
    case round =>
      obtain ⟨k, q, hk, rfl, rfl⟩ := hrel
      by_cases hlt : k < Q.size
      · obtain ⟨hr1, hr2⟩ := HRG.out k hlt
        have hg1 : ¬ (((Q[k]'hlt).toNat : Int) < 32) := by omega
        have hg2 : ¬ ((126 : Int) < ((Q[k]'hlt).toNat : Int)) := by omega
        clear hr1 hr2
        go_wp2_with fail
        try (go_quiet (fail); go_wp2_with fail)
        go_roundw
        case rel => exact ⟨k + 1, _, hlt, by go_num, rfl⟩
        case measure => simp [RowKit.intOf]; omega
      · obtain rfl : k = Q.size := by omega
        clear hlt
        go_wp2_with fail
        refine (HUQ.out _).mono ?_
        rintro e w3 ⟨rfl, hb3⟩
        have HB3 := Lib.hid ((below_drewN HB2.out q).trans (hb3.mono (below_drewN HB2.out q).size))
        clear hb3
        go_wp2_with fail
        refine (HRQ.out _).mono ?_
        rintro e w4 ⟨rfl, hb4⟩
        have HB4 := Lib.hid (HB3.out.trans (hb4.mono HB3.out.size))
        clear hb4
        go_wp2_with fail
        refine (HLV.out _ (HRY.out.below HB4.out)).mono ?_
        rintro e w5 ⟨rfl, hb5⟩
        have HB5 := Lib.hid (HB4.out.trans (hb5.mono HB4.out.size))
        clear hb5
        go_wp2_with fail
        go_ret
        exact ⟨rfl, HB5.out⟩
end Go.Proofs.YteadlcncnhbmjaaGreatDoor
