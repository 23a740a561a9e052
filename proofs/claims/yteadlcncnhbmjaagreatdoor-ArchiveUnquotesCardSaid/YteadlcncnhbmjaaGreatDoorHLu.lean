/- The walk of ArchiveUnquotes. -/
import Derived.Test.YteadlcncnhbmjaaGreatDoorHLq
set_option linter.unusedSimpArgs false
namespace Go.Proofs.YteadlcncnhbmjaaGreatDoor
open Go.RowKit Go.Lib
set_option linter.unusedVariables false

set_option maxHeartbeats 4000000 in
set_option maxRecDepth 100000 in
theorem unquotes_law (a : ByteArray) (w : World) (hR : Ready w) : Calls Tryz.prog 4 #[.string a] w fun e w' => e = .returned (.bool true) ∧ Below w.heap.size w w' := by
  have HRY := Lib.hid hR
  clear hR
  by_cases hbig : 500 < a.size
  · have HLV := Lib.hid (lives_any w HRY.out)
    have h1' : (500 : Int) < (a.size : Int) := by omega
    go_enter Tryz.func4, Tryz.ntmps4
    go_wp2_with fail
    refine HLV.out.mono ?_
    rintro e w2 ⟨rfl, hb2⟩
    go_wp2_with fail
    go_ret
    exact ⟨rfl, hb2⟩
  · have ha : a.size ≤ 500 := by omega
    have h1' : decide ((500 : Int) < (a.size : Int)) = false := decide_eq_false (by omega)
    clear hbig
    have HU1 := Lib.hid (fun W => unquote_any a W (by omega))
    have HU2 := Lib.hid (fun W => runquote_any a W (by omega))
    have HLV := Lib.hid (fun W h => lives_any W h)
    cases hu : Ar.unquote a.data.toList with
    | none =>
      rw [hu] at HU1 HU2
      rw [show uqV none = .tuple #[.string ⟨#[]⟩, .string ⟨#[]⟩, .bool false] from rfl] at HU1 HU2
      clear hu
      go_enter Tryz.func4, Tryz.ntmps4
      go_wp2_with fail
      refine (HU1.out _).mono ?_
      rintro e w2 ⟨rfl, hb2⟩
      have HB2 := Lib.hid hb2
      clear hb2
      go_wp2_with fail
      refine (HU2.out _).mono ?_
      rintro e w3 ⟨rfl, hb3⟩
      have HB3 := Lib.hid (HB2.out.trans (hb3.mono HB2.out.size))
      clear hb3
      go_wp2_with fail
      refine (HLV.out _ (HRY.out.below HB3.out)).mono ?_
      rintro e w4 ⟨rfl, hb4⟩
      have HB4 := Lib.hid (HB3.out.trans (hb4.mono HB3.out.size))
      clear hb4
      go_wp2_with fail
      go_ret
      exact ⟨rfl, HB4.out⟩
    | some p =>
      obtain ⟨o, q⟩ := p
      rw [hu] at HU1 HU2
      rw [show uqV (some (o, q)) = .tuple #[.string (bstr o), .string (bstr q), .bool true] from rfl] at HU1 HU2
      have hinv := Ar.unquote_inv hu
      have hal : a.data.toList.length = a.size := str_size a
      have hol : o.length ≤ 1000 := by
        have h1 := congrArg List.length hinv
        rw [List.length_append, Ar.quote, List.length_cons, List.length_append] at h1
        have h2 : o.length ≤ (o.flatMap Ar.esc).length := by
          clear hinv hu h1 HU1 HU2
          induction o with
          | nil => simp
          | cons c o ih =>
            rw [List.flatMap_cons, List.length_append, List.length_cons]
            have := (Ar.esc_len c).1
            omega
        omega
      have HQ := Lib.hid (fun W => quote_any (bstr o) W (by rw [bstr_size]; omega))
      rw [show (bstr o).data.toList = o from rfl] at HQ
      have he : bstr (Ar.quote o) ++ bstr q = a := str_eq (by rw [hinv]; simp [bstr])
      have hsz : (bstr (Ar.quote o)).size + (bstr q).size ≤ 500 := by rw [← ByteArray.size_append, he]; exact ha
      have HEA : Hid (((bstr (Ar.quote o) ++ bstr q).toList == a.toList) = true) := Lib.hid (by rw [he]; exact beq_self_eq_true _)
      have heq := HEA.out
      have h3 : (!((bstr o).toList == (bstr o).toList)) = false := by rw [beq_self_eq_true]; rfl
      have h4 : (!((bstr q).toList == (bstr q).toList)) = false := by rw [beq_self_eq_true]; rfl
      have hp : ¬ 9223372036854775807 < (bstr (Ar.quote o)).size + (bstr q).size := by omega
      clear hu hinv hal hol he
      generalize bstr (Ar.quote o) = Q at *
      generalize bstr o = O at *
      generalize bstr q = R at *
      go_enter Tryz.func4, Tryz.ntmps4
      go_wp2_with fail
      refine (HU1.out _).mono ?_
      rintro e w2 ⟨rfl, hb2⟩
      have HB2 := Lib.hid hb2
      clear hb2
      go_wp2_with fail
      refine (HU2.out _).mono ?_
      rintro e w3 ⟨rfl, hb3⟩
      have HB3 := Lib.hid (HB2.out.trans (hb3.mono HB2.out.size))
      clear hb3
      go_wp2_with fail
      refine (HQ.out _).mono ?_
      rintro e w4 ⟨rfl, hb4⟩
      have HB4 := Lib.hid (HB3.out.trans (hb4.mono HB3.out.size))
      clear hb4
      go_wp2_with fail
      refine (HLV.out _ (HRY.out.below HB4.out)).mono ?_
      rintro e w5 ⟨rfl, hb5⟩
      have HB5 := Lib.hid (HB4.out.trans (hb5.mono HB4.out.size))
      clear hb5
      go_wp2_with fail
      go_ret
      exact ⟨rfl, HB5.out⟩
end Go.Proofs.YteadlcncnhbmjaaGreatDoor
