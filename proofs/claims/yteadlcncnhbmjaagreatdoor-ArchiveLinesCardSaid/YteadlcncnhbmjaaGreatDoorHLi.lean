/- The walk of ArchiveLines. -/
import Derived.Test.YteadlcncnhbmjaaGreatDoorMat
import Derived.Test.YteadlcncnhbmjaaGreatDoorMec
set_option linter.unusedSimpArgs false
set_option linter.unusedVariables false
namespace Go.Proofs.YteadlcncnhbmjaaGreatDoor
open Go.RowKit Go.Lib
set_option linter.unusedVariables false
set_option linter.unusedSimpArgs false

theorem REv.ans {s : List UInt8} {base : Nat} {r : Ending} {w' : World} (h : REv s base r w') {E : List Ar.FV} {C : Int} (hE : (Ar.parse s = some E ∧ C = 0) ∨ (Ar.parse s = none ∧ E = Ar.zeros Ar.NK ∧ C = 10)) :
    ∃ cells, r = .returned (.tuple #[.agg cells, .int .i64 C]) ∧ EvOf (fun _ => True) w' cells E := by
  rcases h with ⟨e, cells, hp, rfl, he⟩ | ⟨hp, rfl⟩
  · rcases hE with ⟨h1, rfl⟩ | ⟨h1, _⟩
    · rw [hp] at h1
      injection h1 with h1
      subst h1
      exact ⟨cells, rfl, he.keep fun b _ _ => ⟨trivial, rfl⟩⟩
    · rw [hp] at h1
      cases h1
  · rcases hE with ⟨h1, _⟩ | ⟨_, rfl, rfl⟩
    · rw [hp] at h1
      cases h1
    · exact ⟨zeroEv, rfl, zero_ev _ _⟩
set_option maxHeartbeats 8000000 in
set_option maxRecDepth 100000 in
theorem lines_law (s : ByteArray) (w : World) (hR : Ready w) : Calls Tryz.prog 6 #[.string s] w fun r w' => r = .returned (.bool true) ∧ Below w.heap.size w w' := by
  have HRY := Lib.hid hR
  have HLV : Hid (∀ W, Ready W → Calls Tryz.prog 13 #[] W fun e w' => e = .returned (.bool true) ∧ Below W.heap.size W w') := Lib.hid (fun W h => lives_any W h)
  clear hR
  by_cases hbig : 600 < s.size
  · have h1' : (600 : Int) < (s.size : Int) := by omega
    go_enter Tryz.func6, Tryz.ntmps6
    go_wp2_with fail
    refine (HLV.out _ HRY.out).mono ?_
    rintro e w2 ⟨rfl, hb2⟩
    go_wp2_with fail
    go_ret
    exact ⟨rfl, hb2⟩
  · have hs : s.size ≤ 600 := by omega
    have h1' : decide ((600 : Int) < (s.size : Int)) = false := decide_eq_false (by omega)
    have hsl : s.data.toList.length ≤ 600 := by rw [← str_size]; exact hs
    obtain ⟨E, C, hE⟩ : ∃ (E : List Ar.FV) (C : Int), (Ar.parse s.data.toList = some E ∧ C = 0) ∨ (Ar.parse s.data.toList = none ∧ E = Ar.zeros Ar.NK ∧ C = 10) := by
      cases hp : Ar.parse s.data.toList with
      | some e => exact ⟨e, 0, .inl ⟨rfl, rfl⟩⟩
      | none => exact ⟨_, 10, .inr ⟨rfl, rfl, rfl⟩⟩
    have HE := Lib.hid hE
    have HW : Hid (∀ v ∈ E, v.WOk) := Lib.hid (by
      rcases hE with ⟨h, _⟩ | ⟨_, rfl, _⟩
      · exact Ar.parse_wok h (by omega)
      · exact Ar.zeros_wok)
    have HRE := Lib.hid (fun W h => readevent_any s W (by omega) h)
    have HXE := Lib.hid (fun W => rreadevent_any s.data.toList W (by omega))
    rw [bstr_of] at HXE
    have HCC : Hid ((C = 0 ∧ Ar.line E = s.data.toList) ∨ C = 10) := Lib.hid (by
      rcases hE with ⟨h, rfl⟩ | ⟨_, _, rfl⟩
      · exact .inl ⟨rfl, Ar.parse_some h⟩
      · exact .inr rfl)
    have hcc : (C != C) = false := by rw [bne_eq_false_iff_eq]
    clear hE hbig hsl
    go_enter Tryz.func6, Tryz.ntmps6
    go_wp2_with fail
    refine (HRE.out _ HRY.out).mono ?_
    rintro r w2 ⟨hrev, hb2⟩
    obtain ⟨X, rfl, hx⟩ := hrev.ans HE.out
    have HB2 := Lib.hid hb2
    have HX2 := Lib.hid hx
    have HS2 : Hid ((Tryz.prog.info? 40).map (·.size) = some X.size) := Lib.hid (by rw [size_event, hx.size])
    have HO2 := Lib.hid hx.one
    have HZ2 : Hid (zeroEv.size = X.size) := Lib.hid (by rw [hx.size]; rfl)
    clear hrev hb2 hx
    go_wp2_with ((with_reducible refine wpList_store_row' rfl 40 _ _ rfl w2.heap.size X ?_ ?_ 40 _ (Blk.new w2 40 _) HS2.out ?_ HO2.out ?_); rfl; rfl; exact HZ2.out; intro w3 hk3 hs3 hbl3; have hz3 := ((Below.refl w2.heap.size w2).alloc (Nat.le_refl _) (.cells zeroEv 40)).trans (hbl3 w2.heap.size (Nat.le_refl _)); have HB3 := Lib.hid (HB2.out.trans (hz3.mono HB2.out.size)); have HX3 := Lib.hid (HX2.out.below hz3); have HK3 := Lib.hid hk3; clear hk3 hs3 hbl3 hz3)
    refine (HXE.out _).mono ?_
    rintro r w4 ⟨hrev, hb4⟩
    obtain ⟨Y, rfl, hy⟩ := hrev.ans HE.out
    have HB4 := Lib.hid (HB3.out.trans (hb4.mono HB3.out.size))
    have HX4 := Lib.hid (HX3.out.below hb4)
    have HK4 := Lib.hid (HK3.out.below hb4 HK3.out.lt)
    have HY4 := Lib.hid hy
    have HS4 : Hid ((Tryz.prog.info? 40).map (·.size) = some Y.size) := Lib.hid (by rw [size_event, hy.size])
    have HO4 := Lib.hid hy.one
    have HZ4 : Hid (zeroEv.size = Y.size) := Lib.hid (by rw [hy.size]; rfl)
    clear hrev hb4 hy
    go_wp2_with (first
      | (refine load_row_w (by rfl) 40 _ rfl w4.heap.size rfl 40 Y (0, 0) _ (by rfl) HF5.out Tryz.underlying40 HS4.out ?_)
      | (refine load_row_w (by rfl) 40 _ rfl w2.heap.size rfl 40 X (0, 0) _ (by rfl) HK5.out Tryz.underlying40 HS2.out ?_)
      | ((with_reducible refine wpList_store_row' rfl 40 _ _ rfl w4.heap.size Y ?_ ?_ 40 _ (Blk.new w4 40 _) HS4.out ?_ HO4.out ?_); rfl; rfl; exact HZ4.out; intro w5 hk5 hs5 hbl5; have hz5 := ((Below.refl w4.heap.size w4).alloc (Nat.le_refl _) (.cells zeroEv 40)).trans (hbl5 w4.heap.size (Nat.le_refl _)); have HB5 := Lib.hid (HB4.out.trans (hz5.mono HB4.out.size)); have HX5 := Lib.hid (HX4.out.below hz5); have HY5 := Lib.hid (HY4.out.below hz5); have HK5 := Lib.hid (HK4.out.below hz5 HK4.out.lt); have HF5 := Lib.hid hk5; clear hk5 hs5 hbl5 hz5))
    refine (ev_same HX5.out HY5.out HW.out).mono ?_
    rintro r w6 ⟨rfl, hb6⟩
    have HB6 := Lib.hid (HB5.out.trans (hb6.mono HB5.out.size))
    have HX6 := Lib.hid (HX5.out.below hb6)
    have HK6 := Lib.hid (HK5.out.below hb6 HK5.out.lt)
    clear hb6
    rcases HCC.out with ⟨h0, hln⟩ | h0
    · subst h0
      have HEV := Lib.hid (fun W (h : EvOf (fun _ => True) W X E) => event_any (fun _ => True) X E W h HW.out (by rw [hln, ← str_size]; omega))
      have HST : Hid (bstr (Ar.line E) = s) := Lib.hid (by rw [hln, bstr_of])
      have hee := beq_self_eq_true s.toList
      clear hln
      rw [HST.out] at HEV
      go_wp2_with (first
        | (refine load_row_w (by rfl) 40 _ rfl w2.heap.size rfl 40 X (0, 0) _ (by rfl) HK6.out Tryz.underlying40 HS2.out ?_)
        | (refine wpList_load_row rfl 40 _ rfl w2.heap.size rfl 40 X (0, 0) _ HK6.out Tryz.underlying40 rfl HS2.out ?_))
      refine (HEV.out _ HX6.out).mono ?_
      rintro r w7 ⟨rfl, hb7⟩
      have HB7 := Lib.hid (HB6.out.trans (hb7.mono HB6.out.size))
      clear hb7
      go_wp2_with fail
      refine (HLV.out _ (HRY.out.below HB7.out)).mono ?_
      rintro r w8 ⟨rfl, hb8⟩
      have HB8 := Lib.hid (HB7.out.trans (hb8.mono HB7.out.size))
      clear hb8
      go_wp2_with fail
      go_ret
      exact ⟨rfl, HB8.out⟩
    · subst h0
      go_wp2_with fail
      refine (HLV.out _ (HRY.out.below HB6.out)).mono ?_
      rintro r w8 ⟨rfl, hb8⟩
      have HB8 := Lib.hid (HB6.out.trans (hb8.mono HB6.out.size))
      clear hb8
      go_wp2_with fail
      go_ret
      exact ⟨rfl, HB8.out⟩
end Go.Proofs.YteadlcncnhbmjaaGreatDoor
