/- The walk of ArchiveEvents. -/
import Derived.Test.YteadlcncnhbmjaaGreatDoorMat
import Derived.Test.YteadlcncnhbmjaaGreatDoorHBz1
import Derived.Test.YteadlcncnhbmjaaGreatDoorHBw2
set_option linter.unusedSimpArgs false
set_option linter.unusedVariables false
namespace Go.Proofs.YteadlcncnhbmjaaGreatDoor
open Go.RowKit Go.Lib
set_option linter.unusedVariables false
set_option linter.unusedSimpArgs false

set_option maxHeartbeats 8000000 in
set_option maxRecDepth 100000 in
theorem events_law (ok : Nat → Prop) (cells : Array Value) (e : List Ar.FV) (w : World) (h : EvOf ok w cells e) (hR : Ready w) : Calls Tryz.prog 5 #[.agg cells] w fun r w' => r = .returned (.bool true) ∧ Below w.heap.size w w' := by
  have HRY := Lib.hid hR
  have HLV : Hid (∀ W, Ready W → Calls Tryz.prog 13 #[] W fun e w' => e = .returned (.bool true) ∧ Below W.heap.size W w') := Lib.hid (fun W h => lives_any W h)
  have HB0 := Lib.hid ((Below.refl w.heap.size w).alloc (Nat.le_refl _) (.cells cells 40))
  have HE0 : Hid (EvOf ok (w.alloc (.cells cells 40)) cells e) := Lib.hid (h.below ((Below.refl w.heap.size w).alloc (Nat.le_refl _) (.cells cells 40)))
  have HK0 := Lib.hid (Blk.new w 40 cells)
  have HS0 : Hid ((Tryz.prog.info? 40).map (·.size) = some cells.size) := Lib.hid (by rw [size_event, h.size])
  have HFT := Lib.hid h.fits
  clear hR h
  go_enter Tryz.func5, Tryz.ntmps5
  go_wp2_with (refine wpList_load_row rfl 40 _ rfl w.heap.size rfl 40 cells (0, 0) _ HK0.out Tryz.underlying40 rfl HS0.out ?_)
  refine (brief_ev ok cells e _ HE0.out).mono ?_
  rintro r w1 ⟨⟨b, rfl, hb⟩, hb1⟩
  have HB1 := Lib.hid (HB0.out.trans (hb1.mono HB0.out.size))
  have HE1 := Lib.hid (HE0.out.below hb1)
  have HK1 := Lib.hid (HK0.out.below hb1 HK0.out.lt)
  clear hb1
  cases b with
  | false =>
    clear hb
    go_wp2_with fail
    refine (HLV.out _ (HRY.out.below HB1.out)).mono ?_
    rintro r w2 ⟨rfl, hb2⟩
    have HB2 := Lib.hid (HB1.out.trans (hb2.mono HB1.out.size))
    clear hb2
    go_wp2_with fail
    go_ret
    exact ⟨rfl, HB2.out⟩
  | true =>
    obtain ⟨hw, hlen⟩ := hb rfl
    have HW := Lib.hid hw
    clear hb hw
    have HEV := Lib.hid (fun W (h : EvOf ok W cells e) => event_any ok cells e W h HW.out (by omega))
    have HRV := Lib.hid (fun W (h : EvOf ok W cells e) => revent_any ok cells e W h HW.out (by omega))
    have hsz : (bstr (Ar.line e)).size ≤ 100000 := by rw [bstr_size]; exact hlen
    have HRE := Lib.hid (fun W h => readevent_any (bstr (Ar.line e)) W (by omega) h)
    rw [show (bstr (Ar.line e)).data.toList = Ar.line e from rfl] at HRE
    have HPL := Lib.hid (Ar.parse_line e HFT.out)
    have HLN := Lib.hid (fun W h => lines_any (bstr (Ar.line e)) W (by omega) h)
    rw [show (bstr (Ar.line e)).data.toList = Ar.line e from rfl, Ar.lines_of_noLF _ (Ar.nl_line e), show ([Ar.line e] : List (List UInt8)).length = 1 from rfl] at HLN
    have hee := beq_self_eq_true (bstr (Ar.line e)).toList
    clear hlen
    generalize bstr (Ar.line e) = S at *
    go_wp2_with (refine wpList_load_row rfl 40 _ rfl w.heap.size rfl 40 cells (0, 0) _ HK1.out Tryz.underlying40 rfl HS0.out ?_)
    refine (HEV.out _ HE1.out).mono ?_
    rintro r w2 ⟨rfl, hb2⟩
    have HB2 := Lib.hid (HB1.out.trans (hb2.mono HB1.out.size))
    have HE2 := Lib.hid (HE1.out.below hb2)
    have HK2 := Lib.hid (HK1.out.below hb2 HK1.out.lt)
    clear hb2
    go_wp2_with fail
    refine (HRE.out _ (HRY.out.below HB2.out)).mono ?_
    rintro r w3 ⟨hrev, hb3⟩
    have hrev2 : ∃ cells', r = .returned (.tuple #[.agg cells', .int .i64 0]) ∧ EvOf (fun b => w2.heap.size ≤ b) w3 cells' e := by
      rcases hrev with ⟨e', cells', hp, h1, h2⟩ | ⟨hp, _⟩
      · rw [HPL.out] at hp
        injection hp with hp
        subst hp
        exact ⟨cells', h1, h2⟩
      · rw [HPL.out] at hp
        cases hp
    obtain ⟨cells', rfl, hev3⟩ := hrev2
    have HX3 := Lib.hid hev3
    have HB3 := Lib.hid (HB2.out.trans (hb3.mono HB2.out.size))
    have HE3 := Lib.hid (HE2.out.below hb3)
    have HK3 := Lib.hid (HK2.out.below hb3 HK2.out.lt)
    have HS3 : Hid ((Tryz.prog.info? 40).map (·.size) = some cells'.size) := Lib.hid (by rw [size_event, hev3.size])
    have HO3 := Lib.hid hev3.one
    have HZ3 : Hid (zeroEv.size = cells'.size) := Lib.hid (by rw [hev3.size]; rfl)
    clear hrev hb3 hev3
    go_wp2_with (first
      | (refine wpList_load_row rfl 40 _ rfl w.heap.size rfl 40 cells (0, 0) _ HK4.out Tryz.underlying40 rfl HS0.out ?_)
      | ((with_reducible refine wpList_store_row' rfl 40 _ _ rfl w3.heap.size cells' ?_ ?_ 40 _ (Blk.new w3 40 _) HS3.out ?_ HO3.out ?_); rfl; rfl; exact HZ3.out; intro w4 hk4 hs4 hbl4; have hz4 := ((Below.refl w3.heap.size w3).alloc (Nat.le_refl _) (.cells zeroEv 40)).trans (hbl4 w3.heap.size (Nat.le_refl _)); have HB4 := Lib.hid (HB3.out.trans (hz4.mono HB3.out.size)); have HE4 := Lib.hid (HE3.out.below hz4); have HX4 := Lib.hid (HX3.out.below hz4); have HK4 := Lib.hid (HK3.out.below hz4 HK3.out.lt); have HF4 := Lib.hid hk4; clear hk4 hs4 hbl4 hz4))
    refine (HRV.out _ HE4.out).mono ?_
    rintro r w5 ⟨rfl, hb5⟩
    have HB5 := Lib.hid (HB4.out.trans (hb5.mono HB4.out.size))
    have HE5 := Lib.hid (HE4.out.below hb5)
    have HX5 := Lib.hid (HX4.out.below hb5)
    have HK5 := Lib.hid (HK4.out.below hb5 HK4.out.lt)
    have HF5 := Lib.hid (HF4.out.below hb5 HF4.out.lt)
    clear hb5
    go_wp2_with (first | (refine load_row_w (by rfl) 40 _ rfl w3.heap.size rfl 40 cells' (0, 0) _ (by rfl) HF5.out Tryz.underlying40 HS3.out ?_) | (refine load_row_w (by rfl) 40 _ rfl w.heap.size rfl 40 cells (0, 0) _ (by rfl) HK5.out Tryz.underlying40 HS0.out ?_))
    refine (ev_same HX5.out HE5.out HW.out).mono ?_
    rintro r w6 ⟨rfl, hb6⟩
    have HB6 := Lib.hid (HB5.out.trans (hb6.mono HB5.out.size))
    clear hb6
    go_wp2_with fail
    refine (HLN.out _ (HRY.out.below HB6.out)).mono ?_
    rintro r w7 ⟨rfl, rfl⟩
    have HB7 : Hid (Below w.heap.size w (w6.alloc (.cells (strL [Ar.line e]).toArray 9))) := Lib.hid (HB6.out.alloc HB6.out.size _)
    generalize hw7 : w6.alloc (.cells (strL [Ar.line e]).toArray 9) = w7 at *
    clear hw7
    go_wp2_with fail
    refine (HLV.out _ (HRY.out.below HB7.out)).mono ?_
    rintro r w8 ⟨rfl, hb8⟩
    have HB8 := Lib.hid (HB7.out.trans (hb8.mono HB7.out.size))
    clear hb8
    go_wp2_with fail
    go_ret
    exact ⟨rfl, HB8.out⟩
end Go.Proofs.YteadlcncnhbmjaaGreatDoor
