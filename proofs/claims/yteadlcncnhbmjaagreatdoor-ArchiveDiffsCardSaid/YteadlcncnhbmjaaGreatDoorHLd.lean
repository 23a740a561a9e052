/- The walk of ArchiveDiffs. -/
import Derived.Test.YteadlcncnhbmjaaGreatDoorMat
import Derived.Test.YteadlcncnhbmjaaGreatDoorMca
import Derived.Test.YteadlcncnhbmjaaGreatDoorMba
import Derived.Deep.RegionHeld3
set_option linter.unusedSimpArgs false
namespace Go.Proofs.YteadlcncnhbmjaaGreatDoor
open Go.RowKit Go.Lib
set_option linter.unusedVariables false
set_option linter.unusedSimpArgs false

theorem rd_b {w w' : World} {A : Option Addr} {n : Nat} {vs : List Value} (hb : Nx w w') (h : Rd w A n vs) : Rd w' A n vs := h.below hb
theorem row_one {w : World} {A : Option Addr} {K : List UInt8} (h : Rd w A [K].length (strL [K])) : ∃ b o, A = some ⟨b, o, none⟩ ∧ w.cell? ⟨b, o, none⟩ = some (.string (bstr K)) := by
  obtain ⟨b, o, e, hc⟩ := h.2 0 (.string (bstr K)) rfl
  exact ⟨b, o, e, hc⟩
set_option maxHeartbeats 8000000 in
set_option maxRecDepth 100000 in
theorem diffs_law (a b : ByteArray) (w : World) (hR : Ready w) : Calls Tryz.prog 9 #[.string a, .string b] w fun e w' => e = .returned (.bool true) ∧ Below w.heap.size w w' := by
  have HRY := Lib.hid hR
  have HSH := Lib.hid (short_any a b w)
  have HLV := Lib.hid (fun W h => lives_any W h)
  clear hR
  go_enter Tryz.func9, Tryz.ntmps9
  go_wp2_with fail
  refine HSH.out.mono ?_
  rintro e w1 ⟨⟨s, rfl, hs⟩, hb1⟩
  have HB1 := Lib.hid hb1
  clear hb1
  cases s with
  | false =>
    clear hs
    go_wp2_with fail
    refine (HLV.out _ (HRY.out.below HB1.out)).mono ?_
    rintro e w2 ⟨rfl, hb2⟩
    have HB2 := Lib.hid (HB1.out.trans (hb2.mono HB1.out.size))
    clear hb2
    go_wp2_with fail
    go_ret
    exact ⟨rfl, HB2.out⟩
  | true =>
    obtain ⟨hsa, hsb, hla, hlb⟩ := hs rfl
    clear hs
    have hza : a.data.toList.length = a.size := str_size a
    have hzb : b.data.toList.length = b.size := str_size b
    have hxs := Ar.lines_short a.data.toList
    have hys := Ar.lines_short b.data.toList
    have hne := Ar.lines_ne a.data.toList
    obtain ⟨hdl, hde⟩ := Ar.dl_size 600 _ (Ar.lines a.data.toList) (Ar.lines b.data.toList) 0 (Nat.le_refl _) (by omega) (by omega) (fun l h => by have := hxs l h; omega) (fun l h => by have := hys l h; omega)
    have hds : (encs (Ar.diff (Ar.lines a.data.toList) (Ar.lines b.data.toList))).length ≤ 200 := by unfold encs Ar.diff; rw [List.length_map]; omega
    have hdx : ∀ s ∈ encs (Ar.diff (Ar.lines a.data.toList) (Ar.lines b.data.toList)), s.length ≤ 2000 := by
      intro s h
      obtain ⟨e, he, rfl⟩ := List.mem_map.1 h
      have := hde e he
      omega
    have hself : encs (Ar.diff (Ar.lines a.data.toList) (Ar.lines a.data.toList)) = [(Ar.Ed.keep (Ar.lines a.data.toList).length).enc] := by rw [Ar.diff_self _ hne]; rfl
    have HCH : Hid (Ar.chgsS [(Ar.Ed.keep (Ar.lines a.data.toList).length).enc] = 0) := Lib.hid rfl
    have HD1 := Lib.hid (fun W h => diff_any a b W (by omega) (by omega) h (by omega) (by omega))
    have HD2 := Lib.hid (fun W h => diff_any a a W (by omega) (by omega) h (by omega) (by omega))
    have HR1 := Lib.hid (fun W => rdiff_any a b W (by omega) (by omega) (by omega) (by omega))
    have HR2 := Lib.hid (fun W => rdiff_any a a W (by omega) (by omega) (by omega) (by omega))
    have HL1 := Lib.hid (fun W h => lines_any a W (by omega) h)
    have HL2 := Lib.hid (fun W => rlines_any a W (by omega))
    have HAP : Hid (∀ A c W, Rd W A (encs (Ar.diff (Ar.lines a.data.toList) (Ar.lines b.data.toList))).length (strL (encs (Ar.diff (Ar.lines a.data.toList) (Ar.lines b.data.toList)))) → Ready W → Calls Tryz.prog 33 #[.string a, .slice A (encs (Ar.diff (Ar.lines a.data.toList) (Ar.lines b.data.toList))).length c] W fun e w' => e = .returned (.tuple #[.string b, .bool true]) ∧ Below W.heap.size W w') := Lib.hid (fun A c W hr h => by
      refine (apply_any a A c _ W hr (by omega) (by omega) hdx h).mono ?_
      rintro e w' ⟨hap, hb⟩
      refine ⟨?_, hb⟩
      rw [show encs (Ar.diff (Ar.lines a.data.toList) (Ar.lines b.data.toList)) = (Ar.diff (Ar.lines a.data.toList) (Ar.lines b.data.toList)).map Ar.Ed.enc from rfl, Ar.apply_diff _ _ (by omega)] at hap
      rcases hap with ⟨t, ht, h1⟩ | ⟨ht, _⟩
      · injection ht with ht
        rw [h1, ← ht]
        rfl
      · cases ht)
    rw [hself] at HD2 HR2
    have hlx : (Ar.lines a.data.toList).length ≤ 40 := hla
    clear hdl hde hdx hself hxs hys hne hza hzb hla hlb
    generalize (Ar.Ed.keep (Ar.lines a.data.toList).length).enc = K at *
    generalize encs (Ar.diff (Ar.lines a.data.toList) (Ar.lines b.data.toList)) = D at *
    generalize Ar.lines a.data.toList = X at *
    have hbb : (b.toList == b.toList) = true := beq_self_eq_true _
    go_wp2_with fail
    refine (HD1.out _ (HRY.out.below HB1.out)).mono ?_
    rintro e w2 ⟨v2, rfl, ho2, hb2⟩
    obtain ⟨A2, c2, rfl⟩ := own_any ho2
    have HD2R := Lib.hid (Rd.of_own ho2)
    have HB2 := Lib.hid (HB1.out.trans (hb2.mono HB1.out.size))
    clear ho2 hb2
    go_wp2_with fail
    refine (HAP.out _ _ _ HD2R.out (HRY.out.below HB2.out)).mono ?_
    rintro e w3 ⟨rfl, hb3⟩
    have HD3R := Lib.hid (HD2R.out.below hb3)
    have HB3 := Lib.hid (HB2.out.trans (hb3.mono HB2.out.size))
    clear hb3
    go_wp2_with fail
    refine (HD2.out _ (HRY.out.below HB3.out)).mono ?_
    rintro e w4 ⟨v4, rfl, ho4, hb4⟩
    obtain ⟨A4, c4, rfl⟩ := own_any ho4
    have HK4 := Lib.hid (Rd.of_own ho4)
    have HD4R := Lib.hid (HD3R.out.below hb4)
    have HB4 := Lib.hid (HB3.out.trans (hb4.mono HB3.out.size))
    clear ho4 hb4
    have HY4 : Hid (∀ W, Below w4.heap.size w4 W → Ready W) := Lib.hid (fun W h => HRY.out.below (HB4.out.trans (h.mono HB4.out.size)))
    obtain ⟨b4, o4, hA4, hc4⟩ := row_one HK4.out
    subst hA4
    have KL1 : Hid (∀ W, Below w4.heap.size w4 W → Calls Tryz.prog 23 #[.string a] W fun e w' => (∃ g, e = .returned (.slice (some ⟨g, 0, none⟩) X.length X.length) ∧ Rd w' (some ⟨g, 0, none⟩) X.length (strL X)) ∧ Nx W w') := Lib.hid (fun W h => (HL1.out W (HY4.out W h)).mono (by
      rintro e w' ⟨rfl, rfl⟩
      exact ⟨⟨_, rfl, Rd.litS W X⟩, (Below.refl _ _).alloc (Nat.le_refl _) _⟩))
    have KL2 : Hid (∀ W, Calls Tryz.prog 35 #[.string a] W fun e w' => (∃ A c, e = .returned (.slice A X.length c) ∧ Rd w' A X.length (strL X)) ∧ Nx W w') := Lib.hid (fun W => (HL2.out W).mono (by
      rintro e w' ⟨⟨v, rfl, ho⟩, hb⟩
      obtain ⟨A, c, rfl⟩ := own_any ho
      exact ⟨⟨A, c, rfl, Rd.of_own ho⟩, hb⟩))
    have KS1 : Hid (∀ A B ca cb W, Rd W A X.length (strL X) → Rd W B X.length (strL X) → Calls Tryz.prog 34 #[.slice A X.length ca, .slice B X.length cb] W fun e w' => e = .returned (.bool true) ∧ Nx W w') := Lib.hid (fun A B ca cb W h1 h2 => (sameT13_any A B ca cb X W h1 h2 (by omega)).mono (by
      rintro e w' ⟨rfl, q, rfl⟩
      exact ⟨rfl, below_drewN (Below.refl _ _) q⟩))
    have KS2 : Hid (∀ B cb W, Below w4.heap.size w4 W → Rd W B D.length (strL D) → Calls Tryz.prog 34 #[.slice A2 D.length c2, .slice B D.length cb] W fun e w' => e = .returned (.bool true) ∧ Nx W w') := Lib.hid (fun B cb W h h2 => (sameT13_any A2 B c2 cb D W (HD4R.out.below h) h2 (by omega)).mono (by
      rintro e w' ⟨rfl, q, rfl⟩
      exact ⟨rfl, below_drewN (Below.refl _ _) q⟩))
    have KR1 : Hid (∀ W, Calls Tryz.prog 36 #[.string a, .string b] W fun e w' => (∃ A c, e = .returned (.slice A D.length c) ∧ Rd w' A D.length (strL D)) ∧ Nx W w') := Lib.hid (fun W => (HR1.out W).mono (by
      rintro e w' ⟨v, rfl, ho, hb⟩
      obtain ⟨A, c, rfl⟩ := own_any ho
      exact ⟨⟨A, c, rfl, Rd.of_own ho⟩, hb⟩))
    have KR2 : Hid (∀ W, Calls Tryz.prog 36 #[.string a, .string a] W fun e w' => (∃ b o c, e = .returned (.slice (some ⟨b, o, none⟩) 1 c) ∧ w'.cell? ⟨b, o, none⟩ = some (.string (bstr K))) ∧ Nx W w') := Lib.hid (fun W => (HR2.out W).mono (by
      rintro e w' ⟨v, rfl, ho, hb⟩
      obtain ⟨A, c, rfl⟩ := own_any ho
      obtain ⟨b, o, rfl, hc⟩ := row_one (Rd.of_own ho)
      exact ⟨⟨b, o, c, rfl, hc⟩, hb⟩))
    have KC : Hid (∀ W, Below w4.heap.size w4 W → Calls Tryz.prog 37 #[.slice (some ⟨b4, o4, none⟩) 1 c4] W fun e w' => e = .returned (.int .i64 0) ∧ Nx W w') := Lib.hid (fun W h => (changes_any (some ⟨b4, o4, none⟩) c4 [K] W (HK4.out.below h) (by rw [List.length_singleton]; omega)).mono (by
      rintro e w' ⟨rfl, q, rfl⟩
      exact ⟨by rw [HCH.out]; rfl, below_drewN (Below.refl _ _) q⟩))
    have KV : Hid (∀ W, Below w4.heap.size w4 W → Calls Tryz.prog 13 #[] W fun e w' => e = .returned (.bool true) ∧ Nx W w') := Lib.hid (fun W h => HLV.out W (HY4.out W h))
    have KB : Hid (∀ W, Below w4.heap.size w4 W → Below w.heap.size w W) := Lib.hid (fun W h => HB4.out.trans (h.mono HB4.out.size))
    have hB : Below w4.heap.size w4 w4 := Below.refl _ _
    have hkk : ((bstr K).toList == (bstr K).toList) = true := beq_self_eq_true _
    rw [show ([K] : List (List UInt8)).length = 1 from rfl]
    clear HLV HD1 HD2 HR1 HR2 HL1 HL2 HAP HCH HRY HSH
    generalize bstr K = SK at *
    go_wp2_with fail
    refine wp_region_noPanic ?_
    refine wp_region_held_drew (S := fun W => W.cell? ⟨b4, o4, none⟩ = some (.string SK) ∧ Below w4.heap.size w4 W) (by kernel_rfl) ?_ (fun hHeld => ?_)
    · exact ⟨keep_drew hc4, hB.drew⟩
    refine wpAnyH_take (i := 0) (oi := _) (v := ?_) rfl (by kernel_rfl) (by kernel_rfl) (by kernel_rfl) (fun _ _ _ h => h) (Or.inl ⟨by rfl, ?_⟩) (by assumption) ?_
    rotate_left
    · intro wq hSw
      (try dsimp only at hSw)
      go_simp
      (try with_reducible rfl)
    (try simp only [Act.put, List.getElem_toArray, List.getElem_cons_zero, List.getElem_cons_succ, List.setIfInBounds_toArray, List.set_cons_zero, List.set_cons_succ])
    refine wpAnyH_take (i := 2) (oi := _) (v := ?_) rfl (by kernel_rfl) (by kernel_rfl) (by kernel_rfl) (fun _ _ _ h => h) (Or.inl ⟨by rfl, ?_⟩) (by assumption) ?_
    rotate_left
    · intro wq hSw
      (try dsimp only at hSw)
      go_simp
      (try with_reducible rfl)
    (try simp only [Act.put, List.getElem_toArray, List.getElem_cons_zero, List.getElem_cons_succ, List.setIfInBounds_toArray, List.set_cons_zero, List.set_cons_succ])
    refine wpAnyH_ready (rs := [1]) (by kernel_rfl) (by simp) ?_
    refine AllReadyH.cons (o := _) rfl (fun K hK => ?_) AllReadyH.nil
    go_simp
    go_at_call 23
    refine (KL1.out _ hHeld.2).mono ?_
    rintro e wA ⟨⟨gA, rfl, hrA⟩, hbA⟩
    refine hK.out _ _ ?_ (fun hHeld2 => ?_)
    · exact ⟨keep_b hbA hHeld.1, below_b hbA hHeld.2⟩
    clear hK K hHeld
    have hHeld := hHeld2
    clear hHeld2
    (try simp only [Act.put, List.getElem_toArray, List.getElem_cons_zero, List.getElem_cons_succ, List.setIfInBounds_toArray, List.set_cons_zero, List.set_cons_succ])
    refine wpAnyH_ready (rs := [3]) (by kernel_rfl) (by simp) ?_
    refine AllReadyH.cons (o := _) rfl (fun K hK => ?_) AllReadyH.nil
    go_simp
    go_at_call 35
    refine (KL2.out _).mono ?_
    rintro e wB ⟨⟨AB, cB, rfl, hrB⟩, hbB⟩
    refine hK.out _ _ ?_ (fun hHeld2 => ?_)
    · exact ⟨keep_b hbB hHeld.1, below_b hbB hHeld.2⟩
    clear hK K hHeld
    have hHeld := hHeld2
    clear hHeld2
    (try simp only [Act.put, List.getElem_toArray, List.getElem_cons_zero, List.getElem_cons_succ, List.setIfInBounds_toArray, List.set_cons_zero, List.set_cons_succ])
    refine wpAnyH_ready (rs := [4]) (by kernel_rfl) (by simp) ?_
    refine AllReadyH.cons (o := _) rfl (fun K hK => ?_) AllReadyH.nil
    go_simp
    go_at_call 34
    refine (KS1.out _ _ _ _ _ (rd_b hbB hrA) hrB).mono ?_
    rintro e wC ⟨rfl, hbC⟩
    refine hK.out _ _ ?_ (fun hHeld2 => ?_)
    · exact ⟨keep_b hbC hHeld.1, below_b hbC hHeld.2⟩
    clear hK K hHeld
    have hHeld := hHeld2
    clear hHeld2
    (try simp only [Act.put, List.getElem_toArray, List.getElem_cons_zero, List.getElem_cons_succ, List.setIfInBounds_toArray, List.set_cons_zero, List.set_cons_succ])
    refine wpAnyH_take (i := 5) (oi := _) (v := ?_) rfl (by kernel_rfl) (by kernel_rfl) (by kernel_rfl) (fun _ _ _ h => h) (Or.inl ⟨by rfl, ?_⟩) (by assumption) ?_
    rotate_left
    · intro wq hSw
      (try dsimp only at hSw)
      go_simp
      (try with_reducible rfl)
    (try simp only [Act.put, List.getElem_toArray, List.getElem_cons_zero, List.getElem_cons_succ, List.setIfInBounds_toArray, List.set_cons_zero, List.set_cons_succ])
    refine wpAnyH_take (i := 6) (oi := _) (v := ?_) rfl (by kernel_rfl) (by kernel_rfl) (by kernel_rfl) (fun _ _ _ h => h) (Or.inl ⟨by rfl, ?_⟩) (by assumption) ?_
    rotate_left
    · intro wq hSw
      (try dsimp only at hSw)
      go_simp
      (try with_reducible rfl)
    (try simp only [Act.put, List.getElem_toArray, List.getElem_cons_zero, List.getElem_cons_succ, List.setIfInBounds_toArray, List.set_cons_zero, List.set_cons_succ])
    refine wpAnyH_take (i := 7) (oi := _) (v := ?_) rfl (by kernel_rfl) (by kernel_rfl) (by kernel_rfl) (fun _ _ _ h => h) (Or.inl ⟨by rfl, ?_⟩) (by assumption) ?_
    rotate_left
    · intro wq hSw
      (try dsimp only at hSw)
      go_simp
      (try with_reducible rfl)
    (try simp only [Act.put, List.getElem_toArray, List.getElem_cons_zero, List.getElem_cons_succ, List.setIfInBounds_toArray, List.set_cons_zero, List.set_cons_succ])
    refine wpAnyH_take (i := 8) (oi := _) (v := ?_) rfl (by kernel_rfl) (by kernel_rfl) (by kernel_rfl) (fun _ _ _ h => h) (Or.inl ⟨by rfl, ?_⟩) (by assumption) ?_
    rotate_left
    · intro wq hSw
      (try dsimp only at hSw)
      go_simp
      (try with_reducible rfl)
    (try simp only [Act.put, List.getElem_toArray, List.getElem_cons_zero, List.getElem_cons_succ, List.setIfInBounds_toArray, List.set_cons_zero, List.set_cons_succ])
    refine wpAnyH_ready (rs := [9]) (by kernel_rfl) (by simp) ?_
    refine AllReadyH.cons (o := _) rfl (fun K hK => ?_) AllReadyH.nil
    go_simp
    go_at_call 36
    refine (KR1.out _).mono ?_
    rintro e wE ⟨⟨AE, cE, rfl, hrE⟩, hbE⟩
    refine hK.out _ _ ?_ (fun hHeld2 => ?_)
    · exact ⟨keep_b hbE hHeld.1, below_b hbE hHeld.2⟩
    clear hK K hHeld
    have hHeld := hHeld2
    clear hHeld2
    (try simp only [Act.put, List.getElem_toArray, List.getElem_cons_zero, List.getElem_cons_succ, List.setIfInBounds_toArray, List.set_cons_zero, List.set_cons_succ])
    refine wpAnyH_ready (rs := [10]) (by kernel_rfl) (by simp) ?_
    refine AllReadyH.cons (o := _) rfl (fun K hK => ?_) AllReadyH.nil
    go_simp
    go_at_call 34
    refine (KS2.out _ _ _ hHeld.2 hrE).mono ?_
    rintro e wF ⟨rfl, hbF⟩
    refine hK.out _ _ ?_ (fun hHeld2 => ?_)
    · exact ⟨keep_b hbF hHeld.1, below_b hbF hHeld.2⟩
    clear hK K hHeld
    have hHeld := hHeld2
    clear hHeld2
    (try simp only [Act.put, List.getElem_toArray, List.getElem_cons_zero, List.getElem_cons_succ, List.setIfInBounds_toArray, List.set_cons_zero, List.set_cons_succ])
    refine wpAnyH_take (i := 11) (oi := _) (v := ?_) rfl (by kernel_rfl) (by kernel_rfl) (by kernel_rfl) (fun _ _ _ h => h) (Or.inl ⟨by rfl, ?_⟩) (by assumption) ?_
    rotate_left
    · intro wq hSw
      (try dsimp only at hSw)
      go_simp
      (try with_reducible rfl)
    (try simp only [Act.put, List.getElem_toArray, List.getElem_cons_zero, List.getElem_cons_succ, List.setIfInBounds_toArray, List.set_cons_zero, List.set_cons_succ])
    refine wpAnyH_take (i := 12) (oi := _) (v := ?_) rfl (by kernel_rfl) (by kernel_rfl) (by kernel_rfl) (fun _ _ _ h => h) (Or.inl ⟨by rfl, ?_⟩) (by assumption) ?_
    rotate_left
    · intro wq hSw
      (try dsimp only at hSw)
      go_simp
      (try with_reducible rfl)
    (try simp only [Act.put, List.getElem_toArray, List.getElem_cons_zero, List.getElem_cons_succ, List.setIfInBounds_toArray, List.set_cons_zero, List.set_cons_succ])
    refine wpAnyH_take (i := 13) (oi := _) (v := ?_) rfl (by kernel_rfl) (by kernel_rfl) (by kernel_rfl) (fun _ _ _ h => h) (Or.inl ⟨by rfl, ?_⟩) (by assumption) ?_
    rotate_left
    · intro wq hSw
      (try dsimp only at hSw)
      go_simp
      (try with_reducible rfl)
    (try simp only [Act.put, List.getElem_toArray, List.getElem_cons_zero, List.getElem_cons_succ, List.setIfInBounds_toArray, List.set_cons_zero, List.set_cons_succ])
    refine wpAnyH_take (i := 14) (oi := _) (v := ?_) rfl (by kernel_rfl) (by kernel_rfl) (by kernel_rfl) (fun _ _ _ h => h) (Or.inl ⟨by rfl, ?_⟩) (by assumption) ?_
    rotate_left
    · intro wq hSw
      (try dsimp only at hSw)
      go_simp
      (try with_reducible rfl)
    (try simp only [Act.put, List.getElem_toArray, List.getElem_cons_zero, List.getElem_cons_succ, List.setIfInBounds_toArray, List.set_cons_zero, List.set_cons_succ])
    refine wpAnyH_take (i := 15) (oi := _) (v := ?_) rfl (by kernel_rfl) (by kernel_rfl) (by kernel_rfl) (fun _ _ _ h => h) (Or.inl ⟨by rfl, ?_⟩) (by assumption) ?_
    rotate_left
    · intro wq hSw
      (try dsimp only at hSw)
      go_simp
      (try with_reducible rfl)
    (try simp only [Act.put, List.getElem_toArray, List.getElem_cons_zero, List.getElem_cons_succ, List.setIfInBounds_toArray, List.set_cons_zero, List.set_cons_succ])
    refine wpAnyH_take (i := 16) (oi := _) (v := ?_) rfl (by kernel_rfl) (by kernel_rfl) (by kernel_rfl) (fun _ _ _ h => h) (Or.inl ⟨by rfl, ?_⟩) (by assumption) ?_
    rotate_left
    · intro wq hSw
      (try dsimp only at hSw)
      go_simp
      (try with_reducible rfl)
    (try simp only [Act.put, List.getElem_toArray, List.getElem_cons_zero, List.getElem_cons_succ, List.setIfInBounds_toArray, List.set_cons_zero, List.set_cons_succ])
    refine wpAnyH_take (i := 17) (oi := _) (v := ?_) rfl (by kernel_rfl) (by kernel_rfl) (by kernel_rfl) (fun _ _ _ h => h) (Or.inl ⟨by rfl, ?_⟩) (by assumption) ?_
    rotate_left
    · intro wq hSw
      (try dsimp only at hSw)
      go_simp
      (try with_reducible rfl)
    (try simp only [Act.put, List.getElem_toArray, List.getElem_cons_zero, List.getElem_cons_succ, List.setIfInBounds_toArray, List.set_cons_zero, List.set_cons_succ])
    refine wpAnyH_take (i := 18) (oi := _) (v := ?_) rfl (by kernel_rfl) (by kernel_rfl) (by kernel_rfl) (fun _ _ _ h => h) (Or.inl ⟨by rfl, ?_⟩) (by assumption) ?_
    rotate_left
    · intro wq hSw
      (try dsimp only at hSw)
      go_simp
      (try with_reducible rfl)
    (try simp only [Act.put, List.getElem_toArray, List.getElem_cons_zero, List.getElem_cons_succ, List.setIfInBounds_toArray, List.set_cons_zero, List.set_cons_succ])
    refine wpAnyH_take (i := 19) (oi := _) (v := ?_) rfl (by kernel_rfl) (by kernel_rfl) (by kernel_rfl) (fun _ _ _ h => h) (Or.inl ⟨by rfl, ?_⟩) (by assumption) ?_
    rotate_left
    · intro wq hSw
      (try dsimp only at hSw)
      go_simp
      (try with_reducible rfl)
    (try simp only [Act.put, List.getElem_toArray, List.getElem_cons_zero, List.getElem_cons_succ, List.setIfInBounds_toArray, List.set_cons_zero, List.set_cons_succ])
    refine wpAnyH_take (i := 20) (oi := _) (v := ?_) rfl (by kernel_rfl) (by kernel_rfl) (by kernel_rfl) (fun _ _ _ h => h) (Or.inl ⟨by rfl, ?_⟩) (by assumption) ?_
    rotate_left
    · intro wq hSw
      (try dsimp only at hSw)
      go_simp
      (try with_reducible rfl)
    (try simp only [Act.put, List.getElem_toArray, List.getElem_cons_zero, List.getElem_cons_succ, List.setIfInBounds_toArray, List.set_cons_zero, List.set_cons_succ])
    refine wpAnyH_take (i := 21) (oi := _) (v := ?_) rfl (by kernel_rfl) (by kernel_rfl) (by kernel_rfl) (fun _ _ _ h => h) (Or.inl ⟨by rfl, ?_⟩) (by assumption) ?_
    rotate_left
    · intro wq hSw
      (try dsimp only at hSw)
      go_simp
      (try with_reducible rfl)
    (try simp only [Act.put, List.getElem_toArray, List.getElem_cons_zero, List.getElem_cons_succ, List.setIfInBounds_toArray, List.set_cons_zero, List.set_cons_succ])
    refine wpAnyH_take (i := 22) (oi := _) (v := ?_) rfl (by kernel_rfl) (by kernel_rfl) (by kernel_rfl) (fun _ _ _ h => h) (Or.inl ⟨by rfl, ?_⟩) (by assumption) ?_
    rotate_left
    · intro wq hSw
      (try dsimp only at hSw)
      go_simp
      (try with_reducible rfl)
    (try simp only [Act.put, List.getElem_toArray, List.getElem_cons_zero, List.getElem_cons_succ, List.setIfInBounds_toArray, List.set_cons_zero, List.set_cons_succ])
    refine wpAnyH_take (i := 23) (oi := _) (v := ?_) rfl (by kernel_rfl) (by kernel_rfl) (by kernel_rfl) (fun _ _ _ h => h) (Or.inl ⟨by rfl, ?_⟩) (by assumption) ?_
    rotate_left
    · intro wq hSw
      (try dsimp only at hSw)
      go_simp
      (try with_reducible rfl)
    (try simp only [Act.put, List.getElem_toArray, List.getElem_cons_zero, List.getElem_cons_succ, List.setIfInBounds_toArray, List.set_cons_zero, List.set_cons_succ])
    refine wpAnyH_take (i := 24) (oi := _) (v := ?_) rfl (by kernel_rfl) (by kernel_rfl) (by kernel_rfl) (fun _ _ _ h => h) (Or.inl ⟨by rfl, ?_⟩) (by assumption) ?_
    rotate_left
    · intro wq hSw
      (try dsimp only at hSw)
      go_simp
      (try with_reducible rfl)
    (try simp only [Act.put, List.getElem_toArray, List.getElem_cons_zero, List.getElem_cons_succ, List.setIfInBounds_toArray, List.set_cons_zero, List.set_cons_succ])
    refine wpAnyH_take (i := 25) (oi := _) (v := ?_) rfl (by kernel_rfl) (by kernel_rfl) (by kernel_rfl) (fun _ _ _ h => h) (Or.inl ⟨by rfl, ?_⟩) (by assumption) ?_
    rotate_left
    · intro wq hSw
      (try dsimp only at hSw)
      go_simp
      (try with_reducible rfl)
    (try simp only [Act.put, List.getElem_toArray, List.getElem_cons_zero, List.getElem_cons_succ, List.setIfInBounds_toArray, List.set_cons_zero, List.set_cons_succ])
    refine wpAnyH_take (i := 26) (oi := _) (v := ?_) rfl (by kernel_rfl) (by kernel_rfl) (by kernel_rfl) (fun _ _ _ h => h) (Or.inl ⟨by rfl, ?_⟩) (by assumption) ?_
    rotate_left
    · intro wq hSw
      (try dsimp only at hSw)
      go_simp
      (try with_reducible rfl)
    (try simp only [Act.put, List.getElem_toArray, List.getElem_cons_zero, List.getElem_cons_succ, List.setIfInBounds_toArray, List.set_cons_zero, List.set_cons_succ])
    refine wpAnyH_ready (rs := [27]) (by kernel_rfl) (by simp) ?_
    refine AllReadyH.cons (o := _) rfl (fun K hK => ?_) AllReadyH.nil
    go_simp
    go_at_call 37
    refine (KC.out _ hHeld.2).mono ?_
    rintro e wG ⟨rfl, hbG⟩
    refine hK.out _ _ ?_ (fun hHeld2 => ?_)
    · exact ⟨keep_b hbG hHeld.1, below_b hbG hHeld.2⟩
    clear hK K hHeld
    have hHeld := hHeld2
    clear hHeld2
    (try simp only [Act.put, List.getElem_toArray, List.getElem_cons_zero, List.getElem_cons_succ, List.setIfInBounds_toArray, List.set_cons_zero, List.set_cons_succ])
    refine wpAnyH_take (i := 28) (oi := _) (v := ?_) rfl (by kernel_rfl) (by kernel_rfl) (by kernel_rfl) (fun _ _ _ h => h) (Or.inl ⟨by rfl, ?_⟩) (by assumption) ?_
    rotate_left
    · intro wq hSw
      (try dsimp only at hSw)
      go_simp
      (try with_reducible rfl)
    (try simp only [Act.put, List.getElem_toArray, List.getElem_cons_zero, List.getElem_cons_succ, List.setIfInBounds_toArray, List.set_cons_zero, List.set_cons_succ])
    refine wpAnyH_take (i := 29) (oi := _) (v := ?_) rfl (by kernel_rfl) (by kernel_rfl) (by kernel_rfl) (fun _ _ _ h => h) (Or.inl ⟨by rfl, ?_⟩) (by assumption) ?_
    rotate_left
    · intro wq hSw
      (try dsimp only at hSw)
      go_simp
      (try with_reducible rfl)
    (try simp only [Act.put, List.getElem_toArray, List.getElem_cons_zero, List.getElem_cons_succ, List.setIfInBounds_toArray, List.set_cons_zero, List.set_cons_succ])
    refine wpAnyH_take (i := 30) (oi := _) (v := ?_) rfl (by kernel_rfl) (by kernel_rfl) (by kernel_rfl) (fun _ _ _ h => h) (Or.inl ⟨by rfl, ?_⟩) (by assumption) ?_
    rotate_left
    · intro wq hSw
      (try dsimp only at hSw)
      go_simp
      (try with_reducible rfl)
    (try simp only [Act.put, List.getElem_toArray, List.getElem_cons_zero, List.getElem_cons_succ, List.setIfInBounds_toArray, List.set_cons_zero, List.set_cons_succ])
    refine wpAnyH_take (i := 31) (oi := _) (v := ?_) rfl (by kernel_rfl) (by kernel_rfl) (by kernel_rfl) (fun _ _ _ h => h) (Or.inl ⟨by rfl, ?_⟩) (by assumption) ?_
    rotate_left
    · intro wq hSw
      (try dsimp only at hSw)
      go_simp
      (try with_reducible rfl)
    (try simp only [Act.put, List.getElem_toArray, List.getElem_cons_zero, List.getElem_cons_succ, List.setIfInBounds_toArray, List.set_cons_zero, List.set_cons_succ])
    refine wpAnyH_take (i := 32) (oi := _) (v := ?_) rfl (by kernel_rfl) (by kernel_rfl) (by kernel_rfl) (fun _ _ _ h => h) (Or.inl ⟨by rfl, ?_⟩) (by assumption) ?_
    rotate_left
    · intro wq hSw
      (try dsimp only at hSw)
      go_simp
      (try with_reducible rfl)
    (try simp only [Act.put, List.getElem_toArray, List.getElem_cons_zero, List.getElem_cons_succ, List.setIfInBounds_toArray, List.set_cons_zero, List.set_cons_succ])
    refine wpAnyH_take (i := 33) (oi := _) (v := ?_) rfl (by kernel_rfl) (by kernel_rfl) (by kernel_rfl) (fun _ _ _ h => h) (Or.inl ⟨by rfl, ?_⟩) (by assumption) ?_
    rotate_left
    · intro wq hSw
      obtain ⟨hSw1, hSw2⟩ := hSw
      go_simp
      (try with_reducible rfl)
    (try simp only [Act.put, List.getElem_toArray, List.getElem_cons_zero, List.getElem_cons_succ, List.setIfInBounds_toArray, List.set_cons_zero, List.set_cons_succ])
    refine wpAnyH_take (i := 34) (oi := _) (v := ?_) rfl (by kernel_rfl) (by kernel_rfl) (by kernel_rfl) (fun _ _ _ h => h) (Or.inl ⟨by rfl, ?_⟩) (by assumption) ?_
    rotate_left
    · intro wq hSw
      (try dsimp only at hSw)
      go_simp
      (try with_reducible rfl)
    (try simp only [Act.put, List.getElem_toArray, List.getElem_cons_zero, List.getElem_cons_succ, List.setIfInBounds_toArray, List.set_cons_zero, List.set_cons_succ])
    refine wpAnyH_take (i := 35) (oi := _) (v := ?_) rfl (by kernel_rfl) (by kernel_rfl) (by kernel_rfl) (fun _ _ _ h => h) (Or.inl ⟨by rfl, ?_⟩) (by assumption) ?_
    rotate_left
    · intro wq hSw
      (try dsimp only at hSw)
      go_simp
      (try with_reducible rfl)
    (try simp only [Act.put, List.getElem_toArray, List.getElem_cons_zero, List.getElem_cons_succ, List.setIfInBounds_toArray, List.set_cons_zero, List.set_cons_succ])
    refine wpAnyH_ready (rs := [36]) (by kernel_rfl) (by simp) ?_
    refine AllReadyH.cons (o := _) rfl (fun K hK => ?_) AllReadyH.nil
    go_simp
    go_at_call 36
    refine (KR2.out _).mono ?_
    rintro e wH ⟨⟨bH, oH, cH, rfl, hcH⟩, hbH⟩
    refine hK.out _ _ ?_ (fun hHeld2 => ?_)
    · exact ⟨keep_b hbH hHeld.1, below_b hbH hHeld.2⟩
    clear hK K hHeld
    have hHeld := hHeld2
    clear hHeld2
    (try simp only [Act.put, List.getElem_toArray, List.getElem_cons_zero, List.getElem_cons_succ, List.setIfInBounds_toArray, List.set_cons_zero, List.set_cons_succ])
    refine wpAnyH_take (i := 37) (oi := _) (v := ?_) rfl (by kernel_rfl) (by kernel_rfl) (by kernel_rfl) (fun _ _ _ h => h) (Or.inl ⟨by rfl, ?_⟩) (by assumption) ?_
    rotate_left
    · intro wq hSw
      (try dsimp only at hSw)
      go_simp
      (try with_reducible rfl)
    (try simp only [Act.put, List.getElem_toArray, List.getElem_cons_zero, List.getElem_cons_succ, List.setIfInBounds_toArray, List.set_cons_zero, List.set_cons_succ])
    refine wpAnyH_ready (rs := [38]) (by kernel_rfl) (by simp) ?_
    refine AllReadyH.cons (o := _) rfl (fun K hK => ?_) AllReadyH.nil
    go_simp
    refine hK.out _ _ ?_ (fun hHeld2 => ?_)
    · exact hHeld
    clear hK K hHeld
    have hHeld := hHeld2
    clear hHeld2
    (try simp only [Act.put, List.getElem_toArray, List.getElem_cons_zero, List.getElem_cons_succ, List.setIfInBounds_toArray, List.set_cons_zero, List.set_cons_succ])
    refine wpAnyH_take (i := 39) (oi := _) (v := ?_) rfl (by kernel_rfl) (by kernel_rfl) (by kernel_rfl) (fun _ _ _ h => h) (Or.inl ⟨by rfl, ?_⟩) (by assumption) ?_
    rotate_left
    · intro wq hSw
      (try dsimp only at hSw)
      go_simp
      (try with_reducible rfl)
    (try simp only [Act.put, List.getElem_toArray, List.getElem_cons_zero, List.getElem_cons_succ, List.setIfInBounds_toArray, List.set_cons_zero, List.set_cons_succ])
    refine wpAnyH_take (i := 40) (oi := _) (v := ?_) rfl (by kernel_rfl) (by kernel_rfl) (by kernel_rfl) (fun _ _ _ h => h) (Or.inl ⟨by rfl, ?_⟩) (by assumption) ?_
    rotate_left
    · intro wq hSw
      (try dsimp only at hSw)
      go_simp
      (try with_reducible rfl)
    (try simp only [Act.put, List.getElem_toArray, List.getElem_cons_zero, List.getElem_cons_succ, List.setIfInBounds_toArray, List.set_cons_zero, List.set_cons_succ])
    refine wpAnyH_take (i := 41) (oi := _) (v := ?_) rfl (by kernel_rfl) (by kernel_rfl) (by kernel_rfl) (fun _ _ _ h => h) (Or.inl ⟨by rfl, ?_⟩) (by assumption) ?_
    rotate_left
    · intro wq hSw
      (try dsimp only at hSw)
      go_simp
      (try with_reducible rfl)
    (try simp only [Act.put, List.getElem_toArray, List.getElem_cons_zero, List.getElem_cons_succ, List.setIfInBounds_toArray, List.set_cons_zero, List.set_cons_succ])
    refine wpAnyH_ready (rs := [42]) (by kernel_rfl) (by simp) ?_
    refine AllReadyH.cons (o := _) rfl (fun K hK => ?_) AllReadyH.nil
    go_simp
    go_at_call 13
    refine (KV.out _ hHeld.2).mono ?_
    rintro e wI ⟨rfl, hbI⟩
    refine hK.out _ _ ?_ (fun hHeld2 => ?_)
    · exact ⟨keep_b hbI hHeld.1, below_b hbI hHeld.2⟩
    clear hK K hHeld
    have hHeld := hHeld2
    clear hHeld2
    (try simp only [Act.put, List.getElem_toArray, List.getElem_cons_zero, List.getElem_cons_succ, List.setIfInBounds_toArray, List.set_cons_zero, List.set_cons_succ])
    refine wpAnyH_take (i := 43) (oi := _) (v := ?_) rfl (by kernel_rfl) (by kernel_rfl) (by kernel_rfl) (fun _ _ _ h => h) (Or.inl ⟨by rfl, ?_⟩) (by assumption) ?_
    rotate_left
    · intro wq hSw
      (try dsimp only at hSw)
      go_simp
      (try with_reducible rfl)
    (try simp only [Act.put, List.getElem_toArray, List.getElem_cons_zero, List.getElem_cons_succ, List.setIfInBounds_toArray, List.set_cons_zero, List.set_cons_succ])
    refine wpAnyH_take (i := 44) (oi := _) (v := ?_) rfl (by kernel_rfl) (by kernel_rfl) (by kernel_rfl) (fun _ _ _ h => h) (Or.inl ⟨by rfl, ?_⟩) (by assumption) ?_
    rotate_left
    · intro wq hSw
      (try dsimp only at hSw)
      go_simp
      (try with_reducible rfl)
    (try simp only [Act.put, List.getElem_toArray, List.getElem_cons_zero, List.getElem_cons_succ, List.setIfInBounds_toArray, List.set_cons_zero, List.set_cons_succ])
    refine wpAnyH_done (by kernel_rfl) ?_ _
    refine NoPanic.normal ?_
    go_wp2_with fail
    go_ret
    exact ⟨rfl, KB.out _ hHeld.2⟩
end Go.Proofs.YteadlcncnhbmjaaGreatDoor
