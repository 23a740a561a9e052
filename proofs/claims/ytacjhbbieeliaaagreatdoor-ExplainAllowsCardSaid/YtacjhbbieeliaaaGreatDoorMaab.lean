/- The texts Qd, Qf, Qg, Qe of this proof, one behind the other. -/
import Derived.BigQuiet
import Derived.Test.YtacjhbbieeliaaaGreatDoorMaaa
import Derived.Test.YtacjhbbieeliaaaGreatDoorMat
import Derived.Test.YtacjhbbieeliaaaGreatDoorMas
set_option linter.unusedSimpArgs false
set_option maxHeartbeats 16000000
set_option maxRecDepth 100000
/- The text Qd. -/
namespace Go.Proofs.YtacjhbbieeliaaaGreatDoor
open Go.RowKit Go.Lib
set_option linter.unusedVariables false
set_option linter.unusedSimpArgs false
theorem rchange_any (ok : Nat → Prop) (v u : Co.Lv) (XV XU : List Value) (user : List UInt8) (w : World) (hv : LvV ok w XV v) (hu : LvV ok w XU u) (hvs : v.users.length ≤ 1000000 ∧ v.kinds.length ≤ 1000000) (hus : u.users.length ≤ 1000000 ∧ u.kinds.length ≤ 1000000) :
  Calls Tryz.prog 67 #[.agg XV.toArray, .agg XU.toArray, .string (bstr user)] w fun e w' => e = .returned (.int .i64 (Co.changeE v u user)) ∧ Below w.heap.size w w' := by
 have hb1 := (Below.refl w.heap.size w).alloc (Nat.le_refl _) (.cells XV.toArray 28)
 have hb2 := hb1.alloc (by rw [World.size_alloc]; omega) (.cells XU.toArray 28)
 have hk1 := (Blk.new w 28 XV.toArray).alloc (.cells XU.toArray 28)
 have hk2 := Blk.new (w.alloc (.cells XV.toArray 28)) 28 XU.toArray
 rw [World.size_alloc] at hk2
 have HB2 := hid hb2
 have HK1 := hid hk1
 have HK2 := hid hk2
 have HV2 := hid (hv.bel hb2)
 have HU2 := hid (hu.bel hb2)
 have HSV : Hid ((Tryz.prog.info? 28).map (·.size) = some XV.toArray.size) := hid (by rw [size_lv, List.size_toArray, hv.len])
 have HSU : Hid ((Tryz.prog.info? 28).map (·.size) = some XU.toArray.size) := hid (by rw [size_lv, List.size_toArray, hu.len])
 have HVS := hid hvs
 have HUS := hid hus
 obtain ⟨R, hR⟩ : ∃ R, R = Co.changeE v u user := ⟨_, rfl⟩
 have HR := hid hR
 rw [← hR]
 clear hR hb1 hb2 hk1 hk2 hv hu hvs hus
 generalize hw2 : (w.alloc (.cells XV.toArray 28)).alloc (.cells XU.toArray 28) = w2 at *
 go_enter Tryz.func67, Tryz.ntmps67
 go_wp2_with (refine wpList_load_row rfl 28 _ rfl w.heap.size rfl 28 XV.toArray (0, 0) _ HK1.out Tryz.underlying28 rfl HSV.out ?_)
 refine (rlvuser_any ok v XV user w2 HV2.out HVS.out.1).mono ?_
 rintro e w3 ⟨rfl, hb3⟩
 have HBW3 := hid (HB2.out.trans (hb3.mono HB2.out.size))
 have HK13 := hid (HK1.out.below hb3 HK1.out.lt)
 have HK23 := hid (HK2.out.below hb3 HK2.out.lt)
 have HV3 := hid (HV2.out.bel hb3)
 have HU3 := hid (HU2.out.bel hb3)
 clear hb3 HK1 HK2 HV2 HU2
 obtain ⟨own, hown⟩ : ∃ own, own = Co.userLv v user := ⟨_, rfl⟩
 have HOWN := hid hown.symm
 rw [← hown]
 clear hown
 go_upto_region 2 with fail
 refine wp_region_noPanic ?_
 refine wp_region_held_drew (S := fun W => Below w3.heap.size w3 W) (by kernel_rfl) ((Below.refl _ _).drew) (fun hHeld => ?_)
 generalize hwd : w3.drew = wd at *
 have HBd := hid hHeld
 clear hwd
 refine wpAnyH_take (i := 0) (oi := _) (v := _) rfl (by kernel_rfl) (by kernel_rfl) (by kernel_rfl) (fun _ _ _ h => h) (row_yields_u (X := XV.toArray) rfl Tryz.underlying28 HSV.out (fun W h => HK13.out.below h HK13.out.lt) (by kernel_rfl) _ rfl rfl) hHeld ?_
 (try simp only [Act.put, pk1, pk2, pk3, pk4, pk5, pk6])
 refine wpAnyH_take (i := 2) (oi := _) (v := _) rfl (by kernel_rfl) (by kernel_rfl) (by kernel_rfl) (fun _ _ _ h => h) (row_yields_u (X := XU.toArray) rfl Tryz.underlying28 HSU.out (fun W h => HK23.out.below h HK23.out.lt) (by kernel_rfl) _ rfl rfl) hHeld ?_
 (try simp only [Act.put, pk1, pk2, pk3, pk4, pk5, pk6])
 refine wpAnyH_ready (rs := [1]) (by kernel_rfl) (by simp) ?_
 refine AllReadyH.cons (o := _) rfl (fun K hK => ?_) AllReadyH.nil
 go_simp
 go_at_call 96
 refine (rnumbers_any ok v XV wd (HV3.out.bel HBd.out)).mono ?_
 rintro e wa ⟨⟨A8, rfl, hr8⟩, hba⟩
 have HBa := hid (HBd.out.trans (hba.mono HBd.out.size))
 have HR8a := hid hr8
 clear hba hr8
 refine hK.out _ _ (HBa.out) (fun hHeld2 => ?_)
 clear hK K hHeld
 have hHeld := hHeld2
 clear hHeld2
 (try simp only [Act.put, pk1, pk2, pk3, pk4, pk5, pk6])
 refine wpAnyH_ready (rs := [3]) (by kernel_rfl) (by simp) ?_
 refine AllReadyH.cons (o := _) rfl (fun K hK => ?_) AllReadyH.nil
 go_simp
 go_at_call 96
 refine (rnumbers_any ok u XU wa (HU3.out.bel HBa.out)).mono ?_
 rintro e w4 ⟨⟨A9, rfl, hr9⟩, hbb⟩
 have HBb := hid (HBa.out.trans (hbb.mono HBa.out.size))
 have HR8 := hid (HR8a.out.below hbb)
 have HR9 := hid hr9
 clear hbb hr9
 refine hK.out _ _ (HBb.out) (fun hHeld2 => ?_)
 clear hK K hHeld
 have hHeld := hHeld2
 clear hHeld2
 (try simp only [Act.put, pk1, pk2, pk3, pk4, pk5, pk6])
 refine wpAnyH_take (i := 4) (oi := _) (v := ?_) rfl (by kernel_rfl) (by kernel_rfl) (by kernel_rfl) (fun _ _ _ h => h) (Or.inl ⟨by kernel_rfl, ?_⟩) hHeld ?_
 rotate_left
 ·intro wq hSw
  go_simp
  (try with_reducible rfl)
 (try simp only [Act.put, pk1, pk2, pk3, pk4, pk5, pk6])
 refine wpAnyH_take (i := 5) (oi := _) (v := ?_) rfl (by kernel_rfl) (by kernel_rfl) (by kernel_rfl) (fun _ _ _ h => h) (Or.inl ⟨by kernel_rfl, ?_⟩) hHeld ?_
 rotate_left
 ·intro wq hSw
  go_simp
  (try with_reducible rfl)
 (try simp only [Act.put, pk1, pk2, pk3, pk4, pk5, pk6])
 refine wpAnyH_done (by kernel_rfl) ?_ _
 refine NoPanic.normal ?_
 have HBW4 := hid (HBW3.out.trans (HBb.out.mono HBW3.out.size))
 have HK14 := hid (HK13.out.below HBb.out HK13.out.lt)
 have HK24 := hid (HK23.out.below HBb.out HK23.out.lt)
 have HV4 := hid (HV3.out.bel HBb.out)
 have HU4 := hid (HU3.out.bel HBb.out)
 clear HK13 HK23 HV3 HU3 HBd HBa HBb HBW3 HR8a
 obtain ⟨_, _, hXV, ⟨Avu, cvu, rfl, hvu, -⟩, ⟨Avk, cvk, rfl, hvk, -⟩⟩ := HV4.out
 obtain ⟨_, _, hXU, ⟨Auu, cuu, rfl, huu, -⟩, ⟨Auk, cuk, rfl, huk, -⟩⟩ := HU4.out
 have HVUr := hid hvu
 have HKV := hid hvk
 have HUUr := hid huu
 have HKU := hid huk
 have HXV := hid hXV
 have HXU := hid hXU
 clear hXV hXU
 clear hvu hvk huu huk
 go_wp2_with fail
 go_loopw [10] (fun ix wr => ∃ j : Nat, j ≤ 7 ∧ ix = .int .i64 (j : Int) ∧ Hid (Co.numsBad v u own = badFrom v u own j) ∧ Below w4.heap.size w4 wr) (fun ix _ => 7 - (RowKit.intOf ix).toNat)
 case atStart => exact ⟨0, Nat.zero_le _, rfl, hid (nums_bad v u own), Below.refl _ _⟩
 case round =>
  obtain ⟨j, hj, rfl, HJ, hb⟩ := hrel
  have HB := hid hb
  by_cases hlt : j < 7
  ·obtain ⟨p, hp⟩ : ∃ p, (numL v)[j]? = some p := ⟨_, List.getElem?_eq_getElem (show j < 7 from hlt)⟩
   obtain ⟨q, hq⟩ : ∃ q, (numL u)[j]? = some q := ⟨_, List.getElem?_eq_getElem (show j < 7 from hlt)⟩
   have hr8 := HR8.out.below hb
   have hr9 := HR9.out.below hb
   obtain ⟨b8, o8, rfl, hx8⟩ := hr8.2 _ _ (intL_at hp)
   obtain ⟨b9, o9, rfl, hx9⟩ := hr9.2 _ _ (intL_at hq)
   have HST := hid (bad_step (v := v) (u := u) (own := own) hp hq)
   have hcj : j + 1 ≤ 7 := hlt
   have hji : (j : Int) < 7 := by omega
   have HMY := hid (fun W => rmay_any p q own W)
   clear hr8 hr9 hp hq hb
   cases hbr : Co.barred own p q with
   | true =>
    have HRB : Hid (R = 20) := hid (by rw [HR.out]; exact change_bad (.inl (by rw [HOWN.out, HJ.out, HST.out, hbr]; rfl)))
    rw [hbr, Bool.not_true] at HMY
    clear hbr
    go_wp2_with fail
    go_quiet (exact Calls.quiet_of_same (HMY.out _))
    go_wp2_with fail
    go_ret
    exact ⟨ret_int HRB.out.symm, below_drewN (HBW4.out.trans (HB.out.mono HBW4.out.size)) _⟩
   | false =>
    have HJN : Hid (Co.numsBad v u own = badFrom v u own (j + 1)) := hid (by rw [HJ.out, HST.out, hbr]; rfl)
    rw [hbr, Bool.not_false] at HMY
    clear hbr
    go_wp2_with fail
    go_quiet (exact Calls.quiet_of_same (HMY.out _))
    go_wp2_with fail
    go_roundw
    case rel => exact ⟨j + 1, hcj, by go_num, HJN, below_drewN HB.out _⟩
    case measure => simp [RowKit.intOf]; omega
  ·obtain rfl : j = 7 := by omega
   have HNB : Hid (Co.numsBad v u own = false) := hid (by rw [HJ.out]; rfl)
   have HBn0 := HB
   clear HB HJ hb
   rw [show ((7 : Nat) : Int) = 7 from rfl]
   go_wp2_with fail
   obtain ⟨N, hN⟩ : ∃ N, N = v.kinds.length + u.kinds.length := ⟨_, rfl⟩
   have HN := hid hN
   clear hN
   go_loopw [11, 12] (fun ix kx wr => ∃ j : Nat, j ≤ N ∧ ix = .int .i64 (j : Int) ∧ Hid (((v.kinds ++ u.kinds).take j).any (Co.kindBad v u own) = false) ∧ Below w4.heap.size w4 wr) (fun ix _ _ => N - (RowKit.intOf ix).toNat)
   case atStart => exact ⟨0, Nat.zero_le _, rfl, hid rfl, HBn0.out⟩
   case round =>
    obtain ⟨j, hj, rfl, HJ, hb⟩ := hrel
    have HB := hid hb
    have HK1r := hid (HK14.out.below hb HK14.out.lt)
    have HK2r := hid (HK24.out.below hb HK24.out.lt)
    have HVr := hid (HV4.out.bel hb)
    have HUr := hid (HU4.out.bel hb)
    have hcv : wr.cell? ⟨w.heap.size, 1, none⟩ = some (.slice Avk v.kinds.length cvk) := (HK1r.out.cell 1).trans (by rw [List.getElem?_toArray, HXV.out]; rfl)
    have hcu : wr.cell? ⟨w.heap.size + 1, 1, none⟩ = some (.slice Auk u.kinds.length cuk) := (HK2r.out.cell 1).trans (by rw [List.getElem?_toArray, HXU.out]; rfl)
    have hlv : v.kinds.length ≤ 1000000 := HVS.out.2
    have hlu : u.kinds.length ≤ 1000000 := HUS.out.2
    have hws : IntKind.i64.wrap ((v.kinds.length : Int) + (u.kinds.length : Int)) = (v.kinds.length : Int) + (u.kinds.length : Int) := IntWalk.i64_in _ (by omega)
    by_cases hlt : j < N
    ·have hcj : j + 1 ≤ N := hlt
     have hdj : decide ((j : Int) < (v.kinds.length : Int) + (u.kinds.length : Int)) = true := decide_eq_true (by have := HN.out; omega)
     by_cases hf : j < v.kinds.length
     ·have hd0 : decide (j < v.kinds.length) = true := decide_eq_true hf
      obtain ⟨x, hx⟩ : ∃ x, v.kinds[j]? = some x := ⟨_, List.getElem?_eq_getElem (by have := HN.out; omega)⟩
      have hxl : (v.kinds ++ u.kinds)[j]? = some x := by
       rw [List.getElem?_append_left hf]; exact hx
      have hrd := HKV.out.below hb
      obtain ⟨b, off, rfl, hx0⟩ := hrd.2 _ _ (kndL_at hx (j := 0) (by decide))
      have hx0 : wr.cell? ⟨b, off + (j) * 2, none⟩ = some (.int .i64 x.1) := hx0
      have HST := hid (any_snoc (p := Co.kindBad v u own) hxl)
      have HMEM := hid (List.mem_of_getElem? hx)
      have HKBD : Hid (Co.kindBad v u own x = Co.barred own (Co.needs v x.1) (Co.needs u x.1)) := hid rfl
      obtain ⟨bb, hbb⟩ : ∃ bb, bb = Co.barred own (Co.needs v x.1) (Co.needs u x.1) := ⟨_, rfl⟩
      have HBB := hid hbb
      clear hbb hrd hx hxl hb
      go_upto_region 15 with fail
      refine wp_region_noPanic ?_
      refine wp_region_held_drew (S := fun W => Below wr.heap.size wr W) (by kernel_rfl) ((Below.refl _ _).drew) (fun hHeld => ?_)
      generalize hwd : wr.drew = wd at *
      have HBd := hid hHeld
      clear hwd
      refine wpAnyH_take (i := 0) (oi := _) (v := _) rfl (by kernel_rfl) (by kernel_rfl) (by kernel_rfl) (fun _ _ _ h => h) (row_yields_u (X := XV.toArray) rfl Tryz.underlying28 HSV.out (fun W h => HK1r.out.below h HK1r.out.lt) (by kernel_rfl) _ rfl rfl) hHeld ?_
      (try simp only [Act.put, pk1, pk2, pk3, pk4, pk5, pk6])
      refine wpAnyH_take (i := 1) (oi := _) (v := ?_) rfl (by kernel_rfl) (by kernel_rfl) (by kernel_rfl) (fun _ _ _ h => h) (Or.inl ⟨by kernel_rfl, ?_⟩) hHeld ?_
      rotate_left
      ·intro wq hSw
       go_simp
       (try with_reducible rfl)
      (try simp only [Act.put, pk1, pk2, pk3, pk4, pk5, pk6])
      refine wpAnyH_take (i := 3) (oi := _) (v := _) rfl (by kernel_rfl) (by kernel_rfl) (by kernel_rfl) (fun _ _ _ h => h) (row_yields_u (X := XU.toArray) rfl Tryz.underlying28 HSU.out (fun W h => HK2r.out.below h HK2r.out.lt) (by kernel_rfl) _ rfl rfl) hHeld ?_
      (try simp only [Act.put, pk1, pk2, pk3, pk4, pk5, pk6])
      refine wpAnyH_take (i := 4) (oi := _) (v := ?_) rfl (by kernel_rfl) (by kernel_rfl) (by kernel_rfl) (fun _ _ _ h => h) (Or.inl ⟨by kernel_rfl, ?_⟩) hHeld ?_
      rotate_left
      ·intro wq hSw
       go_simp
       (try with_reducible rfl)
      (try simp only [Act.put, pk1, pk2, pk3, pk4, pk5, pk6])
      refine wpAnyH_take (i := 6) (oi := _) (v := ?_) rfl (by kernel_rfl) (by kernel_rfl) (by kernel_rfl) (fun _ _ _ h => h) (Or.inl ⟨by kernel_rfl, ?_⟩) hHeld ?_
      rotate_left
      ·intro wq hSw
       go_simp
       (try with_reducible rfl)
      (try simp only [Act.put, pk1, pk2, pk3, pk4, pk5, pk6])
      refine wpAnyH_ready (rs := [2]) (by kernel_rfl) (by simp) ?_
      refine AllReadyH.cons (o := _) rfl (fun K hK => ?_) AllReadyH.nil
      go_simp
      go_at_call 66
      refine (rneeds_any ok v XV x.1 wd (HVr.out.bel HBd.out) HVS.out.2).mono ?_
      rintro e ra ⟨rfl, hba⟩
      have HBa := hid (HBd.out.trans (hba.mono HBd.out.size))
      clear hba
      refine hK.out _ _ (HBa.out) (fun hHeld2 => ?_)
      clear hK K hHeld
      have hHeld := hHeld2
      clear hHeld2
      (try simp only [Act.put, pk1, pk2, pk3, pk4, pk5, pk6])
      refine wpAnyH_ready (rs := [5]) (by kernel_rfl) (by simp) ?_
      refine AllReadyH.cons (o := _) rfl (fun K hK => ?_) AllReadyH.nil
      go_simp
      go_at_call 66
      refine (rneeds_any ok u XU x.1 ra (HUr.out.bel HBa.out) HUS.out.2).mono ?_
      rintro e rb ⟨rfl, hbb⟩
      have HBb := hid (HBa.out.trans (hbb.mono HBa.out.size))
      clear hbb
      refine hK.out _ _ (HBb.out) (fun hHeld2 => ?_)
      clear hK K hHeld
      have hHeld := hHeld2
      clear hHeld2
      (try simp only [Act.put, pk1, pk2, pk3, pk4, pk5, pk6])
      refine wpAnyH_ready (rs := [7]) (by kernel_rfl) (by simp) ?_
      refine AllReadyH.cons (o := _) rfl (fun K hK => ?_) AllReadyH.nil
      go_simp
      refine (rmay_any (Co.needs v x.1) (Co.needs u x.1) own rb).mono ?_
      rintro e rc ⟨rfl, hrc⟩
      rw [hrc, ← HBB.out]
      clear hrc
      refine hK.out _ _ (HBb.out) (fun hHeld2 => ?_)
      clear hK K hHeld
      have hHeld := hHeld2
      clear hHeld2
      (try simp only [Act.put, pk1, pk2, pk3, pk4, pk5, pk6])
      refine wpAnyH_take (i := 8) (oi := _) (v := ?_) rfl (by kernel_rfl) (by kernel_rfl) (by kernel_rfl) (fun _ _ _ h => h) (Or.inl ⟨by kernel_rfl, ?_⟩) hHeld ?_
      rotate_left
      ·intro wq hSw
       go_simp
       (try with_reducible rfl)
      (try simp only [Act.put, pk1, pk2, pk3, pk4, pk5, pk6])
      refine wpAnyH_done (by kernel_rfl) ?_ _
      refine NoPanic.normal ?_
      cases bb with
      | true =>
       have HRB : Hid (R = 20) := hid (by rw [HR.out]; exact change_bad (.inr (.inl (.inl (any_of HMEM.out (by rw [HOWN.out, HKBD.out, ← HBB.out]))))))
       rw [Bool.not_true]
       go_wp2_with fail
       go_ret
       exact ⟨ret_int HRB.out.symm, HBW4.out.trans ((HB.out.trans (HBb.out.mono HB.out.size)).mono HBW4.out.size)⟩
      | false =>
       have HJN : Hid (((v.kinds ++ u.kinds).take (j + 1)).any (Co.kindBad v u own) = false) := hid (by rw [HST.out, HJ.out, HKBD.out, ← HBB.out]; rfl)
       rw [Bool.not_false]
       go_wp2_with fail
       go_roundw
       case rel => exact ⟨j + 1, hcj, by go_num, HJN, HB.out.trans (HBb.out.mono HB.out.size)⟩
       case measure => simp [RowKit.intOf]; omega
     ·have hd0 : decide (j < v.kinds.length) = false := decide_eq_false hf
      have hwd : IntKind.i64.wrap ((j : Int) - (v.kinds.length : Int)) = ((j - v.kinds.length : Nat) : Int) := by have := HN.out; rw [IntWalk.i64_in _ (by omega)]; omega
      have hfl : j - v.kinds.length < u.kinds.length := by have := HN.out; omega
      obtain ⟨x, hx⟩ : ∃ x, u.kinds[j - v.kinds.length]? = some x := ⟨_, List.getElem?_eq_getElem (by have := HN.out; omega)⟩
      have hxl : (v.kinds ++ u.kinds)[j]? = some x := by
       rw [List.getElem?_append_right (by omega)]; exact hx
      have hrd := HKU.out.below hb
      obtain ⟨b, off, rfl, hx0⟩ := hrd.2 _ _ (kndL_at hx (j := 0) (by decide))
      have hx0 : wr.cell? ⟨b, off + (j - v.kinds.length) * 2, none⟩ = some (.int .i64 x.1) := hx0
      have HST := hid (any_snoc (p := Co.kindBad v u own) hxl)
      have HMEM := hid (List.mem_of_getElem? hx)
      have HKBD : Hid (Co.kindBad v u own x = Co.barred own (Co.needs v x.1) (Co.needs u x.1)) := hid rfl
      obtain ⟨bb, hbb⟩ : ∃ bb, bb = Co.barred own (Co.needs v x.1) (Co.needs u x.1) := ⟨_, rfl⟩
      have HBB := hid hbb
      clear hbb hrd hx hxl hb
      go_upto_region 15 with fail
      refine wp_region_noPanic ?_
      refine wp_region_held_drew (S := fun W => Below wr.heap.size wr W) (by kernel_rfl) ((Below.refl _ _).drew) (fun hHeld => ?_)
      generalize hwd : wr.drew = wd at *
      have HBd := hid hHeld
      clear hwd
      refine wpAnyH_take (i := 0) (oi := _) (v := _) rfl (by kernel_rfl) (by kernel_rfl) (by kernel_rfl) (fun _ _ _ h => h) (row_yields_u (X := XV.toArray) rfl Tryz.underlying28 HSV.out (fun W h => HK1r.out.below h HK1r.out.lt) (by kernel_rfl) _ rfl rfl) hHeld ?_
      (try simp only [Act.put, pk1, pk2, pk3, pk4, pk5, pk6])
      refine wpAnyH_take (i := 1) (oi := _) (v := ?_) rfl (by kernel_rfl) (by kernel_rfl) (by kernel_rfl) (fun _ _ _ h => h) (Or.inl ⟨by kernel_rfl, ?_⟩) hHeld ?_
      rotate_left
      ·intro wq hSw
       go_simp
       (try with_reducible rfl)
      (try simp only [Act.put, pk1, pk2, pk3, pk4, pk5, pk6])
      refine wpAnyH_take (i := 3) (oi := _) (v := _) rfl (by kernel_rfl) (by kernel_rfl) (by kernel_rfl) (fun _ _ _ h => h) (row_yields_u (X := XU.toArray) rfl Tryz.underlying28 HSU.out (fun W h => HK2r.out.below h HK2r.out.lt) (by kernel_rfl) _ rfl rfl) hHeld ?_
      (try simp only [Act.put, pk1, pk2, pk3, pk4, pk5, pk6])
      refine wpAnyH_take (i := 4) (oi := _) (v := ?_) rfl (by kernel_rfl) (by kernel_rfl) (by kernel_rfl) (fun _ _ _ h => h) (Or.inl ⟨by kernel_rfl, ?_⟩) hHeld ?_
      rotate_left
      ·intro wq hSw
       go_simp
       (try with_reducible rfl)
      (try simp only [Act.put, pk1, pk2, pk3, pk4, pk5, pk6])
      refine wpAnyH_take (i := 6) (oi := _) (v := ?_) rfl (by kernel_rfl) (by kernel_rfl) (by kernel_rfl) (fun _ _ _ h => h) (Or.inl ⟨by kernel_rfl, ?_⟩) hHeld ?_
      rotate_left
      ·intro wq hSw
       go_simp
       (try with_reducible rfl)
      (try simp only [Act.put, pk1, pk2, pk3, pk4, pk5, pk6])
      refine wpAnyH_ready (rs := [2]) (by kernel_rfl) (by simp) ?_
      refine AllReadyH.cons (o := _) rfl (fun K hK => ?_) AllReadyH.nil
      go_simp
      go_at_call 66
      refine (rneeds_any ok v XV x.1 wd (HVr.out.bel HBd.out) HVS.out.2).mono ?_
      rintro e ra ⟨rfl, hba⟩
      have HBa := hid (HBd.out.trans (hba.mono HBd.out.size))
      clear hba
      refine hK.out _ _ (HBa.out) (fun hHeld2 => ?_)
      clear hK K hHeld
      have hHeld := hHeld2
      clear hHeld2
      (try simp only [Act.put, pk1, pk2, pk3, pk4, pk5, pk6])
      refine wpAnyH_ready (rs := [5]) (by kernel_rfl) (by simp) ?_
      refine AllReadyH.cons (o := _) rfl (fun K hK => ?_) AllReadyH.nil
      go_simp
      go_at_call 66
      refine (rneeds_any ok u XU x.1 ra (HUr.out.bel HBa.out) HUS.out.2).mono ?_
      rintro e rb ⟨rfl, hbb⟩
      have HBb := hid (HBa.out.trans (hbb.mono HBa.out.size))
      clear hbb
      refine hK.out _ _ (HBb.out) (fun hHeld2 => ?_)
      clear hK K hHeld
      have hHeld := hHeld2
      clear hHeld2
      (try simp only [Act.put, pk1, pk2, pk3, pk4, pk5, pk6])
      refine wpAnyH_ready (rs := [7]) (by kernel_rfl) (by simp) ?_
      refine AllReadyH.cons (o := _) rfl (fun K hK => ?_) AllReadyH.nil
      go_simp
      refine (rmay_any (Co.needs v x.1) (Co.needs u x.1) own rb).mono ?_
      rintro e rc ⟨rfl, hrc⟩
      rw [hrc, ← HBB.out]
      clear hrc
      refine hK.out _ _ (HBb.out) (fun hHeld2 => ?_)
      clear hK K hHeld
      have hHeld := hHeld2
      clear hHeld2
      (try simp only [Act.put, pk1, pk2, pk3, pk4, pk5, pk6])
      refine wpAnyH_take (i := 8) (oi := _) (v := ?_) rfl (by kernel_rfl) (by kernel_rfl) (by kernel_rfl) (fun _ _ _ h => h) (Or.inl ⟨by kernel_rfl, ?_⟩) hHeld ?_
      rotate_left
      ·intro wq hSw
       go_simp
       (try with_reducible rfl)
      (try simp only [Act.put, pk1, pk2, pk3, pk4, pk5, pk6])
      refine wpAnyH_done (by kernel_rfl) ?_ _
      refine NoPanic.normal ?_
      cases bb with
      | true =>
       have HRB : Hid (R = 20) := hid (by rw [HR.out]; exact change_bad (.inr (.inl (.inr (any_of HMEM.out (by rw [HOWN.out, HKBD.out, ← HBB.out]))))))
       rw [Bool.not_true]
       go_wp2_with fail
       go_ret
       exact ⟨ret_int HRB.out.symm, HBW4.out.trans ((HB.out.trans (HBb.out.mono HB.out.size)).mono HBW4.out.size)⟩
      | false =>
       have HJN : Hid (((v.kinds ++ u.kinds).take (j + 1)).any (Co.kindBad v u own) = false) := hid (by rw [HST.out, HJ.out, HKBD.out, ← HBB.out]; rfl)
       rw [Bool.not_false]
       go_wp2_with fail
       go_roundw
       case rel => exact ⟨j + 1, hcj, by go_num, HJN, HB.out.trans (HBb.out.mono HB.out.size)⟩
       case measure => simp [RowKit.intOf]; omega
    ·obtain rfl : j = N := by omega
     have hdj : decide ((j : Int) < (v.kinds.length : Int) + (u.kinds.length : Int)) = false := decide_eq_false (by have := HN.out; omega)
     have HKN : Hid ((v.kinds ++ u.kinds).any (Co.kindBad v u own) = false) := hid (by have := HJ.out; rwa [HN.out, ← List.length_append, List.take_length] at this)
     have HBm0 := HB
     clear HB HJ hb HK1r HK2r HVr HUr
     go_wp2_with fail
     clear hcv hcu hlv hlu hws hdj
     go_loopw [13] (fun ix wr => ∃ j : Nat, j ≤ v.users.length ∧ ix = .int .i64 (j : Int) ∧ Hid ((v.users.take j).any (Co.userBad v u own user) = false) ∧ Below w4.heap.size w4 wr) (fun ix _ => v.users.length - (RowKit.intOf ix).toNat)
     case atStart => exact ⟨0, Nat.zero_le _, rfl, hid rfl, HBm0.out⟩
     case round =>
      obtain ⟨j, hj, rfl, HJ, hb⟩ := hrel
      have HB := hid hb
      have HK1r := hid (HK14.out.below hb HK14.out.lt)
      have HK2r := hid (HK24.out.below hb HK24.out.lt)
      have HVr := hid (HV4.out.bel hb)
      have HUr := hid (HU4.out.bel hb)
      have hcl : wr.cell? ⟨w.heap.size, 0, none⟩ = some (.slice Avu v.users.length cvu) := (HK1r.out.cell 0).trans (by rw [List.getElem?_toArray, HXV.out]; rfl)
      have HLN : Hid (v.users.length ≤ 1000000) := hid HVS.out.1
      by_cases hlt : j < v.users.length
      ·obtain ⟨x, hx⟩ : ∃ x, v.users[j]? = some x := ⟨_, List.getElem?_eq_getElem hlt⟩
       have hrd := HVUr.out.below hb
       obtain ⟨b, off, rfl, hx0⟩ := hrd.2 _ _ (usrL_at hx (j := 0) (by decide))
       have hx0 : wr.cell? ⟨b, off + j * 2, none⟩ = some (.string (bstr x.1)) := hx0
       have HBL := hid (block_lt hx0)
       have HX0 : Hid (∀ W, Below wr.heap.size wr W → W.cell? ⟨b, off + j * 2, none⟩ = some (.string (bstr x.1))) := hid (fun W h => (Below.cell h (p := ⟨b, off + j * 2, none⟩) HBL.out).trans hx0)
       have HCX : Hid (∀ W, Below wr.heap.size wr W → W.cell? ⟨w.heap.size, 0, none⟩ = some (.slice (some ⟨b, off, none⟩) v.users.length cvu)) := hid (fun W h => (Below.cell h (p := ⟨w.heap.size, 0, none⟩) HK1r.out.lt).trans hcl)
       have HST := hid (any_snoc (p := Co.userBad v u own user) hx)
       have HMEM := hid (List.mem_of_getElem? hx)
       have hcj : j + 1 ≤ v.users.length := hlt
       have HUB : Hid (Co.userBad v u own user x = (Co.barred own (Co.userLv v x.1) (Co.userLv u x.1) || (Co.userLv v x.1 != Co.userLv u x.1 && (!(x.1 == user) && decide (own ≤ Co.userLv v x.1))))) := hid rfl
       obtain ⟨bb, hbb⟩ : ∃ bb, bb = (Co.barred own (Co.userLv v x.1) (Co.userLv u x.1) || (Co.userLv v x.1 != Co.userLv u x.1 && (!(x.1 == user) && decide (own ≤ Co.userLv v x.1)))) := ⟨_, rfl⟩
       have HBB := hid hbb
       have hln := HLN.out
       clear hbb hrd hx hb hx0
       go_upto_region 20 with fail
       refine wp_region_noPanic ?_
       refine wp_region_held_drew (S := fun W => Below wr.heap.size wr W) (by kernel_rfl) ((Below.refl _ _).drew) (fun hHeld => ?_)
       generalize hwd : wr.drew = wd at *
       have HBd := hid hHeld
       clear hwd
       refine wpAnyH_take (i := 0) (oi := _) (v := _) rfl (by kernel_rfl) (by kernel_rfl) (by kernel_rfl) (fun _ _ _ h => h) (row_yields_u (X := XV.toArray) rfl Tryz.underlying28 HSV.out (fun W h => HK1r.out.below h HK1r.out.lt) (by kernel_rfl) _ rfl rfl) hHeld ?_
       (try simp only [Act.put, pk1, pk2, pk3, pk4, pk5, pk6])
       refine wpAnyH_take (i := 1) (oi := _) (v := _) rfl (by kernel_rfl) (by kernel_rfl) (by kernel_rfl) (fun _ _ _ h => h) (row_yields_u (X := XU.toArray) rfl Tryz.underlying28 HSU.out (fun W h => HK2r.out.below h HK2r.out.lt) (by kernel_rfl) _ rfl rfl) hHeld ?_
       (try simp only [Act.put, pk1, pk2, pk3, pk4, pk5, pk6])
       refine wpAnyH_take (i := 2) (oi := _) (v := ?_) rfl (by kernel_rfl) (by kernel_rfl) (by kernel_rfl) (fun _ _ _ h => h) (Or.inl ⟨by kernel_rfl, ?_⟩) hHeld ?_
       rotate_left
       ·intro wq hSw
        go_simp
        (try with_reducible rfl)
       (try simp only [Act.put, pk1, pk2, pk3, pk4, pk5, pk6])
       refine wpAnyH_take (i := 3) (oi := _) (v := ?_) rfl (by kernel_rfl) (by kernel_rfl) (by kernel_rfl) (fun _ _ _ h => h) (Or.inl ⟨by kernel_rfl, ?_⟩) hHeld ?_
       rotate_left
       ·intro wq hSw
        have hyc := HCX.out wq hSw
        go_simp
        (try with_reducible rfl)
       (try simp only [Act.put, pk1, pk2, pk3, pk4, pk5, pk6])
       refine wpAnyH_take (i := 4) (oi := _) (v := ?_) rfl (by kernel_rfl) (by kernel_rfl) (by kernel_rfl) (fun _ _ _ h => h) (Or.inl ⟨by kernel_rfl, ?_⟩) hHeld ?_
       rotate_left
       ·intro wq hSw
        go_simp
        (try with_reducible rfl)
       (try simp only [Act.put, pk1, pk2, pk3, pk4, pk5, pk6])
       refine wpAnyH_take (i := 5) (oi := _) (v := ?_) rfl (by kernel_rfl) (by kernel_rfl) (by kernel_rfl) (fun _ _ _ h => h) (Or.inl ⟨by kernel_rfl, ?_⟩) hHeld ?_
       rotate_left
       ·intro wq hSw
        go_simp
        (try with_reducible rfl)
       (try simp only [Act.put, pk1, pk2, pk3, pk4, pk5, pk6])
       refine wpAnyH_take (i := 6) (oi := _) (v := ?_) rfl (by kernel_rfl) (by kernel_rfl) (by kernel_rfl) (fun _ _ _ h => h) (Or.inl ⟨by kernel_rfl, ?_⟩) hHeld ?_
       rotate_left
       ·intro wq hSw
        go_simp
        (try with_reducible rfl)
       (try simp only [Act.put, pk1, pk2, pk3, pk4, pk5, pk6])
       refine wpAnyH_take (i := 7) (oi := _) (v := ?_) rfl (by kernel_rfl) (by kernel_rfl) (by kernel_rfl) (fun _ _ _ h => h) (Or.inl ⟨by kernel_rfl, ?_⟩) hHeld ?_
       rotate_left
       ·intro wq hSw
        have hyx := HX0.out wq hSw
        go_simp
        (try with_reducible rfl)
       (try simp only [Act.put, pk1, pk2, pk3, pk4, pk5, pk6])
       refine wpAnyH_take (i := 8) (oi := _) (v := ?_) rfl (by kernel_rfl) (by kernel_rfl) (by kernel_rfl) (fun _ _ _ h => h) (Or.inl ⟨by kernel_rfl, ?_⟩) hHeld ?_
       rotate_left
       ·intro wq hSw
        go_simp
        (try with_reducible rfl)
       (try simp only [Act.put, pk1, pk2, pk3, pk4, pk5, pk6])
       refine wpAnyH_ready (rs := [9]) (by kernel_rfl) (by simp) ?_
       refine AllReadyH.cons (o := _) rfl (fun K hK => ?_) AllReadyH.nil
       go_simp
       go_at_call 98
       refine (rmayuser_any ok v u XV XU x.1 user wd (HVr.out.bel HBd.out) (HUr.out.bel HBd.out) HVS.out.1 HUS.out.1).mono ?_
       rw [HOWN.out, ← HBB.out]
       rintro e ra ⟨rfl, hba⟩
       have HBa := hid (HBd.out.trans (hba.mono HBd.out.size))
       clear hba
       refine hK.out _ _ (HBa.out) (fun hHeld2 => ?_)
       clear hK K hHeld
       have hHeld := hHeld2
       clear hHeld2
       (try simp only [Act.put, pk1, pk2, pk3, pk4, pk5, pk6])
       refine wpAnyH_take (i := 10) (oi := _) (v := ?_) rfl (by kernel_rfl) (by kernel_rfl) (by kernel_rfl) (fun _ _ _ h => h) (Or.inl ⟨by kernel_rfl, ?_⟩) hHeld ?_
       rotate_left
       ·intro wq hSw
        go_simp
        (try with_reducible rfl)
       (try simp only [Act.put, pk1, pk2, pk3, pk4, pk5, pk6])
       refine wpAnyH_done (by kernel_rfl) ?_ _
       refine NoPanic.normal ?_
       cases bb with
       | true =>
        have HRB : Hid (R = 20) := hid (by rw [HR.out]; exact change_bad (.inr (.inr (.inl (any_of HMEM.out (by rw [HOWN.out, HUB.out, ← HBB.out]))))))
        rw [Bool.not_true]
        go_wp2_with fail
        go_ret
        exact ⟨ret_int HRB.out.symm, HBW4.out.trans ((HB.out.trans (HBa.out.mono HB.out.size)).mono HBW4.out.size)⟩
       | false =>
        have HJN : Hid ((v.users.take (j + 1)).any (Co.userBad v u own user) = false) := hid (by rw [HST.out, HJ.out, HUB.out, ← HBB.out]; rfl)
        rw [Bool.not_false]
        go_wp2_with fail
        go_roundw
        case rel => exact ⟨j + 1, hcj, by go_num, HJN, HB.out.trans (HBa.out.mono HB.out.size)⟩
        case measure => simp [RowKit.intOf]; omega
      ·obtain rfl : j = v.users.length := by omega
       have HU1n : Hid (v.users.any (Co.userBad v u own user) = false) := hid (by have := HJ.out; rwa [List.take_length] at this)
       have HBm1 := HB
       clear HB HJ hb HK1r HK2r HVr HUr
       go_wp2_with fail
       clear hcl
       go_loopw [14] (fun ix wr => ∃ j : Nat, j ≤ u.users.length ∧ ix = .int .i64 (j : Int) ∧ Hid ((u.users.take j).any (Co.userBad v u own user) = false) ∧ Below w4.heap.size w4 wr) (fun ix _ => u.users.length - (RowKit.intOf ix).toNat)
       case atStart => exact ⟨0, Nat.zero_le _, rfl, hid rfl, HBm1.out⟩
       case round =>
        obtain ⟨j, hj, rfl, HJ, hb⟩ := hrel
        have HB := hid hb
        have HK1r := hid (HK14.out.below hb HK14.out.lt)
        have HK2r := hid (HK24.out.below hb HK24.out.lt)
        have HVr := hid (HV4.out.bel hb)
        have HUr := hid (HU4.out.bel hb)
        have hcl : wr.cell? ⟨w.heap.size + 1, 0, none⟩ = some (.slice Auu u.users.length cuu) := (HK2r.out.cell 0).trans (by rw [List.getElem?_toArray, HXU.out]; rfl)
        have HLN : Hid (u.users.length ≤ 1000000) := hid HUS.out.1
        by_cases hlt : j < u.users.length
        ·obtain ⟨x, hx⟩ : ∃ x, u.users[j]? = some x := ⟨_, List.getElem?_eq_getElem hlt⟩
         have hrd := HUUr.out.below hb
         obtain ⟨b, off, rfl, hx0⟩ := hrd.2 _ _ (usrL_at hx (j := 0) (by decide))
         have hx0 : wr.cell? ⟨b, off + j * 2, none⟩ = some (.string (bstr x.1)) := hx0
         have HBL := hid (block_lt hx0)
         have HX0 : Hid (∀ W, Below wr.heap.size wr W → W.cell? ⟨b, off + j * 2, none⟩ = some (.string (bstr x.1))) := hid (fun W h => (Below.cell h (p := ⟨b, off + j * 2, none⟩) HBL.out).trans hx0)
         have HCX : Hid (∀ W, Below wr.heap.size wr W → W.cell? ⟨w.heap.size + 1, 0, none⟩ = some (.slice (some ⟨b, off, none⟩) u.users.length cuu)) := hid (fun W h => (Below.cell h (p := ⟨w.heap.size + 1, 0, none⟩) HK2r.out.lt).trans hcl)
         have HST := hid (any_snoc (p := Co.userBad v u own user) hx)
         have HMEM := hid (List.mem_of_getElem? hx)
         have hcj : j + 1 ≤ u.users.length := hlt
         have HUB : Hid (Co.userBad v u own user x = (Co.barred own (Co.userLv v x.1) (Co.userLv u x.1) || (Co.userLv v x.1 != Co.userLv u x.1 && (!(x.1 == user) && decide (own ≤ Co.userLv v x.1))))) := hid rfl
         obtain ⟨bb, hbb⟩ : ∃ bb, bb = (Co.barred own (Co.userLv v x.1) (Co.userLv u x.1) || (Co.userLv v x.1 != Co.userLv u x.1 && (!(x.1 == user) && decide (own ≤ Co.userLv v x.1)))) := ⟨_, rfl⟩
         have HBB := hid hbb
         have hln := HLN.out
         clear hbb hrd hx hb hx0
         go_upto_region 25 with fail
         refine wp_region_noPanic ?_
         refine wp_region_held_drew (S := fun W => Below wr.heap.size wr W) (by kernel_rfl) ((Below.refl _ _).drew) (fun hHeld => ?_)
         generalize hwd : wr.drew = wd at *
         have HBd := hid hHeld
         clear hwd
         refine wpAnyH_take (i := 0) (oi := _) (v := _) rfl (by kernel_rfl) (by kernel_rfl) (by kernel_rfl) (fun _ _ _ h => h) (row_yields_u (X := XV.toArray) rfl Tryz.underlying28 HSV.out (fun W h => HK1r.out.below h HK1r.out.lt) (by kernel_rfl) _ rfl rfl) hHeld ?_
         (try simp only [Act.put, pk1, pk2, pk3, pk4, pk5, pk6])
         refine wpAnyH_take (i := 1) (oi := _) (v := _) rfl (by kernel_rfl) (by kernel_rfl) (by kernel_rfl) (fun _ _ _ h => h) (row_yields_u (X := XU.toArray) rfl Tryz.underlying28 HSU.out (fun W h => HK2r.out.below h HK2r.out.lt) (by kernel_rfl) _ rfl rfl) hHeld ?_
         (try simp only [Act.put, pk1, pk2, pk3, pk4, pk5, pk6])
         refine wpAnyH_take (i := 2) (oi := _) (v := ?_) rfl (by kernel_rfl) (by kernel_rfl) (by kernel_rfl) (fun _ _ _ h => h) (Or.inl ⟨by kernel_rfl, ?_⟩) hHeld ?_
         rotate_left
         ·intro wq hSw
          go_simp
          (try with_reducible rfl)
         (try simp only [Act.put, pk1, pk2, pk3, pk4, pk5, pk6])
         refine wpAnyH_take (i := 3) (oi := _) (v := ?_) rfl (by kernel_rfl) (by kernel_rfl) (by kernel_rfl) (fun _ _ _ h => h) (Or.inl ⟨by kernel_rfl, ?_⟩) hHeld ?_
         rotate_left
         ·intro wq hSw
          have hyc := HCX.out wq hSw
          go_simp
          (try with_reducible rfl)
         (try simp only [Act.put, pk1, pk2, pk3, pk4, pk5, pk6])
         refine wpAnyH_take (i := 4) (oi := _) (v := ?_) rfl (by kernel_rfl) (by kernel_rfl) (by kernel_rfl) (fun _ _ _ h => h) (Or.inl ⟨by kernel_rfl, ?_⟩) hHeld ?_
         rotate_left
         ·intro wq hSw
          go_simp
          (try with_reducible rfl)
         (try simp only [Act.put, pk1, pk2, pk3, pk4, pk5, pk6])
         refine wpAnyH_take (i := 5) (oi := _) (v := ?_) rfl (by kernel_rfl) (by kernel_rfl) (by kernel_rfl) (fun _ _ _ h => h) (Or.inl ⟨by kernel_rfl, ?_⟩) hHeld ?_
         rotate_left
         ·intro wq hSw
          go_simp
          (try with_reducible rfl)
         (try simp only [Act.put, pk1, pk2, pk3, pk4, pk5, pk6])
         refine wpAnyH_take (i := 6) (oi := _) (v := ?_) rfl (by kernel_rfl) (by kernel_rfl) (by kernel_rfl) (fun _ _ _ h => h) (Or.inl ⟨by kernel_rfl, ?_⟩) hHeld ?_
         rotate_left
         ·intro wq hSw
          go_simp
          (try with_reducible rfl)
         (try simp only [Act.put, pk1, pk2, pk3, pk4, pk5, pk6])
         refine wpAnyH_take (i := 7) (oi := _) (v := ?_) rfl (by kernel_rfl) (by kernel_rfl) (by kernel_rfl) (fun _ _ _ h => h) (Or.inl ⟨by kernel_rfl, ?_⟩) hHeld ?_
         rotate_left
         ·intro wq hSw
          have hyx := HX0.out wq hSw
          go_simp
          (try with_reducible rfl)
         (try simp only [Act.put, pk1, pk2, pk3, pk4, pk5, pk6])
         refine wpAnyH_take (i := 8) (oi := _) (v := ?_) rfl (by kernel_rfl) (by kernel_rfl) (by kernel_rfl) (fun _ _ _ h => h) (Or.inl ⟨by kernel_rfl, ?_⟩) hHeld ?_
         rotate_left
         ·intro wq hSw
          go_simp
          (try with_reducible rfl)
         (try simp only [Act.put, pk1, pk2, pk3, pk4, pk5, pk6])
         refine wpAnyH_ready (rs := [9]) (by kernel_rfl) (by simp) ?_
         refine AllReadyH.cons (o := _) rfl (fun K hK => ?_) AllReadyH.nil
         go_simp
         go_at_call 98
         refine (rmayuser_any ok v u XV XU x.1 user wd (HVr.out.bel HBd.out) (HUr.out.bel HBd.out) HVS.out.1 HUS.out.1).mono ?_
         rw [HOWN.out, ← HBB.out]
         rintro e ra ⟨rfl, hba⟩
         have HBa := hid (HBd.out.trans (hba.mono HBd.out.size))
         clear hba
         refine hK.out _ _ (HBa.out) (fun hHeld2 => ?_)
         clear hK K hHeld
         have hHeld := hHeld2
         clear hHeld2
         (try simp only [Act.put, pk1, pk2, pk3, pk4, pk5, pk6])
         refine wpAnyH_take (i := 10) (oi := _) (v := ?_) rfl (by kernel_rfl) (by kernel_rfl) (by kernel_rfl) (fun _ _ _ h => h) (Or.inl ⟨by kernel_rfl, ?_⟩) hHeld ?_
         rotate_left
         ·intro wq hSw
          go_simp
          (try with_reducible rfl)
         (try simp only [Act.put, pk1, pk2, pk3, pk4, pk5, pk6])
         refine wpAnyH_done (by kernel_rfl) ?_ _
         refine NoPanic.normal ?_
         cases bb with
         | true =>
          have HRB : Hid (R = 20) := hid (by rw [HR.out]; exact change_bad (.inr (.inr (.inr (any_of HMEM.out (by rw [HOWN.out, HUB.out, ← HBB.out]))))))
          rw [Bool.not_true]
          go_wp2_with fail
          go_ret
          exact ⟨ret_int HRB.out.symm, HBW4.out.trans ((HB.out.trans (HBa.out.mono HB.out.size)).mono HBW4.out.size)⟩
         | false =>
          have HJN : Hid ((u.users.take (j + 1)).any (Co.userBad v u own user) = false) := hid (by rw [HST.out, HJ.out, HUB.out, ← HBB.out]; rfl)
          rw [Bool.not_false]
          go_wp2_with fail
          go_roundw
          case rel => exact ⟨j + 1, hcj, by go_num, HJN, HB.out.trans (HBa.out.mono HB.out.size)⟩
          case measure => simp [RowKit.intOf]; omega
        ·obtain rfl : j = u.users.length := by omega
         have HU2n : Hid (u.users.any (Co.userBad v u own user) = false) := hid (by have := HJ.out; rwa [List.take_length] at this)
         have HBm2 := HB
         clear HB HJ hb HK1r HK2r HVr HUr
         go_wp2_with fail
         clear hcl
         have HRG : Hid (R = 0) := hid (by
          have hk := HKN.out
          rw [List.any_append, Bool.or_eq_false_iff] at hk
          rw [HR.out]
          exact change_good (by rw [HOWN.out]; exact HNB.out) (by rw [HOWN.out]; exact hk.1) (by rw [HOWN.out]; exact hk.2) (by rw [HOWN.out]; exact HU1n.out) (by rw [HOWN.out]; exact HU2n.out))
         go_ret
         exact ⟨ret_int HRG.out.symm, HBW4.out.trans (HBm2.out.mono HBW4.out.size)⟩
end Go.Proofs.YtacjhbbieeliaaaGreatDoor
/- The text Qf. -/
namespace Go.Proofs.YtacjhbbieeliaaaGreatDoor
open Go.RowKit Go.Lib
set_option linter.unusedVariables false
set_option linter.unusedSimpArgs false
def RRulA (n : Int) (e : Ending) : Prop := ∃ c, e = .returned (.tuple #[.int .i64 n, c])
theorem rrof_any (ok : Nat → Prop) (l : List Co.Ev) (A : Option Addr) (cap : Nat) (w : World) (h : EvRow ok w A l) (hl : l.length ≤ 1000000) (hs : ∀ e ∈ l, e.allow.length ≤ 1000000) :
  Calls Tryz.prog 91 #[.slice A l.length cap] w fun e w' => RRulA (Co.rulesOf l) e ∧ Below w.heap.size w w' := by
 have HROW := hid h
 have HS := hid hs
 obtain ⟨R, hR⟩ : ∃ R, R = Co.rulesOf l := ⟨_, rfl⟩
 have HR0 : Hid ((match (l.drop 0).find? (Co.isKind 4) with | some e => e.n | none => 0) = R) := hid (by rw [hR]; rfl)
 rw [← hR]
 clear h hR hs
 go_enter Tryz.func91, Tryz.ntmps91
 go_wp2_with fail
 go_loop [4] (fun ix => ∃ k : Nat, k ≤ l.length ∧ ix = .int .i64 (k : Int) ∧ Hid ((match (l.drop k).find? (Co.isKind 4) with | some e => e.n | none => 0) = R)) (fun ix => l.length - (RowKit.intOf ix).toNat)
 case atStart => exact ⟨0, Nat.zero_le _, rfl, HR0⟩
 case round =>
  obtain ⟨k, hk, rfl, HF⟩ := hrel
  by_cases hlt : k < l.length
  ·obtain ⟨x, b, off, X, hx, rfl, hok, hbl, hr, hv⟩ := HROW.out.at_ hlt
   have hrr : w.rangeAt b (off + k * 29) X := hr
   have hc3 := hrr 3 _ hv.c3
   have HFD := hid (Co.find_drop (Co.isKind 4) l k x hx)
   have HXS := hid (HS.out x (List.mem_of_getElem? hx))
   have hcnt : k + 1 ≤ l.length := hlt
   have hki : (k : Int) < (l.length : Int) := by omega
   by_cases hkd : x.kind = 4
   ·have HRX : Hid (R = x.n) := hid (by rw [← HF.out, HFD.out]; simp [Co.isKind, hkd])
    have hkb : (x.kind == 4) = true := eqb_true hkd
    have HC1 : Hid (w.cell? ⟨b, off + k * 29 + 10 + 1, none⟩ = some (.int .i64 x.n)) := hid (hrr 11 _ hv.c11)
    obtain ⟨_, _, cl, _, _, _, hX, hL⟩ := hv
    obtain ⟨Al, capl, rfl, hra, -⟩ := hL.allow
    have HC5 : Hid (w.cell? ⟨b, off + k * 29 + 10 + 5, none⟩ = some (.slice Al x.allow.length capl)) := hid (hrr 15 _ (by rw [hX]; rfl))
    have HRA : Hid (Rd w Al (x.allow.length * 1) (strL x.allow)) := hid hra
    have HBL := hid hbl
    clear hkd hX hL hra hrr hx hr
    go_upto_region 5 with fail
    refine wp_region_noPanic ?_
    refine wp_region_held_drew (S := fun W => Below w.heap.size w W) (by kernel_rfl) ((Below.refl _ _).drew) (fun hHeld => ?_)
    generalize hwd : w.drew = wd at *
    have HBd := hid hHeld
    refine wpAnyH_take (i := 0) (oi := _) (v := ?_) rfl (by kernel_rfl) (by kernel_rfl) (by kernel_rfl) (fun _ _ _ h => h) (Or.inl ⟨by kernel_rfl, ?_⟩) hHeld ?_
    rotate_left
    ·intro wq hSw
     go_simp
     (try with_reducible rfl)
    (try simp only [Act.put, pk1, pk2, pk3, pk4, pk5, pk6])
    refine wpAnyH_take (i := 1) (oi := _) (v := ?_) rfl (by kernel_rfl) (by kernel_rfl) (by kernel_rfl) (fun _ _ _ h => h) (Or.inl ⟨by kernel_rfl, ?_⟩) hHeld ?_
    rotate_left
    ·intro wq hSw
     go_simp
     (try with_reducible rfl)
    (try simp only [Act.put, pk1, pk2, pk3, pk4, pk5, pk6])
    refine wpAnyH_take (i := 2) (oi := _) (v := ?_) rfl (by kernel_rfl) (by kernel_rfl) (by kernel_rfl) (fun _ _ _ h => h) (Or.inl ⟨by kernel_rfl, ?_⟩) hHeld ?_
    rotate_left
    ·intro wq hSw
     go_simp
     (try with_reducible rfl)
    (try simp only [Act.put, pk1, pk2, pk3, pk4, pk5, pk6])
    refine wpAnyH_take (i := 3) (oi := _) (v := ?_) rfl (by kernel_rfl) (by kernel_rfl) (by kernel_rfl) (fun _ _ _ h => h) (Or.inl ⟨by kernel_rfl, ?_⟩) hHeld ?_
    rotate_left
    ·intro wq hSw
     go_simp
     (try with_reducible rfl)
    (try simp only [Act.put, pk1, pk2, pk3, pk4, pk5, pk6])
    refine wpAnyH_take (i := 4) (oi := _) (v := ?_) rfl (by kernel_rfl) (by kernel_rfl) (by kernel_rfl) (fun _ _ _ h => h) (Or.inl ⟨by kernel_rfl, ?_⟩) hHeld ?_
    rotate_left
    ·intro wq hSw
     go_simp
     (try with_reducible rfl)
    (try simp only [Act.put, pk1, pk2, pk3, pk4, pk5, pk6])
    refine wpAnyH_take (i := 5) (oi := _) (v := ?_) rfl (by kernel_rfl) (by kernel_rfl) (by kernel_rfl) (fun _ _ _ h => h) (Or.inl ⟨by kernel_rfl, ?_⟩) hHeld ?_
    rotate_left
    ·intro wq hSw
     have hSw1 := (Below.cell hSw (p := ⟨b, off + k * 29 + 10 + 1, none⟩) HBL.out).trans HC1.out
     go_simp
     (try with_reducible rfl)
    (try simp only [Act.put, pk1, pk2, pk3, pk4, pk5, pk6])
    refine wpAnyH_take (i := 7) (oi := _) (v := ?_) rfl (by kernel_rfl) (by kernel_rfl) (by kernel_rfl) (fun _ _ _ h => h) (Or.inl ⟨by kernel_rfl, ?_⟩) hHeld ?_
    rotate_left
    ·intro wq hSw
     go_simp
     (try with_reducible rfl)
    (try simp only [Act.put, pk1, pk2, pk3, pk4, pk5, pk6])
    refine wpAnyH_take (i := 8) (oi := _) (v := ?_) rfl (by kernel_rfl) (by kernel_rfl) (by kernel_rfl) (fun _ _ _ h => h) (Or.inl ⟨by kernel_rfl, ?_⟩) hHeld ?_
    rotate_left
    ·intro wq hSw
     go_simp
     (try with_reducible rfl)
    (try simp only [Act.put, pk1, pk2, pk3, pk4, pk5, pk6])
    refine wpAnyH_take (i := 9) (oi := _) (v := ?_) rfl (by kernel_rfl) (by kernel_rfl) (by kernel_rfl) (fun _ _ _ h => h) (Or.inl ⟨by kernel_rfl, ?_⟩) hHeld ?_
    rotate_left
    ·intro wq hSw
     go_simp
     (try with_reducible rfl)
    (try simp only [Act.put, pk1, pk2, pk3, pk4, pk5, pk6])
    refine wpAnyH_take (i := 10) (oi := _) (v := ?_) rfl (by kernel_rfl) (by kernel_rfl) (by kernel_rfl) (fun _ _ _ h => h) (Or.inl ⟨by kernel_rfl, ?_⟩) hHeld ?_
    rotate_left
    ·intro wq hSw
     go_simp
     (try with_reducible rfl)
    (try simp only [Act.put, pk1, pk2, pk3, pk4, pk5, pk6])
    refine wpAnyH_take (i := 11) (oi := _) (v := ?_) rfl (by kernel_rfl) (by kernel_rfl) (by kernel_rfl) (fun _ _ _ h => h) (Or.inl ⟨by kernel_rfl, ?_⟩) hHeld ?_
    rotate_left
    ·intro wq hSw
     go_simp
     (try with_reducible rfl)
    (try simp only [Act.put, pk1, pk2, pk3, pk4, pk5, pk6])
    refine wpAnyH_take (i := 12) (oi := _) (v := ?_) rfl (by kernel_rfl) (by kernel_rfl) (by kernel_rfl) (fun _ _ _ h => h) (Or.inl ⟨by kernel_rfl, ?_⟩) hHeld ?_
    rotate_left
    ·intro wq hSw
     have hSw5 := (Below.cell hSw (p := ⟨b, off + k * 29 + 10 + 5, none⟩) HBL.out).trans HC5.out
     go_simp
     (try with_reducible rfl)
    (try simp only [Act.put, pk1, pk2, pk3, pk4, pk5, pk6])
    refine wpAnyH_ready (rs := [6]) (by kernel_rfl) (by simp) ?_
    refine AllReadyH.cons (o := _) rfl (fun K hK => ?_) AllReadyH.nil
    go_simp
    have hba := HBd.out.alloc HBd.out.size (.cells #[] 9)
    have HB3 := hid hba
    have HRA3 := hid (HRA.out.below hba)
    have HO3 : Hid ((wd.alloc (.cells #[] 9)).ownsRow w.heap.size 9 1 (.slice (some ⟨wd.heap.size, 0, none⟩) 0 0) 0 []) := hid ⟨rfl, .inr ⟨wd.heap.size, 0, #[], rfl, HBd.out.size, Blk.new wd 9 #[], Nat.le_refl _, by decide, rfl, rfl⟩⟩
    have HS3 := hid HB3.out.size
    clear hba
    refine hK.out _ _ HB3.out (fun hHeld2 => ?_)
    clear hK K hHeld
    have hHeld := hHeld2
    clear hHeld2
    (try simp only [Act.put, pk1, pk2, pk3, pk4, pk5, pk6])
    refine wpAnyH_ready (rs := [13]) (by kernel_rfl) (by simp) ?_
    refine AllReadyH.cons (o := _) rfl (fun K hK => ?_) AllReadyH.nil
    refine step_row rowS1 rfl _ _ rfl (wd.alloc (.cells #[] 9)) (.slice (some ⟨wd.heap.size, 0, none⟩) 0 0) 0 [] (strL x.allow) w.heap.size ?_ HO3.out Al x.allow.length capl ?_ HRA3.out (one_strs _) HS3.out (by have := HXS.out; omega) ?_
    ·kernel_rfl
    ·kernel_rfl
    intro v4 w4 ho4 hg4 hb4 hw4
    have HB4 := hid (hb4 w HB3.out)
    clear ho4 hg4 hb4 hw4
    refine hK.out _ _ HB4.out (fun hHeld2 => ?_)
    clear hK K hHeld
    have hHeld := hHeld2
    clear hHeld2
    (try simp only [Act.put, pk1, pk2, pk3, pk4, pk5, pk6])
    refine wpAnyH_take (i := 14) (oi := _) (v := ?_) rfl (by kernel_rfl) (by kernel_rfl) (by kernel_rfl) (fun _ _ _ h => h) (Or.inl ⟨by kernel_rfl, ?_⟩) hHeld ?_
    rotate_left
    ·intro wq hSw
     go_simp
     (try with_reducible rfl)
    (try simp only [Act.put, pk1, pk2, pk3, pk4, pk5, pk6])
    refine wpAnyH_take (i := 15) (oi := _) (v := ?_) rfl (by kernel_rfl) (by kernel_rfl) (by kernel_rfl) (fun _ _ _ h => h) (Or.inl ⟨by kernel_rfl, ?_⟩) hHeld ?_
    rotate_left
    ·intro wq hSw
     go_simp
     (try with_reducible rfl)
    (try simp only [Act.put, pk1, pk2, pk3, pk4, pk5, pk6])
    refine wpAnyH_done (by kernel_rfl) ?_ _
    refine NoPanic.normal ?_
    go_wp2_with fail
    go_ret2
    exact ⟨⟨_, by rw [HRX.out]; rfl⟩, HB4.out⟩
   ·have HRX : Hid ((match (l.drop (k + 1)).find? (Co.isKind 4) with | some e => e.n | none => 0) = R) := hid (by rw [← HF.out, HFD.out]; simp [Co.isKind, hkd])
    have hkb : (x.kind == 4) = false := eqb_false hkd
    clear hkd hrr hx hr hv
    go_wp2_with fail
    go_round
    case rel => exact ⟨k + 1, hlt, by go_num, HRX⟩
    case measure => simp [RowKit.intOf]; omega
  ·obtain rfl : k = l.length := by omega
   have HNIL : Hid (R = 0) := hid (by rw [← HF.out, List.drop_length]; rfl)
   go_wp2_with fail
   go_ret2
   exact ⟨⟨_, by rw [HNIL.out]; rfl⟩, Below.refl _ _⟩
structure OwS (w1 : World) (base : Nat) (W : World) (v : Value) (ks : List Rn.Tr) : Prop where
 own : RnS.Own 42 (fun b => base ≤ b) W base v ks
 bel : Below base w1 W
 le : base ≤ W.heap.size
theorem OwS.step {w1 : World} {base : Nat} {W W' : World} {v : Value} {ks : List Rn.Tr} (h : OwS w1 base W v ks) (hb : Below W.heap.size W W') : OwS w1 base W' v ks :=
 ⟨h.own.bel hb, h.bel.trans (hb.mono h.le), Nat.le_trans h.le hb.size⟩
structure ApS (W W' : World) (v v' : Value) : Prop where
 keep : ∀ b, b < W.heap.size → some b ≠ v.ownBlock → W'.heap[b]? = W.heap[b]?
 own : v'.ownBlock = v.ownBlock ∨ ∃ k, v'.ownBlock = some k ∧ W.heap.size ≤ k
 size : W.heap.size ≤ W'.heap.size
theorem ApS.blk {W W' : World} {v v' : Value} {b : Nat} {t : TypeId} {C : Array Value} (h : ApS W W' v v') (hb : Blk W b t C) (hn : some b ≠ v.ownBlock) : Blk W' b t C := (h.keep b hb.lt hn).trans hb
theorem ApS.ne {W W' : World} {v v' : Value} {b : Nat} (h : ApS W W' v v') (hb : b < W.heap.size) (hn : some b ≠ v.ownBlock) : some b ≠ v'.ownBlock := by
 rcases h.own with e | ⟨k, e, hk⟩
 ·rw [e]; exact hn
 ·rw [e]; intro h; injection h with h; omega
theorem ap_of {w1 : World} {base : Nat} {W : World} {v : Value} {ks : List Rn.Tr} (r : List UInt8) (i e : Int) (h : OwS w1 base W v ks) (hn : ks.length ≤ 1000) :
  ∃ xs, (W.alloc (.cells #[.string (bstr r), .int .i64 i, .int .i64 e, .slice none 0 0] 42)).ownsRow base 42 4 v ks.length xs ∧ Rd (W.alloc (.cells #[.string (bstr r), .int .i64 i, .int .i64 e, .slice none 0 0] 42)) (some ⟨W.heap.size, 0, none⟩) (1 * 4) [.string (bstr r), .int .i64 i, .int .i64 e, .slice none 0 0] ∧
  ∀ v' w', w'.ownsRow base 42 4 v' (ks.length + 1) (xs ++ [.string (bstr r), .int .i64 i, .int .i64 e, .slice none 0 0]) → (W.alloc (.cells #[.string (bstr r), .int .i64 i, .int .i64 e, .slice none 0 0] 42)).grownBy w' v.ownBlock → (∀ w0, Below base w0 (W.alloc (.cells #[.string (bstr r), .int .i64 i, .int .i64 e, .slice none 0 0] 42)) → Below base w0 w') → (v'.ownBlock = v.ownBlock ∨ v'.ownBlock = some (W.alloc (.cells #[.string (bstr r), .int .i64 i, .int .i64 e, .slice none 0 0] 42)).heap.size) → OwS w1 base w' v' (ks ++ [.mk r i e []]) ∧ ApS W w' v v' := by
 have hz := (Below.refl W.heap.size W).alloc (Nat.le_refl _) (.cells #[.string (bstr r), .int .i64 i, .int .i64 e, .slice none 0 0] 42)
 have h8 := h.own.bel hz
 have hlt := h.own.lt
 obtain ⟨xs, ho, hc⟩ := h8
 refine ⟨xs, ho, Rd.of_blk (vs := [.string (bstr r), .int .i64 i, .int .i64 e, .slice none 0 0]) (Blk.new W 42 _), fun v' w' ho' hg hb hw => ?_⟩
 have hV : RnS.V (fun b => base ≤ b ∧ some b ≠ v.ownBlock) (W.alloc (.cells #[.string (bstr r), .int .i64 i, .int .i64 e, .slice none 0 0] 42)) [.string (bstr r), .int .i64 i, .int .i64 e, .slice none 0 0] (.mk r i e []) := RnV.make (ks := []) (A := none) (cap := 0) RnRow.nil
 have hown := Shp.Own.app (M := [.mk r i e []]) ho hc (Shp.Cells.one hV) ho' hg hw
 have hbl := hb w1 (h.bel.trans (hz.mono h.le))
 have hsz : W.heap.size ≤ w'.heap.size := Nat.le_trans (by simp) (hg.size)
 refine ⟨⟨hown, hbl, Nat.le_trans h.le hsz⟩, ⟨fun b hb' hne => (hg.block b (by simp; omega) hne).trans (hz.block b hb'), ?_, hsz⟩⟩
 rcases hw with e | e
 ·exact .inl e
 ·exact .inr ⟨_, e, by simp⟩
section
variable {ops : Array Oper} {rest : List Oper} {o : Oper} {a : Act} {Q : Exit → Act → World → Prop}
theorem app_leaf (hgd : o.guard = none) (s x : Operand) (ho : o.op = .call { callee := .builtin .append, args := #[s, x], argTypes := #[40, 40] })
  (w1 : World) (base : Nat) (W : World) (v : Value) (ks : List Rn.Tr) (r : List UInt8) (i e : Int) (hs : a.eval s = v) (hx : a.eval x = .slice (some ⟨W.heap.size, 0, none⟩) 1 1) (h : OwS w1 base W v ks) (hn : ks.length ≤ 1000)
  (hk : ∀ v' w', OwS w1 base w' v' (ks ++ [.mk r i e []]) → ApS W w' v v' → wpList Tryz.prog ops Q rest (a.put o.dst v') w') :
  wpList Tryz.prog ops Q (o :: rest) a (W.alloc (.cells #[.string (bstr r), .int .i64 i, .int .i64 e, .slice none 0 0] 42)) := by
 obtain ⟨xs, ho1, hr, hend⟩ := ap_of r i e h hn
 refine app_row rowRn hgd s x ho (W.alloc (.cells #[.string (bstr r), .int .i64 i, .int .i64 e, .slice none 0 0] 42)) v ks.length xs [.string (bstr r), .int .i64 i, .int .i64 e, .slice none 0 0] base hs ho1 _ 1 1 hx hr (by intro u hu; simp at hu; rcases hu with rfl | rfl | rfl | rfl <;> rfl) (by have := h.le; simp; omega) (by omega) fun v' w' h1 h2 h3 h4 => ?_
 obtain ⟨g1, g2⟩ := hend v' w' h1 h2 h3 h4
 exact hk v' w' g1 g2
variable {K : Act → World → Prop} {E : Prop} {Q0 : Exit → Act → World → Prop}
theorem step_leaf (hgd : o.guard = none) (s x : Operand) (ho : o.op = .call { callee := .builtin .append, args := #[s, x], argTypes := #[40, 40] })
  (w1 : World) (base : Nat) (W : World) (v : Value) (ks : List Rn.Tr) (r : List UInt8) (i e : Int) (hs : a.eval s = v) (hx : a.eval x = .slice (some ⟨W.heap.size, 0, none⟩) 1 1) (h : OwS w1 base W v ks) (hn : ks.length ≤ 1000)
  (hk : ∀ v' w', OwS w1 base w' v' (ks ++ [.mk r i e []]) → ApS W w' v v' → K (a.put o.dst v') w') :
  if Region.wanted o (yielded ops a.tmps) = true then o.wp Tryz.prog a (W.alloc (.cells #[.string (bstr r), .int .i64 i, .int .i64 e, .slice none 0 0] 42)) K Q0 else E := by
 obtain ⟨xs, ho1, hr, hend⟩ := ap_of r i e h hn
 refine step_row rowRn hgd s x ho (W.alloc (.cells #[.string (bstr r), .int .i64 i, .int .i64 e, .slice none 0 0] 42)) v ks.length xs [.string (bstr r), .int .i64 i, .int .i64 e, .slice none 0 0] base hs ho1 _ 1 1 hx hr (by intro u hu; simp at hu; rcases hu with rfl | rfl | rfl | rfl <;> rfl) (by have := h.le; simp; omega) (by omega) fun v' w' h1 h2 h3 h4 => ?_
 obtain ⟨g1, g2⟩ := hend v' w' h1 h2 h3 h4
 exact hk v' w' g1 g2
end
end Go.Proofs.YtacjhbbieeliaaaGreatDoor
/- The text Qg. -/
namespace Go.Proofs.YtacjhbbieeliaaaGreatDoor
open Go.RowKit Go.Lib
set_option linter.unusedVariables false
set_option linter.unusedSimpArgs false
theorem Shp.Own.keepb {α : Type} {S : Shp α} {e : TypeId} {ok : Nat → Prop} {w w' : World} {base : Nat} {v : Value} {L : List α} (h : S.Own e ok w base v L) (hk : ∀ b, (ok b ∨ base ≤ b) → b < w.heap.size → w'.heap[b]? = w.heap[b]?) : S.Own e ok w' base v L := by
 obtain ⟨xs, ⟨h1, h2⟩, h3⟩ := h
 refine ⟨xs, ⟨h1, ?_⟩, h3.keep fun b hb hlt => ⟨hb, hk b (.inl hb.1) hlt⟩⟩
 rcases h2 with h2 | ⟨k, cap, cur, rfl, hkb, hh, hn, hcap, hsz, ht⟩
 ·exact .inl h2
 ·exact .inr ⟨k, cap, cur, rfl, hkb, (hk k (.inr hkb) (Array.getElem?_eq_some_iff.1 hh).1).trans hh, hn, hcap, hsz, ht⟩
def WhA (ok : Nat → Prop) (t : Rn.Tr) (e : Ending) (w' : World) : Prop := ∃ V, e = .returned (.agg V) ∧ RnV w' ok V t
def WhI (L : List Rn.Tr) (k : Nat) (er : Int) : Prop := if er = 0 then Co.upTo L = L.take k ++ Co.upTo (L.drop k) ∧ Co.lastE L = Co.lastE (L.drop k) else Co.upTo L = L.take k ∧ Co.lastE L = er
theorem WhI.next {L : List Rn.Tr} {k : Nat} {x : Rn.Tr} (h : WhI L k 0) (hx : L[k]? = some x) : WhI L (k + 1) x.err := by
 unfold WhI at *
 rw [if_pos rfl] at h
 obtain ⟨h1, h2⟩ := h
 obtain ⟨h3, h4⟩ := List.getElem?_eq_some_iff.1 hx
 have hd : L.drop k = x :: L.drop (k + 1) := by rw [List.drop_eq_getElem_cons h3, h4]
 have ht : L.take (k + 1) = L.take k ++ [x] := by rw [List.take_add_one, hx]; rfl
 rw [hd] at h1 h2
 rw [show Co.upTo (x :: L.drop (k + 1)) = if x.err = 0 then x :: Co.upTo (L.drop (k + 1)) else [x] from rfl] at h1
 rw [show Co.lastE (x :: L.drop (k + 1)) = if x.err = 0 then Co.lastE (L.drop (k + 1)) else x.err from rfl] at h2
 by_cases he : x.err = 0
 ·rw [if_pos he] at h1 h2 ⊢
  rw [ht, List.append_assoc]
  exact ⟨h1, h2⟩
 ·rw [if_neg he] at h1 h2 ⊢
  rw [ht]
  exact ⟨h1, h2⟩
theorem WhI.done {L : List Rn.Tr} {k : Nat} {er : Int} (h : WhI L k er) (hd : er ≠ 0 ∨ k = L.length) : Co.upTo L = L.take k ∧ Co.lastE L = er := by
 unfold WhI at h
 by_cases he : er = 0
 ·rw [if_pos he] at h
  rcases hd with hd | rfl
  ·exact absurd he hd
  ·rw [List.drop_length] at h
   exact ⟨h.1.trans (List.append_nil _), h.2.trans he.symm⟩
 ·rwa [if_neg he] at h
theorem rwhole_any (ok : Nat → Prop) (r : List UInt8) (id : Int) (L : List Rn.Tr) (A : Option Addr) (cap : Nat) (w : World) (h : RnRow w ok A L) (hok : ∀ b, ok b → b < w.heap.size) (hl : L.length ≤ 1000000) :
  Calls Tryz.prog 24 #[.string (bstr r), .int .i64 id, .slice A L.length cap] w fun e w' => WhA (fun b => ok b ∨ w.heap.size ≤ b) (Co.whole r id L) e w' ∧ Below w.heap.size w w' := by
 have hb0 := (Below.refl w.heap.size w).alloc (Nat.le_refl _) (.cells zRn 42)
 have hb1 := hb0.alloc (by rw [World.size_alloc]; omega) (.cells #[.string (bstr r), .int .i64 id, .int .i64 0, .slice none 0 0] 42)
 have hk0 := (Blk.new w 42 zRn).alloc (.cells #[.string (bstr r), .int .i64 id, .int .i64 0, .slice none 0 0] 42)
 have hk1 := Blk.new (w.alloc (.cells zRn 42)) 42 #[.string (bstr r), .int .i64 id, .int .i64 0, .slice none 0 0]
 rw [World.size_alloc] at hk1
 have HROW := hid h
 have HB1 := hid hb1
 have HK0 := hid hk0
 have HK1 := hid hk1
 have HLL := hid hl
 have HOK := hid hok
 have HS1 : Hid (((w.alloc (.cells zRn 42)).alloc (.cells #[.string (bstr r), .int .i64 id, .int .i64 0, .slice none 0 0] 42)).heap.size = w.heap.size + 1 + 1) := hid (by simp)
 have HWH : Hid (Co.whole r id L = .mk r id (Co.lastE L) (Co.upTo L)) := hid rfl
 generalize Co.whole r id L = WT at *
 clear h hb0 hb1 hk0 hk1 hok
 go_enter Tryz.func24, Tryz.ntmps24
 go_wp2_with fail
 generalize hw1 : (w.alloc (.cells zRn 42)).alloc (.cells #[.string (bstr r), .int .i64 id, .int .i64 0, .slice none 0 0] 42) = w1 at *
 clear hw1
 go_loopw [8] (fun ix wr => ∃ (k : Nat) (kv : Value) (er : Int), k ≤ L.length ∧ ix = .int .i64 (k : Int) ∧ Blk wr (w.heap.size + 1) 42 #[.string (bstr r), .int .i64 id, .int .i64 er, kv] ∧ RnS.Own 42 (fun b => ok b ∨ w.heap.size + 1 + 1 ≤ b) wr (w.heap.size + 1 + 1) kv (L.take k) ∧ Below w.heap.size w wr ∧ Blk wr w.heap.size 42 zRn ∧ Hid (WhI L k er)) (fun ix _ => L.length - (RowKit.intOf ix).toNat)
 case atStart => exact ⟨0, _, 0, Nat.zero_le _, rfl, HK1.out, Shp.Own.nil, HB1.out, HK0.out, hid (by unfold WhI; rw [if_pos rfl]; exact ⟨rfl, rfl⟩)⟩
 case round =>
  obtain ⟨k, kv, er, hk, rfl, hkr, hown, hb, hk0, HI⟩ := hrel
  have HB := hid hb
  have HKR := hid hkr
  have HK0r := hid hk0
  have HOW := hid hown
  have hc2 := hkr.cell 2
  have HLT : Hid ((L.take k).length = k) := hid (by rw [List.length_take]; omega)
  obtain ⟨A5, c5, hkv, hc5⟩ := HOW.out.len
  rw [HLT.out] at hkv
  subst hkv
  clear hb hkr hown hk0 hc5
  by_cases hgo : k < L.length ∧ er = 0
  ·obtain ⟨hlt, rfl⟩ := hgo
   obtain ⟨x, hx⟩ : ∃ x, L[k]? = some x := ⟨_, List.getElem?_eq_getElem hlt⟩
   obtain ⟨b, off, X, rfl, hbo, hr, hxl, hxv⟩ := HROW.out k x hx
   have hbw := HOK.out b hbo
   obtain ⟨Bx, cx, hX, -⟩ := hxv.open
   have hX : X = [.string (bstr x.rule), .int .i64 x.id, .int .i64 x.err, .slice Bx x.kids.length cx] := by have := congrArg Array.toList hX; simpa using this
   subst hX
   have HBW : Hid (b < w.heap.size) := hid hbw
   have HBR : Hid (b < wr.heap.size) := hid (Nat.lt_of_lt_of_le hbw HB.out.size)
   have HXR : Hid (wr.rangeAt b (off + k * 4) [.string (bstr x.rule), .int .i64 x.id, .int .i64 x.err, .slice Bx x.kids.length cx]) := hid (range_keep hr (HB.out.block b hbw))
   have HXV : Hid (RnV wr ok #[.string (bstr x.rule), .int .i64 x.id, .int .i64 x.err, .slice Bx x.kids.length cx] x) := hid (hxv.bel HB.out)
   have HLX : Hid ((Tryz.prog.info? 42).map (·.size) = some ([.string (bstr x.rule), .int .i64 x.id, .int .i64 x.err, .slice Bx x.kids.length cx] : List Value).length) := hid size_rea
   have HC3 : Hid (wr.drew.cell? ⟨w.heap.size + 1, 3, none⟩ = some (.slice A5 k c5)) := hid (HKR.out.cell 3)
   have HTK : Hid (L.take k ++ [x] = L.take (k + 1)) := hid (by rw [List.take_add_one, hx]; rfl)
   have HIN := hid (HI.out.next hx)
   have hcnt : k + 1 ≤ L.length := hlt
   have hki : (k : Int) < (L.length : Int) := by omega
   clear hx hr hxl hxv hbw hbo
   go_upto_region 5 with fail
   refine region_till (fun W => W.cell? ⟨w.heap.size + 1, 3, none⟩ = some (.slice A5 k c5) ∧ W.rangeAt b (off + k * 4) [.string (bstr x.rule), .int .i64 x.id, .int .i64 x.err, .slice Bx x.kids.length cx]) (fun i => decide (8 ≤ i)) (by kernel_rfl) ⟨HC3.out, HXR.out⟩ (fun hHeld => ?_)
   refine till_take (i := 0) (oi := _) (v := ?_) rfl (by kernel_rfl) (by kernel_rfl) (by kernel_rfl) (by kernel_rfl) (fun _ _ _ h => h) (Or.inl ⟨by rfl, ?_⟩) hHeld ?_
   rotate_left
   ·intro wq hSw
    go_simp
    (try with_reducible rfl)
   (try simp only [Act.put, List.getElem_toArray, List.getElem_cons_zero, List.getElem_cons_succ, List.setIfInBounds_toArray, List.set_cons_zero, List.set_cons_succ])
   refine till_take (i := 1) (oi := _) (v := ?_) rfl (by kernel_rfl) (by kernel_rfl) (by kernel_rfl) (by kernel_rfl) (fun _ _ _ h => h) (Or.inl ⟨by rfl, ?_⟩) hHeld ?_
   rotate_left
   ·intro wq hSw
    have hSw1 := hSw.1
    go_simp
    (try with_reducible rfl)
   (try simp only [Act.put, List.getElem_toArray, List.getElem_cons_zero, List.getElem_cons_succ, List.setIfInBounds_toArray, List.set_cons_zero, List.set_cons_succ])
   refine till_take (i := 2) (oi := _) (v := ?_) rfl (by kernel_rfl) (by kernel_rfl) (by kernel_rfl) (by kernel_rfl) (fun _ _ _ h => h) (Or.inl ⟨by rfl, ?_⟩) hHeld ?_
   rotate_left
   ·intro wq hSw
    go_simp
    (try with_reducible rfl)
   (try simp only [Act.put, List.getElem_toArray, List.getElem_cons_zero, List.getElem_cons_succ, List.setIfInBounds_toArray, List.set_cons_zero, List.set_cons_succ])
   refine till_take (i := 3) (oi := _) (v := ?_) rfl (by kernel_rfl) (by kernel_rfl) (by kernel_rfl) (by kernel_rfl) (fun _ _ _ h => h) (Or.inl ⟨by rfl, ?_⟩) hHeld ?_
   rotate_left
   ·intro wq hSw
    go_simp
    (try with_reducible rfl)
   (try simp only [Act.put, List.getElem_toArray, List.getElem_cons_zero, List.getElem_cons_succ, List.setIfInBounds_toArray, List.set_cons_zero, List.set_cons_succ])
   refine till_take (i := 4) (oi := _) (v := ?_) rfl (by kernel_rfl) (by kernel_rfl) (by kernel_rfl) (by kernel_rfl) (fun _ _ _ h => h) (Or.inl ⟨by rfl, ?_⟩) hHeld ?_
   rotate_left
   ·intro wq hSw
    go_simp
    (try with_reducible rfl)
   (try simp only [Act.put, List.getElem_toArray, List.getElem_cons_zero, List.getElem_cons_succ, List.setIfInBounds_toArray, List.set_cons_zero, List.set_cons_succ])
   refine till_take (i := 5) (oi := _) (v := _) rfl (by kernel_rfl) (by kernel_rfl) (by kernel_rfl) (by kernel_rfl) (fun _ _ _ h => h) (mid_yields rfl Tryz.underlying42 HLX.out (fun W h => h.2) (by kernel_rfl) _ rfl rfl) hHeld ?_
   (try simp only [Act.put, List.getElem_toArray, List.getElem_cons_zero, List.getElem_cons_succ, List.setIfInBounds_toArray, List.set_cons_zero, List.set_cons_succ])
   refine till_ready (rs := [6]) (by kernel_rfl) (by simp) ?_
   refine ReadyT.cons (o := _) rfl (fun K hK => ?_) ReadyT.nil
   go_simp
   have hz8 := (Below.refl wr.heap.size wr).drew.alloc (Nat.le_refl _) (.cells #[.string (bstr x.rule), .int .i64 x.id, .int .i64 x.err, .slice Bx x.kids.length cx] 42)
   have HZ8 := hid hz8
   have HK8 := hid (HKR.out.below hz8 HKR.out.lt)
   have HRD8 : Hid (Rd (wr.drew.alloc (.cells #[.string (bstr x.rule), .int .i64 x.id, .int .i64 x.err, .slice Bx x.kids.length cx] 42)) (some ⟨wr.heap.size, 0, none⟩) (1 * 4) [.string (bstr x.rule), .int .i64 x.id, .int .i64 x.err, .slice Bx x.kids.length cx]) := hid (Rd.of_blk (vs := [.string (bstr x.rule), .int .i64 x.id, .int .i64 x.err, .slice Bx x.kids.length cx]) (Blk.new wr.drew 42 _))
   have HO1 : Hid (∀ u ∈ ([.string (bstr x.rule), .int .i64 x.id, .int .i64 x.err, .slice Bx x.kids.length cx] : List Value), u.oneCell' = true) := hid (by intro u hu; simp at hu; rcases hu with rfl | rfl | rfl | rfl <;> rfl)
   have hs8 : w.heap.size + 1 + 1 ≤ (wr.drew.alloc (.cells #[.string (bstr x.rule), .int .i64 x.id, .int .i64 x.err, .slice Bx x.kids.length cx] 42)).heap.size := by have := HK8.out.lt; omega
   have HOW8 := hid (HOW.out.bel hz8)
   obtain ⟨xs, hown8, hcs8⟩ := HOW8.out
   have HOX := hid hown8
   have HCX := hid hcs8
   have HXV8 := hid (HXV.out.bel hz8)
   clear hown8 hcs8 hz8
   refine hK.out _ _ (.inr ⟨HK8.out.cell 3, range_keep HXR.out (HZ8.out.block b HBR.out)⟩) ?_
   clear hHeld
   clear hK K
   (try simp only [Act.put, List.getElem_toArray, List.getElem_cons_zero, List.getElem_cons_succ, List.setIfInBounds_toArray, List.set_cons_zero, List.set_cons_succ])
   refine till_ready (rs := [7]) (by kernel_rfl) (by simp) ?_
   refine ReadyT.cons (o := _) rfl (fun K hK => ?_) ReadyT.nil
   refine step_row rowRn rfl _ _ rfl (wr.drew.alloc (.cells #[.string (bstr x.rule), .int .i64 x.id, .int .i64 x.err, .slice Bx x.kids.length cx] 42)) (.slice A5 k c5) (L.take k).length xs [.string (bstr x.rule), .int .i64 x.id, .int .i64 x.err, .slice Bx x.kids.length cx] (w.heap.size + 1 + 1) ?_ HOX.out (some ⟨wr.heap.size, 0, none⟩) 1 1 ?_ HRD8.out HO1.out hs8 (by have := HLL.out; rw [List.length_take]; omega) ?_
   ·kernel_rfl
   ·kernel_rfl
   intro v9 w9 ho9 hg9 hb9 hw9
   have HOL : Hid (∀ q, (Value.slice A5 k c5).ownBlock = some q → w.heap.size + 1 + 1 ≤ q ∧ q < wr.heap.size) := hid (fun q hq => by
    obtain ⟨xs0, h0, -⟩ := HOW.out
    exact h0.lt q hq)
   have hgo : some (w.heap.size + 1) ≠ (Value.slice A5 k c5).ownBlock := fun e => by have := (HOL.out _ e.symm).1; omega
   have HXK : Hid (RnS.V (fun q => (ok q ∨ w.heap.size + 1 + 1 ≤ q) ∧ some q ≠ (Value.slice A5 k c5).ownBlock) (wr.drew.alloc (.cells #[.string (bstr x.rule), .int .i64 x.id, .int .i64 x.err, .slice Bx x.kids.length cx] 42)) [.string (bstr x.rule), .int .i64 x.id, .int .i64 x.err, .slice Bx x.kids.length cx] x) := hid (RnV.keep (V := #[.string (bstr x.rule), .int .i64 x.id, .int .i64 x.err, .slice Bx x.kids.length cx]) HXV8.out fun q hq _ => ⟨⟨.inl hq, fun e => by have := (HOL.out _ e.symm).1; have := HOK.out q hq; omega⟩, rfl⟩)
   have how9 := Shp.Own.app (M := [x]) HOX.out HCX.out (Shp.Cells.one HXK.out) ho9 hg9 hw9
   rw [show L.take k ++ [x] = L.take (k + 1) from HTK.out] at how9
   have HOW9 := hid how9
   have HK9 := hid (HK8.out.grown hg9 hgo)
   have HK09 : Hid (Blk w9 w.heap.size 42 zRn) := hid ((HK0r.out.below HZ8.out HK0r.out.lt).grown hg9 (fun e => by have := (HOL.out _ e.symm).1; omega))
   have HB9 : Hid (Below w.heap.size w w9) := hid ((HB.out.trans (HZ8.out.mono HB.out.size)).grown hg9 (by have := HB.out.size; have := HZ8.out.size; omega) (fun q e => by have := (HOL.out _ e).1; omega))
   have HXR9 : Hid (w9.rangeAt b (off + k * 4) [.string (bstr x.rule), .int .i64 x.id, .int .i64 x.err, .slice Bx x.kids.length cx]) := hid (range_keep HXR.out ((hg9.block b (Nat.lt_of_lt_of_le HBR.out HZ8.out.size) (fun e => by have := (HOL.out _ e.symm).1; have := HBW.out; omega)).trans (HZ8.out.block b HBR.out)))
   obtain ⟨A9, c9, hv9, -⟩ := own_at ho9
   rw [HLT.out] at hv9
   subst hv9
   clear ho9 hg9 hb9 hw9 hgo how9 hs8
   refine hK.out _ _ (.inr ⟨HK9.out.cell 3, HXR9.out⟩) ?_
   clear hK K
   (try simp only [Act.put, List.getElem_toArray, List.getElem_cons_zero, List.getElem_cons_succ, List.setIfInBounds_toArray, List.set_cons_zero, List.set_cons_succ])
   refine till_loose _ _ _ _ (late_of (by kernel_rfl)) ?_
   have hHeld : True := trivial
   refine till_take (i := 8) (oi := _) (v := ?_) rfl (by kernel_rfl) (by kernel_rfl) (by kernel_rfl) (by kernel_rfl) (fun _ _ _ h => h) (Or.inl ⟨by rfl, ?_⟩) hHeld ?_
   rotate_left
   ·intro wq hSw
    go_simp
    (try with_reducible rfl)
   (try simp only [Act.put, List.getElem_toArray, List.getElem_cons_zero, List.getElem_cons_succ, List.setIfInBounds_toArray, List.set_cons_zero, List.set_cons_succ])
   have hc9 := HK9.out.cell 3
   have hf9 := HK9.out.frozen 3
   clear hHeld
   refine till_ready (rs := [9]) (by kernel_rfl) (by simp) ?_
   refine ReadyT.cons (o := _) rfl (fun K hK => ?_) ReadyT.nil
   go_simp
   refine hK.out _ _ (.inr trivial) ?_
   clear hc9 hf9
   clear hK K
   (try simp only [Act.put, List.getElem_toArray, List.getElem_cons_zero, List.getElem_cons_succ, List.setIfInBounds_toArray, List.set_cons_zero, List.set_cons_succ])
   refine till_done (by kernel_rfl) ?_ _
   have HK10 : Hid (Blk (w9.setCell ⟨w.heap.size + 1, 3, none⟩ (.slice A9 (k + 1) c9)) (w.heap.size + 1) 42 #[.string (bstr r), .int .i64 id, .int .i64 0, .slice A9 (k + 1) c9]) := hid (HK9.out.set_ 3 _)
   have hc10 := HK10.out.cell 2
   have hf10 := HK10.out.frozen 2
   have hcx : (w9.setCell ⟨w.heap.size + 1, 3, none⟩ (.slice A9 (k + 1) c9)).cell? ⟨b, off + k * 4 + 2, none⟩ = some (.int .i64 x.err) := (range_keep HXR9.out (Below.heap_setCell _ _ _ _ (by show b ≠ w.heap.size + 1; have := HBW.out; omega))) 2 _ rfl
   go_wp2_with fail
   have HK11 : Hid (Blk ((w9.setCell ⟨w.heap.size + 1, 3, none⟩ (.slice A9 (k + 1) c9)).setCell ⟨w.heap.size + 1, 2, none⟩ (.int .i64 x.err)) (w.heap.size + 1) 42 #[.string (bstr r), .int .i64 id, .int .i64 x.err, .slice A9 (k + 1) c9]) := hid (HK10.out.set_ 2 _)
   have HFR : Hid (∀ q, q ≠ w.heap.size + 1 → ((w9.setCell ⟨w.heap.size + 1, 3, none⟩ (.slice A9 (k + 1) c9)).setCell ⟨w.heap.size + 1, 2, none⟩ (.int .i64 x.err)).heap[q]? = w9.heap[q]?) := hid (fun q hq => (Below.heap_setCell _ _ _ _ (by show q ≠ w.heap.size + 1; exact hq)).trans (Below.heap_setCell _ _ _ _ (by show q ≠ w.heap.size + 1; exact hq)))
   go_roundw
   case rel => exact ⟨k + 1, _, x.err, hcnt, by go_num, HK11.out, HOW9.out.keepb (fun q hq _ => HFR.out q (by rcases hq with (h | h) | h; have := HOK.out q h; omega; omega; omega)), (HB9.out.setCell (by show w.heap.size ≤ w.heap.size + 1; omega) _).setCell (by show w.heap.size ≤ w.heap.size + 1; omega) _, (HFR.out w.heap.size (by omega)).trans HK09.out, HIN⟩
   case measure => simp [RowKit.intOf]; omega
  ·have HD := hid (HI.out.done (by rcases Nat.lt_or_ge k L.length with h | h; exact .inl (fun e => hgo ⟨h, e⟩); exact .inr (by omega)))
   have HRS : Hid ((Tryz.prog.info? 42).map (·.size) = some (#[.string (bstr r), .int .i64 id, .int .i64 er, .slice A5 k c5] : Array Value).size) := hid size_rn
   obtain ⟨A6, c6, e6, -, hrow6⟩ := HOW.out.row (ok' := fun b => ok b ∨ w.heap.size + 1 + 1 ≤ b) (fun b h => h) (fun q hq => by
    obtain ⟨xs, h1, -⟩ := HOW.out
    exact .inr (h1.lt q hq).1)
   rw [HLT.out] at e6
   injection e6 with e6 _ e7
   subst e6 e7
   have HRV : Hid (RnV (wr.setRow w.heap.size #[.string (bstr r), .int .i64 id, .int .i64 er, .slice A5 k c5]) (fun b => ok b ∨ w.heap.size ≤ b) #[.string (bstr r), .int .i64 id, .int .i64 er, .slice A5 k c5] WT) := hid (by
    rw [HWH.out, HD.out.1, HD.out.2]
    have hmk := RnV.make (t := r) (o := id) (n := er) (cap := c5) (hrow6.keep (w' := wr.setRow w.heap.size #[.string (bstr r), .int .i64 id, .int .i64 er, .slice A5 k c5]) (ok' := fun b => ok b ∨ w.heap.size ≤ b) (fun q hq _ => ⟨(by rcases hq with h | h; exact .inl h; exact .inr (by omega)), setRow_other _ _ _ _ (by rcases hq with h | h; have := HOK.out q h; omega; omega)⟩)).rn
    rw [HLT.out] at hmk
    exact hmk)
   clear hrow6
   rcases Nat.lt_or_ge k L.length with hlt | hge
   ·have her : er ≠ 0 := fun e => hgo ⟨hlt, e⟩
    have hek : (er == 0) = false := eqb_false her
    clear her hgo
    go_wp2_with (first
     | (refine wpList_load_row rfl 42 _ rfl (w.heap.size + 1) rfl 42 #[.string (bstr r), .int .i64 id, .int .i64 er, .slice A5 k c5] (0, 0) _ HKR.out Tryz.underlying42 rfl HRS.out ?_)
     | ((with_reducible refine store_rowb rfl 42 _ _ rfl w.heap.size #[.string (bstr r), .int .i64 id, .int .i64 er, .slice A5 k c5] ?_ ?_ 42 zRn HK0r.out HRS.out ?_ (by simp [Value.oneCell']) ?_); rfl; rfl; rfl))
    exact bodyPost_ret (results_cell_row rfl _ _ w.heap.size 42 _ (0, 0) _ rfl (setRow_heap _ _ _ _ _ _ HK0r.out) Tryz.underlying42 rfl HRS.out) rfl ⟨⟨_, rfl, HRV.out⟩, below_setRow HB.out (Nat.le_refl _) _⟩
   ·obtain rfl : k = L.length := by omega
    clear hgo
    go_wp2_with (first
     | (refine wpList_load_row rfl 42 _ rfl (w.heap.size + 1) rfl 42 #[.string (bstr r), .int .i64 id, .int .i64 er, .slice A5 L.length c5] (0, 0) _ HKR.out Tryz.underlying42 rfl HRS.out ?_)
     | ((with_reducible refine store_rowb rfl 42 _ _ rfl w.heap.size #[.string (bstr r), .int .i64 id, .int .i64 er, .slice A5 L.length c5] ?_ ?_ 42 zRn HK0r.out HRS.out ?_ (by simp [Value.oneCell']) ?_); rfl; rfl; rfl))
    exact bodyPost_ret (results_cell_row rfl _ _ w.heap.size 42 _ (0, 0) _ rfl (setRow_heap _ _ _ _ _ _ HK0r.out) Tryz.underlying42 rfl HRS.out) rfl ⟨⟨_, rfl, HRV.out⟩, below_setRow HB.out (Nat.le_refl _) _⟩
end Go.Proofs.YtacjhbbieeliaaaGreatDoor
/- The text Qe. -/
namespace Go.Proofs.YtacjhbbieeliaaaGreatDoor
open Go.RowKit Go.Lib
set_option linter.unusedVariables false
set_option linter.unusedSimpArgs false
theorem rfirstjoin_any (ok : Nat → Prop) (e : Co.Ev) (X0 : List Value) (l : List Co.Ev) (A : Option Addr) (cap : Nat) (w : World) (hX : EvV ok w X0 e) (h : EvRow ok w A l) (hl : l.length ≤ 1000000) (hp : e.prev.length ≤ 1000000) :
  Calls Tryz.prog 89 #[.agg X0.toArray, .slice A l.length cap] w fun r w' => r = .returned (.bool (Co.firstB e l)) ∧ Below w.heap.size w w' := by
 have hb1 := (Below.refl w.heap.size w).alloc (Nat.le_refl _) (.cells X0.toArray 34)
 have HB1 := hid hb1
 have HK1 := hid (Blk.new w 34 X0.toArray)
 have HX := hid (hX.bel hb1)
 have HROW := hid (h.bel hb1)
 have HC : Hid (Calls Tryz.prog 58 #[.slice A l.length cap] (w.alloc (.cells X0.toArray 34)) fun e w' => FoundA ok (Co.createOf l) e w' ∧ Below (w.alloc (.cells X0.toArray 34)).heap.size (w.alloc (.cells X0.toArray 34)) w') := hid (rcreation_any ok l A cap _ (h.bel hb1) hl)
 have HWS1 : Hid (w.heap.size < (w.alloc (.cells X0.toArray 34)).heap.size) := hid (by simp)
 obtain ⟨R, hR⟩ : ∃ R, R = Co.firstB e l := ⟨_, rfl⟩
 have HR : Hid (R = match Co.createOf l with | none => false | some c => e.prev == [c.id] && (e.sender == c.sender && (e.key == c.sender && (e.n == 3 && (l.find? (Co.isMem e.key)).isNone)))) := hid hR
 rw [← hR]
 clear hX h hR hb1
 generalize hw1 : w.alloc (.cells X0.toArray 34) = w1 at *
 go_enter Tryz.func89, Tryz.ntmps89
 go_wp2_with fail
 refine HC.out.mono ?_
 rintro r w3 ⟨⟨V, rfl, hv⟩, hb3⟩
 have hvl := hv.len
 rw [Array.length_toList] at hvl
 have HSX : Hid ((Tryz.prog.info? 34).map (·.size) = some V.size) := hid (by rw [size_ev, hvl])
 have HSZ : Hid (zEv.size = V.size) := hid hvl.symm
 have HOV : Hid (V.all (·.oneCell') = true) := hid (by have := EvS.all hv; rwa [Array.toArray_toList] at this)
 have HNEW := hid (Blk.new w3 34 zEv)
 have hb4 := below_setRow (g := w3.heap.size) ((Below.refl w3.heap.size w3).alloc (Nat.le_refl _) (.cells zEv 34)) (Nat.le_refl _) V
 have HK4 : Hid (Blk ((w3.alloc (.cells zEv 34)).setRow w3.heap.size V) w3.heap.size 34 V) := hid (setRow_heap _ _ _ _ _ _ HNEW.out)
 have HB14 := hid (hb3.trans (hb4.mono hb3.size))
 have HB4 := hid (HB1.out.trans (HB14.out.mono HB1.out.size))
 have HKE := hid (HK1.out.below HB14.out HWS1.out)
 have HV0 : Hid (V[0]? = some (.int .i64 ((Co.createOf l).getD default).id)) := hid (by rw [← Array.getElem?_toList]; exact hv.c0)
 have HV2 : Hid (V[2]? = some (.string (bstr ((Co.createOf l).getD default).sender))) := hid (by rw [← Array.getElem?_toList]; exact hv.c2)
 have HX4 := hid (HX.out.bel HB14.out)
 have HROW4 := hid (HROW.out.bel HB14.out)
 clear hv hb3 hb4 hvl
 generalize hw4 : (w3.alloc (.cells zEv 34)).setRow w3.heap.size V = w4 at *
 have HWS4 := hid HKE.out.lt
 have HHM := hid (fun n => (rhas_any ok l A cap e.key (w4.drewN n) (HROW4.out.bel (below_drewN (Below.refl _ _) n)) hl).mono fun r W (h : r = .returned (.bool (l.find? (Co.isMem e.key)).isSome) ∧ w4.drewN n = W) => (And.intro h.1 h.2.symm : r = .returned (.bool (l.find? (Co.isMem e.key)).isSome) ∧ W = w4.drewN n))
 generalize l.find? (Co.isMem e.key) = fm at *
 go_upto_region 2 with ((with_reducible refine store_rowe rfl 34 _ _ rfl w3.heap.size V ?_ ?_ 34 zEv HNEW.out HSX.out HSZ.out HOV.out ?_); rfl; rfl; rw [hw4])
 obtain ⟨cp, _, _, _, _, _, hX0, hL⟩ := HX4.out
 obtain ⟨Ap, capp, rfl, hrp, -⟩ := hL.prev
 have hc8 : w4.cell? ⟨w.heap.size, 8, none⟩ = some (.slice Ap e.prev.length capp) := (HKE.out.cell 8).trans (by rw [List.getElem?_toArray, hX0]; rfl)
 have hc2 : w4.cell? ⟨w.heap.size, 2, none⟩ = some (.string (bstr e.sender)) := (HKE.out.cell 2).trans (by rw [List.getElem?_toArray]; exact HX4.out.c2)
 have hc5 : w4.cell? ⟨w.heap.size, 5, none⟩ = some (.string (bstr e.key)) := (HKE.out.cell 5).trans (by rw [List.getElem?_toArray]; exact HX4.out.c5)
 have hc11 : w4.cell? ⟨w.heap.size, 11, none⟩ = some (.int .i64 e.n) := (HKE.out.cell 11).trans (by rw [List.getElem?_toArray]; exact HX4.out.c11)
 have HRP : Hid (Rd w4 Ap e.prev.length (intL e.prev)) := hid (by have := hrp; rw [Nat.mul_one] at this; exact this)
 clear hX0 hL hrp
 cases hcr : Co.createOf l with
 | none =>
  have HRF : Hid (R = false) := hid (by rw [HR.out, hcr])
  rw [show (none : Option Co.Ev).isSome = false from rfl]
  clear hcr
  go_quiet (fail)
  go_wp2_with fail
  go_ret
  exact ⟨ret_bool HRF.out.symm, below_drewN HB4.out _⟩
 | some c =>
  rw [hcr] at HR HV0 HV2
  have HR : Hid (R = (e.prev == [c.id] && (e.sender == c.sender && (e.key == c.sender && (e.n == 3 && fm.isNone))))) := HR
  have hd0 : w4.cell? ⟨w3.heap.size, 0, none⟩ = some (.int .i64 c.id) := (HK4.out.cell 0).trans HV0.out
  have hd2 : w4.cell? ⟨w3.heap.size, 2, none⟩ = some (.string (bstr c.sender)) := (HK4.out.cell 2).trans HV2.out
  rw [show (some c).isSome = true from rfl]
  clear hcr
  generalize c.id = cid at *
  generalize c.sender = csd at *
  by_cases hlen : e.prev.length = 1
  ·obtain ⟨pv, hpv⟩ : ∃ pv, e.prev = [pv] := by
    match hq : e.prev, hlen with
    | [a], _ => exact ⟨a, rfl⟩
   rw [hpv] at HR HRP hc8
   rw [show [pv].length = 1 from rfl] at HRP hc8
   obtain ⟨gp, op, rfl, hcp⟩ := HRP.out.2 0 _ (intL_at (l := [pv]) (k := 0) rfl)
   rw [Nat.add_zero] at hcp
   clear hlen hpv HRP
   by_cases hpc : pv = cid
   ·subst hpc
    have hn0 : (pv == pv) = true := by simp
    have HR : Hid (R = (e.sender == csd && (e.key == csd && (e.n == 3 && fm.isNone)))) := hid (by rw [HR.out]; simp)
    have hs0 := str_dec e.sender (bstr csd)
    by_cases hsn : e.sender = csd
    ·rw [show (bstr csd).data.toList = csd from rfl, decide_eq_true hsn] at hs0
     have HR : Hid (R = (e.key == csd && (e.n == 3 && fm.isNone))) := hid (by rw [HR.out, hsn]; simp)
     have hs1 := str_dec e.key (bstr csd)
     clear hsn
     by_cases hkc : e.key = csd
     ·rw [show (bstr csd).data.toList = csd from rfl, decide_eq_true hkc] at hs1
      have HR : Hid (R = (e.n == 3 && fm.isNone)) := hid (by rw [HR.out, hkc]; simp)
      clear hkc
      by_cases hn3 : e.n = 3
      ·have HRF : Hid (R = !fm.isSome) := hid (by rw [HR.out, hn3]; cases fm <;> rfl)
       have hn1 : (e.n == 3) = true := eqb_true hn3
       clear hn3
       generalize fm.isSome = fs at *
       go_quiet (exact Calls.quiet_of_same (HHM.out _))
       go_wp2_with fail
       go_ret
       exact ⟨ret_bool HRF.out.symm, below_drewN HB4.out _⟩
      ·have HRF : Hid (R = false) := hid (by rw [HR.out]; simp [hn3])
       have hn1 : (e.n == 3) = false := eqb_false hn3
       clear hn3
       go_quiet (fail)
       go_wp2_with fail
       go_ret
       exact ⟨ret_bool HRF.out.symm, below_drewN HB4.out _⟩
     ·have HRF : Hid (R = false) := hid (by rw [HR.out]; simp [hkc])
      rw [show (bstr csd).data.toList = csd from rfl, decide_eq_false hkc] at hs1
      clear hkc
      go_quiet (fail)
      go_wp2_with fail
      go_ret
      exact ⟨ret_bool HRF.out.symm, below_drewN HB4.out _⟩
    ·have HRF : Hid (R = false) := hid (by rw [HR.out]; simp [hsn])
     rw [show (bstr csd).data.toList = csd from rfl, decide_eq_false hsn] at hs0
     clear hsn
     go_quiet (fail)
     go_wp2_with fail
     go_ret
     exact ⟨ret_bool HRF.out.symm, below_drewN HB4.out _⟩
   ·have HRF : Hid (R = false) := hid (by rw [HR.out]; simp [hpc])
    have hn0 : (pv == cid) = false := eqb_false hpc
    clear hpc
    go_quiet (fail)
    go_wp2_with fail
    go_ret
    exact ⟨ret_bool HRF.out.symm, below_drewN HB4.out _⟩
  ·have HRF : Hid (R = false) := hid (by
    have : (e.prev == [cid]) = false := by rw [beq_eq_false_iff_ne]; intro h; exact hlen (by rw [h]; rfl)
    rw [HR.out, this]; rfl)
   have hb1 : ((e.prev.length : Int) == 1) = false := by rw [beq_eq_false_iff_ne]; omega
   have hb2 : (e.prev.length == 1) = false := by rw [beq_eq_false_iff_ne]; exact hlen
   clear hlen
   go_quiet (fail)
   go_wp2_with fail
   go_ret
   exact ⟨ret_bool HRF.out.symm, below_drewN HB4.out _⟩
end Go.Proofs.YtacjhbbieeliaaaGreatDoor
