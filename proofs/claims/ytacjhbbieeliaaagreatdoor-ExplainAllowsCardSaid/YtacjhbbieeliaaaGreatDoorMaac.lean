/- The texts Qh, Qia, Qib of this proof, one behind the other. -/
import Derived.Test.YtacjhbbieeliaaaGreatDoorMaab
import Derived.Test.YtacjhbbieeliaaaGreatDoorMaz
set_option linter.unusedSimpArgs false
set_option maxHeartbeats 16000000
set_option maxRecDepth 100000
/- The text Qh. -/
namespace Go.Proofs.YtacjhbbieeliaaaGreatDoor
open Go.RowKit Go.Lib
set_option linter.unusedVariables false
set_option linter.unusedSimpArgs false
def RsRowA (ks : List Rn.Tr) (base : Nat) (e : Ending) (w' : World) : Prop := ∃ A cap, e = .returned (.slice A ks.length cap) ∧ ks.length ≤ cap ∧ RnS.Row (fun b => base ≤ b) w' A ks
theorem own_lit1 (W : World) (base : Nat) (hb : base ≤ W.heap.size) (r : List UInt8) (i e : Int) : RnS.Own 42 (fun b => base ≤ b) (W.alloc (.cells #[.string (bstr r), .int .i64 i, .int .i64 e, .slice none 0 0] 42)) base (.slice (some ⟨W.heap.size, 0, none⟩) 1 1) [.mk r i e []] :=
 ⟨[.string (bstr r), .int .i64 i, .int .i64 e, .slice none 0 0], ⟨rfl, .inr ⟨W.heap.size, 1, #[.string (bstr r), .int .i64 i, .int .i64 e, .slice none 0 0], rfl, hb, Blk.new W 42 _, Nat.le_refl _, by decide, rfl, rfl⟩⟩, Shp.Cells.one (S := RnS) (RnV.make (ks := []) (A := none) (cap := 0) RnRow.nil)⟩
def askE (b : Bool) (err : Int) : Int := if b then err else 0
theorem rasks_any (s : ByteArray) (id : Int) (broken : Bool) (err : Int) (w : World) : Calls Tryz.prog 59 #[.string s, .int .i64 id, .bool broken, .int .i64 err] w fun e w' => e = .returned (.agg #[.string s, .int .i64 id, .int .i64 (askE broken err), .slice none 0 0]) ∧ Below w.heap.size w w' := rask_any s id broken err w
theorem eq_of_beq {a b : Int} (h : (a == b) = true) : a = b := by simpa using h
theorem ne_of_beqf {a b : Int} (h : (a == b) = false) : a ≠ b := by simpa using h
abbrev okT : Nat → Prop := fun _ => True
theorem rmemrules_any (ok : Nat → Prop) (e : Co.Ev) (X : List Value) (l : List Co.Ev) (A : Option Addr) (cap : Nat) (w : World) (hX : EvV ok w X e) (h : EvRow ok w A l) (hl : l.length ≤ 1000000) (hls : ∀ x ∈ l, x.users.length ≤ 1000000 ∧ x.kinds.length ≤ 1000000) (hal : ∀ x ∈ l, x.allow.length ≤ 1000000) (hp : e.prev.length ≤ 1000000) :
  Calls Tryz.prog 61 #[.agg X.toArray, .slice A l.length cap] w fun r w' => RsRowA (Co.memberR e l) w.heap.size r w' ∧ Below w.heap.size w w' := by
 have hb1 := (Below.refl w.heap.size w).alloc (Nat.le_refl _) (.cells X.toArray 34)
 have HB1 := hid hb1
 have HE1 := hid (Blk.new w 34 X.toArray)
 have HX1 := hid (hX.bel hb1)
 have HR1 := hid (h.bel hb1)
 have HSX := hid (size_evA hX)
 have HAL := hid hal
 have HLV := hid (lv_small hls).1
 have HPR := hid hp
 have HXC2 := hid hX.c2
 have HXC5 := hid hX.c5
 have HXC11 := hid hX.c11
 have HLE1 := hid hb1.size
 clear hX h hal hls hp hb1
 generalize hw1 : w.alloc (.cells X.toArray 34) = w1 at *
 go_enter Tryz.func61, Tryz.ntmps61
 go_wp2_with (refine wpList_load_row rfl 34 _ rfl w.heap.size rfl 34 X.toArray (0, 0) _ HE1.out Tryz.underlying34 rfl HSX.out ?_)
 refine (rfirstjoin_any ok e X l A cap w1 HX1.out HR1.out hl HPR.out).mono ?_
 rintro r w2 ⟨rfl, hb2⟩
 have HB2 := hid hb2
 have HE2 := hid (HE1.out.below hb2 HE1.out.lt)
 have HR2 := hid (HR1.out.bel hb2)
 clear hb2
 cases hfb : Co.firstB e l with
 | true =>
  have HLF : Hid (Co.memberR e l = [Co.ask [102, 105, 114, 115, 116, 45, 106, 111, 105, 110] (Co.idK l 1) false 0]) := hid (by unfold Co.memberR; rw [if_pos hfb])
  clear hfb
  go_wp2_with fail
  refine (rfirst_any ok l A cap 1 w2 HR2.out hl).mono ?_
  generalize Co.idK l 1 = k1 at *
  rintro r wx ⟨rfl, rfl⟩
  go_wp2_with fail
  refine (rask_any ⟨#[102, 105, 114, 115, 116, 45, 106, 111, 105, 110]⟩ k1 false 0 w2).mono ?_
  rintro r w3 ⟨rfl, hb3⟩
  have HB3 := hid (HB2.out.trans (hb3.mono HB2.out.size))
  clear hb3
  go_wp2_with fail
  have HOW := hid (own_lit1 w3 w1.heap.size HB3.out.size [102, 105, 114, 115, 116, 45, 106, 111, 105, 110] k1 0)
  obtain ⟨A9, c9, hv9, hle9, hrow9⟩ := HOW.out.row (ok' := fun b => w.heap.size ≤ b) (fun b hb => Nat.le_trans HLE1.out hb) (fun k hk => Nat.le_trans HLE1.out (HOW.out.lt k hk).1)
  go_ret
  exact ⟨by rw [HLF.out]; exact ⟨A9, c9, congrArg Ending.returned hv9, hle9, hrow9⟩, HB1.out.trans ((HB3.out.alloc HB3.out.size _).mono HB1.out.size)⟩
 | false =>
  have HFB := hid hfb
  clear hfb
  have hsd := str_dec e.key (bstr e.sender)
  rw [show (bstr e.sender).data.toList = e.sender from rfl] at hsd
  obtain ⟨own, hown⟩ : ∃ o, o = decide (e.key = e.sender) := ⟨_, rfl⟩
  rw [← hown] at hsd
  have HOWN : Hid ((e.key == e.sender) = own) := hid (by rw [hown, Bool.eq_iff_iff]; simp)
  clear hown
  obtain ⟨now, hnow⟩ : ∃ x, x = Co.memOf l e.key := ⟨_, rfl⟩
  have HNOW := hid hnow.symm
  clear hnow
  obtain ⟨at_, hat_⟩ : ∃ x, x = Co.idM l e.key := ⟨_, rfl⟩
  have HAT := hid hat_.symm
  clear hat_
  obtain ⟨pw, hpw⟩ : ∃ x, x = Co.idK l 3 := ⟨_, rfl⟩
  have HPW := hid hpw.symm
  clear hpw
  obtain ⟨ru, hru⟩ : ∃ x, x = Co.rulesOf l := ⟨_, rfl⟩
  have HRU := hid hru.symm
  clear hru
  obtain ⟨mv, hmv⟩ : ∃ x, x = Co.move now e.n own := ⟨_, rfl⟩
  have HMV := hid hmv.symm
  clear hmv
  obtain ⟨jr, hjr⟩ : ∃ x, x = Co.idK l 4 := ⟨_, rfl⟩
  have HJR := hid hjr.symm
  clear hjr
  obtain ⟨je, hje⟩ : ∃ x, x = Co.joinE ru now := ⟨_, rfl⟩
  have HJE := hid hje.symm
  clear hje
  obtain ⟨ke, hke⟩ : ∃ x, x = Co.knockE ru now := ⟨_, rfl⟩
  have HKE := hid hke.symm
  clear hke
  obtain ⟨se, hse⟩ : ∃ x, x = Co.memOf l e.sender := ⟨_, rfl⟩
  have HSE := hid hse.symm
  clear hse
  obtain ⟨sid, hsid⟩ : ∃ x, x = Co.idM l e.sender := ⟨_, rfl⟩
  have HSID := hid hsid.symm
  clear hsid
  obtain ⟨mine, hmine⟩ : ∃ x, x = Co.userLv (Co.levelsOf l) e.sender := ⟨_, rfl⟩
  have HMINE := hid hmine.symm
  clear hmine
  obtain ⟨thei, hthei⟩ : ∃ x, x = Co.userLv (Co.levelsOf l) e.key := ⟨_, rfl⟩
  have HTHEI := hid hthei.symm
  clear hthei
  obtain ⟨vi, hvi⟩ : ∃ x, x = (Co.levelsOf l).li := ⟨_, rfl⟩
  have HVI := hid hvi.symm
  clear hvi
  obtain ⟨vk, hvk⟩ : ∃ x, x = (Co.levelsOf l).lk := ⟨_, rfl⟩
  have HVK := hid hvk.symm
  clear hvk
  obtain ⟨vb, hvb⟩ : ∃ x, x = (Co.levelsOf l).lb := ⟨_, rfl⟩
  have HVBB := hid hvb.symm
  clear hvb
  have HEC2 : Hid (w2.cell? ⟨w.heap.size, 2, none⟩ = some (.string (bstr e.sender))) := hid ((HE2.out.cell 2).trans (by rw [List.getElem?_toArray]; exact HXC2.out))
  have HEC5 : Hid (w2.cell? ⟨w.heap.size, 5, none⟩ = some (.string (bstr e.key))) := hid ((HE2.out.cell 5).trans (by rw [List.getElem?_toArray]; exact HXC5.out))
  have HEC11 : Hid (w2.cell? ⟨w.heap.size, 11, none⟩ = some (.int .i64 e.n)) := hid ((HE2.out.cell 11).trans (by rw [List.getElem?_toArray]; exact HXC11.out))
  go_upto_region 3 with fail
  refine wp_region_noPanic ?_
  refine wp_region_held_drew (S := fun W => Below w2.heap.size w2 W) (by kernel_rfl) ((Below.refl _ _).drew) (fun hHeld => ?_)
  generalize hwd : w2.drew = wd at *
  have HBd := hid hHeld
  clear hwd
  refine wpAnyH_take (i := 0) (oi := _) (v := ?_) rfl (by kernel_rfl) (by kernel_rfl) (by kernel_rfl) (fun _ _ _ h => h) (Or.inl ⟨by kernel_rfl, ?_⟩) hHeld ?_
  rotate_left
  ·intro wq hSw
   go_simp
   (try with_reducible rfl)
  (try simp only [Act.put, List.getElem_toArray, List.getElem_cons_zero, List.getElem_cons_succ, List.setIfInBounds_toArray, List.set_cons_zero, List.set_cons_succ])
  refine wpAnyH_take (i := 1) (oi := _) (v := ?_) rfl (by kernel_rfl) (by kernel_rfl) (by kernel_rfl) (fun _ _ _ h => h) (Or.inl ⟨by kernel_rfl, ?_⟩) hHeld ?_
  rotate_left
  ·intro wq hSw
   go_simp
   (try with_reducible rfl)
  (try simp only [Act.put, List.getElem_toArray, List.getElem_cons_zero, List.getElem_cons_succ, List.setIfInBounds_toArray, List.set_cons_zero, List.set_cons_succ])
  refine wpAnyH_take (i := 2) (oi := _) (v := ?_) rfl (by kernel_rfl) (by kernel_rfl) (by kernel_rfl) (fun _ _ _ h => h) (Or.inl ⟨by kernel_rfl, ?_⟩) hHeld ?_
  rotate_left
  ·intro wq hSw
   have hy5 : wq.cell? ⟨w.heap.size, 5, none⟩ = some (.string (bstr e.key)) := (Below.cell hSw (p := ⟨w.heap.size, 5, none⟩) HE2.out.lt).trans HEC5.out
   go_simp
   (try with_reducible rfl)
  (try simp only [Act.put, List.getElem_toArray, List.getElem_cons_zero, List.getElem_cons_succ, List.setIfInBounds_toArray, List.set_cons_zero, List.set_cons_succ])
  refine wpAnyH_take (i := 4) (oi := _) (v := ?_) rfl (by kernel_rfl) (by kernel_rfl) (by kernel_rfl) (fun _ _ _ h => h) (Or.inl ⟨by kernel_rfl, ?_⟩) hHeld ?_
  rotate_left
  ·intro wq hSw
   go_simp
   (try with_reducible rfl)
  (try simp only [Act.put, List.getElem_toArray, List.getElem_cons_zero, List.getElem_cons_succ, List.setIfInBounds_toArray, List.set_cons_zero, List.set_cons_succ])
  refine wpAnyH_take (i := 5) (oi := _) (v := ?_) rfl (by kernel_rfl) (by kernel_rfl) (by kernel_rfl) (fun _ _ _ h => h) (Or.inl ⟨by kernel_rfl, ?_⟩) hHeld ?_
  rotate_left
  ·intro wq hSw
   go_simp
   (try with_reducible rfl)
  (try simp only [Act.put, List.getElem_toArray, List.getElem_cons_zero, List.getElem_cons_succ, List.setIfInBounds_toArray, List.set_cons_zero, List.set_cons_succ])
  refine wpAnyH_take (i := 6) (oi := _) (v := ?_) rfl (by kernel_rfl) (by kernel_rfl) (by kernel_rfl) (fun _ _ _ h => h) (Or.inl ⟨by kernel_rfl, ?_⟩) hHeld ?_
  rotate_left
  ·intro wq hSw
   have hy11 : wq.cell? ⟨w.heap.size, 11, none⟩ = some (.int .i64 e.n) := (Below.cell hSw (p := ⟨w.heap.size, 11, none⟩) HE2.out.lt).trans HEC11.out
   go_simp
   (try with_reducible rfl)
  (try simp only [Act.put, List.getElem_toArray, List.getElem_cons_zero, List.getElem_cons_succ, List.setIfInBounds_toArray, List.set_cons_zero, List.set_cons_succ])
  refine wpAnyH_take (i := 7) (oi := _) (v := ?_) rfl (by kernel_rfl) (by kernel_rfl) (by kernel_rfl) (fun _ _ _ h => h) (Or.inl ⟨by kernel_rfl, ?_⟩) hHeld ?_
  rotate_left
  ·intro wq hSw
   go_simp
   (try with_reducible rfl)
  (try simp only [Act.put, List.getElem_toArray, List.getElem_cons_zero, List.getElem_cons_succ, List.setIfInBounds_toArray, List.set_cons_zero, List.set_cons_succ])
  refine wpAnyH_take (i := 8) (oi := _) (v := ?_) rfl (by kernel_rfl) (by kernel_rfl) (by kernel_rfl) (fun _ _ _ h => h) (Or.inl ⟨by kernel_rfl, ?_⟩) hHeld ?_
  rotate_left
  ·intro wq hSw
   have hy5 : wq.cell? ⟨w.heap.size, 5, none⟩ = some (.string (bstr e.key)) := (Below.cell hSw (p := ⟨w.heap.size, 5, none⟩) HE2.out.lt).trans HEC5.out
   go_simp
   (try with_reducible rfl)
  (try simp only [Act.put, List.getElem_toArray, List.getElem_cons_zero, List.getElem_cons_succ, List.setIfInBounds_toArray, List.set_cons_zero, List.set_cons_succ])
  refine wpAnyH_take (i := 9) (oi := _) (v := ?_) rfl (by kernel_rfl) (by kernel_rfl) (by kernel_rfl) (fun _ _ _ h => h) (Or.inl ⟨by kernel_rfl, ?_⟩) hHeld ?_
  rotate_left
  ·intro wq hSw
   go_simp
   (try with_reducible rfl)
  (try simp only [Act.put, List.getElem_toArray, List.getElem_cons_zero, List.getElem_cons_succ, List.setIfInBounds_toArray, List.set_cons_zero, List.set_cons_succ])
  refine wpAnyH_take (i := 10) (oi := _) (v := ?_) rfl (by kernel_rfl) (by kernel_rfl) (by kernel_rfl) (fun _ _ _ h => h) (Or.inl ⟨by kernel_rfl, ?_⟩) hHeld ?_
  rotate_left
  ·intro wq hSw
   have hy2 : wq.cell? ⟨w.heap.size, 2, none⟩ = some (.string (bstr e.sender)) := (Below.cell hSw (p := ⟨w.heap.size, 2, none⟩) HE2.out.lt).trans HEC2.out
   go_simp
   (try with_reducible rfl)
  (try simp only [Act.put, List.getElem_toArray, List.getElem_cons_zero, List.getElem_cons_succ, List.setIfInBounds_toArray, List.set_cons_zero, List.set_cons_succ])
  refine wpAnyH_take (i := 11) (oi := _) (v := ?_) rfl (by kernel_rfl) (by kernel_rfl) (by kernel_rfl) (fun _ _ _ h => h) (Or.inl ⟨by kernel_rfl, ?_⟩) hHeld ?_
  rotate_left
  ·intro wq hSw
   go_simp
   (try with_reducible rfl)
  (try simp only [Act.put, List.getElem_toArray, List.getElem_cons_zero, List.getElem_cons_succ, List.setIfInBounds_toArray, List.set_cons_zero, List.set_cons_succ])
  refine wpAnyH_ready (rs := [3]) (by kernel_rfl) (by simp) ?_
  refine AllReadyH.cons (o := _) rfl (fun K hK => ?_) AllReadyH.nil
  go_simp
  go_at_call 64
  refine (rmemof_any ok l A cap e.key wd (HR2.out.bel HBd.out) hl).mono ?_
  rw [HNOW.out]
  rintro r wa ⟨rfl, rfl⟩
  refine hK.out _ _ (HBd.out) (fun hHeld2 => ?_)
  clear hK K hHeld
  have hHeld := hHeld2
  clear hHeld2
  (try simp only [Act.put, List.getElem_toArray, List.getElem_cons_zero, List.getElem_cons_succ, List.setIfInBounds_toArray, List.set_cons_zero, List.set_cons_succ])
  refine wpAnyH_take (i := 12) (oi := _) (v := ?_) rfl (by kernel_rfl) (by kernel_rfl) (by kernel_rfl) (fun _ _ _ h => h) (Or.inl ⟨by kernel_rfl, ?_⟩) hHeld ?_
  rotate_left
  ·intro wq hSw
   go_simp
   (try with_reducible rfl)
  (try simp only [Act.put, List.getElem_toArray, List.getElem_cons_zero, List.getElem_cons_succ, List.setIfInBounds_toArray, List.set_cons_zero, List.set_cons_succ])
  refine wpAnyH_take (i := 13) (oi := _) (v := ?_) rfl (by kernel_rfl) (by kernel_rfl) (by kernel_rfl) (fun _ _ _ h => h) (Or.inl ⟨by kernel_rfl, ?_⟩) hHeld ?_
  rotate_left
  ·intro wq hSw
   go_simp
   (try with_reducible rfl)
  (try simp only [Act.put, List.getElem_toArray, List.getElem_cons_zero, List.getElem_cons_succ, List.setIfInBounds_toArray, List.set_cons_zero, List.set_cons_succ])
  refine wpAnyH_take (i := 14) (oi := _) (v := ?_) rfl (by kernel_rfl) (by kernel_rfl) (by kernel_rfl) (fun _ _ _ h => h) (Or.inl ⟨by kernel_rfl, ?_⟩) hHeld ?_
  rotate_left
  ·intro wq hSw
   go_simp
   (try with_reducible rfl)
  (try simp only [Act.put, List.getElem_toArray, List.getElem_cons_zero, List.getElem_cons_succ, List.setIfInBounds_toArray, List.set_cons_zero, List.set_cons_succ])
  refine wpAnyH_done (by kernel_rfl) ?_ _
  refine NoPanic.normal ?_
  have hc5 : wd.cell? ⟨w.heap.size, 5, none⟩ = some (.string (bstr e.key)) := (Below.cell HBd.out (p := ⟨w.heap.size, 5, none⟩) HE2.out.lt).trans HEC5.out
  have HO3 : Hid (OwS w1 w1.heap.size wd (.slice none 0 0) []) := hid ⟨Shp.Own.nil, HB2.out.trans (HBd.out.mono HB2.out.size), Nat.le_trans HB2.out.size HBd.out.size⟩
  clear hsd hHeld
  go_wp2_with fail
  refine (rmemid_any ok l A cap e.key wd (HR1.out.bel HO3.out.bel) hl).mono ?_
  rw [HAT.out]
  rintro r wx ⟨rfl, rfl⟩
  go_wp2_with fail
  refine (rfirst_any ok l A cap 3 wd (HR1.out.bel HO3.out.bel) hl).mono ?_
  rw [HPW.out]
  rintro r wx ⟨rfl, rfl⟩
  clear hc5
  cases hown : own with
  | true =>
   subst hown
   go_wp2_with fail
   refine (rasks_any ⟨#[110, 111, 116, 45, 98, 97, 110, 110, 101, 100]⟩ at_ (now == 4) 19 wd).mono ?_
   rintro r w21 ⟨rfl, hb21⟩
   have HO21 := hid (HO3.out.step hb21)
   clear hb21
   go_wp2_with (go_loud (at_builtin; refine app_leaf rfl _ _ rfl w1 w1.heap.size w21 (.slice none 0 0) ([]) [110, 111, 116, 45, 98, 97, 110, 110, 101, 100] at_ (askE (now == 4) 19) rfl rfl HO21.out (by simp) ?_; intro v22 w22 ho22 ha22; have HO22 := hid ho22; clear ho22 ha22))
   refine (rmove_any now e.n true w22).mono ?_
   rw [HMV.out]
   rintro r wx ⟨rfl, hwx⟩
   rw [hwx]
   clear hwx wx
   go_wp2_with fail
   refine (rasks_any ⟨#[109, 111, 118, 101]⟩ at_ (!mv) 18 w22).mono ?_
   rintro r w23 ⟨rfl, hb23⟩
   have HO23 := hid (HO22.out.step hb23)
   clear hb23
   go_wp2_with (go_loud (at_builtin; refine app_leaf rfl _ _ rfl w1 w1.heap.size w23 v22 ([] ++ [Co.ask [110, 111, 116, 45, 98, 97, 110, 110, 101, 100] at_ (now == 4) 19]) [109, 111, 118, 101] at_ (askE (!mv) 18) rfl rfl HO23.out (by simp) ?_; intro v24 w24 ho24 ha24; have HO24 := hid ho24; clear ho24 ha24))
   refine (rrof_any ok l A cap w24 (HR1.out.bel HO24.out.bel) hl HAL.out).mono ?_
   rw [HRU.out]
   rintro r w25 ⟨⟨cr, rfl⟩, hb25⟩
   have HO25 := hid (HO24.out.step hb25)
   clear hb25
   by_cases h3 : e.n = 3
   ·have h3b : (e.n == 3) = true := eqb_true h3
    clear h3
    go_wp2_with fail
    refine (rfirst_any ok l A cap 4 w25 (HR1.out.bel HO25.out.bel) hl).mono ?_
    rw [HJR.out]
    rintro r wx ⟨rfl, rfl⟩
    go_wp2_with fail
    refine (rjoin_any ru now w25).mono ?_
    rw [HJE.out]
    rintro r wx ⟨rfl, hwx⟩
    rw [hwx]
    clear hwx wx
    go_wp2_with (go_loud (at_builtin; refine app_leaf rfl _ _ rfl w1 w1.heap.size w25 v24 ([] ++ [Co.ask [110, 111, 116, 45, 98, 97, 110, 110, 101, 100] at_ (now == 4) 19] ++ [Co.ask [109, 111, 118, 101] at_ (!mv) 18]) [106, 111, 105, 110, 45, 114, 117, 108, 101] jr je rfl rfl HO25.out (by simp) ?_; intro v26 w26 ho26 ha26; have HO26 := hid ho26; clear ho26 ha26))
    have HLF : Hid (Co.memberR e l = [] ++ [Co.ask [110, 111, 116, 45, 98, 97, 110, 110, 101, 100] at_ (now == 4) 19] ++ [Co.ask [109, 111, 118, 101] at_ (!mv) 18] ++ [.mk [106, 111, 105, 110, 45, 114, 117, 108, 101] jr je []]) := hid (by
     unfold Co.memberR
     rw [if_neg (by rw [HFB.out]; simp)]
     simp only [HOWN.out, HNOW.out, HAT.out, HMV.out, HSE.out, HSID.out, HMINE.out, HTHEI.out, HVI.out, HVK.out, HVBB.out, HPW.out, HJR.out, HRU.out, HJE.out, HKE.out]
     simp [eq_of_beq h3b])
    have HOF : Hid (RnS.Own 42 (fun b => w1.heap.size ≤ b) w26 w1.heap.size v26 (Co.memberR e l)) := hid (by rw [HLF.out]; exact HO26.out.own)
    obtain ⟨A9, c9, hv9, hle9, hrow9⟩ := HOF.out.row (ok' := fun b => w.heap.size ≤ b) (fun b hb => Nat.le_trans HLE1.out hb) (fun k hk => Nat.le_trans HLE1.out (HO26.out.own.lt k hk).1)
    subst hv9
    go_wp2_with fail
    go_ret
    exact ⟨⟨A9, c9, rfl, hle9, hrow9⟩, HB1.out.trans (HO26.out.bel.mono HB1.out.size)⟩
   ·have h3b : (e.n == 3) = false := eqb_false h3
    by_cases h2 : e.n = 2
    ·have h2b : (e.n == 2) = true := eqb_true h2
     clear h3 h2
     go_wp2_with fail
     refine (rfirst_any ok l A cap 4 w25 (HR1.out.bel HO25.out.bel) hl).mono ?_
     rw [HJR.out]
     rintro r wx ⟨rfl, rfl⟩
     go_wp2_with fail
     refine (rknock_any ru now w25).mono ?_
     rw [HKE.out]
     rintro r wx ⟨rfl, hwx⟩
     rw [hwx]
     clear hwx wx
     go_wp2_with (go_loud (at_builtin; refine app_leaf rfl _ _ rfl w1 w1.heap.size w25 v24 ([] ++ [Co.ask [110, 111, 116, 45, 98, 97, 110, 110, 101, 100] at_ (now == 4) 19] ++ [Co.ask [109, 111, 118, 101] at_ (!mv) 18]) [107, 110, 111, 99, 107, 45, 114, 117, 108, 101] jr ke rfl rfl HO25.out (by simp) ?_; intro v27 w27 ho27 ha27; have HO27 := hid ho27; clear ho27 ha27))
     have HLF : Hid (Co.memberR e l = [] ++ [Co.ask [110, 111, 116, 45, 98, 97, 110, 110, 101, 100] at_ (now == 4) 19] ++ [Co.ask [109, 111, 118, 101] at_ (!mv) 18] ++ [.mk [107, 110, 111, 99, 107, 45, 114, 117, 108, 101] jr ke []]) := hid (by
      unfold Co.memberR
      rw [if_neg (by rw [HFB.out]; simp)]
      simp only [HOWN.out, HNOW.out, HAT.out, HMV.out, HSE.out, HSID.out, HMINE.out, HTHEI.out, HVI.out, HVK.out, HVBB.out, HPW.out, HJR.out, HRU.out, HJE.out, HKE.out]
      simp [eq_of_beq h2b])
     have HOF : Hid (RnS.Own 42 (fun b => w1.heap.size ≤ b) w27 w1.heap.size v27 (Co.memberR e l)) := hid (by rw [HLF.out]; exact HO27.out.own)
     obtain ⟨A9, c9, hv9, hle9, hrow9⟩ := HOF.out.row (ok' := fun b => w.heap.size ≤ b) (fun b hb => Nat.le_trans HLE1.out hb) (fun k hk => Nat.le_trans HLE1.out (HO27.out.own.lt k hk).1)
     subst hv9
     go_wp2_with fail
     go_ret
     exact ⟨⟨A9, c9, rfl, hle9, hrow9⟩, HB1.out.trans (HO27.out.bel.mono HB1.out.size)⟩
    ·have h2b : (e.n == 2) = false := eqb_false h2
     clear h3 h2
     go_wp2_with fail
     have HLF : Hid (Co.memberR e l = [] ++ [Co.ask [110, 111, 116, 45, 98, 97, 110, 110, 101, 100] at_ (now == 4) 19] ++ [Co.ask [109, 111, 118, 101] at_ (!mv) 18]) := hid (by
      unfold Co.memberR
      rw [if_neg (by rw [HFB.out]; simp)]
      simp only [HOWN.out, HNOW.out, HAT.out, HMV.out, HSE.out, HSID.out, HMINE.out, HTHEI.out, HVI.out, HVK.out, HVBB.out, HPW.out, HJR.out, HRU.out, HJE.out, HKE.out]
      simp [ne_of_beqf h3b, ne_of_beqf h2b])
     have HOF : Hid (RnS.Own 42 (fun b => w1.heap.size ≤ b) w25 w1.heap.size v24 (Co.memberR e l)) := hid (by rw [HLF.out]; exact HO25.out.own)
     obtain ⟨A9, c9, hv9, hle9, hrow9⟩ := HOF.out.row (ok' := fun b => w.heap.size ≤ b) (fun b hb => Nat.le_trans HLE1.out hb) (fun k hk => Nat.le_trans HLE1.out (HO25.out.own.lt k hk).1)
     subst hv9
     go_ret
     exact ⟨⟨A9, c9, rfl, hle9, hrow9⟩, HB1.out.trans (HO25.out.bel.mono HB1.out.size)⟩
  | false =>
   subst hown
   go_wp2_with fail
   refine (rmove_any now e.n false wd).mono ?_
   rw [HMV.out]
   rintro r wx ⟨rfl, hwx⟩
   rw [hwx]
   clear hwx wx
   go_wp2_with fail
   refine (rasks_any ⟨#[109, 111, 118, 101]⟩ at_ (!mv) 18 wd).mono ?_
   rintro r w28 ⟨rfl, hb28⟩
   have HO28 := hid (HO3.out.step hb28)
   clear hb28
   go_wp2_with (go_loud (at_builtin; refine app_leaf rfl _ _ rfl w1 w1.heap.size w28 (.slice none 0 0) ([]) [109, 111, 118, 101] at_ (askE (!mv) 18) rfl rfl HO28.out (by simp) ?_; intro v29 w29 ho29 ha29; have HO29 := hid ho29; clear ho29 ha29))
   refine (rrof_any ok l A cap w29 (HR1.out.bel HO29.out.bel) hl HAL.out).mono ?_
   rw [HRU.out]
   rintro r w30 ⟨⟨cr, rfl⟩, hb30⟩
   have HO30 := hid (HO29.out.step hb30)
   clear hb30
   go_wp2_with fail
   refine (rlof_any ok l A cap w30 (HR1.out.bel HO30.out.bel) hl).mono ?_
   rintro r w7 ⟨⟨Y, rfl, hy⟩, hb7⟩
   have HY7 := hid hy
   have HSY : Hid ((Tryz.prog.info? 28).map (·.size) = some Y.toArray.size) := hid (by rw [size_lv, List.size_toArray, hy.len])
   have HZY : Hid (zLv.size = Y.toArray.size) := hid (by show 9 = Y.toArray.size; rw [List.size_toArray, hy.len])
   have HOY : Hid (Y.toArray.all (·.oneCell') = true) := hid (all_oneCell_toArray hy.one)
   have HNY := hid (Blk.new w7 28 zLv)
   have hb8 := below_setRow (g := w7.heap.size) ((Below.refl w7.heap.size w7).alloc (Nat.le_refl _) (.cells zLv 28)) (Nat.le_refl _) Y.toArray
   have HO8 := hid ((HO30.out.step hb7).step hb8)
   have HVB8 : Hid (Blk ((w7.alloc (.cells zLv 28)).setRow w7.heap.size Y.toArray) w7.heap.size 28 Y.toArray) := hid (setRow_heap _ _ _ _ _ _ HNY.out)
   have HVN8 : Hid (some w7.heap.size ≠ (v29).ownBlock) := hid (fun e => by have := (HO30.out.own.lt _ e.symm).2; have := hb7.size; omega)
   have HY8 : Hid (LvV okT ((w7.alloc (.cells zLv 28)).setRow w7.heap.size Y.toArray) Y (Co.levelsOf l)) := hid ((hy.bel hb8).keep fun b _ hlt => ⟨trivial, rfl⟩)
   have HYC : Hid (Y.toArray[5]? = some (.int .i64 vi) ∧ Y.toArray[6]? = some (.int .i64 vk) ∧ Y.toArray[7]? = some (.int .i64 vb)) := hid (by
    obtain ⟨cu, ck, rfl, -, -⟩ := hy
    rw [← HVI.out, ← HVK.out, ← HVBB.out]
    exact ⟨rfl, rfl, rfl⟩)
   clear hy hb7 hb8
   go_upto_region 17 with (((with_reducible refine store_rowe rfl 28 _ _ rfl w7.heap.size Y.toArray ?_ ?_ 28 zLv HNY.out HSY.out HZY.out HOY.out ?_); rfl; rfl))
   generalize (w7.alloc (.cells zLv 28)).setRow w7.heap.size Y.toArray = w8 at *
   generalize w7.heap.size = vq at *
   have HE8 := hid (HE1.out.below HO8.out.bel HE1.out.lt)
   have HFC2 : Hid (w8.cell? ⟨w.heap.size, 2, none⟩ = some (.string (bstr e.sender))) := hid ((HE8.out.cell 2).trans (by rw [List.getElem?_toArray]; exact HXC2.out))
   have HFC5 : Hid (w8.cell? ⟨w.heap.size, 5, none⟩ = some (.string (bstr e.key))) := hid ((HE8.out.cell 5).trans (by rw [List.getElem?_toArray]; exact HXC5.out))
   refine wp_region_noPanic ?_
   refine wp_region_held_drew (S := fun W => Below w8.heap.size w8 W) (by kernel_rfl) ((Below.refl _ _).drew) (fun hHeld => ?_)
   generalize hwe : w8.drew = we at *
   have HBe := hid hHeld
   clear hwe
   refine wpAnyH_take (i := 0) (oi := _) (v := _) rfl (by kernel_rfl) (by kernel_rfl) (by kernel_rfl) (fun _ _ _ h => h) (row_yields_u (X := Y.toArray) rfl Tryz.underlying28 HSY.out (fun W h => HVB8.out.below h HVB8.out.lt) (by kernel_rfl) _ rfl rfl) hHeld ?_
   (try simp only [Act.put, List.getElem_toArray, List.getElem_cons_zero, List.getElem_cons_succ, List.setIfInBounds_toArray, List.set_cons_zero, List.set_cons_succ])
   refine wpAnyH_take (i := 1) (oi := _) (v := ?_) rfl (by kernel_rfl) (by kernel_rfl) (by kernel_rfl) (fun _ _ _ h => h) (Or.inl ⟨by kernel_rfl, ?_⟩) hHeld ?_
   rotate_left
   ·intro wq hSw
    go_simp
    (try with_reducible rfl)
   (try simp only [Act.put, List.getElem_toArray, List.getElem_cons_zero, List.getElem_cons_succ, List.setIfInBounds_toArray, List.set_cons_zero, List.set_cons_succ])
   refine wpAnyH_take (i := 2) (oi := _) (v := ?_) rfl (by kernel_rfl) (by kernel_rfl) (by kernel_rfl) (fun _ _ _ h => h) (Or.inl ⟨by kernel_rfl, ?_⟩) hHeld ?_
   rotate_left
   ·intro wq hSw
    have hy2 : wq.cell? ⟨w.heap.size, 2, none⟩ = some (.string (bstr e.sender)) := (Below.cell hSw (p := ⟨w.heap.size, 2, none⟩) HE8.out.lt).trans HFC2.out
    go_simp
    (try with_reducible rfl)
   (try simp only [Act.put, List.getElem_toArray, List.getElem_cons_zero, List.getElem_cons_succ, List.setIfInBounds_toArray, List.set_cons_zero, List.set_cons_succ])
   refine wpAnyH_take (i := 4) (oi := _) (v := _) rfl (by kernel_rfl) (by kernel_rfl) (by kernel_rfl) (fun _ _ _ h => h) (row_yields_u (X := Y.toArray) rfl Tryz.underlying28 HSY.out (fun W h => HVB8.out.below h HVB8.out.lt) (by kernel_rfl) _ rfl rfl) hHeld ?_
   (try simp only [Act.put, List.getElem_toArray, List.getElem_cons_zero, List.getElem_cons_succ, List.setIfInBounds_toArray, List.set_cons_zero, List.set_cons_succ])
   refine wpAnyH_take (i := 5) (oi := _) (v := ?_) rfl (by kernel_rfl) (by kernel_rfl) (by kernel_rfl) (fun _ _ _ h => h) (Or.inl ⟨by kernel_rfl, ?_⟩) hHeld ?_
   rotate_left
   ·intro wq hSw
    go_simp
    (try with_reducible rfl)
   (try simp only [Act.put, List.getElem_toArray, List.getElem_cons_zero, List.getElem_cons_succ, List.setIfInBounds_toArray, List.set_cons_zero, List.set_cons_succ])
   refine wpAnyH_take (i := 6) (oi := _) (v := ?_) rfl (by kernel_rfl) (by kernel_rfl) (by kernel_rfl) (fun _ _ _ h => h) (Or.inl ⟨by kernel_rfl, ?_⟩) hHeld ?_
   rotate_left
   ·intro wq hSw
    have hy5 : wq.cell? ⟨w.heap.size, 5, none⟩ = some (.string (bstr e.key)) := (Below.cell hSw (p := ⟨w.heap.size, 5, none⟩) HE8.out.lt).trans HFC5.out
    go_simp
    (try with_reducible rfl)
   (try simp only [Act.put, List.getElem_toArray, List.getElem_cons_zero, List.getElem_cons_succ, List.setIfInBounds_toArray, List.set_cons_zero, List.set_cons_succ])
   refine wpAnyH_ready (rs := [3]) (by kernel_rfl) (by simp) ?_
   refine AllReadyH.cons (o := _) rfl (fun K hK => ?_) AllReadyH.nil
   go_simp
   go_at_call 65
   refine (rlvuser_any okT (Co.levelsOf l) Y e.sender we (HY8.out.bel HBe.out) HLV.out).mono ?_
   rw [HMINE.out]
   rintro r wf ⟨rfl, hbf⟩
   have HBf := hid (HBe.out.trans (hbf.mono HBe.out.size))
   clear hbf
   refine hK.out _ _ (HBf.out) (fun hHeld2 => ?_)
   clear hK K hHeld
   have hHeld := hHeld2
   clear hHeld2
   (try simp only [Act.put, List.getElem_toArray, List.getElem_cons_zero, List.getElem_cons_succ, List.setIfInBounds_toArray, List.set_cons_zero, List.set_cons_succ])
   refine wpAnyH_ready (rs := [7]) (by kernel_rfl) (by simp) ?_
   refine AllReadyH.cons (o := _) rfl (fun K hK => ?_) AllReadyH.nil
   go_simp
   go_at_call 65
   refine (rlvuser_any okT (Co.levelsOf l) Y e.key wf (HY8.out.bel HBf.out) HLV.out).mono ?_
   rw [HTHEI.out]
   rintro r wg ⟨rfl, hbg⟩
   have HBg := hid (HBf.out.trans (hbg.mono HBf.out.size))
   clear hbg
   refine hK.out _ _ (HBg.out) (fun hHeld2 => ?_)
   clear hK K hHeld
   have hHeld := hHeld2
   clear hHeld2
   (try simp only [Act.put, List.getElem_toArray, List.getElem_cons_zero, List.getElem_cons_succ, List.setIfInBounds_toArray, List.set_cons_zero, List.set_cons_succ])
   refine wpAnyH_take (i := 8) (oi := _) (v := ?_) rfl (by kernel_rfl) (by kernel_rfl) (by kernel_rfl) (fun _ _ _ h => h) (Or.inl ⟨by kernel_rfl, ?_⟩) hHeld ?_
   rotate_left
   ·intro wq hSw
    go_simp
    (try with_reducible rfl)
   (try simp only [Act.put, List.getElem_toArray, List.getElem_cons_zero, List.getElem_cons_succ, List.setIfInBounds_toArray, List.set_cons_zero, List.set_cons_succ])
   refine wpAnyH_take (i := 9) (oi := _) (v := ?_) rfl (by kernel_rfl) (by kernel_rfl) (by kernel_rfl) (fun _ _ _ h => h) (Or.inl ⟨by kernel_rfl, ?_⟩) hHeld ?_
   rotate_left
   ·intro wq hSw
    go_simp
    (try with_reducible rfl)
   (try simp only [Act.put, List.getElem_toArray, List.getElem_cons_zero, List.getElem_cons_succ, List.setIfInBounds_toArray, List.set_cons_zero, List.set_cons_succ])
   refine wpAnyH_done (by kernel_rfl) ?_ _
   refine NoPanic.normal ?_
   have HO9 := hid (HO8.out.step HBg.out)
   have HVB9 := hid (HVB8.out.below HBg.out HVB8.out.lt)
   generalize hw9 : wg = w9 at *
   clear hw9
   have HO10 := hid (HO9.out.step (Below.refl _ w9).drew)
   have HVB10 := hid (HVB9.out.below (Below.refl _ w9).drew HVB9.out.lt)
   go_upto_region 18 with fail
   refine wp_region_noPanic ?_
   refine wp_region_held_drew (S := fun W => Below w1.heap.size w1 W) (by kernel_rfl) (HO9.out.bel.drew) (fun hHeld => ?_)
   generalize hwh : w9.drew = wh at *
   clear hwh
   refine wpAnyH_take (i := 0) (oi := _) (v := ?_) rfl (by kernel_rfl) (by kernel_rfl) (by kernel_rfl) (fun _ _ _ h => h) (Or.inl ⟨by kernel_rfl, ?_⟩) hHeld ?_
   rotate_left
   ·intro wq hSw
    go_simp
    (try with_reducible rfl)
   (try simp only [Act.put, List.getElem_toArray, List.getElem_cons_zero, List.getElem_cons_succ, List.setIfInBounds_toArray, List.set_cons_zero, List.set_cons_succ])
   refine wpAnyH_take (i := 1) (oi := _) (v := ?_) rfl (by kernel_rfl) (by kernel_rfl) (by kernel_rfl) (fun _ _ _ h => h) (Or.inl ⟨by kernel_rfl, ?_⟩) hHeld ?_
   rotate_left
   ·intro wq hSw
    go_simp
    (try with_reducible rfl)
   (try simp only [Act.put, List.getElem_toArray, List.getElem_cons_zero, List.getElem_cons_succ, List.setIfInBounds_toArray, List.set_cons_zero, List.set_cons_succ])
   refine wpAnyH_take (i := 2) (oi := _) (v := ?_) rfl (by kernel_rfl) (by kernel_rfl) (by kernel_rfl) (fun _ _ _ h => h) (Or.inl ⟨by kernel_rfl, ?_⟩) hHeld ?_
   rotate_left
   ·intro wq hSw
    go_simp
    (try with_reducible rfl)
   (try simp only [Act.put, List.getElem_toArray, List.getElem_cons_zero, List.getElem_cons_succ, List.setIfInBounds_toArray, List.set_cons_zero, List.set_cons_succ])
   refine wpAnyH_take (i := 3) (oi := _) (v := ?_) rfl (by kernel_rfl) (by kernel_rfl) (by kernel_rfl) (fun _ _ _ h => h) (Or.inl ⟨by kernel_rfl, ?_⟩) hHeld ?_
   rotate_left
   ·intro wq hSw
    have hy2 : wq.cell? ⟨w.heap.size, 2, none⟩ = some (.string (bstr e.sender)) := ((HE1.out.below hSw HE1.out.lt).cell 2).trans (by rw [List.getElem?_toArray]; exact HXC2.out)
    go_simp
    (try with_reducible rfl)
   (try simp only [Act.put, List.getElem_toArray, List.getElem_cons_zero, List.getElem_cons_succ, List.setIfInBounds_toArray, List.set_cons_zero, List.set_cons_succ])
   refine wpAnyH_take (i := 5) (oi := _) (v := ?_) rfl (by kernel_rfl) (by kernel_rfl) (by kernel_rfl) (fun _ _ _ h => h) (Or.inl ⟨by kernel_rfl, ?_⟩) hHeld ?_
   rotate_left
   ·intro wq hSw
    go_simp
    (try with_reducible rfl)
   (try simp only [Act.put, List.getElem_toArray, List.getElem_cons_zero, List.getElem_cons_succ, List.setIfInBounds_toArray, List.set_cons_zero, List.set_cons_succ])
   refine wpAnyH_take (i := 6) (oi := _) (v := ?_) rfl (by kernel_rfl) (by kernel_rfl) (by kernel_rfl) (fun _ _ _ h => h) (Or.inl ⟨by kernel_rfl, ?_⟩) hHeld ?_
   rotate_left
   ·intro wq hSw
    go_simp
    (try with_reducible rfl)
   (try simp only [Act.put, List.getElem_toArray, List.getElem_cons_zero, List.getElem_cons_succ, List.setIfInBounds_toArray, List.set_cons_zero, List.set_cons_succ])
   refine wpAnyH_take (i := 7) (oi := _) (v := ?_) rfl (by kernel_rfl) (by kernel_rfl) (by kernel_rfl) (fun _ _ _ h => h) (Or.inl ⟨by kernel_rfl, ?_⟩) hHeld ?_
   rotate_left
   ·intro wq hSw
    have hy2 : wq.cell? ⟨w.heap.size, 2, none⟩ = some (.string (bstr e.sender)) := ((HE1.out.below hSw HE1.out.lt).cell 2).trans (by rw [List.getElem?_toArray]; exact HXC2.out)
    go_simp
    (try with_reducible rfl)
   (try simp only [Act.put, List.getElem_toArray, List.getElem_cons_zero, List.getElem_cons_succ, List.setIfInBounds_toArray, List.set_cons_zero, List.set_cons_succ])
   refine wpAnyH_ready (rs := [4]) (by kernel_rfl) (by simp) ?_
   refine AllReadyH.cons (o := _) rfl (fun K hK => ?_) AllReadyH.nil
   go_simp
   go_at_call 63
   refine (rmemid_any ok l A cap e.sender wh (HR1.out.bel HO10.out.bel) hl).mono ?_
   rw [HSID.out]
   rintro r wa ⟨rfl, rfl⟩
   refine hK.out _ _ (HO10.out.bel) (fun hHeld2 => ?_)
   clear hK K hHeld
   have hHeld := hHeld2
   clear hHeld2
   (try simp only [Act.put, List.getElem_toArray, List.getElem_cons_zero, List.getElem_cons_succ, List.setIfInBounds_toArray, List.set_cons_zero, List.set_cons_succ])
   refine wpAnyH_ready (rs := [8]) (by kernel_rfl) (by simp) ?_
   refine AllReadyH.cons (o := _) rfl (fun K hK => ?_) AllReadyH.nil
   go_simp
   go_at_call 64
   refine (rmemof_any ok l A cap e.sender wh (HR1.out.bel HO10.out.bel) hl).mono ?_
   rw [HSE.out]
   rintro r wa ⟨rfl, rfl⟩
   refine hK.out _ _ (HO10.out.bel) (fun hHeld2 => ?_)
   clear hK K hHeld
   have hHeld := hHeld2
   clear hHeld2
   (try simp only [Act.put, List.getElem_toArray, List.getElem_cons_zero, List.getElem_cons_succ, List.setIfInBounds_toArray, List.set_cons_zero, List.set_cons_succ])
   refine wpAnyH_take (i := 9) (oi := _) (v := ?_) rfl (by kernel_rfl) (by kernel_rfl) (by kernel_rfl) (fun _ _ _ h => h) (Or.inl ⟨by kernel_rfl, ?_⟩) hHeld ?_
   rotate_left
   ·intro wq hSw
    go_simp
    (try with_reducible rfl)
   (try simp only [Act.put, List.getElem_toArray, List.getElem_cons_zero, List.getElem_cons_succ, List.setIfInBounds_toArray, List.set_cons_zero, List.set_cons_succ])
   refine wpAnyH_ready (rs := [10]) (by kernel_rfl) (by simp) ?_
   refine AllReadyH.cons (o := _) rfl (fun K hK => ?_) AllReadyH.nil
   go_simp
   go_at_call 59
   refine (rasks_any ⟨#[115, 101, 110, 100, 101, 114, 45, 106, 111, 105, 110, 101, 100]⟩ sid (se != 3) 18 wh).mono ?_
   rintro r wi ⟨rfl, hbi⟩
   have HO11 := hid (HO10.out.step hbi)
   have HVB11 := hid (HVB10.out.below hbi HVB10.out.lt)
   clear hbi
   refine hK.out _ _ (HO11.out.bel) (fun hHeld2 => ?_)
   clear hK K hHeld
   have hHeld := hHeld2
   clear hHeld2
   (try simp only [Act.put, List.getElem_toArray, List.getElem_cons_zero, List.getElem_cons_succ, List.setIfInBounds_toArray, List.set_cons_zero, List.set_cons_succ])
   refine wpAnyH_ready (rs := [11]) (by kernel_rfl) (by simp) ?_
   refine AllReadyH.cons (o := _) rfl (fun K hK => ?_) AllReadyH.nil
   go_simp
   refine hK.out _ _ ((HO11.out.step ((Below.refl wi.heap.size wi).alloc (Nat.le_refl _) _)).bel) (fun hHeld2 => ?_)
   clear hK K hHeld
   have hHeld := hHeld2
   clear hHeld2
   (try simp only [Act.put, List.getElem_toArray, List.getElem_cons_zero, List.getElem_cons_succ, List.setIfInBounds_toArray, List.set_cons_zero, List.set_cons_succ])
   refine wpAnyH_ready (rs := [12]) (by kernel_rfl) (by simp) ?_
   refine AllReadyH.cons (o := _) rfl (fun K hK => ?_) AllReadyH.nil
   refine step_leaf rfl _ _ rfl w1 w1.heap.size wi v29 ([] ++ [Co.ask [109, 111, 118, 101] at_ (!mv) 18]) [115, 101, 110, 100, 101, 114, 45, 106, 111, 105, 110, 101, 100] sid (askE (se != 3) 18) ?_ ?_ HO11.out (by simp) ?_
   ·kernel_rfl
   ·kernel_rfl
   intro v12 w12 ho12 ha12
   have HO12 := hid ho12
   have HVB12 := hid (ha12.blk HVB11.out HVN8.out)
   have HVN12 := hid (ha12.ne HVB11.out.lt HVN8.out)
   clear ho12 ha12
   refine hK.out _ _ (HO12.out.bel) (fun hHeld2 => ?_)
   clear hK K hHeld
   have hHeld := hHeld2
   clear hHeld2
   (try simp only [Act.put, List.getElem_toArray, List.getElem_cons_zero, List.getElem_cons_succ, List.setIfInBounds_toArray, List.set_cons_zero, List.set_cons_succ])
   refine wpAnyH_take (i := 13) (oi := _) (v := ?_) rfl (by kernel_rfl) (by kernel_rfl) (by kernel_rfl) (fun _ _ _ h => h) (Or.inl ⟨by kernel_rfl, ?_⟩) hHeld ?_
   rotate_left
   ·intro wq hSw
    go_simp
    (try with_reducible rfl)
   (try simp only [Act.put, List.getElem_toArray, List.getElem_cons_zero, List.getElem_cons_succ, List.setIfInBounds_toArray, List.set_cons_zero, List.set_cons_succ])
   refine wpAnyH_done (by kernel_rfl) ?_ _
   refine NoPanic.normal ?_
   by_cases h1 : e.n = 1
   ·have h1b : (e.n == 1) = true := eqb_true h1
    have h0b : (e.n == 0) = false := eqb_false (by omega)
    have h4b : (e.n == 4) = false := eqb_false (by omega)
    clear h1
    have hcv5 := (HVB12.out.cell 5).trans HYC.out.1
    go_wp2_with fail
    refine (rasks_any ⟨#[105, 110, 118, 105, 116, 101, 45, 108, 101, 118, 101, 108]⟩ pw (decide (mine < vi)) 20 w12).mono ?_
    rintro r w31 ⟨rfl, hb31⟩
    have HO31 := hid (HO12.out.step hb31)
    have HVB31 := hid (HVB12.out.below hb31 HVB12.out.lt)
    have HVN31 := HVN12
    clear hb31
    go_wp2_with (go_loud (at_builtin; refine app_leaf rfl _ _ rfl w1 w1.heap.size w31 v12 ([] ++ [Co.ask [109, 111, 118, 101] at_ (!mv) 18] ++ [Co.ask [115, 101, 110, 100, 101, 114, 45, 106, 111, 105, 110, 101, 100] sid (se != 3) 18]) [105, 110, 118, 105, 116, 101, 45, 108, 101, 118, 101, 108] pw (askE (decide (mine < vi)) 20) rfl rfl HO31.out (by simp) ?_; intro v32 w32 ho32 ha32; have HO32 := hid ho32; have HVB32 := hid (ha32.blk HVB31.out HVN31.out); have HVN32 := hid (ha32.ne HVB31.out.lt HVN31.out); clear ho32 ha32))
    have HLF : Hid (Co.memberR e l = [] ++ [Co.ask [109, 111, 118, 101] at_ (!mv) 18] ++ [Co.ask [115, 101, 110, 100, 101, 114, 45, 106, 111, 105, 110, 101, 100] sid (se != 3) 18] ++ [Co.ask [105, 110, 118, 105, 116, 101, 45, 108, 101, 118, 101, 108] pw (decide (mine < vi)) 20]) := hid (by
     unfold Co.memberR
     rw [if_neg (by rw [HFB.out]; simp)]
     simp only [HOWN.out, HNOW.out, HAT.out, HMV.out, HSE.out, HSID.out, HMINE.out, HTHEI.out, HVI.out, HVK.out, HVBB.out, HPW.out, HJR.out, HRU.out, HJE.out, HKE.out]
     simp [eq_of_beq h1b])
    have HOF : Hid (RnS.Own 42 (fun b => w1.heap.size ≤ b) w32 w1.heap.size v32 (Co.memberR e l)) := hid (by rw [HLF.out]; exact HO32.out.own)
    obtain ⟨A9, c9, hv9, hle9, hrow9⟩ := HOF.out.row (ok' := fun b => w.heap.size ≤ b) (fun b hb => Nat.le_trans HLE1.out hb) (fun k hk => Nat.le_trans HLE1.out (HO32.out.own.lt k hk).1)
    subst hv9
    go_ret
    exact ⟨⟨A9, c9, rfl, hle9, hrow9⟩, HB1.out.trans (HO32.out.bel.mono HB1.out.size)⟩
   ·have h1b : (e.n == 1) = false := eqb_false h1
    by_cases h0 : e.n = 0
    ·have h0b : (e.n == 0) = true := eqb_true h0
     have h4b : (e.n == 4) = false := eqb_false (by omega)
     clear h1 h0
     by_cases hn4 : now = 4
     ·have hnb : (now == 4) = true := eqb_true hn4
      clear hn4
      have hcv7 := (HVB12.out.cell 7).trans HYC.out.2.2
      go_wp2_with fail
      refine (rasks_any ⟨#[117, 110, 98, 97, 110, 45, 108, 101, 118, 101, 108]⟩ pw (decide (mine < vb)) 20 w12).mono ?_
      rintro r w33 ⟨rfl, hb33⟩
      have HO33 := hid (HO12.out.step hb33)
      have HVB33 := hid (HVB12.out.below hb33 HVB12.out.lt)
      have HVN33 := HVN12
      clear hb33
      go_wp2_with (go_loud (at_builtin; refine app_leaf rfl _ _ rfl w1 w1.heap.size w33 v12 ([] ++ [Co.ask [109, 111, 118, 101] at_ (!mv) 18] ++ [Co.ask [115, 101, 110, 100, 101, 114, 45, 106, 111, 105, 110, 101, 100] sid (se != 3) 18]) [117, 110, 98, 97, 110, 45, 108, 101, 118, 101, 108] pw (askE (decide (mine < vb)) 20) rfl rfl HO33.out (by simp) ?_; intro v34 w34 ho34 ha34; have HO34 := hid ho34; have HVB34 := hid (ha34.blk HVB33.out HVN33.out); have HVN34 := hid (ha34.ne HVB33.out.lt HVN33.out); have hcv6 := (HVB34.out.cell 6).trans HYC.out.2.1; clear ho34 ha34))
      refine (rasks_any ⟨#[107, 105, 99, 107, 45, 108, 101, 118, 101, 108]⟩ pw (decide (mine < vk)) 20 w34).mono ?_
      rintro r w35 ⟨rfl, hb35⟩
      have HO35 := hid (HO34.out.step hb35)
      have HVB35 := hid (HVB34.out.below hb35 HVB34.out.lt)
      have HVN35 := HVN34
      clear hb35
      go_wp2_with (go_loud (at_builtin; refine app_leaf rfl _ _ rfl w1 w1.heap.size w35 v34 ([] ++ [Co.ask [109, 111, 118, 101] at_ (!mv) 18] ++ [Co.ask [115, 101, 110, 100, 101, 114, 45, 106, 111, 105, 110, 101, 100] sid (se != 3) 18] ++ [Co.ask [117, 110, 98, 97, 110, 45, 108, 101, 118, 101, 108] pw (decide (mine < vb)) 20]) [107, 105, 99, 107, 45, 108, 101, 118, 101, 108] pw (askE (decide (mine < vk)) 20) rfl rfl HO35.out (by simp) ?_; intro v36 w36 ho36 ha36; have HO36 := hid ho36; have HVB36 := hid (ha36.blk HVB35.out HVN35.out); have HVN36 := hid (ha36.ne HVB35.out.lt HVN35.out); clear ho36 ha36))
      refine (rasks_any ⟨#[107, 105, 99, 107, 45, 116, 97, 114, 103, 101, 116]⟩ pw (decide (mine ≤ thei)) 20 w36).mono ?_
      rintro r w37 ⟨rfl, hb37⟩
      have HO37 := hid (HO36.out.step hb37)
      have HVB37 := hid (HVB36.out.below hb37 HVB36.out.lt)
      have HVN37 := HVN36
      clear hb37
      go_wp2_with (go_loud (at_builtin; refine app_leaf rfl _ _ rfl w1 w1.heap.size w37 v36 ([] ++ [Co.ask [109, 111, 118, 101] at_ (!mv) 18] ++ [Co.ask [115, 101, 110, 100, 101, 114, 45, 106, 111, 105, 110, 101, 100] sid (se != 3) 18] ++ [Co.ask [117, 110, 98, 97, 110, 45, 108, 101, 118, 101, 108] pw (decide (mine < vb)) 20] ++ [Co.ask [107, 105, 99, 107, 45, 108, 101, 118, 101, 108] pw (decide (mine < vk)) 20]) [107, 105, 99, 107, 45, 116, 97, 114, 103, 101, 116] pw (askE (decide (mine ≤ thei)) 20) rfl rfl HO37.out (by simp) ?_; intro v38 w38 ho38 ha38; have HO38 := hid ho38; have HVB38 := hid (ha38.blk HVB37.out HVN37.out); have HVN38 := hid (ha38.ne HVB37.out.lt HVN37.out); clear ho38 ha38))
      have HLF : Hid (Co.memberR e l = [] ++ [Co.ask [109, 111, 118, 101] at_ (!mv) 18] ++ [Co.ask [115, 101, 110, 100, 101, 114, 45, 106, 111, 105, 110, 101, 100] sid (se != 3) 18] ++ [Co.ask [117, 110, 98, 97, 110, 45, 108, 101, 118, 101, 108] pw (decide (mine < vb)) 20] ++ [Co.ask [107, 105, 99, 107, 45, 108, 101, 118, 101, 108] pw (decide (mine < vk)) 20] ++ [Co.ask [107, 105, 99, 107, 45, 116, 97, 114, 103, 101, 116] pw (decide (mine ≤ thei)) 20]) := hid (by
       unfold Co.memberR
       rw [if_neg (by rw [HFB.out]; simp)]
       simp only [HOWN.out, HNOW.out, HAT.out, HMV.out, HSE.out, HSID.out, HMINE.out, HTHEI.out, HVI.out, HVK.out, HVBB.out, HPW.out, HJR.out, HRU.out, HJE.out, HKE.out]
       simp [eq_of_beq h0b, eq_of_beq hnb])
      have HOF : Hid (RnS.Own 42 (fun b => w1.heap.size ≤ b) w38 w1.heap.size v38 (Co.memberR e l)) := hid (by rw [HLF.out]; exact HO38.out.own)
      obtain ⟨A9, c9, hv9, hle9, hrow9⟩ := HOF.out.row (ok' := fun b => w.heap.size ≤ b) (fun b hb => Nat.le_trans HLE1.out hb) (fun k hk => Nat.le_trans HLE1.out (HO38.out.own.lt k hk).1)
      subst hv9
      go_ret
      exact ⟨⟨A9, c9, rfl, hle9, hrow9⟩, HB1.out.trans (HO38.out.bel.mono HB1.out.size)⟩
     ·have hnb : (now == 4) = false := eqb_false hn4
      clear hn4
      have hcv6 := (HVB12.out.cell 6).trans HYC.out.2.1
      go_wp2_with fail
      refine (rasks_any ⟨#[107, 105, 99, 107, 45, 108, 101, 118, 101, 108]⟩ pw (decide (mine < vk)) 20 w12).mono ?_
      rintro r w39 ⟨rfl, hb39⟩
      have HO39 := hid (HO12.out.step hb39)
      have HVB39 := hid (HVB12.out.below hb39 HVB12.out.lt)
      have HVN39 := HVN12
      clear hb39
      go_wp2_with (go_loud (at_builtin; refine app_leaf rfl _ _ rfl w1 w1.heap.size w39 v12 ([] ++ [Co.ask [109, 111, 118, 101] at_ (!mv) 18] ++ [Co.ask [115, 101, 110, 100, 101, 114, 45, 106, 111, 105, 110, 101, 100] sid (se != 3) 18]) [107, 105, 99, 107, 45, 108, 101, 118, 101, 108] pw (askE (decide (mine < vk)) 20) rfl rfl HO39.out (by simp) ?_; intro v40 w40 ho40 ha40; have HO40 := hid ho40; have HVB40 := hid (ha40.blk HVB39.out HVN39.out); have HVN40 := hid (ha40.ne HVB39.out.lt HVN39.out); clear ho40 ha40))
      refine (rasks_any ⟨#[107, 105, 99, 107, 45, 116, 97, 114, 103, 101, 116]⟩ pw (decide (mine ≤ thei)) 20 w40).mono ?_
      rintro r w41 ⟨rfl, hb41⟩
      have HO41 := hid (HO40.out.step hb41)
      have HVB41 := hid (HVB40.out.below hb41 HVB40.out.lt)
      have HVN41 := HVN40
      clear hb41
      go_wp2_with (go_loud (at_builtin; refine app_leaf rfl _ _ rfl w1 w1.heap.size w41 v40 ([] ++ [Co.ask [109, 111, 118, 101] at_ (!mv) 18] ++ [Co.ask [115, 101, 110, 100, 101, 114, 45, 106, 111, 105, 110, 101, 100] sid (se != 3) 18] ++ [Co.ask [107, 105, 99, 107, 45, 108, 101, 118, 101, 108] pw (decide (mine < vk)) 20]) [107, 105, 99, 107, 45, 116, 97, 114, 103, 101, 116] pw (askE (decide (mine ≤ thei)) 20) rfl rfl HO41.out (by simp) ?_; intro v42 w42 ho42 ha42; have HO42 := hid ho42; have HVB42 := hid (ha42.blk HVB41.out HVN41.out); have HVN42 := hid (ha42.ne HVB41.out.lt HVN41.out); clear ho42 ha42))
      have HLF : Hid (Co.memberR e l = [] ++ [Co.ask [109, 111, 118, 101] at_ (!mv) 18] ++ [Co.ask [115, 101, 110, 100, 101, 114, 45, 106, 111, 105, 110, 101, 100] sid (se != 3) 18] ++ [Co.ask [107, 105, 99, 107, 45, 108, 101, 118, 101, 108] pw (decide (mine < vk)) 20] ++ [Co.ask [107, 105, 99, 107, 45, 116, 97, 114, 103, 101, 116] pw (decide (mine ≤ thei)) 20]) := hid (by
       unfold Co.memberR
       rw [if_neg (by rw [HFB.out]; simp)]
       simp only [HOWN.out, HNOW.out, HAT.out, HMV.out, HSE.out, HSID.out, HMINE.out, HTHEI.out, HVI.out, HVK.out, HVBB.out, HPW.out, HJR.out, HRU.out, HJE.out, HKE.out]
       simp [eq_of_beq h0b, ne_of_beqf hnb])
      have HOF : Hid (RnS.Own 42 (fun b => w1.heap.size ≤ b) w42 w1.heap.size v42 (Co.memberR e l)) := hid (by rw [HLF.out]; exact HO42.out.own)
      obtain ⟨A9, c9, hv9, hle9, hrow9⟩ := HOF.out.row (ok' := fun b => w.heap.size ≤ b) (fun b hb => Nat.le_trans HLE1.out hb) (fun k hk => Nat.le_trans HLE1.out (HO42.out.own.lt k hk).1)
      subst hv9
      go_ret
      exact ⟨⟨A9, c9, rfl, hle9, hrow9⟩, HB1.out.trans (HO42.out.bel.mono HB1.out.size)⟩
    ·have h0b : (e.n == 0) = false := eqb_false h0
     by_cases h4 : e.n = 4
     ·have h4b : (e.n == 4) = true := eqb_true h4
      clear h1 h0 h4
      have hcv7 := (HVB12.out.cell 7).trans HYC.out.2.2
      go_wp2_with fail
      refine (rasks_any ⟨#[98, 97, 110, 45, 108, 101, 118, 101, 108]⟩ pw (decide (mine < vb)) 20 w12).mono ?_
      rintro r w43 ⟨rfl, hb43⟩
      have HO43 := hid (HO12.out.step hb43)
      have HVB43 := hid (HVB12.out.below hb43 HVB12.out.lt)
      have HVN43 := HVN12
      clear hb43
      go_wp2_with (go_loud (at_builtin; refine app_leaf rfl _ _ rfl w1 w1.heap.size w43 v12 ([] ++ [Co.ask [109, 111, 118, 101] at_ (!mv) 18] ++ [Co.ask [115, 101, 110, 100, 101, 114, 45, 106, 111, 105, 110, 101, 100] sid (se != 3) 18]) [98, 97, 110, 45, 108, 101, 118, 101, 108] pw (askE (decide (mine < vb)) 20) rfl rfl HO43.out (by simp) ?_; intro v44 w44 ho44 ha44; have HO44 := hid ho44; have HVB44 := hid (ha44.blk HVB43.out HVN43.out); have HVN44 := hid (ha44.ne HVB43.out.lt HVN43.out); clear ho44 ha44))
      refine (rasks_any ⟨#[98, 97, 110, 45, 116, 97, 114, 103, 101, 116]⟩ pw (decide (mine ≤ thei)) 20 w44).mono ?_
      rintro r w45 ⟨rfl, hb45⟩
      have HO45 := hid (HO44.out.step hb45)
      have HVB45 := hid (HVB44.out.below hb45 HVB44.out.lt)
      have HVN45 := HVN44
      clear hb45
      go_wp2_with (go_loud (at_builtin; refine app_leaf rfl _ _ rfl w1 w1.heap.size w45 v44 ([] ++ [Co.ask [109, 111, 118, 101] at_ (!mv) 18] ++ [Co.ask [115, 101, 110, 100, 101, 114, 45, 106, 111, 105, 110, 101, 100] sid (se != 3) 18] ++ [Co.ask [98, 97, 110, 45, 108, 101, 118, 101, 108] pw (decide (mine < vb)) 20]) [98, 97, 110, 45, 116, 97, 114, 103, 101, 116] pw (askE (decide (mine ≤ thei)) 20) rfl rfl HO45.out (by simp) ?_; intro v46 w46 ho46 ha46; have HO46 := hid ho46; have HVB46 := hid (ha46.blk HVB45.out HVN45.out); have HVN46 := hid (ha46.ne HVB45.out.lt HVN45.out); clear ho46 ha46))
      have HLF : Hid (Co.memberR e l = [] ++ [Co.ask [109, 111, 118, 101] at_ (!mv) 18] ++ [Co.ask [115, 101, 110, 100, 101, 114, 45, 106, 111, 105, 110, 101, 100] sid (se != 3) 18] ++ [Co.ask [98, 97, 110, 45, 108, 101, 118, 101, 108] pw (decide (mine < vb)) 20] ++ [Co.ask [98, 97, 110, 45, 116, 97, 114, 103, 101, 116] pw (decide (mine ≤ thei)) 20]) := hid (by
       unfold Co.memberR
       rw [if_neg (by rw [HFB.out]; simp)]
       simp only [HOWN.out, HNOW.out, HAT.out, HMV.out, HSE.out, HSID.out, HMINE.out, HTHEI.out, HVI.out, HVK.out, HVBB.out, HPW.out, HJR.out, HRU.out, HJE.out, HKE.out]
       simp [eq_of_beq h4b])
      have HOF : Hid (RnS.Own 42 (fun b => w1.heap.size ≤ b) w46 w1.heap.size v46 (Co.memberR e l)) := hid (by rw [HLF.out]; exact HO46.out.own)
      obtain ⟨A9, c9, hv9, hle9, hrow9⟩ := HOF.out.row (ok' := fun b => w.heap.size ≤ b) (fun b hb => Nat.le_trans HLE1.out hb) (fun k hk => Nat.le_trans HLE1.out (HO46.out.own.lt k hk).1)
      subst hv9
      go_ret
      exact ⟨⟨A9, c9, rfl, hle9, hrow9⟩, HB1.out.trans (HO46.out.bel.mono HB1.out.size)⟩
     ·have h4b : (e.n == 4) = false := eqb_false h4
      clear h1 h0 h4
      go_wp2_with fail
      have HLF : Hid (Co.memberR e l = [] ++ [Co.ask [109, 111, 118, 101] at_ (!mv) 18] ++ [Co.ask [115, 101, 110, 100, 101, 114, 45, 106, 111, 105, 110, 101, 100] sid (se != 3) 18]) := hid (by
       unfold Co.memberR
       rw [if_neg (by rw [HFB.out]; simp)]
       simp only [HOWN.out, HNOW.out, HAT.out, HMV.out, HSE.out, HSID.out, HMINE.out, HTHEI.out, HVI.out, HVK.out, HVBB.out, HPW.out, HJR.out, HRU.out, HJE.out, HKE.out]
       simp [ne_of_beqf h1b, ne_of_beqf h0b, ne_of_beqf h4b])
      have HOF : Hid (RnS.Own 42 (fun b => w1.heap.size ≤ b) w12 w1.heap.size v12 (Co.memberR e l)) := hid (by rw [HLF.out]; exact HO12.out.own)
      obtain ⟨A9, c9, hv9, hle9, hrow9⟩ := HOF.out.row (ok' := fun b => w.heap.size ≤ b) (fun b hb => Nat.le_trans HLE1.out hb) (fun k hk => Nat.le_trans HLE1.out (HO12.out.own.lt k hk).1)
      subst hv9
      go_ret
      exact ⟨⟨A9, c9, rfl, hle9, hrow9⟩, HB1.out.trans (HO12.out.bel.mono HB1.out.size)⟩
end Go.Proofs.YtacjhbbieeliaaaGreatDoor
/- The text Qia. -/
namespace Pr
def colN : Str → Nat
 | [] => 0
 | c :: r => if c = 58 then 0 else colN r + 1
theorem colN_is : ∀ (s : Str) (k : Nat), (∀ c ∈ s.take k, c ≠ 58) → (s.length = k ∨ s[k]? = some 58) → colN s = k
 | [], k, _, h2 => by
  rcases h2 with h | h
  ·exact h
  ·cases h
 | c :: r, 0, _, h2 => by
  rcases h2 with h | h
  ·cases h
  ·injection h with h; subst h; rfl
 | c :: r, k + 1, h1, h2 => by
  have hc : c ≠ 58 := h1 c (by rw [List.take_succ_cons]; exact List.mem_cons_self ..)
  rw [colN, if_neg hc, colN_is r k (fun d hd => h1 d (by rw [List.take_succ_cons]; exact List.mem_cons_of_mem _ hd)) (by
   rcases h2 with h | h
   ·left; rw [List.length_cons] at h; omega
   ·right; exact h)]
theorem cut_col : ∀ s : Str, (cutC s = none ∧ colN s = s.length) ∨ (cutC s = some (s.take (colN s), s.drop (colN s + 1)) ∧ colN s < s.length)
 | [] => .inl ⟨rfl, rfl⟩
 | c :: r => by
  unfold cutC
  by_cases h : c = 58
  ·rw [if_pos h, colN, if_pos h]
   exact .inr ⟨rfl, by simp⟩
  ·rw [if_neg h, colN, if_neg h]
   rcases cut_col r with ⟨h1, h2⟩ | ⟨h1, h2⟩
   ·left
    rw [h1, h2]
    exact ⟨rfl, rfl⟩
   ·right
    rw [h1]
    exact ⟨rfl, by rw [List.length_cons]; omega⟩
end Pr
namespace Go.Proofs.YtacjhbbieeliaaaGreatDoor
open Go.RowKit Go.Lib
set_option linter.unusedVariables false
set_option linter.unusedSimpArgs false
theorem rletter_any (n : Nat) (w : World) : Calls Tryz.prog 145 #[.int .u8 (n : Int)] w fun e w' => e = .returned (.bool (Pr.letterN n)) ∧ w = w' := by
 by_cases ha : 97 ≤ n
 ·by_cases hb : n ≤ 122
  ·have hx : ¬ n ≤ 57 := by omega
   have e : Pr.letterN n = true := by unfold Pr.letterN; rw [decide_eq_true (p := 97 ≤ n) (by omega), decide_eq_true (p := n ≤ 122) (by omega), decide_eq_true (p := 48 ≤ n) (by omega), decide_eq_false (p := n ≤ 57) (by omega)]; rfl
   rw [e]
   clear e
   have qa : decide ((97 : Int) ≤ (n : Int)) = true := decide_eq_true (by omega)
   have qb : decide ((n : Int) ≤ 122) = true := decide_eq_true (by omega)
   have qc : decide ((48 : Int) ≤ (n : Int)) = true := decide_eq_true (by omega)
   have qd : decide ((n : Int) ≤ 57) = false := decide_eq_false (by omega)
   go_enter Tryz.func145, Tryz.ntmps145
   go_wp2_with fail
   go_ret
   exact ⟨rfl, rfl⟩
  ·have hx : ¬ n ≤ 57 := by omega
   have e : Pr.letterN n = false := by unfold Pr.letterN; rw [decide_eq_true (p := 97 ≤ n) (by omega), decide_eq_false (p := n ≤ 122) (by omega), decide_eq_true (p := 48 ≤ n) (by omega), decide_eq_false (p := n ≤ 57) (by omega)]; rfl
   rw [e]
   clear e
   have qa : decide ((97 : Int) ≤ (n : Int)) = true := decide_eq_true (by omega)
   have qb : decide ((n : Int) ≤ 122) = false := decide_eq_false (by omega)
   have qc : decide ((48 : Int) ≤ (n : Int)) = true := decide_eq_true (by omega)
   have qd : decide ((n : Int) ≤ 57) = false := decide_eq_false (by omega)
   go_enter Tryz.func145, Tryz.ntmps145
   go_wp2_with fail
   go_ret
   exact ⟨rfl, rfl⟩
 ·have hx : n ≤ 122 := by omega
  by_cases hc : 48 ≤ n
  ·by_cases hd : n ≤ 57
   ·have e : Pr.letterN n = true := by unfold Pr.letterN; rw [decide_eq_false (p := 97 ≤ n) (by omega), decide_eq_true (p := n ≤ 122) (by omega), decide_eq_true (p := 48 ≤ n) (by omega), decide_eq_true (p := n ≤ 57) (by omega)]; rfl
    rw [e]
    clear e
    have qa : decide ((97 : Int) ≤ (n : Int)) = false := decide_eq_false (by omega)
    have qb : decide ((n : Int) ≤ 122) = true := decide_eq_true (by omega)
    have qc : decide ((48 : Int) ≤ (n : Int)) = true := decide_eq_true (by omega)
    have qd : decide ((n : Int) ≤ 57) = true := decide_eq_true (by omega)
    go_enter Tryz.func145, Tryz.ntmps145
    go_wp2_with fail
    go_ret
    exact ⟨rfl, rfl⟩
   ·have e : Pr.letterN n = false := by unfold Pr.letterN; rw [decide_eq_false (p := 97 ≤ n) (by omega), decide_eq_true (p := n ≤ 122) (by omega), decide_eq_true (p := 48 ≤ n) (by omega), decide_eq_false (p := n ≤ 57) (by omega)]; rfl
    rw [e]
    clear e
    have qa : decide ((97 : Int) ≤ (n : Int)) = false := decide_eq_false (by omega)
    have qb : decide ((n : Int) ≤ 122) = true := decide_eq_true (by omega)
    have qc : decide ((48 : Int) ≤ (n : Int)) = true := decide_eq_true (by omega)
    have qd : decide ((n : Int) ≤ 57) = false := decide_eq_false (by omega)
    go_enter Tryz.func145, Tryz.ntmps145
    go_wp2_with fail
    go_ret
    exact ⟨rfl, rfl⟩
  ·have e : Pr.letterN n = false := by unfold Pr.letterN; rw [decide_eq_false (p := 97 ≤ n) (by omega), decide_eq_true (p := n ≤ 122) (by omega), decide_eq_false (p := 48 ≤ n) (by omega), decide_eq_true (p := n ≤ 57) (by omega)]; rfl
   rw [e]
   clear e
   have qa : decide ((97 : Int) ≤ (n : Int)) = false := decide_eq_false (by omega)
   have qb : decide ((n : Int) ≤ 122) = true := decide_eq_true (by omega)
   have qc : decide ((48 : Int) ≤ (n : Int)) = false := decide_eq_false (by omega)
   have qd : decide ((n : Int) ≤ 57) = true := decide_eq_true (by omega)
   go_enter Tryz.func145, Tryz.ntmps145
   go_wp2_with fail
   go_ret
   exact ⟨rfl, rfl⟩
theorem rcolon_any (S : ByteArray) (w : World) (hs : S.size ≤ 1000000) : Calls Tryz.prog 88 #[.string S] w fun e w' => e = .returned (.int .i64 (Pr.colN S.data.toList : Int)) ∧ w = w' := by
 have HAT := hid (at_str S)
 have hsz : S.data.toList.length = S.size := (str_size S).symm
 generalize S.data.toList = L at *
 have HCE : Hid (∀ k : Nat, (∀ c ∈ L.take k, c ≠ 58) → (L.length = k ∨ L[k]? = some 58) → Pr.colN L = k) := hid (Pr.colN_is L)
 have HSZ := hid hsz
 generalize Pr.colN L = Z at *
 clear hsz
 go_enter Tryz.func88, Tryz.ntmps88
 go_wp2_with fail
 go_loopw [3] (fun ix wr => ∃ k : Nat, k ≤ S.size ∧ ix = .int .i64 k ∧ w = wr ∧ Hid (∀ c ∈ L.take k, c ≠ 58)) (fun ix _ => S.size - (RowKit.intOf ix).toNat)
 case atStart => exact ⟨0, Nat.zero_le _, rfl, rfl, hid (fun c h => by simp at h)⟩
 case round =>
  obtain ⟨k, hk, rfl, rfl, hall⟩ := hrel
  by_cases hlt : k < S.size
  ·have hat := HAT.out k hlt
   have hc2 := (S[k]).toNat_lt
   by_cases h58 : S[k] = 58
   ·have HZ : Hid (Z = k) := hid (HCE.out k hall.out (.inr (by rw [hat, h58])))
    have hn : (S[k]).toNat = 58 := by rw [h58]; rfl
    generalize hn0 : (S[k]).toNat = n0 at *
    subst hn
    clear hat h58
    go_wp2_with fail
    go_ret
    exact ⟨congrArg (fun n : Nat => Ending.returned (.int .i64 (n : Int))) HZ.out.symm, by trivial⟩
   ·have HN : Hid (∀ c ∈ L.take (k + 1), c ≠ 58) := hid (fun c hc => by
     rw [Pr.take_snoc hat] at hc
     rcases List.mem_append.1 hc with hc | hc
     ·exact hall.out c hc
     ·rw [List.mem_singleton.1 hc]; exact h58)
    have hn : ¬ (S[k]).toNat = 58 := fun e => h58 (UInt8.toNat_inj.1 (by rw [e]; rfl))
    generalize hn0 : (S[k]).toNat = n0 at *
    have e1 : ((n0 : Int) == 58) = false := by rw [beq_eq_false_iff_ne]; omega
    have e2 : ((n0 : Int) != 58) = true := by rw [bne, e1]; rfl
    clear hat h58
    go_wp2_with fail
    go_roundw
    case rel => exact ⟨k + 1, by omega, by go_num, by trivial, HN⟩
    case measure => simp [RowKit.intOf]; omega
  ·obtain rfl : k = S.size := by omega
   have HZ : Hid (Z = S.size) := hid (HCE.out S.size hall.out (.inl HSZ.out))
   go_wp2_with fail
   go_ret
   exact ⟨congrArg (fun n : Nat => Ending.returned (.int .i64 (n : Int))) HZ.out.symm, by trivial⟩
theorem rlocal_any (S : ByteArray) (w : World) (hs : S.size ≤ 1000000) : Calls Tryz.prog 121 #[.string S] w fun e w' => e = .returned (.bool (Pr.localL S.data.toList)) ∧ w = w' := by
 have HAT := hid (at_str S)
 have hsz : S.data.toList.length = S.size := (str_size S).symm
 have HLE := hid (fun n W => rletter_any n W)
 generalize S.data.toList = L at *
 obtain ⟨p, hp⟩ : ∃ p : UInt8 → Bool, (fun c : UInt8 => Pr.letterN c.toNat || Pr.locN c.toNat) = p := ⟨_, rfl⟩
 have HP : Hid (∀ c, p c = (Pr.letterN c.toNat || Pr.locN c.toNat)) := hid (fun c => by rw [← hp])
 obtain ⟨R, hR⟩ : ∃ R, L.all p = R := ⟨_, rfl⟩
 have HR := hid hR
 have hz : Pr.localL L = (decide (1 ≤ S.size) && (decide (S.size ≤ 32) && R)) := by
  unfold Pr.localL Pr.validL
  rw [hp, hR, hsz]
 have HSZ := hid hsz
 rw [hz]
 have HZF : Hid (R = false → (decide (1 ≤ S.size) && (decide (S.size ≤ 32) && R)) = false) := hid (fun h => by rw [h, Bool.and_false, Bool.and_false])
 have HZT : Hid (R = true → (decide (1 ≤ S.size) && (decide (S.size ≤ 32) && R)) = (decide (1 ≤ S.size) && decide (S.size ≤ 32))) := hid (fun h => by rw [h, Bool.and_true])
 generalize (decide (1 ≤ S.size) && (decide (S.size ≤ 32) && R)) = Z at *
 clear hp hR hz hsz
 go_enter Tryz.func121, Tryz.ntmps121
 go_wp2_with fail
 go_loopw [3] (fun ix wr => ∃ k : Nat, k ≤ S.size ∧ ix = .int .i64 k ∧ w = wr ∧ Hid (∀ c ∈ L.take k, p c = true)) (fun ix _ => S.size - (RowKit.intOf ix).toNat)
 case atStart => exact ⟨0, Nat.zero_le _, rfl, rfl, hid (fun c h => by simp at h)⟩
 case round =>
  obtain ⟨k, hk, rfl, rfl, hall⟩ := hrel
  by_cases hlt : k < S.size
  ·have hch := HP.out S[k]
   have HN0 : Hid (p S[k] = true → Hid (∀ c ∈ L.take (k + 1), p c = true)) := hid (fun hn => hid fun c hc => by
    rw [Pr.take_snoc (HAT.out k hlt)] at hc
    rcases List.mem_append.1 hc with hc | hc
    ·exact hall.out c hc
    ·rw [List.mem_singleton.1 hc]; exact hn)
   have HF0 : Hid (p S[k] = false → R = false) := hid (fun hn => by rw [← HR.out]; exact Pr.all_fail (HAT.out k hlt) hn)
   have HL := hid (HLE.out (S[k]).toNat)
   have hc2 := (S[k]).toNat_lt
   generalize p S[k] = pk at *
   generalize hn0 : (S[k]).toNat = n0 at *
   rcases Bool.eq_false_or_eq_true (Pr.letterN n0) with hl | hl
   ·have HN := HN0.out (by rw [hch, hl]; rfl)
    rw [hl] at HL
    clear hch hl
    go_wp2_with (go_at_call 145; refine (HL.out _).mono ?_; rintro e w2 ⟨rfl, rfl⟩)
    go_roundw
    case rel => exact ⟨k + 1, by omega, by go_num, by trivial, HN⟩
    case measure => simp [RowKit.intOf]; omega
   ·rw [hl] at HL
    by_cases h95 : n0 = 95
    ·have hj : Pr.locN n0 = true := by rw [h95]; rfl
     have HN := HN0.out (by rw [hch, hj]; simp)
     subst h95
     clear hch hl hj
     go_wp2_with (go_at_call 145; refine (HL.out _).mono ?_; rintro e w2 ⟨rfl, rfl⟩)
     go_roundw
     case rel => exact ⟨k + 1, by omega, by go_num, by trivial, HN⟩
     case measure => simp [RowKit.intOf]; omega
    have e95 : ((n0 : Int) == 95) = false := by rw [beq_eq_false_iff_ne]; omega
    have f95 : ((n0 : Int) != 95) = true := by rw [bne, e95]; rfl
    by_cases h46 : n0 = 46
    ·have hj : Pr.locN n0 = true := by rw [h46]; rfl
     have HN := HN0.out (by rw [hch, hj]; simp)
     subst h46
     clear hch hl hj
     go_wp2_with (go_at_call 145; refine (HL.out _).mono ?_; rintro e w2 ⟨rfl, rfl⟩)
     go_roundw
     case rel => exact ⟨k + 1, by omega, by go_num, by trivial, HN⟩
     case measure => simp [RowKit.intOf]; omega
    have e46 : ((n0 : Int) == 46) = false := by rw [beq_eq_false_iff_ne]; omega
    have f46 : ((n0 : Int) != 46) = true := by rw [bne, e46]; rfl
    by_cases h45 : n0 = 45
    ·have hj : Pr.locN n0 = true := by rw [h45]; rfl
     have HN := HN0.out (by rw [hch, hj]; simp)
     subst h45
     clear hch hl hj
     go_wp2_with (go_at_call 145; refine (HL.out _).mono ?_; rintro e w2 ⟨rfl, rfl⟩)
     go_roundw
     case rel => exact ⟨k + 1, by omega, by go_num, by trivial, HN⟩
     case measure => simp [RowKit.intOf]; omega
    have e45 : ((n0 : Int) == 45) = false := by rw [beq_eq_false_iff_ne]; omega
    have f45 : ((n0 : Int) != 45) = true := by rw [bne, e45]; rfl
    by_cases h61 : n0 = 61
    ·have hj : Pr.locN n0 = true := by rw [h61]; rfl
     have HN := HN0.out (by rw [hch, hj]; simp)
     subst h61
     clear hch hl hj
     go_wp2_with (go_at_call 145; refine (HL.out _).mono ?_; rintro e w2 ⟨rfl, rfl⟩)
     go_roundw
     case rel => exact ⟨k + 1, by omega, by go_num, by trivial, HN⟩
     case measure => simp [RowKit.intOf]; omega
    have e61 : ((n0 : Int) == 61) = false := by rw [beq_eq_false_iff_ne]; omega
    have f61 : ((n0 : Int) != 61) = true := by rw [bne, e61]; rfl
    have hj : Pr.locN n0 = false := by unfold Pr.locN; simp only [beq_eq_false_iff_ne.2 h95, beq_eq_false_iff_ne.2 h46, beq_eq_false_iff_ne.2 h45, beq_eq_false_iff_ne.2 h61, Bool.or_false]
    have HF := hid (HF0.out (by rw [hch, hl, hj]; rfl))
    clear hch hl hj
    have HZ := hid (HZF.out HF.out)
    go_wp2_with (go_at_call 145; refine (HL.out _).mono ?_; rintro e w2 ⟨rfl, rfl⟩)
    go_ret
    exact ⟨congrArg (fun b => Ending.returned (.bool b)) HZ.out.symm, by trivial⟩
  ·obtain rfl : k = S.size := by omega
   have HE : Hid (R = true) := hid (by rw [← HR.out]; exact Pr.all_done (by rw [HSZ.out]; exact hall.out))
   have HZ := hid (HZT.out HE.out)
   by_cases h1 : 1 ≤ S.size
   ·by_cases h2 : S.size ≤ 32
    ·have g1 : decide ((1 : Int) ≤ (S.size : Int)) = true := decide_eq_true (by omega)
     have g2 : decide ((S.size : Int) ≤ 32) = true := decide_eq_true (by omega)
     have HZ2 : Hid (Z = true) := hid (by rw [HZ.out, decide_eq_true h1, decide_eq_true h2]; rfl)
     go_wp2_with fail
     go_ret
     exact ⟨congrArg (fun b => Ending.returned (.bool b)) HZ2.out.symm, by trivial⟩
    ·have g1 : decide ((1 : Int) ≤ (S.size : Int)) = true := decide_eq_true (by omega)
     have g2 : decide ((S.size : Int) ≤ 32) = false := decide_eq_false (by omega)
     have HZ2 : Hid (Z = false) := hid (by rw [HZ.out, decide_eq_true h1, decide_eq_false h2]; rfl)
     go_wp2_with fail
     go_ret
     exact ⟨congrArg (fun b => Ending.returned (.bool b)) HZ2.out.symm, by trivial⟩
   ·have g1 : decide ((1 : Int) ≤ (S.size : Int)) = false := decide_eq_false (by omega)
    have HZ2 : Hid (Z = false) := hid (by rw [HZ.out, decide_eq_false h1]; rfl)
    go_wp2_with fail
    go_ret
    exact ⟨congrArg (fun b => Ending.returned (.bool b)) HZ2.out.symm, by trivial⟩
theorem rserver_any (S : ByteArray) (w : World) (hs : S.size ≤ 1000000) : Calls Tryz.prog 122 #[.string S] w fun e w' => e = .returned (.int .i64 (if Pr.serverL S.data.toList then 0 else 3)) ∧ w = w' := by
 have HAT := hid (at_str S)
 have hsz : S.data.toList.length = S.size := (str_size S).symm
 have HLE := hid (fun n W => rletter_any n W)
 generalize hLL : S.data.toList = L at *
 obtain ⟨p, hp⟩ : ∃ p : UInt8 → Bool, (fun c : UInt8 => Pr.letterN c.toNat || Pr.srvN c.toNat) = p := ⟨_, rfl⟩
 have HP : Hid (∀ c, p c = (Pr.letterN c.toNat || Pr.srvN c.toNat)) := hid (fun c => by rw [← hp])
 obtain ⟨R, hR⟩ : ∃ R, L.all p = R := ⟨_, rfl⟩
 have HR := hid hR
 have hz : Pr.serverL L = ((decide (1 ≤ S.size) && (decide (S.size ≤ 32) && R)) && (Pr.letterN ((L.headD 0).toNat) && Pr.letterN ((L.getLastD 0).toNat))) := by
  unfold Pr.serverL Pr.validL
  rw [hp, hR, hsz]
 have HSZ := hid hsz
 obtain ⟨Z, hZ⟩ : ∃ Z : Int, (if Pr.serverL L = true then (0 : Int) else 3) = Z := ⟨_, rfl⟩
 rw [hZ]
 by_cases h1 : S.size < 1
 ·have g1 : decide ((S.size : Int) < 1) = true := decide_eq_true (by omega)
  have HZ : Hid (3 = Z) := hid (by rw [← hZ, hz, decide_eq_false (by omega : ¬ 1 ≤ S.size)]; rfl)
  clear hz hZ hp hR hsz hLL
  go_enter Tryz.func122, Tryz.ntmps122
  go_wp2_with fail
  go_ret
  exact ⟨congrArg (fun z => Ending.returned (.int .i64 z)) HZ.out, rfl⟩
 have g1 : decide ((S.size : Int) < 1) = false := decide_eq_false (by omega)
 by_cases h32 : 32 < S.size
 ·have g2 : decide ((32 : Int) < (S.size : Int)) = true := decide_eq_true (by omega)
  have HZ : Hid (3 = Z) := hid (by rw [← hZ, hz, decide_eq_false (by omega : ¬ S.size ≤ 32), Bool.false_and, Bool.and_false]; rfl)
  clear hz hZ hp hR hsz hLL
  go_enter Tryz.func122, Tryz.ntmps122
  go_wp2_with fail
  go_ret
  exact ⟨congrArg (fun z => Ending.returned (.int .i64 z)) HZ.out, rfl⟩
 have g2 : decide ((32 : Int) < (S.size : Int)) = false := decide_eq_false (by omega)
 have hf : L.headD 0 = S[0] := by
  have h0 := HAT.out 0 (by omega)
  cases L with
  | nil => cases h0
  | cons c r => injection h0
 have hg : L.getLastD 0 = S[S.size - 1] := by
  have h0 := HAT.out (S.size - 1) (by omega)
  rw [List.getLastD_eq_getLast?, List.getLast?_eq_getElem?, hsz, h0]
  rfl
 rw [decide_eq_true (by omega : 1 ≤ S.size), decide_eq_true (by omega : S.size ≤ 32), Bool.true_and, Bool.true_and, hf, hg] at hz
 have HL0 := hid (HLE.out (S[0]).toNat)
 have HL1 := hid (HLE.out (S[S.size - 1]).toNat)
 have hlast : S.size - 1 < S.size := by omega
 have hpos : 0 < S.size := by omega
 have hc0 := (S[0]).toNat_lt
 have hc1 := (S[S.size - 1]).toNat_lt
 generalize hn0 : (S[0]).toNat = n0 at *
 generalize hn1 : (S[S.size - 1]).toNat = n1 at *
 have hw1 : IntKind.i64.wrap ((S.size : Int) - 1) = ((S.size - 1 : Nat) : Int) := by rw [IntWalk.i64_in _ (by omega)]; omega
 have hw0 : (0 : Int) ≤ ((S.size - 1 : Nat) : Int) := by omega
 rcases Bool.eq_false_or_eq_true (Pr.letterN n0) with h0 | h0
 rotate_left
 ·have HZ : Hid (3 = Z) := hid (by rw [← hZ, hz, h0, Bool.false_and, Bool.and_false]; rfl)
  rw [h0] at HL0
  clear hz hZ hp hR hsz h0 hf hg hLL
  go_enter Tryz.func122, Tryz.ntmps122
  go_wp2_with (go_at_call 145; refine (HL0.out _).mono ?_; rintro e w2 ⟨rfl, rfl⟩)
  go_ret
  exact ⟨congrArg (fun z => Ending.returned (.int .i64 z)) HZ.out, rfl⟩
 rcases Bool.eq_false_or_eq_true (Pr.letterN n1) with h9 | h9
 rotate_left
 ·have HZ : Hid (3 = Z) := hid (by rw [← hZ, hz, h9, Bool.and_false, Bool.and_false]; rfl)
  rw [h0] at HL0
  rw [h9] at HL1
  clear h0 h9
  clear hz hZ hp hR hsz hf hg hLL
  go_enter Tryz.func122, Tryz.ntmps122
  go_wp2_with (first | (go_at_call_of 145 (Value.int .u8 (n0 : Int)); refine (HL0.out _).mono ?_; rintro e w2 ⟨rfl, rfl⟩) | (go_at_call_of 145 (Value.int .u8 (n1 : Int)); refine (HL1.out _).mono ?_; rintro e w2 ⟨rfl, rfl⟩))
  go_ret
  exact ⟨congrArg (fun z => Ending.returned (.int .i64 z)) HZ.out, rfl⟩
 rw [h0, h9, Bool.true_and, Bool.and_true] at hz
 rw [h0] at HL0
 rw [h9] at HL1
 have HZF : Hid (R = false → 3 = Z) := hid (fun h => by rw [← hZ, hz, h]; rfl)
 have HZT : Hid (R = true → 0 = Z) := hid (fun h => by rw [← hZ, hz, h]; rfl)
 clear hz hZ hp hR hsz h0 h9 hf hg hLL
 go_enter Tryz.func122, Tryz.ntmps122
 go_wp2_with (first | (go_at_call_of 145 (Value.int .u8 (n0 : Int)); refine (HL0.out _).mono ?_; rintro e w2 ⟨rfl, rfl⟩) | (go_at_call_of 145 (Value.int .u8 (n1 : Int)); refine (HL1.out _).mono ?_; rintro e w2 ⟨rfl, rfl⟩))
 clear hn0 hn1 HL0 HL1 hc0 hc1
 go_loopw [3] (fun ix wr => ∃ k : Nat, k ≤ S.size ∧ ix = .int .i64 k ∧ w = wr ∧ Hid (∀ c ∈ L.take k, p c = true)) (fun ix _ => S.size - (RowKit.intOf ix).toNat)
 case atStart => exact ⟨0, Nat.zero_le _, rfl, rfl, hid (fun c h => by simp at h)⟩
 case round =>
  obtain ⟨k, hk, rfl, rfl, hall⟩ := hrel
  by_cases hlt : k < S.size
  ·have hch := HP.out S[k]
   have HN0 : Hid (p S[k] = true → Hid (∀ c ∈ L.take (k + 1), p c = true)) := hid (fun hn => hid fun c hc => by
    rw [Pr.take_snoc (HAT.out k hlt)] at hc
    rcases List.mem_append.1 hc with hc | hc
    ·exact hall.out c hc
    ·rw [List.mem_singleton.1 hc]; exact hn)
   have HF0 : Hid (p S[k] = false → R = false) := hid (fun hn => by rw [← HR.out]; exact Pr.all_fail (HAT.out k hlt) hn)
   have HL := hid (HLE.out (S[k]).toNat)
   have hc2 := (S[k]).toNat_lt
   generalize p S[k] = pk at *
   generalize hn0 : (S[k]).toNat = n0 at *
   rcases Bool.eq_false_or_eq_true (Pr.letterN n0) with hl | hl
   ·have HN := HN0.out (by rw [hch, hl]; rfl)
    rw [hl] at HL
    clear hch hl
    go_wp2_with (go_at_call 145; refine (HL.out _).mono ?_; rintro e w2 ⟨rfl, rfl⟩)
    go_roundw
    case rel => exact ⟨k + 1, by omega, by go_num, by trivial, HN⟩
    case measure => simp [RowKit.intOf]; omega
   ·rw [hl] at HL
    by_cases h46 : n0 = 46
    ·have hj : Pr.srvN n0 = true := by rw [h46]; rfl
     have HN := HN0.out (by rw [hch, hj]; simp)
     subst h46
     clear hch hl hj
     go_wp2_with (go_at_call 145; refine (HL.out _).mono ?_; rintro e w2 ⟨rfl, rfl⟩)
     go_roundw
     case rel => exact ⟨k + 1, by omega, by go_num, by trivial, HN⟩
     case measure => simp [RowKit.intOf]; omega
    have e46 : ((n0 : Int) == 46) = false := by rw [beq_eq_false_iff_ne]; omega
    have f46 : ((n0 : Int) != 46) = true := by rw [bne, e46]; rfl
    by_cases h45 : n0 = 45
    ·have hj : Pr.srvN n0 = true := by rw [h45]; rfl
     have HN := HN0.out (by rw [hch, hj]; simp)
     subst h45
     clear hch hl hj
     go_wp2_with (go_at_call 145; refine (HL.out _).mono ?_; rintro e w2 ⟨rfl, rfl⟩)
     go_roundw
     case rel => exact ⟨k + 1, by omega, by go_num, by trivial, HN⟩
     case measure => simp [RowKit.intOf]; omega
    have e45 : ((n0 : Int) == 45) = false := by rw [beq_eq_false_iff_ne]; omega
    have f45 : ((n0 : Int) != 45) = true := by rw [bne, e45]; rfl
    have hj : Pr.srvN n0 = false := by unfold Pr.srvN; simp only [beq_eq_false_iff_ne.2 h46, beq_eq_false_iff_ne.2 h45, Bool.or_false]
    have HF := hid (HF0.out (by rw [hch, hl, hj]; rfl))
    clear hch hl hj
    have HZ := hid (HZF.out HF.out)
    go_wp2_with (go_at_call 145; refine (HL.out _).mono ?_; rintro e w2 ⟨rfl, rfl⟩)
    go_ret
    exact ⟨congrArg (fun z => Ending.returned (.int .i64 z)) HZ.out, by trivial⟩
  ·obtain rfl : k = S.size := by omega
   have HE : Hid (R = true) := hid (by rw [← HR.out]; exact Pr.all_done (by rw [HSZ.out]; exact hall.out))
   have HZ := hid (HZT.out HE.out)
   go_wp2_with fail
   go_ret
   exact ⟨congrArg (fun z => Ending.returned (.int .i64 z)) HZ.out, by trivial⟩
end Go.Proofs.YtacjhbbieeliaaaGreatDoor
/- The text Qib. -/
namespace Pr
theorem split_one {m : UInt8} (hm : m ≠ 58) : ∀ {s a b : Str}, splitP [m] s = some (a, b) → s.drop (colN s + 1) = b ∧ colN s < s.length
 | [], a, b, h => by cases h
 | c :: r, a, b, h => by
  by_cases hc : c = m
  ·have hct : [m].contains c = true := by rw [hc]; simp
   rcases cut_col r with ⟨h1, h2⟩ | ⟨h1, h2⟩
   ·rw [split_cut hct h1] at h; cases h
   ·cases hb : (localL (r.take (colN r)) && serverL (r.drop (colN r + 1))) with
    | false => rw [split_bad hct h1 hb] at h; cases h
    | true =>
     rw [split_good hct h1 hb] at h
     injection h with h
     injection h with h3 h4
     rw [colN, if_neg (by rw [hc]; exact hm)]
     exact ⟨h4, by rw [List.length_cons]; omega⟩
  ·rw [split_mark (by simp [hc])] at h
   cases h
theorem split_same {ms ns : Str} {c : UInt8} {r : Str} (h1 : ms.contains c = true) (h2 : ns.contains c = true) : splitP ms (c :: r) = splitP ns (c :: r) := by
 cases hcut : cutC r with
 | none => rw [split_cut h1 hcut, split_cut h2 hcut]
 | some p =>
  obtain ⟨a, b⟩ := p
  cases hb : (localL a && serverL b) with
  | false => rw [split_bad h1 hcut hb, split_bad h2 hcut hb]
  | true => rw [split_good h1 hcut hb, split_good h2 hcut hb]
theorem split_two (s : Str) : splitP [64, 33] s = match splitP [64] s with
  | some p => some p
  | none => splitP [33] s := by
 cases s with
 | nil => rfl
 | cons c r =>
  by_cases h1 : c = 64
  ·subst h1
   rw [split_same (ns := [64]) (by decide) (by decide)]
   cases splitP [64] (64 :: r) with
   | some p => rfl
   | none => exact (split_mark (by decide)).symm
  ·rw [split_mark (ms := [64]) (by simp [h1])]
   show _ = splitP [33] (c :: r)
   by_cases h2 : c = 33
   ·subst h2
    exact split_same (by decide) (by decide)
   ·rw [split_mark (by simp [h1, h2]), split_mark (by simp [h2])]
theorem serverOf_one {s : Str} (h : (splitP [64] s).isSome = true ∨ (splitP [33] s).isSome = true) : serverOf s = s.drop (colN s + 1) ∧ colN s < s.length := by
 unfold serverOf
 rw [split_two]
 cases h1 : splitP [64] s with
 | some p =>
  obtain ⟨a, b⟩ := p
  have h2 := split_one (by decide) h1
  exact ⟨h2.1.symm, h2.2⟩
 | none =>
  rw [h1] at h
  cases h3 : splitP [33] s with
  | some p =>
   obtain ⟨a, b⟩ := p
   have h2 := split_one (by decide) h3
   exact ⟨h2.1.symm, h2.2⟩
  | none => rw [h3] at h; rcases h with h | h <;> cases h
theorem serverOf_none {s : Str} (h : (splitP [64] s).isSome = false) (h2 : (splitP [33] s).isSome = false) : serverOf s = [] := by
 unfold serverOf
 rw [split_two]
 cases h1 : splitP [64] s with
 | some p => rw [h1] at h; cases h
 | none =>
  cases h3 : splitP [33] s with
  | some p => rw [h3] at h2; cases h2
  | none => rfl
end Pr
namespace Go.Proofs.YtacjhbbieeliaaaGreatDoor
open Go.RowKit Go.Lib
set_option linter.unusedVariables false
set_option linter.unusedSimpArgs false
theorem extract_list (s : ByteArray) (a b : Nat) : (s.extract a b).data.toList = (s.data.toList.drop a).take (b - a) := by
 rw [ByteArray.data_extract, Array.toList_extract]
theorem rmarked_any (S : ByteArray) (mk : Nat) (hmk : mk = 64 ∨ mk = 33) (w : World) (hs : S.size ≤ 1000000) : Calls Tryz.prog 87 #[.string S, .int .u8 (mk : Int)] w fun e w' => e = .returned (.bool (Pr.splitP [UInt8.ofNat mk] S.data.toList).isSome) ∧ w = w' := by
 have hsz : S.data.toList.length = S.size := (str_size S).symm
 have hm58 : UInt8.ofNat mk ≠ 58 := by rcases hmk with rfl | rfl <;> decide
 have hmt : (UInt8.ofNat mk).toNat = mk := by rcases hmk with rfl | rfl <;> rfl
 generalize UInt8.ofNat mk = M at *
 by_cases h0 : S.size < 1
 ·have e : S.data.toList = [] := List.eq_nil_of_length_eq_zero (by omega)
  rw [e, show Pr.splitP [M] [] = none from rfl]
  have g1 : decide ((S.size : Int) < 1) = true := decide_eq_true (by omega)
  clear e hsz
  show Calls Tryz.prog 87 #[.string S, .int .u8 (mk : Int)] w fun e w' => e = .returned (.bool false) ∧ w = w'
  go_enter Tryz.func87, Tryz.ntmps87
  go_wp2_with fail
  go_ret
  exact ⟨rfl, rfl⟩
 have g1 : decide ((S.size : Int) < 1) = false := decide_eq_false (by omega)
 have h1 : 0 < S.size := by omega
 obtain ⟨c, r, hcr⟩ : ∃ c r, S.data.toList = c :: r := by
  cases hl : S.data.toList with
  | nil => rw [hl] at hsz; simp at hsz; omega
  | cons c r => exact ⟨c, r, rfl⟩
 have hcS : S[0] = c := by
  have h2 := at_str S 0 h1
  rw [hcr] at h2
  injection h2 with h2
  exact h2.symm
 have hrl : r.length + 1 = S.size := by rw [← hsz, hcr, List.length_cons]
 have HCO := hid (fun W => rcolon_any S W hs)
 have hEX : ∀ a b, (S.extract a b).data.toList = ((c :: r).drop a).take (b - a) := fun a b => by rw [extract_list, hcr]
 rw [hcr] at HCO ⊢
 have hc2 := (S[0]).toNat_lt
 by_cases hcm : c = M
 ·have hn0 : (S[0]).toNat = mk := by rw [hcS, hcm, hmt]
  have e1 : ((mk : Int) == (mk : Int)) = true := beq_self_eq_true _
  have e2 : ((mk : Int) != (mk : Int)) = false := by rw [bne, e1]; rfl
  have hc58 : c ≠ 58 := by rw [hcm]; exact hm58
  have hct : [M].contains c = true := by rw [hcm]; simp
  rw [Pr.colN, if_neg hc58] at HCO
  rcases Pr.cut_col r with ⟨hcut, hk⟩ | ⟨hcut, hk⟩
  ·rw [Pr.split_cut hct hcut]
   rw [hk] at HCO
   have g2 : decide (((r.length + 1 : Nat) : Int) < (S.size : Int)) = false := decide_eq_false (by omega)
   clear hcut hk hct hcm hcr hcS hEX hc58 hm58 hmt hsz
   show Calls Tryz.prog 87 #[.string S, .int .u8 (mk : Int)] w fun e w' => e = .returned (.bool false) ∧ w = w'
   go_enter Tryz.func87, Tryz.ntmps87
   go_wp2_with (first
    | (go_at_call 88; refine (HCO.out _).mono ?_; rintro e w2 ⟨rfl, rfl⟩))
   go_ret
   exact ⟨rfl, rfl⟩
  ·generalize hkk : Pr.colN r = k at *
   have hl1 : (S.extract 1 (k + 1)).data.toList = r.take k := by rw [hEX]; simp
   have hl2 : (S.extract (k + 2) S.size).data.toList = r.drop (k + 1) := by
    rw [hEX, List.drop_succ_cons]
    exact List.take_of_length_le (by rw [List.length_drop]; omega)
   have HLO := hid (fun W => rlocal_any (S.extract 1 (k + 1)) W (by rw [ByteArray.size_extract]; omega))
   have HSV := hid (fun W => rserver_any (S.extract (k + 2) S.size) W (by rw [ByteArray.size_extract]; omega))
   rw [hl1] at HLO
   rw [hl2] at HSV
   have g2 : decide (((k + 1 : Nat) : Int) < (S.size : Int)) = true := decide_eq_true (by omega)
   have hkS : k + 1 < S.size := by omega
   have hkS2 : k + 2 ≤ S.size := by omega
   have g3 : (1 : Int) ≤ ((k + 1 : Nat) : Int) := by omega
   have g4 : ((k + 1 : Nat) : Int) ≤ (S.size : Int) := by omega
   have hw : IntKind.i64.wrap (((k + 1 : Nat) : Int) + 1) = ((k + 2 : Nat) : Int) := by rw [IntWalk.i64_in _ (by omega)]; omega
   have g5 : (0 : Int) ≤ ((k + 2 : Nat) : Int) := by omega
   have g6 : ((k + 2 : Nat) : Int) ≤ (S.size : Int) := by omega
   clear hl1 hl2 hEX hcr hcS hsz hc58 hm58 hmt hkk
   generalize hk2 : k + 2 = k2 at *
   generalize hk1 : k + 1 = k1 at *
   clear hk1 hk2
   rcases Bool.eq_false_or_eq_true (Pr.localL (r.take k)) with hla | hla
   ·rw [hla] at HLO
    rcases Bool.eq_false_or_eq_true (Pr.serverL (r.drop k1)) with hsb | hsb
    ·rw [hsb, if_pos rfl] at HSV
     rw [Pr.split_good hct hcut (by rw [hla, hsb]; rfl)]
     clear hcut hct hcm hla hsb hk
     show Calls Tryz.prog 87 #[.string S, .int .u8 (mk : Int)] w fun e w' => e = .returned (.bool true) ∧ w = w'
     go_enter Tryz.func87, Tryz.ntmps87
     go_wp2_with (first
      | (go_at_call 88; refine (HCO.out _).mono ?_; rintro e w2 ⟨rfl, rfl⟩)
      | (go_at_call 121; refine (HLO.out _).mono ?_; rintro e w3 ⟨rfl, rfl⟩)
      | (go_at_call 122; refine (HSV.out _).mono ?_; rintro e w4 ⟨rfl, rfl⟩))
     go_ret
     exact ⟨rfl, rfl⟩
    ·rw [hsb, if_neg (by decide)] at HSV
     rw [Pr.split_bad hct hcut (by rw [hla, hsb]; rfl)]
     clear hcut hct hcm hla hsb hk
     show Calls Tryz.prog 87 #[.string S, .int .u8 (mk : Int)] w fun e w' => e = .returned (.bool false) ∧ w = w'
     go_enter Tryz.func87, Tryz.ntmps87
     go_wp2_with (first
      | (go_at_call 88; refine (HCO.out _).mono ?_; rintro e w2 ⟨rfl, rfl⟩)
      | (go_at_call 121; refine (HLO.out _).mono ?_; rintro e w3 ⟨rfl, rfl⟩)
      | (go_at_call 122; refine (HSV.out _).mono ?_; rintro e w4 ⟨rfl, rfl⟩))
     go_ret
     exact ⟨rfl, rfl⟩
   ·rw [hla] at HLO
    rw [Pr.split_bad hct hcut (by rw [hla]; rfl)]
    clear hcut hct hcm hla hk
    show Calls Tryz.prog 87 #[.string S, .int .u8 (mk : Int)] w fun e w' => e = .returned (.bool false) ∧ w = w'
    go_enter Tryz.func87, Tryz.ntmps87
    go_wp2_with (first
     | (go_at_call 88; refine (HCO.out _).mono ?_; rintro e w2 ⟨rfl, rfl⟩)
     | (go_at_call 121; refine (HLO.out _).mono ?_; rintro e w3 ⟨rfl, rfl⟩))
    go_ret
    exact ⟨rfl, rfl⟩
 ·have hne : ¬ (S[0]).toNat = mk := fun e => hcm (by rw [← hcS]; exact UInt8.toNat_inj.1 (by rw [e, hmt]))
  rw [Pr.split_mark (by simp [hcm])]
  generalize hn0 : (S[0]).toNat = n0 at *
  have e1 : ((n0 : Int) == (mk : Int)) = false := by rw [beq_eq_false_iff_ne]; omega
  have e2 : ((n0 : Int) != (mk : Int)) = true := by rw [bne, e1]; rfl
  clear hcm hcr hcS hEX hm58 hmt hsz HCO hne
  show Calls Tryz.prog 87 #[.string S, .int .u8 (mk : Int)] w fun e w' => e = .returned (.bool false) ∧ w = w'
  go_enter Tryz.func87, Tryz.ntmps87
  go_wp2_with fail
  go_ret
  exact ⟨rfl, rfl⟩
theorem rserverof_any (S : ByteArray) (w : World) (hs : S.size ≤ 1000000) : Calls Tryz.prog 60 #[.string S] w fun e w' => e = .returned (.string (bstr (Pr.serverOf S.data.toList))) ∧ w = w' := by
 have hsz : S.data.toList.length = S.size := (str_size S).symm
 have HK := hid (fun W => rmarked_any S 64 (.inl rfl) W hs)
 have HQ := hid (fun W => rmarked_any S 33 (.inr rfl) W hs)
 have HCO := hid (fun W => rcolon_any S W hs)
 rw [show UInt8.ofNat 64 = 64 from rfl] at HK
 rw [show UInt8.ofNat 33 = 33 from rfl] at HQ
 rcases Bool.eq_false_or_eq_true (Pr.splitP [64] S.data.toList).isSome with h | h
 ·rw [h] at HK
  have hso := Pr.serverOf_one (s := S.data.toList) (.inl h)
  have HZ : Hid (bstr (Pr.serverOf S.data.toList) = S.extract (Pr.colN S.data.toList + 1) S.size) := hid (by
   rw [hso.1]
   refine (str_eq ?_).symm
   rw [extract_list]
   exact List.take_of_length_le (by rw [List.length_drop, hsz]; omega))
  have hkk := hso.2
  generalize Pr.colN S.data.toList = k at *
  generalize bstr (Pr.serverOf S.data.toList) = Z at *
  have hw : IntKind.i64.wrap ((k : Int) + 1) = ((k + 1 : Nat) : Int) := by rw [IntWalk.i64_in _ (by omega)]; omega
  have g5 : (0 : Int) ≤ ((k + 1 : Nat) : Int) := by omega
  have g6 : ((k + 1 : Nat) : Int) ≤ (S.size : Int) := by omega
  have hkS : k + 1 ≤ S.size := by omega
  clear hso hsz
  generalize hk1 : k + 1 = k1 at *
  clear hk1
  clear h HQ
  go_enter Tryz.func60, Tryz.ntmps60
  go_wp2_with (first
   | (go_at_call 88; refine (HCO.out _).mono ?_; rintro e w2 ⟨rfl, rfl⟩)
   | (go_at_call 87; refine (HK.out _).mono ?_; rintro e w2 ⟨rfl, rfl⟩))
  go_ret
  exact ⟨congrArg (fun s => Ending.returned (.string s)) HZ.out.symm, rfl⟩
 ·rw [h] at HK
  rcases Bool.eq_false_or_eq_true (Pr.splitP [33] S.data.toList).isSome with h2 | h2
  ·rw [h2] at HQ
   have hso := Pr.serverOf_one (s := S.data.toList) (.inr h2)
   have HZ : Hid (bstr (Pr.serverOf S.data.toList) = S.extract (Pr.colN S.data.toList + 1) S.size) := hid (by
    rw [hso.1]
    refine (str_eq ?_).symm
    rw [extract_list]
    exact List.take_of_length_le (by rw [List.length_drop, hsz]; omega))
   have hkk := hso.2
   generalize Pr.colN S.data.toList = k at *
   generalize bstr (Pr.serverOf S.data.toList) = Z at *
   have hw : IntKind.i64.wrap ((k : Int) + 1) = ((k + 1 : Nat) : Int) := by rw [IntWalk.i64_in _ (by omega)]; omega
   have g5 : (0 : Int) ≤ ((k + 1 : Nat) : Int) := by omega
   have g6 : ((k + 1 : Nat) : Int) ≤ (S.size : Int) := by omega
   have hkS : k + 1 ≤ S.size := by omega
   clear hso hsz
   generalize hk1 : k + 1 = k1 at *
   clear hk1
   clear h h2
   go_enter Tryz.func60, Tryz.ntmps60
   go_wp2_with fail
   refine (HK.out _).mono ?_
   rintro e w2 ⟨rfl, rfl⟩
   go_wp2_with fail
   refine (HQ.out _).mono ?_
   rintro e w2 ⟨rfl, rfl⟩
   go_wp2_with (go_at_call 88; refine (HCO.out _).mono ?_; rintro e w2 ⟨rfl, rfl⟩)
   go_ret
   exact ⟨congrArg (fun s => Ending.returned (.string s)) HZ.out.symm, rfl⟩
  ·rw [h2] at HQ
   rw [Pr.serverOf_none h h2]
   clear h h2 hsz
   go_enter Tryz.func60, Tryz.ntmps60
   go_wp2_with fail
   refine (HK.out _).mono ?_
   rintro e w2 ⟨rfl, rfl⟩
   go_wp2_with fail
   refine (HQ.out _).mono ?_
   rintro e w2 ⟨rfl, rfl⟩
   go_wp2_with fail
   go_ret
   exact ⟨rfl, rfl⟩
end Go.Proofs.YtacjhbbieeliaaaGreatDoor
