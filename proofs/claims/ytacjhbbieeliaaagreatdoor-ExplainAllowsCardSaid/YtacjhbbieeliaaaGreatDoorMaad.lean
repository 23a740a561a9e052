/- The texts Qi, Qj of this proof, one behind the other. -/
import Derived.Test.YtacjhbbieeliaaaGreatDoorMaac
import Derived.Test.YtacjhbbieeliaaaGreatDoorMbb
import Derived.Test.YtacjhbbieeliaaaGreatDoorMbf
import Derived.Test.YtacjhbbieeliaaaGreatDoorMbj
set_option linter.unusedSimpArgs false
set_option maxHeartbeats 16000000
set_option maxRecDepth 100000
/- The text Qi. -/
namespace Go.Proofs.YtacjhbbieeliaaaGreatDoor
open Go.RowKit Go.Lib
set_option linter.unusedVariables false
set_option linter.unusedSimpArgs false
theorem own_lit2 (W : World) (base : Nat) (hb : base ≤ W.heap.size) (r : List UInt8) (i e : Int) (r2 : List UInt8) (i2 e2 : Int) : RnS.Own 42 (fun b => base ≤ b) (W.alloc (.cells #[.string (bstr r), .int .i64 i, .int .i64 e, .slice none 0 0, .string (bstr r2), .int .i64 i2, .int .i64 e2, .slice none 0 0] 42)) base (.slice (some ⟨W.heap.size, 0, none⟩) 2 2) [.mk r i e [], .mk r2 i2 e2 []] := by
 have leaf : ∀ (W' : World) (ok' : Nat → Prop) (r : List UInt8) (i e : Int), RnS.V ok' W' [.string (bstr r), .int .i64 i, .int .i64 e, .slice none 0 0] (.mk r i e []) := fun W' ok' r i e => RnV.make (ks := []) (A := none) (cap := 0) RnRow.nil
 exact ⟨[.string (bstr r), .int .i64 i, .int .i64 e, .slice none 0 0] ++ [.string (bstr r2), .int .i64 i2, .int .i64 e2, .slice none 0 0], ⟨rfl, .inr ⟨W.heap.size, 2, #[.string (bstr r), .int .i64 i, .int .i64 e, .slice none 0 0, .string (bstr r2), .int .i64 i2, .int .i64 e2, .slice none 0 0], rfl, hb, Blk.new W 42 _, Nat.le_refl _, by decide, rfl, rfl⟩⟩, (Shp.Cells.one (leaf _ _ r i e)).append rfl (Shp.Cells.one (leaf _ _ r2 i2 e2))⟩
theorem app_rows {ops : Array Oper} {rest : List Oper} {o : Oper} {a : Act} {Q : Exit → Act → World → Prop} (hgd : o.guard = none) (s x : Operand) (ho : o.op = .call { callee := .builtin .append, args := #[s, x], argTypes := #[40, 40] })
  (w1 : World) (base : Nat) (W : World) (v : Value) (ks : List Rn.Tr) (A2 : Option Addr) (c2 : Nat) (ks2 : List Rn.Tr) (hs : a.eval s = v) (hx : a.eval x = .slice A2 ks2.length c2) (h : OwS w1 base W v ks) (hr : RnS.Row (fun b => base ≤ b ∧ some b ≠ v.ownBlock) W A2 ks2) (hn : ks.length + ks2.length ≤ 1000)
  (hk : ∀ v' w', OwS w1 base w' v' (ks ++ ks2) → wpList Tryz.prog ops Q rest (a.put o.dst v') w') :
  wpList Tryz.prog ops Q (o :: rest) a W := by
 obtain ⟨ys, hrd, hone, hcs⟩ := hr.rd
 obtain ⟨xs, ho1, hc⟩ := h.own
 exact app_row rowRn hgd s x ho W v ks.length xs ys base hs ho1 A2 ks2.length c2 hx hrd hone h.le (by omega) fun v' w' h1 h2 h3 h4 => hk v' w' ⟨Shp.Own.app (M := ks2) ho1 hc hcs h1 h2 h4, h3 w1 h.bel, Nat.le_trans h.le h2.size⟩
theorem memberR_len (e : Co.Ev) (l : List Co.Ev) : (Co.memberR e l).length ≤ 8 := by
 unfold Co.memberR
 repeat' split
 all_goals simp
theorem rrules_any (e : Co.Ev) (X : List Value) (l : List Co.Ev) (A : Option Addr) (cap : Nat) (w : World) (hX : EvV (fun b => b < w.heap.size) w X e) (h : EvRow (fun b => b < w.heap.size) w A l) (hl : l.length ≤ 1000000) (hls : ∀ x ∈ l, x.users.length ≤ 1000000 ∧ x.kinds.length ≤ 1000000) (hal : ∀ x ∈ l, x.allow.length ≤ 1000000) (hp : e.prev.length ≤ 1000000) (hes : e.users.length ≤ 1000000 ∧ e.kinds.length ≤ 1000000) (hsz : e.sender.length ≤ 1000000 ∧ e.room.length ≤ 1000000) :
  Calls Tryz.prog 25 #[.agg X.toArray, .slice A l.length cap] w fun r w' => RsRowA (Co.rulesR e l) w.heap.size r w' ∧ Below w.heap.size w w' := by
 have hb1 := (Below.refl w.heap.size w).alloc (Nat.le_refl _) (.cells X.toArray 34)
 have HB1 := hid hb1
 have HE1 := hid (Blk.new w 34 X.toArray)
 have HX1 := hid (hX.bel hb1)
 have HR1 := hid (h.bel hb1)
 have HSX := hid (size_evA hX)
 have HLS := hid hls
 have HAL := hid hal
 have HES := hid hes
 have HLU := hid (lv_small hls).1
 have HLK := hid (lv_small hls).2
 have HPR := hid hp
 have HSZS := hid hsz.1
 have HSZR := hid hsz.2
 have HXC0 := hid hX.c0
 have HXC1 := hid hX.c1
 have HXC2 := hid hX.c2
 have HXC3 := hid hX.c3
 have HLE1 := hid hb1.size
 obtain ⟨c1, hc1⟩ : ∃ x, x = Co.idK l 1 := ⟨_, rfl⟩
 have HC1 := hid hc1.symm
 clear hc1
 obtain ⟨sid, hsid⟩ : ∃ x, x = Co.idM l e.sender := ⟨_, rfl⟩
 have HSID := hid hsid.symm
 clear hsid
 obtain ⟨se, hse⟩ : ∃ x, x = Co.memOf l e.sender := ⟨_, rfl⟩
 have HSE := hid hse.symm
 clear hse
 obtain ⟨pw, hpw⟩ : ∃ x, x = Co.idK l 3 := ⟨_, rfl⟩
 have HPW := hid hpw.symm
 clear hpw
 obtain ⟨us, hus⟩ : ∃ x, x = Co.userLv (Co.levelsOf l) e.sender := ⟨_, rfl⟩
 have HUS := hid hus.symm
 clear hus
 obtain ⟨nd, hnd⟩ : ∃ x, x = Co.needs (Co.levelsOf l) e.kind := ⟨_, rfl⟩
 have HND := hid hnd.symm
 clear hnd
 obtain ⟨pc, hpc⟩ : ∃ x, x = Co.changeE (Co.levelsOf l) (Co.lvOf e) e.sender := ⟨_, rfl⟩
 have HPC := hid hpc.symm
 clear hpc
 obtain ⟨ss, hss⟩ : ∃ x, x = Co.sameServer e := ⟨_, rfl⟩
 have HSS := hid hss.symm
 clear hss
 obtain ⟨made, hmade⟩ : ∃ x, x = (Co.createOf l).isSome := ⟨_, rfl⟩
 have HMD := hid hmade.symm
 have HNM : Hid ((Co.createOf l).isNone = !made) := hid (by rw [hmade]; cases Co.createOf l <;> rfl)
 have HSS2 : Hid (decide (Pr.serverOf e.sender = Pr.serverOf e.room) = ss) := hid (by rw [← HSS.out]; unfold Co.sameServer; rw [Bool.eq_iff_iff]; simp)
 clear hX h hal hls hp hes hsz hb1 hmade
 generalize hw1 : w.alloc (.cells X.toArray 34) = w1 at *
 go_enter Tryz.func25, Tryz.ntmps25
 go_wp2_with fail
 refine (rfirst_any (fun b => b < w.heap.size) l A cap 1 w1 HR1.out hl).mono ?_
 rw [HC1.out]
 rintro r wx ⟨rfl, rfl⟩
 go_wp2_with fail
 refine (rcreation_any (fun b => b < w.heap.size) l A cap w1 HR1.out hl).mono ?_
 rintro r w3 ⟨⟨V, rfl, hv⟩, hb3⟩
 rw [HMD.out]
 have hvl := hv.len
 rw [Array.length_toList] at hvl
 have HSV : Hid ((Tryz.prog.info? 34).map (·.size) = some V.size) := hid (by rw [size_ev, hvl])
 have HSZ : Hid (zEv.size = V.size) := hid hvl.symm
 have HOV : Hid (V.all (·.oneCell') = true) := hid (by have := EvS.all hv; rwa [Array.toArray_toList] at this)
 have HN := hid (Blk.new w3 34 zEv)
 have HB4 : Hid (Below w1.heap.size w1 ((w3.alloc (.cells zEv 34)).setRow w3.heap.size V)) := hid (below_setRow (hb3.alloc hb3.size (.cells zEv 34)) hb3.size V)
 clear hv hvl hb3
 go_upto_region 3 with (((with_reducible refine store_rowe rfl 34 _ _ rfl w3.heap.size V ?_ ?_ 34 zEv HN.out HSV.out HSZ.out HOV.out ?_); rfl; rfl))
 generalize (w3.alloc (.cells zEv 34)).setRow w3.heap.size V = w4 at *
 have hc3 : w4.cell? ⟨w.heap.size, 3, none⟩ = some (.int .i64 e.kind) := ((HE1.out.below HB4.out HE1.out.lt).cell 3).trans (by rw [List.getElem?_toArray]; exact HXC3.out)
 by_cases hk1 : e.kind = 1
 ·have hkb1 : (e.kind == 1) = true := eqb_true hk1
  have hsd := str_dec (Pr.serverOf e.sender) (bstr (Pr.serverOf e.room))
  rw [show (bstr (Pr.serverOf e.room)).data.toList = Pr.serverOf e.room from rfl, HSS2.out] at hsd
  go_upto_region 4 with fail
  refine wp_region_noPanic ?_
  refine wp_region_held_drew (S := fun W => Below w1.heap.size w1 W) (by kernel_rfl) (HB4.out.drew) (fun hHeld => ?_)
  generalize hwd : w4.drew = wd at *
  have HBd := hid hHeld
  clear hwd
  refine wpAnyH_take (i := 0) (oi := _) (v := ?_) rfl (by kernel_rfl) (by kernel_rfl) (by kernel_rfl) (fun _ _ _ h => h) (Or.inl ⟨by kernel_rfl, ?_⟩) hHeld ?_
  rotate_left
  ·intro wq hSw
   go_simp
   (try with_reducible rfl)
  (try simp only [Act.put, List.getElem_toArray, List.getElem_cons_zero, List.getElem_cons_succ, List.setIfInBounds_toArray, List.set_cons_zero, List.set_cons_succ])
  refine wpAnyH_take (i := 1) (oi := _) (v := ?_) rfl (by kernel_rfl) (by kernel_rfl) (by kernel_rfl) (fun _ _ _ h => h) (Or.inl ⟨by kernel_rfl, ?_⟩) hHeld ?_
  rotate_left
  ·intro wq hSw
   go_simp
   (try with_reducible rfl)
  (try simp only [Act.put, List.getElem_toArray, List.getElem_cons_zero, List.getElem_cons_succ, List.setIfInBounds_toArray, List.set_cons_zero, List.set_cons_succ])
  refine wpAnyH_take (i := 3) (oi := _) (v := ?_) rfl (by kernel_rfl) (by kernel_rfl) (by kernel_rfl) (fun _ _ _ h => h) (Or.inl ⟨by kernel_rfl, ?_⟩) hHeld ?_
  rotate_left
  ·intro wq hSw
   go_simp
   (try with_reducible rfl)
  (try simp only [Act.put, List.getElem_toArray, List.getElem_cons_zero, List.getElem_cons_succ, List.setIfInBounds_toArray, List.set_cons_zero, List.set_cons_succ])
  refine wpAnyH_take (i := 4) (oi := _) (v := ?_) rfl (by kernel_rfl) (by kernel_rfl) (by kernel_rfl) (fun _ _ _ h => h) (Or.inl ⟨by kernel_rfl, ?_⟩) hHeld ?_
  rotate_left
  ·intro wq hSw
   have hy0 : wq.cell? ⟨w.heap.size, 0, none⟩ = some (.int .i64 e.id) := ((HE1.out.below hSw HE1.out.lt).cell 0).trans (by rw [List.getElem?_toArray]; exact HXC0.out)
   go_simp
   (try with_reducible rfl)
  (try simp only [Act.put, List.getElem_toArray, List.getElem_cons_zero, List.getElem_cons_succ, List.setIfInBounds_toArray, List.set_cons_zero, List.set_cons_succ])
  refine wpAnyH_take (i := 5) (oi := _) (v := ?_) rfl (by kernel_rfl) (by kernel_rfl) (by kernel_rfl) (fun _ _ _ h => h) (Or.inl ⟨by kernel_rfl, ?_⟩) hHeld ?_
  rotate_left
  ·intro wq hSw
   go_simp
   (try with_reducible rfl)
  (try simp only [Act.put, List.getElem_toArray, List.getElem_cons_zero, List.getElem_cons_succ, List.setIfInBounds_toArray, List.set_cons_zero, List.set_cons_succ])
  refine wpAnyH_take (i := 6) (oi := _) (v := ?_) rfl (by kernel_rfl) (by kernel_rfl) (by kernel_rfl) (fun _ _ _ h => h) (Or.inl ⟨by kernel_rfl, ?_⟩) hHeld ?_
  rotate_left
  ·intro wq hSw
   have hy2 : wq.cell? ⟨w.heap.size, 2, none⟩ = some (.string (bstr e.sender)) := ((HE1.out.below hSw HE1.out.lt).cell 2).trans (by rw [List.getElem?_toArray]; exact HXC2.out)
   go_simp
   (try with_reducible rfl)
  (try simp only [Act.put, List.getElem_toArray, List.getElem_cons_zero, List.getElem_cons_succ, List.setIfInBounds_toArray, List.set_cons_zero, List.set_cons_succ])
  refine wpAnyH_take (i := 8) (oi := _) (v := ?_) rfl (by kernel_rfl) (by kernel_rfl) (by kernel_rfl) (fun _ _ _ h => h) (Or.inl ⟨by kernel_rfl, ?_⟩) hHeld ?_
  rotate_left
  ·intro wq hSw
   go_simp
   (try with_reducible rfl)
  (try simp only [Act.put, List.getElem_toArray, List.getElem_cons_zero, List.getElem_cons_succ, List.setIfInBounds_toArray, List.set_cons_zero, List.set_cons_succ])
  refine wpAnyH_take (i := 9) (oi := _) (v := ?_) rfl (by kernel_rfl) (by kernel_rfl) (by kernel_rfl) (fun _ _ _ h => h) (Or.inl ⟨by kernel_rfl, ?_⟩) hHeld ?_
  rotate_left
  ·intro wq hSw
   have hy1 : wq.cell? ⟨w.heap.size, 1, none⟩ = some (.string (bstr e.room)) := ((HE1.out.below hSw HE1.out.lt).cell 1).trans (by rw [List.getElem?_toArray]; exact HXC1.out)
   go_simp
   (try with_reducible rfl)
  (try simp only [Act.put, List.getElem_toArray, List.getElem_cons_zero, List.getElem_cons_succ, List.setIfInBounds_toArray, List.set_cons_zero, List.set_cons_succ])
  refine wpAnyH_ready (rs := [2]) (by kernel_rfl) (by simp) ?_
  refine AllReadyH.cons (o := _) rfl (fun K hK => ?_) AllReadyH.nil
  go_simp
  go_at_call 59
  refine (rasks_any ⟨#[99, 114, 101, 97, 116, 101, 45, 97, 108, 111, 110, 101]⟩ c1 made 17 wd).mono ?_
  rintro r wa ⟨rfl, hba⟩
  have HBa := hid (HBd.out.trans (hba.mono HBd.out.size))
  clear hba
  refine hK.out _ _ (HBa.out) (fun hHeld2 => ?_)
  clear hK K hHeld
  have hHeld := hHeld2
  clear hHeld2
  (try simp only [Act.put, List.getElem_toArray, List.getElem_cons_zero, List.getElem_cons_succ, List.setIfInBounds_toArray, List.set_cons_zero, List.set_cons_succ])
  refine wpAnyH_ready (rs := [7]) (by kernel_rfl) (by simp) ?_
  refine AllReadyH.cons (o := _) rfl (fun K hK => ?_) AllReadyH.nil
  go_simp
  go_at_call 60
  refine (rserverof_any (bstr e.sender) wa (by rw [str_size]; exact HSZS.out)).mono ?_
  rw [show (bstr e.sender).data.toList = e.sender from rfl]
  rintro r wx ⟨rfl, rfl⟩
  refine hK.out _ _ (HBa.out) (fun hHeld2 => ?_)
  clear hK K hHeld
  have hHeld := hHeld2
  clear hHeld2
  (try simp only [Act.put, List.getElem_toArray, List.getElem_cons_zero, List.getElem_cons_succ, List.setIfInBounds_toArray, List.set_cons_zero, List.set_cons_succ])
  refine wpAnyH_ready (rs := [10]) (by kernel_rfl) (by simp) ?_
  refine AllReadyH.cons (o := _) rfl (fun K hK => ?_) AllReadyH.nil
  go_simp
  go_at_call 60
  refine (rserverof_any (bstr e.room) wa (by rw [str_size]; exact HSZR.out)).mono ?_
  rw [show (bstr e.room).data.toList = e.room from rfl]
  rintro r wx ⟨rfl, rfl⟩
  refine hK.out _ _ (HBa.out) (fun hHeld2 => ?_)
  clear hK K hHeld
  have hHeld := hHeld2
  clear hHeld2
  (try simp only [Act.put, List.getElem_toArray, List.getElem_cons_zero, List.getElem_cons_succ, List.setIfInBounds_toArray, List.set_cons_zero, List.set_cons_succ])
  refine wpAnyH_take (i := 11) (oi := _) (v := ?_) rfl (by kernel_rfl) (by kernel_rfl) (by kernel_rfl) (fun _ _ _ h => h) (Or.inl ⟨by kernel_rfl, ?_⟩) hHeld ?_
  rotate_left
  ·intro wq hSw
   go_simp
   (try with_reducible rfl)
  (try simp only [Act.put, List.getElem_toArray, List.getElem_cons_zero, List.getElem_cons_succ, List.setIfInBounds_toArray, List.set_cons_zero, List.set_cons_succ])
  refine wpAnyH_ready (rs := [12]) (by kernel_rfl) (by simp) ?_
  refine AllReadyH.cons (o := _) rfl (fun K hK => ?_) AllReadyH.nil
  go_simp
  go_at_call 59
  refine (rasks_any ⟨#[99, 114, 101, 97, 116, 101, 45, 115, 101, 114, 118, 101, 114]⟩ e.id (!ss) 17 wa).mono ?_
  rintro r wb ⟨rfl, hbb⟩
  have HBb := hid (HBa.out.trans (hbb.mono HBa.out.size))
  clear hbb
  refine hK.out _ _ (HBb.out) (fun hHeld2 => ?_)
  clear hK K hHeld
  have hHeld := hHeld2
  clear hHeld2
  (try simp only [Act.put, List.getElem_toArray, List.getElem_cons_zero, List.getElem_cons_succ, List.setIfInBounds_toArray, List.set_cons_zero, List.set_cons_succ])
  refine wpAnyH_ready (rs := [13]) (by kernel_rfl) (by simp) ?_
  refine AllReadyH.cons (o := _) rfl (fun K hK => ?_) AllReadyH.nil
  go_simp
  refine hK.out _ _ (HBb.out.alloc HBb.out.size _) (fun hHeld2 => ?_)
  clear hK K hHeld
  have hHeld := hHeld2
  clear hHeld2
  (try simp only [Act.put, List.getElem_toArray, List.getElem_cons_zero, List.getElem_cons_succ, List.setIfInBounds_toArray, List.set_cons_zero, List.set_cons_succ])
  refine wpAnyH_take (i := 14) (oi := _) (v := ?_) rfl (by kernel_rfl) (by kernel_rfl) (by kernel_rfl) (fun _ _ _ h => h) (Or.inl ⟨by kernel_rfl, ?_⟩) hHeld ?_
  rotate_left
  ·intro wq hSw
   go_simp
   (try with_reducible rfl)
  (try simp only [Act.put, List.getElem_toArray, List.getElem_cons_zero, List.getElem_cons_succ, List.setIfInBounds_toArray, List.set_cons_zero, List.set_cons_succ])
  refine wpAnyH_done (by kernel_rfl) ?_ _
  refine NoPanic.normal ?_
  have HOF : Hid (RnS.Own 42 (fun b => w1.heap.size ≤ b) (wb.alloc (.cells #[.string (bstr [99, 114, 101, 97, 116, 101, 45, 97, 108, 111, 110, 101]), .int .i64 c1, .int .i64 (askE made 17), .slice none 0 0, .string (bstr [99, 114, 101, 97, 116, 101, 45, 115, 101, 114, 118, 101, 114]), .int .i64 e.id, .int .i64 (askE (!ss) 17), .slice none 0 0] 42)) w1.heap.size (.slice (some ⟨wb.heap.size, 0, none⟩) 2 2) (Co.rulesR e l)) := hid (by
   rw [show Co.rulesR e l = [Co.ask [99, 114, 101, 97, 116, 101, 45, 97, 108, 111, 110, 101] c1 made 17, Co.ask [99, 114, 101, 97, 116, 101, 45, 115, 101, 114, 118, 101, 114] e.id (!ss) 17] by
    unfold Co.rulesR
    rw [if_pos hk1, HC1.out, HMD.out, HSS.out]
    ]
   exact own_lit2 wb w1.heap.size HBb.out.size [99, 114, 101, 97, 116, 101, 45, 97, 108, 111, 110, 101] c1 (askE made 17) [99, 114, 101, 97, 116, 101, 45, 115, 101, 114, 118, 101, 114] e.id (askE (!ss) 17))
  obtain ⟨A9, c9, hv9, hle9, hrow9⟩ := HOF.out.row (ok' := fun b => w.heap.size ≤ b) (fun b hb => Nat.le_trans HLE1.out hb) (fun k hk => Nat.le_trans HLE1.out (HOF.out.lt k hk).1)
  go_wp2_with fail
  go_ret
  exact ⟨⟨A9, c9, congrArg Ending.returned hv9, hle9, hrow9⟩, HB1.out.trans ((HBb.out.alloc HBb.out.size _).mono HB1.out.size)⟩
 ·have hkb1 : (e.kind == 1) = false := eqb_false hk1
  by_cases hk2 : e.kind = 2
  ·have hkb2 : (e.kind == 2) = true := eqb_true hk2
   go_wp2_with fail
   refine (rasks_any ⟨#[99, 114, 101, 97, 116, 105, 111, 110]⟩ c1 (!made) 17 w4).mono ?_
   rintro r w5 ⟨rfl, hb5⟩
   have HB5 := hid (HB4.out.trans (hb5.mono HB4.out.size))
   clear hb5
   have HO6 : Hid (OwS w1 w1.heap.size (w5.alloc (.cells #[.string ⟨#[99, 114, 101, 97, 116, 105, 111, 110]⟩, .int .i64 c1, .int .i64 (askE (!made) 17), .slice none 0 0] 42)) (.slice (some ⟨w5.heap.size, 0, none⟩) 1 1) [Co.ask [99, 114, 101, 97, 116, 105, 111, 110] c1 (!made) 17]) := hid ⟨own_lit1 w5 w1.heap.size HB5.out.size [99, 114, 101, 97, 116, 105, 111, 110] c1 (askE (!made) 17), HB5.out.alloc HB5.out.size _, by have := HB5.out.size; simp; omega⟩
   have hc3 : (w5.alloc (.cells #[.string ⟨#[99, 114, 101, 97, 116, 105, 111, 110]⟩, .int .i64 c1, .int .i64 (askE (!made) 17), .slice none 0 0] 42)).cell? ⟨w.heap.size, 3, none⟩ = some (.int .i64 e.kind) := ((HE1.out.below HO6.out.bel HE1.out.lt).cell 3).trans (by rw [List.getElem?_toArray]; exact HXC3.out)
   go_upto_region 7 with fail
   generalize hw6 : w5.alloc (.cells #[.string ⟨#[99, 114, 101, 97, 116, 105, 111, 110]⟩, .int .i64 c1, .int .i64 (askE (!made) 17), .slice none 0 0] 42) = w6 at *
   clear hw6
   have HV6 : Hid (∀ q, (Value.slice (some ⟨w5.heap.size, 0, none⟩) 1 1).ownBlock = some q → w1.heap.size ≤ q ∧ q < w6.heap.size) := hid (fun q hq => HO6.out.own.lt q hq)
   obtain ⟨v6, hv6⟩ : ∃ v, v = Value.slice (some ⟨w5.heap.size, 0, none⟩) 1 1 := ⟨_, rfl⟩
   rw [← hv6] at HO6 HV6
   rw [← hv6]
   clear hv6 hc3
   have HE6 := hid (HE1.out.below HO6.out.bel HE1.out.lt)
   go_wp2_with (refine wpList_load_row rfl 34 _ rfl w.heap.size rfl 34 X.toArray (0, 0) _ HE6.out Tryz.underlying34 rfl HSX.out ?_)
   refine (rmemrules_any (fun b => b < w.heap.size) e X l A cap w6 (HX1.out.bel HO6.out.bel) (HR1.out.bel HO6.out.bel) hl HLS.out HAL.out HPR.out).mono ?_
   rintro r w7 ⟨⟨A2, c2, rfl, hle2, hrow2⟩, hb7⟩
   have HO7 := hid (HO6.out.step hb7)
   have HRW : Hid (RnS.Row (fun b => w1.heap.size ≤ b ∧ some b ≠ v6.ownBlock) w7 A2 (Co.memberR e l)) := hid (hrow2.keep fun b hb _ => ⟨⟨Nat.le_trans HO6.out.le hb, fun e => by have := (HV6.out b e.symm).2; have hb : w6.heap.size ≤ b := hb; omega⟩, rfl⟩)
   have HML := hid (memberR_len e l)
   clear hb7 hrow2
   go_wp2_with (go_loud (at_builtin; refine app_rows rfl _ _ rfl w1 w1.heap.size w7 v6 [Co.ask [99, 114, 101, 97, 116, 105, 111, 110] c1 (!made) 17] A2 c2 (Co.memberR e l) rfl rfl HO7.out HRW.out (by have := HML.out; simp; omega) ?_; intro v8 w8 ho8; have HO8 := hid ho8; clear ho8))
   have HOF : Hid (RnS.Own 42 (fun b => w1.heap.size ≤ b) w8 w1.heap.size v8 (Co.rulesR e l)) := hid (by
    rw [show Co.rulesR e l = [Co.ask [99, 114, 101, 97, 116, 105, 111, 110] c1 (!made) 17] ++ Co.memberR e l by
     unfold Co.rulesR
     rw [if_neg (by rw [hk2]; decide), if_pos hk2, HC1.out, HNM.out]
     rfl
     ]
    exact HO8.out.own)
   obtain ⟨A9, c9, hv9, hle9, hrow9⟩ := HOF.out.row (ok' := fun b => w.heap.size ≤ b) (fun b hb => Nat.le_trans HLE1.out hb) (fun k hk => Nat.le_trans HLE1.out (HOF.out.lt k hk).1)
   subst hv9
   go_wp2_with fail
   go_ret
   exact ⟨⟨A9, c9, rfl, hle9, hrow9⟩, HB1.out.trans (HO8.out.bel.mono HB1.out.size)⟩
  ·have hkb2 : (e.kind == 2) = false := eqb_false hk2
   go_wp2_with fail
   refine (rasks_any ⟨#[99, 114, 101, 97, 116, 105, 111, 110]⟩ c1 (!made) 17 w4).mono ?_
   rintro r w5 ⟨rfl, hb5⟩
   have HB5 := hid (HB4.out.trans (hb5.mono HB4.out.size))
   clear hb5
   have HO6 : Hid (OwS w1 w1.heap.size (w5.alloc (.cells #[.string ⟨#[99, 114, 101, 97, 116, 105, 111, 110]⟩, .int .i64 c1, .int .i64 (askE (!made) 17), .slice none 0 0] 42)) (.slice (some ⟨w5.heap.size, 0, none⟩) 1 1) [Co.ask [99, 114, 101, 97, 116, 105, 111, 110] c1 (!made) 17]) := hid ⟨own_lit1 w5 w1.heap.size HB5.out.size [99, 114, 101, 97, 116, 105, 111, 110] c1 (askE (!made) 17), HB5.out.alloc HB5.out.size _, by have := HB5.out.size; simp; omega⟩
   have hc3 : (w5.alloc (.cells #[.string ⟨#[99, 114, 101, 97, 116, 105, 111, 110]⟩, .int .i64 c1, .int .i64 (askE (!made) 17), .slice none 0 0] 42)).cell? ⟨w.heap.size, 3, none⟩ = some (.int .i64 e.kind) := ((HE1.out.below HO6.out.bel HE1.out.lt).cell 3).trans (by rw [List.getElem?_toArray]; exact HXC3.out)
   go_upto_region 8 with fail
   generalize hw6 : w5.alloc (.cells #[.string ⟨#[99, 114, 101, 97, 116, 105, 111, 110]⟩, .int .i64 c1, .int .i64 (askE (!made) 17), .slice none 0 0] 42) = w6 at *
   clear hw6
   have HV6 : Hid (∀ q, (Value.slice (some ⟨w5.heap.size, 0, none⟩) 1 1).ownBlock = some q → w1.heap.size ≤ q ∧ q < w6.heap.size) := hid (fun q hq => HO6.out.own.lt q hq)
   obtain ⟨v6, hv6⟩ : ∃ v, v = Value.slice (some ⟨w5.heap.size, 0, none⟩) 1 1 := ⟨_, rfl⟩
   rw [← hv6] at HO6 HV6
   rw [← hv6]
   clear hv6 hc3
   go_wp2_with fail
   refine (rlof_any (fun b => b < w.heap.size) l A cap w6 (HR1.out.bel HO6.out.bel) hl).mono ?_
   rintro r w7 ⟨⟨Y, rfl, hy⟩, hb7⟩
   have HSY : Hid ((Tryz.prog.info? 28).map (·.size) = some Y.toArray.size) := hid (by rw [size_lv, List.size_toArray, hy.len])
   have HZY : Hid (zLv.size = Y.toArray.size) := hid (by show 9 = Y.toArray.size; rw [List.size_toArray, hy.len])
   have HOY : Hid (Y.toArray.all (·.oneCell') = true) := hid (all_oneCell_toArray hy.one)
   have HNY := hid (Blk.new w7 28 zLv)
   have hb8 := below_setRow (g := w7.heap.size) ((Below.refl w7.heap.size w7).alloc (Nat.le_refl _) (.cells zLv 28)) (Nat.le_refl _) Y.toArray
   have HO8 := hid ((HO6.out.step hb7).step hb8)
   have HVB8 : Hid (Blk ((w7.alloc (.cells zLv 28)).setRow w7.heap.size Y.toArray) w7.heap.size 28 Y.toArray) := hid (setRow_heap _ _ _ _ _ _ HNY.out)
   have HVN8 : Hid (some w7.heap.size ≠ v6.ownBlock) := hid (fun e => by have := (HV6.out _ e.symm).2; have := hb7.size; omega)
   have HY8 : Hid (LvV (fun b => some b ≠ v6.ownBlock) ((w7.alloc (.cells zLv 28)).setRow w7.heap.size Y.toArray) Y (Co.levelsOf l)) := hid ((hy.bel hb8).keep fun b hb _ => ⟨fun e => by
    have h1 := HV6.out b e.symm
    have h2 := HLE1.out
    have hb : b < w.heap.size ∨ w6.heap.size ≤ b := hb
    omega, rfl⟩)
   clear hy hb7 hb8
   go_upto_region 9 with (((with_reducible refine store_rowe rfl 28 _ _ rfl w7.heap.size Y.toArray ?_ ?_ 28 zLv HNY.out HSY.out HZY.out HOY.out ?_); rfl; rfl))
   generalize (w7.alloc (.cells zLv 28)).setRow w7.heap.size Y.toArray = w8 at *
   generalize w7.heap.size = vq at *
   go_wp2_with fail
   refine (rfirst_any (fun b => b < w.heap.size) l A cap 3 w8 (HR1.out.bel HO8.out.bel) hl).mono ?_
   rw [HPW.out]
   rintro r wx ⟨rfl, rfl⟩
   have HO10 := hid (HO8.out.step (Below.refl _ w8).drew)
   have HVB10 := hid (HVB8.out.below (Below.refl _ w8).drew HVB8.out.lt)
   have HY10 := hid (HY8.out.bel (Below.refl _ w8).drew)
   go_upto_region 10 with fail
   refine wp_region_noPanic ?_
   refine wp_region_held_drew (S := fun W => Below w1.heap.size w1 W) (by kernel_rfl) (HO8.out.bel.drew) (fun hHeld => ?_)
   generalize hwh : w8.drew = wh at *
   clear hwh
   refine wpAnyH_take (i := 0) (oi := _) (v := ?_) rfl (by kernel_rfl) (by kernel_rfl) (by kernel_rfl) (fun _ _ _ h => h) (Or.inl ⟨by kernel_rfl, ?_⟩) hHeld ?_
   rotate_left
   ·intro wq hSw
    go_simp
    (try with_reducible rfl)
   (try simp only [Act.put, List.getElem_toArray, List.getElem_cons_zero, List.getElem_cons_succ, List.setIfInBounds_toArray, List.set_cons_zero, List.set_cons_succ])
   refine wpAnyH_take (i := 1) (oi := _) (v := ?_) rfl (by kernel_rfl) (by kernel_rfl) (by kernel_rfl) (fun _ _ _ h => h) (Or.inl ⟨by kernel_rfl, ?_⟩) hHeld ?_
   rotate_left
   ·intro wq hSw
    go_simp
    (try with_reducible rfl)
   (try simp only [Act.put, List.getElem_toArray, List.getElem_cons_zero, List.getElem_cons_succ, List.setIfInBounds_toArray, List.set_cons_zero, List.set_cons_succ])
   refine wpAnyH_take (i := 2) (oi := _) (v := ?_) rfl (by kernel_rfl) (by kernel_rfl) (by kernel_rfl) (fun _ _ _ h => h) (Or.inl ⟨by kernel_rfl, ?_⟩) hHeld ?_
   rotate_left
   ·intro wq hSw
    go_simp
    (try with_reducible rfl)
   (try simp only [Act.put, List.getElem_toArray, List.getElem_cons_zero, List.getElem_cons_succ, List.setIfInBounds_toArray, List.set_cons_zero, List.set_cons_succ])
   refine wpAnyH_take (i := 3) (oi := _) (v := ?_) rfl (by kernel_rfl) (by kernel_rfl) (by kernel_rfl) (fun _ _ _ h => h) (Or.inl ⟨by kernel_rfl, ?_⟩) hHeld ?_
   rotate_left
   ·intro wq hSw
    have hy2 : wq.cell? ⟨w.heap.size, 2, none⟩ = some (.string (bstr e.sender)) := ((HE1.out.below hSw HE1.out.lt).cell 2).trans (by rw [List.getElem?_toArray]; exact HXC2.out)
    go_simp
    (try with_reducible rfl)
   (try simp only [Act.put, List.getElem_toArray, List.getElem_cons_zero, List.getElem_cons_succ, List.setIfInBounds_toArray, List.set_cons_zero, List.set_cons_succ])
   refine wpAnyH_take (i := 5) (oi := _) (v := ?_) rfl (by kernel_rfl) (by kernel_rfl) (by kernel_rfl) (fun _ _ _ h => h) (Or.inl ⟨by kernel_rfl, ?_⟩) hHeld ?_
   rotate_left
   ·intro wq hSw
    go_simp
    (try with_reducible rfl)
   (try simp only [Act.put, List.getElem_toArray, List.getElem_cons_zero, List.getElem_cons_succ, List.setIfInBounds_toArray, List.set_cons_zero, List.set_cons_succ])
   refine wpAnyH_take (i := 6) (oi := _) (v := ?_) rfl (by kernel_rfl) (by kernel_rfl) (by kernel_rfl) (fun _ _ _ h => h) (Or.inl ⟨by kernel_rfl, ?_⟩) hHeld ?_
   rotate_left
   ·intro wq hSw
    go_simp
    (try with_reducible rfl)
   (try simp only [Act.put, List.getElem_toArray, List.getElem_cons_zero, List.getElem_cons_succ, List.setIfInBounds_toArray, List.set_cons_zero, List.set_cons_succ])
   refine wpAnyH_take (i := 7) (oi := _) (v := ?_) rfl (by kernel_rfl) (by kernel_rfl) (by kernel_rfl) (fun _ _ _ h => h) (Or.inl ⟨by kernel_rfl, ?_⟩) hHeld ?_
   rotate_left
   ·intro wq hSw
    have hy2 : wq.cell? ⟨w.heap.size, 2, none⟩ = some (.string (bstr e.sender)) := ((HE1.out.below hSw HE1.out.lt).cell 2).trans (by rw [List.getElem?_toArray]; exact HXC2.out)
    go_simp
    (try with_reducible rfl)
   (try simp only [Act.put, List.getElem_toArray, List.getElem_cons_zero, List.getElem_cons_succ, List.setIfInBounds_toArray, List.set_cons_zero, List.set_cons_succ])
   refine wpAnyH_ready (rs := [4]) (by kernel_rfl) (by simp) ?_
   refine AllReadyH.cons (o := _) rfl (fun K hK => ?_) AllReadyH.nil
   go_simp
   go_at_call 63
   refine (rmemid_any (fun b => b < w.heap.size) l A cap e.sender wh (HR1.out.bel HO10.out.bel) hl).mono ?_
   rw [HSID.out]
   rintro r wa ⟨rfl, rfl⟩
   refine hK.out _ _ (HO10.out.bel) (fun hHeld2 => ?_)
   clear hK K hHeld
   have hHeld := hHeld2
   clear hHeld2
   (try simp only [Act.put, List.getElem_toArray, List.getElem_cons_zero, List.getElem_cons_succ, List.setIfInBounds_toArray, List.set_cons_zero, List.set_cons_succ])
   refine wpAnyH_ready (rs := [8]) (by kernel_rfl) (by simp) ?_
   refine AllReadyH.cons (o := _) rfl (fun K hK => ?_) AllReadyH.nil
   go_simp
   go_at_call 64
   refine (rmemof_any (fun b => b < w.heap.size) l A cap e.sender wh (HR1.out.bel HO10.out.bel) hl).mono ?_
   rw [HSE.out]
   rintro r wa ⟨rfl, rfl⟩
   refine hK.out _ _ (HO10.out.bel) (fun hHeld2 => ?_)
   clear hK K hHeld
   have hHeld := hHeld2
   clear hHeld2
   (try simp only [Act.put, List.getElem_toArray, List.getElem_cons_zero, List.getElem_cons_succ, List.setIfInBounds_toArray, List.set_cons_zero, List.set_cons_succ])
   refine wpAnyH_take (i := 9) (oi := _) (v := ?_) rfl (by kernel_rfl) (by kernel_rfl) (by kernel_rfl) (fun _ _ _ h => h) (Or.inl ⟨by kernel_rfl, ?_⟩) hHeld ?_
   rotate_left
   ·intro wq hSw
    go_simp
    (try with_reducible rfl)
   (try simp only [Act.put, List.getElem_toArray, List.getElem_cons_zero, List.getElem_cons_succ, List.setIfInBounds_toArray, List.set_cons_zero, List.set_cons_succ])
   refine wpAnyH_ready (rs := [10]) (by kernel_rfl) (by simp) ?_
   refine AllReadyH.cons (o := _) rfl (fun K hK => ?_) AllReadyH.nil
   go_simp
   go_at_call 59
   refine (rasks_any ⟨#[115, 101, 110, 100, 101, 114, 45, 106, 111, 105, 110, 101, 100]⟩ sid (se != 3) 18 wh).mono ?_
   rintro r wi ⟨rfl, hbi⟩
   have HO11 := hid (HO10.out.step hbi)
   have HVB11 := hid (HVB10.out.below hbi HVB10.out.lt)
   have HY11 := hid (HY10.out.bel hbi)
   clear hbi
   refine hK.out _ _ (HO11.out.bel) (fun hHeld2 => ?_)
   clear hK K hHeld
   have hHeld := hHeld2
   clear hHeld2
   (try simp only [Act.put, List.getElem_toArray, List.getElem_cons_zero, List.getElem_cons_succ, List.setIfInBounds_toArray, List.set_cons_zero, List.set_cons_succ])
   refine wpAnyH_ready (rs := [11]) (by kernel_rfl) (by simp) ?_
   refine AllReadyH.cons (o := _) rfl (fun K hK => ?_) AllReadyH.nil
   go_simp
   refine hK.out _ _ ((HO11.out.step ((Below.refl wi.heap.size wi).alloc (Nat.le_refl _) _)).bel) (fun hHeld2 => ?_)
   clear hK K hHeld
   have hHeld := hHeld2
   clear hHeld2
   (try simp only [Act.put, List.getElem_toArray, List.getElem_cons_zero, List.getElem_cons_succ, List.setIfInBounds_toArray, List.set_cons_zero, List.set_cons_succ])
   refine wpAnyH_ready (rs := [12]) (by kernel_rfl) (by simp) ?_
   refine AllReadyH.cons (o := _) rfl (fun K hK => ?_) AllReadyH.nil
   refine step_leaf rfl _ _ rfl w1 w1.heap.size wi v6 ([Co.ask [99, 114, 101, 97, 116, 105, 111, 110] c1 (!made) 17]) [115, 101, 110, 100, 101, 114, 45, 106, 111, 105, 110, 101, 100] sid (askE (se != 3) 18) ?_ ?_ HO11.out (by simp) ?_
   ·kernel_rfl
   ·kernel_rfl
   intro v12 w12 ho12 ha12
   have HO12 := hid ho12
   have HVB12 := hid (ha12.blk HVB11.out HVN8.out)
   have HVN12 := hid (ha12.ne HVB11.out.lt HVN8.out)
   have HY12 : Hid (LvV (fun b => some b ≠ v12.ownBlock) w12 Y (Co.levelsOf l)) := hid (HY11.out.keep fun b hb hlt => ⟨ha12.ne hlt hb, ha12.keep b hlt hb⟩)
   clear ho12 ha12
   refine hK.out _ _ (HO12.out.bel) (fun hHeld2 => ?_)
   clear hK K hHeld
   have hHeld := hHeld2
   clear hHeld2
   (try simp only [Act.put, List.getElem_toArray, List.getElem_cons_zero, List.getElem_cons_succ, List.setIfInBounds_toArray, List.set_cons_zero, List.set_cons_succ])
   refine wpAnyH_take (i := 13) (oi := _) (v := ?_) rfl (by kernel_rfl) (by kernel_rfl) (by kernel_rfl) (fun _ _ _ h => h) (Or.inl ⟨by kernel_rfl, ?_⟩) hHeld ?_
   rotate_left
   ·intro wq hSw
    go_simp
    (try with_reducible rfl)
   (try simp only [Act.put, List.getElem_toArray, List.getElem_cons_zero, List.getElem_cons_succ, List.setIfInBounds_toArray, List.set_cons_zero, List.set_cons_succ])
   refine wpAnyH_done (by kernel_rfl) ?_ _
   refine NoPanic.normal ?_
   have HO13 := hid (HO12.out.step (Below.refl _ w12).drew)
   have HVB13 := hid (HVB12.out.below (Below.refl _ w12).drew HVB12.out.lt)
   have HY13 := hid (HY12.out.bel (Below.refl _ w12).drew)
   go_upto_region 11 with fail
   refine wp_region_noPanic ?_
   refine wp_region_held_drew (S := fun W => Below w1.heap.size w1 W ∧ Blk W vq 28 Y.toArray) (by kernel_rfl) (⟨HO12.out.bel.drew, HVB12.out.below (Below.refl _ _).drew HVB12.out.lt⟩) (fun hHeld => ?_)
   generalize hwk : w12.drew = wk at *
   clear hwk
   refine wpAnyH_take (i := 0) (oi := _) (v := ?_) rfl (by kernel_rfl) (by kernel_rfl) (by kernel_rfl) (fun _ _ _ h => h) (Or.inl ⟨by kernel_rfl, ?_⟩) hHeld ?_
   rotate_left
   ·intro wq hSw
    go_simp
    (try with_reducible rfl)
   (try simp only [Act.put, List.getElem_toArray, List.getElem_cons_zero, List.getElem_cons_succ, List.setIfInBounds_toArray, List.set_cons_zero, List.set_cons_succ])
   refine wpAnyH_take (i := 1) (oi := _) (v := ?_) rfl (by kernel_rfl) (by kernel_rfl) (by kernel_rfl) (fun _ _ _ h => h) (Or.inl ⟨by kernel_rfl, ?_⟩) hHeld ?_
   rotate_left
   ·intro wq hSw
    go_simp
    (try with_reducible rfl)
   (try simp only [Act.put, List.getElem_toArray, List.getElem_cons_zero, List.getElem_cons_succ, List.setIfInBounds_toArray, List.set_cons_zero, List.set_cons_succ])
   refine wpAnyH_take (i := 2) (oi := _) (v := _) rfl (by kernel_rfl) (by kernel_rfl) (by kernel_rfl) (fun _ _ _ h => h) (row_yields_u (X := Y.toArray) rfl Tryz.underlying28 HSY.out (fun W h => h.2) (by kernel_rfl) _ rfl rfl) hHeld ?_
   (try simp only [Act.put, List.getElem_toArray, List.getElem_cons_zero, List.getElem_cons_succ, List.setIfInBounds_toArray, List.set_cons_zero, List.set_cons_succ])
   refine wpAnyH_take (i := 3) (oi := _) (v := ?_) rfl (by kernel_rfl) (by kernel_rfl) (by kernel_rfl) (fun _ _ _ h => h) (Or.inl ⟨by kernel_rfl, ?_⟩) hHeld ?_
   rotate_left
   ·intro wq hSw
    go_simp
    (try with_reducible rfl)
   (try simp only [Act.put, List.getElem_toArray, List.getElem_cons_zero, List.getElem_cons_succ, List.setIfInBounds_toArray, List.set_cons_zero, List.set_cons_succ])
   refine wpAnyH_take (i := 4) (oi := _) (v := ?_) rfl (by kernel_rfl) (by kernel_rfl) (by kernel_rfl) (fun _ _ _ h => h) (Or.inl ⟨by kernel_rfl, ?_⟩) hHeld ?_
   rotate_left
   ·intro wq hSw
    have hy2 : wq.cell? ⟨w.heap.size, 2, none⟩ = some (.string (bstr e.sender)) := ((HE1.out.below hSw.1 HE1.out.lt).cell 2).trans (by rw [List.getElem?_toArray]; exact HXC2.out)
    go_simp
    (try with_reducible rfl)
   (try simp only [Act.put, List.getElem_toArray, List.getElem_cons_zero, List.getElem_cons_succ, List.setIfInBounds_toArray, List.set_cons_zero, List.set_cons_succ])
   refine wpAnyH_take (i := 6) (oi := _) (v := _) rfl (by kernel_rfl) (by kernel_rfl) (by kernel_rfl) (fun _ _ _ h => h) (row_yields_u (X := Y.toArray) rfl Tryz.underlying28 HSY.out (fun W h => h.2) (by kernel_rfl) _ rfl rfl) hHeld ?_
   (try simp only [Act.put, List.getElem_toArray, List.getElem_cons_zero, List.getElem_cons_succ, List.setIfInBounds_toArray, List.set_cons_zero, List.set_cons_succ])
   refine wpAnyH_take (i := 7) (oi := _) (v := ?_) rfl (by kernel_rfl) (by kernel_rfl) (by kernel_rfl) (fun _ _ _ h => h) (Or.inl ⟨by kernel_rfl, ?_⟩) hHeld ?_
   rotate_left
   ·intro wq hSw
    go_simp
    (try with_reducible rfl)
   (try simp only [Act.put, List.getElem_toArray, List.getElem_cons_zero, List.getElem_cons_succ, List.setIfInBounds_toArray, List.set_cons_zero, List.set_cons_succ])
   refine wpAnyH_take (i := 8) (oi := _) (v := ?_) rfl (by kernel_rfl) (by kernel_rfl) (by kernel_rfl) (fun _ _ _ h => h) (Or.inl ⟨by kernel_rfl, ?_⟩) hHeld ?_
   rotate_left
   ·intro wq hSw
    have hy3 : wq.cell? ⟨w.heap.size, 3, none⟩ = some (.int .i64 e.kind) := ((HE1.out.below hSw.1 HE1.out.lt).cell 3).trans (by rw [List.getElem?_toArray]; exact HXC3.out)
    go_simp
    (try with_reducible rfl)
   (try simp only [Act.put, List.getElem_toArray, List.getElem_cons_zero, List.getElem_cons_succ, List.setIfInBounds_toArray, List.set_cons_zero, List.set_cons_succ])
   refine wpAnyH_ready (rs := [5]) (by kernel_rfl) (by simp) ?_
   refine AllReadyH.cons (o := _) rfl (fun K hK => ?_) AllReadyH.nil
   go_simp
   go_at_call 65
   refine (rlvuser_any (fun b => some b ≠ v12.ownBlock) (Co.levelsOf l) Y e.sender wk HY13.out HLU.out).mono ?_
   rw [HUS.out]
   rintro r wl ⟨rfl, hbc⟩
   have HO14 := hid (HO13.out.step hbc)
   have HVB14 := hid (HVB13.out.below hbc HVB13.out.lt)
   have HY14 := hid (HY13.out.bel hbc)
   clear hbc
   refine hK.out _ _ (⟨HO14.out.bel, HVB14.out⟩) (fun hHeld2 => ?_)
   clear hK K hHeld
   have hHeld := hHeld2
   clear hHeld2
   (try simp only [Act.put, List.getElem_toArray, List.getElem_cons_zero, List.getElem_cons_succ, List.setIfInBounds_toArray, List.set_cons_zero, List.set_cons_succ])
   refine wpAnyH_ready (rs := [9]) (by kernel_rfl) (by simp) ?_
   refine AllReadyH.cons (o := _) rfl (fun K hK => ?_) AllReadyH.nil
   go_simp
   go_at_call 66
   refine (rneeds_any (fun b => some b ≠ v12.ownBlock) (Co.levelsOf l) Y e.kind wl HY14.out HLK.out).mono ?_
   rw [HND.out]
   rintro r wm ⟨rfl, hbc⟩
   have HO15 := hid (HO14.out.step hbc)
   have HVB15 := hid (HVB14.out.below hbc HVB14.out.lt)
   have HY15 := hid (HY14.out.bel hbc)
   clear hbc
   refine hK.out _ _ (⟨HO15.out.bel, HVB15.out⟩) (fun hHeld2 => ?_)
   clear hK K hHeld
   have hHeld := hHeld2
   clear hHeld2
   (try simp only [Act.put, List.getElem_toArray, List.getElem_cons_zero, List.getElem_cons_succ, List.setIfInBounds_toArray, List.set_cons_zero, List.set_cons_succ])
   refine wpAnyH_take (i := 10) (oi := _) (v := ?_) rfl (by kernel_rfl) (by kernel_rfl) (by kernel_rfl) (fun _ _ _ h => h) (Or.inl ⟨by kernel_rfl, ?_⟩) hHeld ?_
   rotate_left
   ·intro wq hSw
    go_simp
    (try with_reducible rfl)
   (try simp only [Act.put, List.getElem_toArray, List.getElem_cons_zero, List.getElem_cons_succ, List.setIfInBounds_toArray, List.set_cons_zero, List.set_cons_succ])
   refine wpAnyH_ready (rs := [11]) (by kernel_rfl) (by simp) ?_
   refine AllReadyH.cons (o := _) rfl (fun K hK => ?_) AllReadyH.nil
   go_simp
   go_at_call 59
   refine (rasks_any ⟨#[108, 101, 118, 101, 108]⟩ pw (decide (us < nd)) 20 wm).mono ?_
   rintro r wn ⟨rfl, hbi⟩
   have HO16 := hid (HO15.out.step hbi)
   have HVB16 := hid (HVB15.out.below hbi HVB15.out.lt)
   have HY16 := hid (HY15.out.bel hbi)
   clear hbi
   refine hK.out _ _ (⟨HO16.out.bel, HVB16.out⟩) (fun hHeld2 => ?_)
   clear hK K hHeld
   have hHeld := hHeld2
   clear hHeld2
   (try simp only [Act.put, List.getElem_toArray, List.getElem_cons_zero, List.getElem_cons_succ, List.setIfInBounds_toArray, List.set_cons_zero, List.set_cons_succ])
   refine wpAnyH_ready (rs := [12]) (by kernel_rfl) (by simp) ?_
   refine AllReadyH.cons (o := _) rfl (fun K hK => ?_) AllReadyH.nil
   go_simp
   refine hK.out _ _ (⟨(HO16.out.step ((Below.refl wn.heap.size wn).alloc (Nat.le_refl _) _)).bel, HVB16.out.alloc _⟩) (fun hHeld2 => ?_)
   clear hK K hHeld
   have hHeld := hHeld2
   clear hHeld2
   (try simp only [Act.put, List.getElem_toArray, List.getElem_cons_zero, List.getElem_cons_succ, List.setIfInBounds_toArray, List.set_cons_zero, List.set_cons_succ])
   refine wpAnyH_ready (rs := [13]) (by kernel_rfl) (by simp) ?_
   refine AllReadyH.cons (o := _) rfl (fun K hK => ?_) AllReadyH.nil
   refine step_leaf rfl _ _ rfl w1 w1.heap.size wn v12 ([Co.ask [99, 114, 101, 97, 116, 105, 111, 110] c1 (!made) 17] ++ [Co.ask [115, 101, 110, 100, 101, 114, 45, 106, 111, 105, 110, 101, 100] sid (se != 3) 18]) [108, 101, 118, 101, 108] pw (askE (decide (us < nd)) 20) ?_ ?_ HO16.out (by simp) ?_
   ·kernel_rfl
   ·kernel_rfl
   intro v17 w17 ho17 ha17
   have HO17 := hid ho17
   have HVB17 := hid (ha17.blk HVB16.out HVN12.out)
   have HVN17 := hid (ha17.ne HVB16.out.lt HVN12.out)
   have HY17 : Hid (LvV (fun b => some b ≠ v17.ownBlock) w17 Y (Co.levelsOf l)) := hid (HY16.out.keep fun b hb hlt => ⟨ha17.ne hlt hb, ha17.keep b hlt hb⟩)
   clear ho17 ha17
   refine hK.out _ _ (⟨HO17.out.bel, HVB17.out⟩) (fun hHeld2 => ?_)
   clear hK K hHeld
   have hHeld := hHeld2
   clear hHeld2
   (try simp only [Act.put, List.getElem_toArray, List.getElem_cons_zero, List.getElem_cons_succ, List.setIfInBounds_toArray, List.set_cons_zero, List.set_cons_succ])
   refine wpAnyH_take (i := 14) (oi := _) (v := ?_) rfl (by kernel_rfl) (by kernel_rfl) (by kernel_rfl) (fun _ _ _ h => h) (Or.inl ⟨by kernel_rfl, ?_⟩) hHeld ?_
   rotate_left
   ·intro wq hSw
    go_simp
    (try with_reducible rfl)
   (try simp only [Act.put, List.getElem_toArray, List.getElem_cons_zero, List.getElem_cons_succ, List.setIfInBounds_toArray, List.set_cons_zero, List.set_cons_succ])
   refine wpAnyH_done (by kernel_rfl) ?_ _
   refine NoPanic.normal ?_
   have HE17 := hid (HE1.out.below HO17.out.bel HE1.out.lt)
   have hc3 : w17.cell? ⟨w.heap.size, 3, none⟩ = some (.int .i64 e.kind) := (HE17.out.cell 3).trans (by rw [List.getElem?_toArray]; exact HXC3.out)
   by_cases hk3 : e.kind = 3
   ·have hkb3 : (e.kind == 3) = true := eqb_true hk3
    have hc2 : w17.cell? ⟨w.heap.size, 2, none⟩ = some (.string (bstr e.sender)) := (HE17.out.cell 2).trans (by rw [List.getElem?_toArray]; exact HXC2.out)
    obtain ⟨Z, hzr, hz⟩ := ev_lv_all (HX1.out.bel HO17.out.bel)
    have hz17 := hzr w17 w.heap.size (range_of_blk HE17.out)
    have HLZ : Hid ((Tryz.prog.info? 28).map (·.size) = some Z.length) := hid (by rw [size_lv, hz.len])
    have HCH := hid (rchange_any okT (Co.levelsOf l) (Co.lvOf e) Y Z e.sender w17 (HY17.out.keep fun _ _ _ => ⟨trivial, rfl⟩) (hz.keep fun _ _ _ => ⟨trivial, rfl⟩) (lv_small HLS.out) HES.out)
    rw [HPC.out] at HCH
    clear hk1 hk2 hk3 hz hzr
    go_wp2_with (first
     | (refine wpList_load_row rfl 28 _ rfl vq rfl 28 Y.toArray (0, 0) _ HVB17.out Tryz.underlying28 rfl HSY.out ?_)
     | ((with_reducible refine wpList_load_mid rfl 28 _ rfl w.heap.size 17 ?_ Z _ hz17 Tryz.underlying28 ?_ HLZ.out ?_); rfl; rfl))
    refine HCH.out.mono ?_
    rintro r w18 ⟨rfl, hb18⟩
    have HO18 := hid (HO17.out.step hb18)
    clear hb18
    go_wp2_with (go_loud (at_builtin; refine app_leaf rfl _ _ rfl w1 w1.heap.size w18 v17 ([Co.ask [99, 114, 101, 97, 116, 105, 111, 110] c1 (!made) 17] ++ [Co.ask [115, 101, 110, 100, 101, 114, 45, 106, 111, 105, 110, 101, 100] sid (se != 3) 18] ++ [Co.ask [108, 101, 118, 101, 108] pw (decide (us < nd)) 20]) [112, 111, 119, 101, 114, 45, 99, 104, 97, 110, 103, 101] pw pc rfl rfl HO18.out (by simp) ?_; intro v19 w19 ho19 ha19; have HO19 := hid ho19; clear ho19 ha19))
    have HOF : Hid (RnS.Own 42 (fun b => w1.heap.size ≤ b) w19 w1.heap.size v19 (Co.rulesR e l)) := hid (by
     rw [show Co.rulesR e l = [Co.ask [99, 114, 101, 97, 116, 105, 111, 110] c1 (!made) 17] ++ [Co.ask [115, 101, 110, 100, 101, 114, 45, 106, 111, 105, 110, 101, 100] sid (se != 3) 18] ++ [Co.ask [108, 101, 118, 101, 108] pw (decide (us < nd)) 20] ++ [.mk [112, 111, 119, 101, 114, 45, 99, 104, 97, 110, 103, 101] pw pc []] by
      unfold Co.rulesR
      rw [if_neg (by rw [eq_of_beq hkb3]; decide), if_neg (by rw [eq_of_beq hkb3]; decide), if_pos (eq_of_beq hkb3), HC1.out, HNM.out, HSID.out, HSE.out, HPW.out, HUS.out, HND.out, HPC.out]
      rfl
      ]
     exact HO19.out.own)
    obtain ⟨A9, c9, hv9, hle9, hrow9⟩ := HOF.out.row (ok' := fun b => w.heap.size ≤ b) (fun b hb => Nat.le_trans HLE1.out hb) (fun k hk => Nat.le_trans HLE1.out (HOF.out.lt k hk).1)
    subst hv9
    go_wp2_with fail
    go_ret
    exact ⟨⟨A9, c9, rfl, hle9, hrow9⟩, HB1.out.trans (HO19.out.bel.mono HB1.out.size)⟩
   ·have hkb3 : (e.kind == 3) = false := eqb_false hk3
    clear hk3
    go_wp2_with fail
    have HOF : Hid (RnS.Own 42 (fun b => w1.heap.size ≤ b) w17 w1.heap.size v17 (Co.rulesR e l)) := hid (by
     rw [show Co.rulesR e l = [Co.ask [99, 114, 101, 97, 116, 105, 111, 110] c1 (!made) 17] ++ [Co.ask [115, 101, 110, 100, 101, 114, 45, 106, 111, 105, 110, 101, 100] sid (se != 3) 18] ++ [Co.ask [108, 101, 118, 101, 108] pw (decide (us < nd)) 20] by
      unfold Co.rulesR
      rw [if_neg hk1, if_neg hk2, if_neg (ne_of_beqf hkb3), HC1.out, HNM.out, HSID.out, HSE.out, HPW.out, HUS.out, HND.out]
      rfl
      ]
     exact HO17.out.own)
    obtain ⟨A9, c9, hv9, hle9, hrow9⟩ := HOF.out.row (ok' := fun b => w.heap.size ≤ b) (fun b hb => Nat.le_trans HLE1.out hb) (fun k hk => Nat.le_trans HLE1.out (HOF.out.lt k hk).1)
    subst hv9
    go_ret
    exact ⟨⟨A9, c9, rfl, hle9, hrow9⟩, HB1.out.trans (HO17.out.bel.mono HB1.out.size)⟩
theorem Shp.Row.lows {α : Type} {S : Shp α} {ok : Nat → Prop} {w : World} {A : Option Addr} {L : List α} (h : S.Row ok w A L) : S.Row (fun b => b < w.heap.size) w A L := h.keep fun b _ hlt => ⟨hlt, rfl⟩
theorem rulesR_len8 (e : Co.Ev) (l : List Co.Ev) : (Co.rulesR e l).length ≤ 1000000 := by
 unfold Co.rulesR
 have := memberR_len e l
 split
 ·simp
 ·split
  ·simp; omega
  ·split <;> simp
theorem rallowed_any (e : Co.Ev) (X : List Value) (l : List Co.Ev) (A : Option Addr) (cap : Nat) (w : World) (hX : EvV (fun b => b < w.heap.size) w X e) (h : EvRow (fun b => b < w.heap.size) w A l) (hl : l.length ≤ 1000000) (hls : ∀ x ∈ l, x.users.length ≤ 1000000 ∧ x.kinds.length ≤ 1000000) (hal : ∀ x ∈ l, x.allow.length ≤ 1000000) (hp : e.prev.length ≤ 1000000) (hes : e.users.length ≤ 1000000 ∧ e.kinds.length ≤ 1000000) (hsz : e.sender.length ≤ 1000000 ∧ e.room.length ≤ 1000000) :
  Calls Tryz.prog 9 #[.agg X.toArray, .slice A l.length cap] w fun r w' => WhA (fun b => w.heap.size + 1 + 1 ≤ b) (Co.allowedR e l) r w' ∧ Below w.heap.size w w' := by
 have hb1 := (Below.refl w.heap.size w).alloc (Nat.le_refl _) (.cells X.toArray 34)
 have hb2 := hb1.alloc (by rw [World.size_alloc]; omega) (.cells zRn 42)
 have hk1 := (Blk.new w 34 X.toArray).alloc (.cells zRn 42)
 have hk2 := Blk.new (w.alloc (.cells X.toArray 34)) 42 zRn
 rw [World.size_alloc] at hk2
 have HB2 := hid hb2
 have HE2 := hid hk1
 have HK2 := hid hk2
 have HSX := hid (size_evA hX)
 have HXC0 := hid hX.c0
 have HRN := hid (rulesR_len8 e l)
 have HRL := hid (fun (W : World) (hb : Below w.heap.size w W) => rrules_any e X l A cap W (EvS.keep (hX.bel hb) fun b hb' hlt => ⟨hlt, rfl⟩) ((h.bel hb).lows) hl hls hal hp hes hsz)
 have HWA : Hid (Co.whole [97, 108, 108, 111, 119, 101, 100] e.id (Co.rulesR e l) = Co.allowedR e l) := hid (Co.whole_allowed e l)
 clear hX h hls hal hp hes hsz hb1 hb2 hk1 hk2
 have HS2 : Hid (((w.alloc (.cells X.toArray 34)).alloc (.cells zRn 42)).heap.size = w.heap.size + 1 + 1) := hid (by simp)
 generalize hw2 : (w.alloc (.cells X.toArray 34)).alloc (.cells zRn 42) = w2 at *
 go_enter Tryz.func9, Tryz.ntmps9
 go_wp2_with fail
 go_upto_region 1 with fail
 refine wp_region_noPanic ?_
 refine wp_region_held_drew (S := fun W => Blk W w.heap.size 34 X.toArray) (by kernel_rfl) ((HE2.out.below (Below.refl _ _).drew HE2.out.lt)) (fun hHeld => ?_)
 have HBd : Hid (Below w2.heap.size w2 w2.drew) := hid (Below.refl _ _).drew
 generalize hwd : w2.drew = wd at *
 clear hwd
 refine wpAnyH_take (i := 0) (oi := _) (v := ?_) rfl (by kernel_rfl) (by kernel_rfl) (by kernel_rfl) (fun _ _ _ h => h) (Or.inl ⟨by kernel_rfl, ?_⟩) hHeld ?_
 rotate_left
 ·intro wq hSw
  go_simp
  (try with_reducible rfl)
 (try simp only [Act.put, List.getElem_toArray, List.getElem_cons_zero, List.getElem_cons_succ, List.setIfInBounds_toArray, List.set_cons_zero, List.set_cons_succ])
 refine wpAnyH_take (i := 1) (oi := _) (v := ?_) rfl (by kernel_rfl) (by kernel_rfl) (by kernel_rfl) (fun _ _ _ h => h) (Or.inl ⟨by kernel_rfl, ?_⟩) hHeld ?_
 rotate_left
 ·intro wq hSw
  have hy0 : wq.cell? ⟨w.heap.size, 0, none⟩ = some (.int .i64 e.id) := (hSw.cell 0).trans (by rw [List.getElem?_toArray]; exact HXC0.out)
  go_simp
  (try with_reducible rfl)
 (try simp only [Act.put, List.getElem_toArray, List.getElem_cons_zero, List.getElem_cons_succ, List.setIfInBounds_toArray, List.set_cons_zero, List.set_cons_succ])
 refine wpAnyH_take (i := 2) (oi := _) (v := _) rfl (by kernel_rfl) (by kernel_rfl) (by kernel_rfl) (fun _ _ _ h => h) (row_yields_u (X := X.toArray) rfl Tryz.underlying34 HSX.out (fun W h => h) (by kernel_rfl) _ rfl rfl) hHeld ?_
 (try simp only [Act.put, List.getElem_toArray, List.getElem_cons_zero, List.getElem_cons_succ, List.setIfInBounds_toArray, List.set_cons_zero, List.set_cons_succ])
 refine wpAnyH_take (i := 3) (oi := _) (v := ?_) rfl (by kernel_rfl) (by kernel_rfl) (by kernel_rfl) (fun _ _ _ h => h) (Or.inl ⟨by kernel_rfl, ?_⟩) hHeld ?_
 rotate_left
 ·intro wq hSw
  go_simp
  (try with_reducible rfl)
 (try simp only [Act.put, List.getElem_toArray, List.getElem_cons_zero, List.getElem_cons_succ, List.setIfInBounds_toArray, List.set_cons_zero, List.set_cons_succ])
 refine wpAnyH_ready (rs := [4]) (by kernel_rfl) (by simp) ?_
 refine AllReadyH.cons (o := _) rfl (fun K hK => ?_) AllReadyH.nil
 go_simp
 go_at_call 25
 refine (HRL.out wd (HB2.out.trans (HBd.out.mono HB2.out.size))).mono ?_
 rintro r wa ⟨⟨A2, c2, rfl, hle2, hrow2⟩, hba⟩
 have HBa := hid (HBd.out.trans (hba.mono HBd.out.size))
 have HRW : Hid (RnRow wa (fun b => w.heap.size + 1 + 1 ≤ b ∧ b < wa.heap.size) A2 (Co.rulesR e l)) := hid (Shp.Row.rn (hrow2.keep fun b hb hlt => ⟨⟨by have h1 := HBd.out.size; have h2 := HS2.out; have hb : wd.heap.size ≤ b := hb; omega, hlt⟩, rfl⟩))
 have HEa := hid (HE2.out.below HBa.out HE2.out.lt)
 clear hba hrow2
 refine hK.out _ _ (HEa.out) (fun hHeld2 => ?_)
 clear hK K hHeld
 have hHeld := hHeld2
 clear hHeld2
 (try simp only [Act.put, List.getElem_toArray, List.getElem_cons_zero, List.getElem_cons_succ, List.setIfInBounds_toArray, List.set_cons_zero, List.set_cons_succ])
 refine wpAnyH_ready (rs := [5]) (by kernel_rfl) (by simp) ?_
 refine AllReadyH.cons (o := _) rfl (fun K hK => ?_) AllReadyH.nil
 go_simp
 go_at_call 24
 refine (rwhole_any (fun b => w.heap.size + 1 + 1 ≤ b ∧ b < wa.heap.size) [97, 108, 108, 111, 119, 101, 100] e.id (Co.rulesR e l) A2 c2 wa HRW.out (fun b h => h.2) HRN.out).mono ?_
 rintro r wb ⟨⟨V, rfl, hv⟩, hbb⟩
 have HBb := hid (HBa.out.trans (hbb.mono HBa.out.size))
 have HEb := hid (HE2.out.below HBb.out HE2.out.lt)
 have HKb := hid (HK2.out.below HBb.out HK2.out.lt)
 have HV := hid hv
 have HVS : Hid ((Tryz.prog.info? 42).map (·.size) = some V.size) := hid (by rw [size_rea, hv.size])
 have HVZ : Hid (zRn.size = V.size) := hid hv.size.symm
 have HVO := hid hv.one
 clear hbb hv
 refine hK.out _ _ (HEb.out) (fun hHeld2 => ?_)
 clear hK K hHeld
 have hHeld := hHeld2
 clear hHeld2
 (try simp only [Act.put, List.getElem_toArray, List.getElem_cons_zero, List.getElem_cons_succ, List.setIfInBounds_toArray, List.set_cons_zero, List.set_cons_succ])
 refine wpAnyH_ready (rs := [6]) (by kernel_rfl) (by simp) ?_
 refine AllReadyH.cons (o := _) rfl (fun K hK => ?_) AllReadyH.nil
 rw [if_pos (by kernel_rfl)]
 refine wp_store_row 42 _ _ rfl (w.heap.size + 1) V rfl rfl 42 _ HKb.out HVS.out HVZ.out HVO.out ?_
 have HEc : Hid (Blk (wb.setRow (w.heap.size + 1) V) w.heap.size 34 X.toArray) := hid ((setRow_other _ _ _ _ (by omega)).trans HEb.out)
 refine hK.out _ _ (HEc.out) (fun hHeld2 => ?_)
 clear hK K hHeld
 have hHeld := hHeld2
 clear hHeld2
 (try simp only [Act.put, List.getElem_toArray, List.getElem_cons_zero, List.getElem_cons_succ, List.setIfInBounds_toArray, List.set_cons_zero, List.set_cons_succ])
 refine wpAnyH_done (by kernel_rfl) ?_ _
 refine NoPanic.normal ?_
 have HVf : Hid (RnV (wb.setRow (w.heap.size + 1) V) (fun b => w.heap.size + 1 + 1 ≤ b) V (Co.allowedR e l)) := hid (by
  rw [← HWA.out]
  refine HV.out.keep fun b hb _ => ?_
  have h3 : w.heap.size + 1 + 1 ≤ b := by
   rcases hb with h | h
   ·exact h.1
   ·have h1 := HBa.out.size
    have h2 := HS2.out
    omega
  exact ⟨h3, setRow_other _ _ _ _ (by omega)⟩)
 go_wp2_with fail
 exact bodyPost_ret (results_cell_row rfl _ _ (w.heap.size + 1) 42 _ (0, 0) _ rfl (setRow_heap _ _ _ _ _ _ HKb.out) Tryz.underlying42 rfl HVS.out) rfl ⟨⟨V, rfl, HVf.out⟩, below_setRow (HB2.out.trans (HBb.out.mono HB2.out.size)) (by omega) _⟩
end Go.Proofs.YtacjhbbieeliaaaGreatDoor
/- The text Qj. -/
namespace Go.Proofs.YtacjhbbieeliaaaGreatDoor
open Go.RowKit Go.Lib
set_option linter.unusedVariables false
set_option linter.unusedSimpArgs false
theorem member_leaf (e : Co.Ev) (l : List Co.Ev) : ∀ x ∈ Co.memberR e l, x.kids = [] := by
 unfold Co.memberR Co.ask
 repeat' split
 all_goals simp [Rn.Tr.kids]
theorem rules_leaf (e : Co.Ev) (l : List Co.Ev) : ∀ x ∈ Co.rulesR e l, x.kids = [] := by
 have hm := member_leaf e l
 unfold Co.rulesR Co.ask
 by_cases h1 : e.kind = 1
 ·rw [if_pos h1]
  simp [Rn.Tr.kids]
 ·rw [if_neg h1]
  by_cases h2 : e.kind = 2
  ·rw [if_pos h2]
   intro x hx
   rcases List.mem_cons.1 hx with rfl | hx
   ·rfl
   ·exact hm x hx
  ·rw [if_neg h2]
   by_cases h3 : e.kind = 3
   ·rw [if_pos h3]
    simp [Rn.Tr.kids]
   ·rw [if_neg h3]
    simp [Rn.Tr.kids]
theorem mem_upTo : ∀ (l : List Rn.Tr) (x : Rn.Tr), x ∈ Co.upTo l → x ∈ l
 | [], x, h => by cases h
 | y :: r, x, h => by
  unfold Co.upTo at h
  split at h
  ·rcases List.mem_cons.1 h with rfl | h
   ·simp
   ·exact List.mem_cons_of_mem _ (mem_upTo r x h)
  ·simp at h; subst h; simp
theorem nodesL_leaf : ∀ (l : List Rn.Tr), (∀ x ∈ l, x.kids = []) → Rn.nodesL l = l.length
 | [], _ => rfl
 | x :: r, h => by
  have h1 := nodesL_leaf r fun y hy => h y (List.mem_cons_of_mem _ hy)
  have h2 := h x (by simp)
  unfold Rn.nodesL
  rw [h1, Rn.nodes_eq, h2, List.length_cons]
  unfold Rn.nodesL
  omega
theorem upTo_len' : ∀ l : List Rn.Tr, (Co.upTo l).length ≤ l.length
 | [] => Nat.le_refl _
 | x :: r => by
  unfold Co.upTo
  have := upTo_len' r
  split <;> simp <;> omega
theorem rulesR_len9 (e : Co.Ev) (l : List Co.Ev) : (Co.rulesR e l).length ≤ 9 := by
 unfold Co.rulesR
 have := memberR_len e l
 split
 ·simp
 ·split
  ·simp; omega
  ·split <;> simp
theorem allowedR_nodes (e : Co.Ev) (l : List Co.Ev) : Rn.nodes (Co.allowedR e l) ≤ 1000000 := by
 rw [Rn.nodes_eq]
 have h1 := nodesL_leaf (Co.upTo (Co.rulesR e l)) fun x hx => rules_leaf e l x (mem_upTo _ x hx)
 have h2 := upTo_len' (Co.rulesR e l)
 have h3 := rulesR_len9 e l
 have h4 : Rn.nodesL (Co.allowedR e l).kids = (Co.upTo (Co.rulesR e l)).length := h1
 omega
theorem allows_law (ok : Nat → Prop) (e : Co.Ev) (X : Array Value) (l : List Co.Ev) (A : Option Addr) (cap : Nat) (w : World) (hX : EvV ok w X.toList e) (h : EvRow ok w A l) (hm : ∃ m, w.cell? ⟨0, 0, none⟩ = some (.int .i64 m)) :
  Calls Tryz.prog 3 #[.agg X, .slice A l.length cap] w fun e w' => e = .returned (.bool true) ∧ Below w.heap.size w w' := by
 obtain ⟨m, hm⟩ := hm
 obtain ⟨Y, rfl⟩ : ∃ Y : List Value, X = Y.toArray := ⟨X.toList, by simp⟩
 have hX : EvV ok w Y e := hX
 have hb1 := (Below.refl w.heap.size w).alloc (Nat.le_refl _) (.cells Y.toArray 34)
 have HB1 := hid hb1
 have HE1 := hid (Blk.new w 34 Y.toArray)
 have HX1 := hid (hX.bel hb1)
 have HR1 := hid (h.bel hb1)
 have HSE := hid (size_evA hX)
 have HM1 := hid ((Below.cell hb1 (p := ⟨0, 0, none⟩) (block_lt hm)).trans hm)
 have HM01 := hid (block_lt HM1.out)
 have HC0 := hid hX.c0
 clear hX h hm hb1
 generalize hw1 : w.alloc (.cells Y.toArray 34) = w1 at *
 go_enter Tryz.func3, Tryz.ntmps3
 go_wp2_with (refine wpList_load_row rfl 34 _ rfl w.heap.size rfl 34 Y.toArray (0, 0) _ HE1.out Tryz.underlying34 rfl HSE.out ?_)
 refine (long_ev ok Y e w1 HX1.out).mono ?_
 rintro r w2 ⟨⟨bb, rfl, hbb⟩, hb2⟩
 have HB12 := hid hb2
 have HB2 := hid (HB1.out.trans (hb2.mono HB1.out.size))
 clear hb2
 cases bb with
 | true =>
  clear hbb
  go_wp2_with fail
  go_ret
  exact ⟨rfl, HB2.out⟩
 | false =>
  have HL := hid (hbb rfl)
  clear hbb
  go_wp2_with fail
  refine (rgreat_ev ok l A cap 20 w2 (HR1.out.bel HB12.out) (by decide)).mono ?_
  rintro r w3 ⟨⟨bb, rfl, hbb⟩, hb3⟩
  have HB13 := hid (HB12.out.trans (hb3.mono HB12.out.size))
  have HB3 := hid (HB1.out.trans (HB13.out.mono HB1.out.size))
  clear hb3
  cases bb with
  | true =>
   clear hbb
   go_wp2_with fail
   go_ret
   exact ⟨rfl, HB3.out⟩
  | false =>
   have HG := hid (hbb rfl)
   clear hbb
   have hl : l.length ≤ 1000000 := by have := HG.out.1; omega
   have HLS : Hid (∀ x ∈ l, x.users.length ≤ 1000000 ∧ x.kinds.length ≤ 1000000) := hid (fun x hx => by have := HG.out.2 x hx; unfold EvSh at this; omega)
   have HAL : Hid (∀ x ∈ l, x.allow.length ≤ 1000000) := hid (fun x hx => by have := HG.out.2 x hx; unfold EvSh at this; omega)
   have HEV : Hid (e.prev.length ≤ 1000000 ∧ (e.users.length ≤ 1000000 ∧ e.kinds.length ≤ 1000000) ∧ (e.sender.length ≤ 1000000 ∧ e.room.length ≤ 1000000)) := hid (by have := HL.out; omega)
   have HPE := hid (fun (W : World) (hb : Below w1.heap.size w1 W) => pexp_all ok e Y l A cap W (HX1.out.bel hb) (HR1.out.bel hb) hl HLS.out HAL.out HEV.out.1 HEV.out.2.1 HEV.out.2.2 m ((Below.cell hb (p := ⟨0, 0, none⟩) HM01.out).trans HM1.out))
   have HRA := hid (fun (W : World) (hb : Below w1.heap.size w1 W) => rallowed_any e Y l A cap W (EvS.keep (HX1.out.bel hb) fun b _ hlt => ⟨hlt, rfl⟩) (Shp.Row.lows (HR1.out.bel hb)) hl HLS.out HAL.out HEV.out.1 HEV.out.2.1 HEV.out.2.2)
   have HE3 := hid (HE1.out.below HB13.out HE1.out.lt)
   clear hl HLS HAL HEV
   go_upto_region 3 with fail
   refine wp_region_noPanic ?_
   refine wp_region_held_drew (S := fun W => Below w3.heap.size w3 W) (by kernel_rfl) ((Below.refl _ _).drew) (fun hHeld => ?_)
   generalize hwd : w3.drew = wd at *
   have HBd := hid hHeld
   clear hwd
   refine wpAnyH_take (i := 0) (oi := _) (v := _) rfl (by kernel_rfl) (by kernel_rfl) (by kernel_rfl) (fun _ _ _ h => h) (row_yields_u (X := Y.toArray) rfl Tryz.underlying34 HSE.out (fun W h => HE3.out.below h HE3.out.lt) (by kernel_rfl) _ rfl rfl) hHeld ?_
   (try simp only [Act.put, pk1, pk2, pk3, pk4, pk5, pk6])
   refine wpAnyH_take (i := 1) (oi := _) (v := ?_) rfl (by kernel_rfl) (by kernel_rfl) (by kernel_rfl) (fun _ _ _ h => h) (Or.inl ⟨by kernel_rfl, ?_⟩) hHeld ?_
   rotate_left
   ·intro wq hSw
    go_simp
    (try with_reducible rfl)
   (try simp only [Act.put, pk1, pk2, pk3, pk4, pk5, pk6])
   refine wpAnyH_take (i := 3) (oi := _) (v := _) rfl (by kernel_rfl) (by kernel_rfl) (by kernel_rfl) (fun _ _ _ h => h) (row_yields_u (X := Y.toArray) rfl Tryz.underlying34 HSE.out (fun W h => HE3.out.below h HE3.out.lt) (by kernel_rfl) _ rfl rfl) hHeld ?_
   (try simp only [Act.put, pk1, pk2, pk3, pk4, pk5, pk6])
   refine wpAnyH_take (i := 4) (oi := _) (v := ?_) rfl (by kernel_rfl) (by kernel_rfl) (by kernel_rfl) (fun _ _ _ h => h) (Or.inl ⟨by kernel_rfl, ?_⟩) hHeld ?_
   rotate_left
   ·intro wq hSw
    go_simp
    (try with_reducible rfl)
   (try simp only [Act.put, pk1, pk2, pk3, pk4, pk5, pk6])
   refine wpAnyH_ready (rs := [2]) (by kernel_rfl) (by simp) ?_
   refine AllReadyH.cons (o := _) rfl (fun K hK => ?_) AllReadyH.nil
   go_simp
   go_at_call 8
   refine (HPE.out wd (HB13.out.trans (HBd.out.mono HB13.out.size))).mono ?_
   rintro r wa ⟨⟨V, rfl, hv⟩, hba⟩
   have HBa := hid (HBd.out.trans (hba.mono HBd.out.size))
   have HV := hid hv
   clear hba hv
   refine hK.out _ _ (HBa.out) (fun hHeld2 => ?_)
   clear hK K hHeld
   have hHeld := hHeld2
   clear hHeld2
   (try simp only [Act.put, pk1, pk2, pk3, pk4, pk5, pk6])
   refine wpAnyH_ready (rs := [5]) (by kernel_rfl) (by simp) ?_
   refine AllReadyH.cons (o := _) rfl (fun K hK => ?_) AllReadyH.nil
   go_simp
   go_at_call 9
   refine (HRA.out wa (HB13.out.trans (HBa.out.mono HB13.out.size))).mono ?_
   rintro r wb ⟨⟨V2, rfl, hv2⟩, hbb⟩
   have HBb := hid (HBa.out.trans (hbb.mono HBa.out.size))
   have HVb := hid (HV.out.bel hbb)
   have HSM := hid (rsame_any 1000000 _ _ (Co.allowedR e l) (Co.allowedR e l) V V2 wb (allowedR_nodes e l) (Nat.le_refl _) HVb.out hv2)
   clear hbb hv2
   refine hK.out _ _ (HBb.out) (fun hHeld2 => ?_)
   clear hK K hHeld
   have hHeld := hHeld2
   clear hHeld2
   (try simp only [Act.put, pk1, pk2, pk3, pk4, pk5, pk6])
   refine wpAnyH_ready (rs := [6]) (by kernel_rfl) (by simp) ?_
   refine AllReadyH.cons (o := _) rfl (fun K hK => ?_) AllReadyH.nil
   go_simp
   go_at_call 7
   refine HSM.out.mono ?_
   rw [Rn.same_self]
   rintro r wc ⟨rfl, hbc⟩
   have HBc := hid (HBb.out.trans (hbc.mono HBb.out.size))
   clear hbc
   refine hK.out _ _ (HBc.out) (fun hHeld2 => ?_)
   clear hK K hHeld
   have hHeld := hHeld2
   clear hHeld2
   (try simp only [Act.put, pk1, pk2, pk3, pk4, pk5, pk6])
   refine wpAnyH_take (i := 7) (oi := _) (v := ?_) rfl (by kernel_rfl) (by kernel_rfl) (by kernel_rfl) (fun _ _ _ h => h) (Or.inl ⟨by kernel_rfl, ?_⟩) hHeld ?_
   rotate_left
   ·intro wq hSw
    go_simp
    (try with_reducible rfl)
   (try simp only [Act.put, pk1, pk2, pk3, pk4, pk5, pk6])
   refine wpAnyH_ready (rs := [8]) (by kernel_rfl) (by simp) ?_
   refine AllReadyH.cons (o := _) rfl (fun K hK => ?_) AllReadyH.nil
   go_simp
   go_at_call 10
   refine (live_any m wc ((Below.cell (HB13.out.trans (HBc.out.mono HB13.out.size)) (p := ⟨0, 0, none⟩) HM01.out).trans HM1.out)).mono ?_
   rintro r we ⟨rfl, hbe⟩
   have HBe := hid (HBc.out.trans (hbe.mono HBc.out.size))
   clear hbe
   refine hK.out _ _ (HBe.out) (fun hHeld2 => ?_)
   clear hK K hHeld
   have hHeld := hHeld2
   clear hHeld2
   (try simp only [Act.put, pk1, pk2, pk3, pk4, pk5, pk6])
   refine wpAnyH_take (i := 9) (oi := _) (v := ?_) rfl (by kernel_rfl) (by kernel_rfl) (by kernel_rfl) (fun _ _ _ h => h) (Or.inl ⟨by kernel_rfl, ?_⟩) hHeld ?_
   rotate_left
   ·intro wq hSw
    go_simp
    (try with_reducible rfl)
   (try simp only [Act.put, pk1, pk2, pk3, pk4, pk5, pk6])
   refine wpAnyH_take (i := 10) (oi := _) (v := ?_) rfl (by kernel_rfl) (by kernel_rfl) (by kernel_rfl) (fun _ _ _ h => h) (Or.inl ⟨by kernel_rfl, ?_⟩) hHeld ?_
   rotate_left
   ·intro wq hSw
    go_simp
    (try with_reducible rfl)
   (try simp only [Act.put, pk1, pk2, pk3, pk4, pk5, pk6])
   refine wpAnyH_done (by kernel_rfl) ?_ _
   refine NoPanic.normal ?_
   go_wp2_with fail
   go_ret
   exact ⟨rfl, HB1.out.trans ((HB13.out.trans (HBe.out.mono HB13.out.size)).mono HB1.out.size)⟩
end Go.Proofs.YtacjhbbieeliaaaGreatDoor
