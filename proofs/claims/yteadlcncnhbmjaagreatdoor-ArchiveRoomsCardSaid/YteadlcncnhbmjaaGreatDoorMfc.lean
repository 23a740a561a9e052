/- The texts Rd5, Rh0, Rf3, Rf4, Rs1, Re2, Rl1 of this proof, one behind the other. -/
import Derived.Deep.DrawnRows
import Derived.Deep.RegionHeld3
import Derived.Test.YteadlcncnhbmjaaGreatDoorMaq
import Derived.Test.YteadlcncnhbmjaaGreatDoorMat
import Derived.Test.YteadlcncnhbmjaaGreatDoorMfb
import Derived.Test.YteadlcncnhbmjaaGreatDoorMad
import Derived.Test.YteadlcncnhbmjaaGreatDoorMas
import Derived.Test.YteadlcncnhbmjaaGreatDoorHBv1
import Derived.Test.YteadlcncnhbmjaaGreatDoorMfa
import Derived.Test.YteadlcncnhbmjaaGreatDoorHBw2
set_option linter.unusedSimpArgs false
set_option maxHeartbeats 16000000
set_option maxRecDepth 100000
set_option linter.unusedVariables false
/- The text Rd5. -/
namespace Go.Proofs.YteadlcncnhbmjaaGreatDoor
open Go.RowKit Go.Lib
set_option linter.unusedVariables false
set_option linter.unusedSimpArgs false
theorem rg_b {w w' : World} {b o : Nat} {cs : List Value} (hb : Nx w w') (h : w.rangeAt b o cs) : w'.rangeAt b o cs := fun j v hj => keep_b hb (h j v hj)
theorem th_b {w w' : World} {b o n : Nat} (hb : Nx w w') (h : w.there b o n) : w'.there b o n := fun j hj => by
 obtain ⟨h1, h2⟩ := h j hj
 obtain ⟨v, hv⟩ := Option.isSome_iff_exists.1 h1
 have hlt := block_lt hv
 exact ⟨by rw [Below.cell hb hlt]; exact h1, by rw [World.frozen?_of_block (hb.block b hlt)]; exact h2⟩
theorem blk_range {w : World} {g : Nat} {t : TypeId} {cs : Array Value} (h : Blk w g t cs) : w.rangeAt g 0 cs.toList := fun j v hj => by
 rw [Nat.zero_add, h.cell j, ← Array.getElem?_toList]; exact hj
theorem blk_there {w : World} {g : Nat} {t : TypeId} {cs : Array Value} (h : Blk w g t cs) : w.there g 0 cs.size := fun j hj => by
 rw [Nat.zero_add, h.cell j, Array.getElem?_eq_getElem hj]
 exact ⟨rfl, h.frozen j⟩
theorem setCells_row {w : World} {g : Nat} {t : TypeId} {old cells : Array Value} (h : Blk w g t old) (hi : (Tryz.prog.info? 40).map (·.size) = some cells.size) (hs : old.size = cells.size) (h1 : cells.all (·.oneCell') = true) : w.setCells g 0 cells.toList = w.setRow g cells := by
 have e1 := run_storeVar_mid (P := Tryz.prog) w g 0 40 cells (by have := blk_there h; rw [hs] at this; exact this) hi h1
 have e2 := run_storeVar_row (P := Tryz.prog) w g t 40 old cells h hi hs h1
 rw [e1] at e2
 injection e2
structure SE (w0 : World) (be : Nat) (X : Array Value) (e : List Ar.FV) (W : World) : Prop where
 ev : EvOf (fun b => w0.heap.size < b) W X e
 blk : Blk W be 40 X
 res : ∃ old, Blk W w0.heap.size 40 old ∧ old.size = 29
 bel : Below w0.heap.size w0 W
 lt : w0.heap.size < be
theorem SE.nx {w0 W W' : World} {be : Nat} {X : Array Value} {e : List Ar.FV} (hb : Nx W W') (h : SE w0 be X e W) : SE w0 be X e W' := by
 obtain ⟨old, h1, h2⟩ := h.res
 exact ⟨h.ev.below hb, h.blk.below hb h.blk.lt, ⟨old, h1.below hb h1.lt, h2⟩, h.bel.trans (Below.mono hb h.bel.size), h.lt⟩
theorem SE.drew {w0 W : World} {be : Nat} {X : Array Value} {e : List Ar.FV} (h : SE w0 be X e W) : SE w0 be X e W.drew := SE.nx (show Below _ _ _ from (Below.refl _ _).drew) h
theorem SE.done {w0 W : World} {be : Nat} {X : Array Value} {e : List Ar.FV} (h : SE w0 be X e W) : Blk (W.setRow w0.heap.size X) w0.heap.size 40 X ∧ EvOf (fun b => w0.heap.size ≤ b) (W.setRow w0.heap.size X) X e ∧ Below w0.heap.size w0 (W.setRow w0.heap.size X) := by
 obtain ⟨old, h1, h2⟩ := h.res
 exact ⟨setRow_heap _ _ _ _ _ _ h1, h.ev.keep fun b hb _ => ⟨Nat.le_of_lt hb, setRow_other _ _ _ _ (by omega)⟩, below_setRow h.bel (Nat.le_refl _) _⟩
theorem SE.set {w0 W : World} {be : Nat} {X : Array Value} {e : List Ar.FV} (h : SE w0 be X e W) : SE w0 be X e (W.setRow w0.heap.size X) := by
 obtain ⟨old, h1, h2⟩ := h.res
 have hlt := h.lt
 exact ⟨h.ev.keep fun b hb _ => ⟨hb, setRow_other _ _ _ _ (by omega)⟩, (setRow_other _ _ _ _ (by omega)).trans h.blk, ⟨X, setRow_heap _ _ _ _ _ _ h1, h.ev.size⟩, below_setRow h.bel (Nat.le_refl _) _, h.lt⟩
theorem SE.load {w0 W : World} {be : Nat} {X : Array Value} {e : List Ar.FV} (h : SE w0 be X e W) : (loadVar 40 ⟨be, 0, none⟩).run Tryz.prog W = .ok (.agg X) W := load_event W be X h.blk h.ev.size
theorem SE.store {w0 W : World} {be : Nat} {X : Array Value} {e : List Ar.FV} (h : SE w0 be X e W) : (storeVar 40 ⟨w0.heap.size, 0, none⟩ (.agg X)).run Tryz.prog W = .ok () (W.setRow w0.heap.size X) := by
 obtain ⟨old, h1, h2⟩ := h.res
 exact run_storeVar_row W w0.heap.size 40 40 old X h1 (by rw [size_event, h.ev.size]) (by rw [h2, h.ev.size]) h.ev.one
theorem SE.yields {w0 : World} {be : Nat} {X : Array Value} {e : List Ar.FV} {ops : Array Oper} {op : Oper} {a : Act} (hw : Region.wanted op (yielded ops a.tmps) = true) (x : Operand) (ho : op.op = .load 40 x) (hx : a.eval x = .pointer (some ⟨be, 0, none⟩)) : YieldsIf Tryz.prog ops (fun W => SE w0 be X e W) op (.agg X) a :=
 .inl ⟨hw, fun w hw' => by
  unfold execOp
  simp only [ho, hx, Instr.loadAt, Instr.sureAddr, Sem.run_bind, Sem.run_pure, Result.andThen_ok, hw'.load]⟩
theorem SE.stores {w0 : World} {be : Nat} {X : Array Value} {e : List Ar.FV} {op : Oper} {a : Act} {w : World} {K : Act → World → Prop} {Q : Exit → Act → World → Prop} {E : Prop} {ops : Array Oper} (hgd : op.guard = none) (h : SE w0 be X e w) (x y : Operand) (ho : op.op = .store 40 x y) (hx : a.eval x = .pointer (some ⟨w0.heap.size, 0, none⟩)) (hy : a.eval y = .agg X) (hK : K (a.put op.dst undef) (w.setRow w0.heap.size X)) : if Region.wanted op (yielded ops a.tmps) = true then op.wp Tryz.prog a w K Q else E := by
 have hw : Region.wanted op (yielded ops a.tmps) = true := by simp [Region.wanted, hgd]
 rw [if_pos hw]
 obtain ⟨old, h1, h2⟩ := h.res
 exact wp_store_row 40 x y ho w0.heap.size X hx hy 40 old h1 (by rw [size_event, h.ev.size]) (by rw [h2, h.ev.size]) h.ev.one hK
def EvA (x : Option (List Ar.FV)) (base : Nat) (r : Ending) (w' : World) : Prop := (∃ e cells, x = some e ∧ r = .returned (.tuple #[.agg cells, .bool true]) ∧ EvOf (fun b => base ≤ b) w' cells e) ∨ (x = none ∧ ∃ cells, r = .returned (.tuple #[.agg cells, .bool false]) ∧ cells.size = 29 ∧ cells.all (·.oneCell') = true)
theorem rdEvent_bad {s w : List UInt8} (h : hasPrefix s w = false) : Ar.rdEvent s w = none := by unfold Ar.rdEvent; rw [if_neg (by rw [h]; decide)]
theorem rdEvent_none {s w : List UInt8} (h : hasPrefix s w = true) (hp : Ar.parse (trimPrefix (s.drop w.length) [32]) = none) : Ar.rdEvent s w = none := by unfold Ar.rdEvent; rw [if_pos h, hp]
theorem rdEvent_ne {s w : List UInt8} {e : List Ar.FV} (h : hasPrefix s w = true) (hp : Ar.parse (trimPrefix (s.drop w.length) [32]) = some e) (ha : Ar.after w (Ar.line e) ≠ s) : Ar.rdEvent s w = none := by unfold Ar.rdEvent; rw [if_pos h, hp]; exact if_neg ha
theorem rdEvent_yes {s w : List UInt8} {e : List Ar.FV} (h : hasPrefix s w = true) (hp : Ar.parse (trimPrefix (s.drop w.length) [32]) = some e) (ha : Ar.after w (Ar.line e) = s) : Ar.rdEvent s w = some e := by unfold Ar.rdEvent; rw [if_pos h, hp]; exact if_pos ha
theorem readev_any (s : ByteArray) (wd : List UInt8) (w : World) (hs : s.size ≤ 100000) (hwd : wd.length ≤ 1000) (hRd : Ready w) :
  Calls Tryz.prog 138 #[.string s, .string (bstr wd)] w fun r w' => EvA (Ar.rdEvent s.data.toList wd) w.heap.size r w' ∧ Below w.heap.size w w' := by
 have HRY := hid hRd
 have HB0 := hid ((Below.refl w.heap.size w).alloc (Nat.le_refl _) (.cells zeroEv 40))
 have HR0 := hid (Blk.new w 40 zeroEv)
 have hcp := Tryz.strings_CutPrefix s (bstr wd)
 rw [show (bstr wd).data.toList = wd from rfl] at hcp
 have HCP := hid hcp
 clear hcp hRd
 by_cases hp : hasPrefix s.data.toList wd = true
 ·have HT : Hid (trimPrefix s.data.toList wd = s.data.toList.drop wd.length) := hid (by unfold trimPrefix; rw [if_pos hp])
  have HP := hid hp
  obtain ⟨T, hT⟩ : ∃ T, trimPrefix (s.data.toList.drop wd.length) [32] = T := ⟨_, rfl⟩
  have HTE := hid hT
  have hTl : T.length ≤ 100000 := by
   rw [← hT]
   have h1 := trimPrefix_le (s.data.toList.drop wd.length) [32]
   rw [List.length_drop] at h1
   have h2 := str_size s
   omega
  have htp := Tryz.strings_TrimPrefix (bstr (s.data.toList.drop wd.length)) ⟨#[32]⟩
  rw [show (bstr (s.data.toList.drop wd.length)).data.toList = s.data.toList.drop wd.length from rfl, show (⟨#[32]⟩ : ByteArray).data.toList = [32] from rfl, hT] at htp
  have HTP := hid htp
  have HRE := hid (fun W h => readevent_any (bstr T) W (by rw [bstr_size]; exact hTl) h)
  rw [show (bstr T).data.toList = T from rfl] at HRE
  have HWK : Hid (∀ e, Ar.parse T = some e → (∀ v ∈ e, v.WOk) ∧ (Ar.line e).length ≤ 100000) := hid (fun e he => ⟨Ar.parse_wok he hTl, by rw [Ar.parse_some he]; exact hTl⟩)
  clear hp hT htp hTl
  go_enter Tryz.func138, Tryz.ntmps138
  go_wp2_with fail
  refine (HCP.out _).mono ?_
  rintro r w1 ⟨rfl, rfl⟩
  rw [HP.out, HT.out, show (⟨(s.data.toList.drop wd.length).toArray⟩ : ByteArray) = bstr (s.data.toList.drop wd.length) from rfl]
  generalize hD : bstr (s.data.toList.drop wd.length) = D at *
  go_wp2_with fail
  refine (HTP.out _).mono ?_
  rintro r w1 ⟨rfl, rfl⟩
  rw [show (⟨T.toArray⟩ : ByteArray) = bstr T from rfl]
  generalize hTT : bstr T = TT at *
  go_wp2_with fail
  refine (HRE.out _ (HRY.out.below HB0.out)).mono ?_
  rintro r w2 ⟨hrev, hb2⟩
  have HB2 := hid (HB0.out.trans (hb2.mono HB0.out.size))
  have HR2 := hid (HR0.out.below hb2 HR0.out.lt)
  have hs2 : w.heap.size < w2.heap.size := HR2.out.lt
  clear hb2
  rcases hrev with ⟨e, X, hpe, rfl, hx⟩ | ⟨hpe, rfl⟩
  ·have HPE := hid hpe
   obtain ⟨hwk, hll⟩ := HWK.out e hpe
   have HS2 : Hid ((Tryz.prog.info? 40).map (·.size) = some X.size) := hid (by rw [size_event, hx.size])
   have HO2 := hid hx.one
   have HZ2 : Hid (zeroEv.size = X.size) := hid (by rw [hx.size]; rfl)
   have HX2 : Hid (EvOf (fun b => w.heap.size < b) w2 X e) := hid (hx.keep fun b hb _ => ⟨by rw [World.size_alloc] at hb; omega, rfl⟩)
   have HEV := hid (fun W (h : EvOf (fun b => w.heap.size < b) W X e) => event_any _ X e W h hwk (by omega))
   have HAF := hid (fun W => after_any wd (Ar.line e) W (by omega) (by omega))
   have hcmp : ((bstr (Ar.after wd (Ar.line e))).toList == s.toList) = (Ar.after wd (Ar.line e) == s.data.toList) := by rw [Lib.toList_data s]; exact str_cmp _ _
   have HYES := hid (fun h => rdEvent_yes HP.out (HTE.out ▸ hpe) (e := e) h)
   have HNO := hid (fun h => rdEvent_ne HP.out (HTE.out ▸ hpe) (e := e) h)
   clear hpe hwk hll hx
   go_wp2_with ((with_reducible refine wpList_store_row' rfl 40 _ _ rfl w2.heap.size X ?_ ?_ 40 _ (Blk.new w2 40 _) HS2.out ?_ HO2.out ?_); rfl; rfl; exact HZ2.out; intro w3 hk3 hs3 hbl3; have hz3 := ((Below.refl w2.heap.size w2).alloc (Nat.le_refl _) (.cells zeroEv 40)).trans (hbl3 w2.heap.size (Nat.le_refl _)); have HB3 := hid (HB2.out.trans (hz3.mono HB2.out.size)); have HX3 := hid (HX2.out.below hz3); have HR3 := hid (HR2.out.below hz3 hs2); have HK3 := hid hk3; clear hk3 hs3 hbl3 hz3)
   have hSE : SE w w2.heap.size X e w3 := ⟨HX3.out, HK3.out, ⟨_, HR3.out, rfl⟩, HB3.out, hs2⟩
   refine wp_region_noPanic ?_
   refine wp_region_held_drew (S := fun W => SE w w2.heap.size X e W) (by kernel_rfl) hSE.drew (fun hHeld => ?_)
   refine wpAnyH_take (i := 0) (oi := _) (v := _) rfl (by kernel_rfl) (by kernel_rfl) (by kernel_rfl) (fun _ _ _ h => h) (SE.yields (by rfl) _ rfl rfl) (by assumption) ?_
   (try simp only [Act.put, List.getElem_toArray, List.getElem_cons_zero, List.getElem_cons_succ, List.setIfInBounds_toArray, List.set_cons_zero, List.set_cons_succ])
   refine wpAnyH_take (i := 1) (oi := _) (v := ?_) rfl (by kernel_rfl) (by kernel_rfl) (by kernel_rfl) (fun _ _ _ h => h) (Or.inl ⟨by rfl, ?_⟩) (by assumption) ?_
   rotate_left
   ·intro wq hSw
    (try dsimp only at hSw)
    go_simp
    (try with_reducible rfl)
   (try simp only [Act.put, List.getElem_toArray, List.getElem_cons_zero, List.getElem_cons_succ, List.setIfInBounds_toArray, List.set_cons_zero, List.set_cons_succ])
   refine wpAnyH_take (i := 2) (oi := _) (v := ?_) rfl (by kernel_rfl) (by kernel_rfl) (by kernel_rfl) (fun _ _ _ h => h) (Or.inl ⟨by rfl, ?_⟩) (by assumption) ?_
   rotate_left
   ·intro wq hSw
    (try dsimp only at hSw)
    go_simp
    (try with_reducible rfl)
   (try simp only [Act.put, List.getElem_toArray, List.getElem_cons_zero, List.getElem_cons_succ, List.setIfInBounds_toArray, List.set_cons_zero, List.set_cons_succ])
   refine wpAnyH_take (i := 3) (oi := _) (v := ?_) rfl (by kernel_rfl) (by kernel_rfl) (by kernel_rfl) (fun _ _ _ h => h) (Or.inl ⟨by rfl, ?_⟩) (by assumption) ?_
   rotate_left
   ·intro wq hSw
    (try dsimp only at hSw)
    go_simp
    (try with_reducible rfl)
   (try simp only [Act.put, List.getElem_toArray, List.getElem_cons_zero, List.getElem_cons_succ, List.setIfInBounds_toArray, List.set_cons_zero, List.set_cons_succ])
   refine wpAnyH_take (i := 4) (oi := _) (v := ?_) rfl (by kernel_rfl) (by kernel_rfl) (by kernel_rfl) (fun _ _ _ h => h) (Or.inl ⟨by rfl, ?_⟩) (by assumption) ?_
   rotate_left
   ·intro wq hSw
    (try dsimp only at hSw)
    go_simp
    (try with_reducible rfl)
   (try simp only [Act.put, List.getElem_toArray, List.getElem_cons_zero, List.getElem_cons_succ, List.setIfInBounds_toArray, List.set_cons_zero, List.set_cons_succ])
   refine wpAnyH_take (i := 5) (oi := _) (v := _) rfl (by kernel_rfl) (by kernel_rfl) (by kernel_rfl) (fun _ _ _ h => h) (SE.yields (by rfl) _ rfl rfl) (by assumption) ?_
   (try simp only [Act.put, List.getElem_toArray, List.getElem_cons_zero, List.getElem_cons_succ, List.setIfInBounds_toArray, List.set_cons_zero, List.set_cons_succ])
   refine wpAnyH_take (i := 8) (oi := _) (v := ?_) rfl (by kernel_rfl) (by kernel_rfl) (by kernel_rfl) (fun _ _ _ h => h) (Or.inl ⟨by rfl, ?_⟩) (by assumption) ?_
   rotate_left
   ·intro wq hSw
    (try dsimp only at hSw)
    go_simp
    (try with_reducible rfl)
   (try simp only [Act.put, List.getElem_toArray, List.getElem_cons_zero, List.getElem_cons_succ, List.setIfInBounds_toArray, List.set_cons_zero, List.set_cons_succ])
   refine wpAnyH_ready (rs := [6]) (by kernel_rfl) (by simp) ?_
   refine AllReadyH.cons (o := _) rfl (fun K hK => ?_) AllReadyH.nil
   go_simp
   go_at_call 19
   refine (HEV.out _ hHeld.ev).mono ?_
   rintro e wA ⟨rfl, hbA⟩
   replace hbA : Nx _ _ := hbA
   refine hK.out _ _ ?_ (fun hHeld2 => ?_)
   ·exact SE.nx hbA hHeld
   clear hK K
   (try simp only [Act.put, List.getElem_toArray, List.getElem_cons_zero, List.getElem_cons_succ, List.setIfInBounds_toArray, List.set_cons_zero, List.set_cons_succ])
   clear hHeld
   have hHeld := hHeld2
   clear hHeld2
   refine wpAnyH_ready (rs := [7]) (by kernel_rfl) (by simp) ?_
   refine AllReadyH.cons (o := _) rfl (fun K hK => ?_) AllReadyH.nil
   go_simp
   go_at_call 63
   refine (HAF.out _).mono ?_
   rintro e wB ⟨rfl, hwB⟩
   subst hwB
   refine hK.out _ _ ?_ (fun hHeld2 => ?_)
   ·exact hHeld
   clear hK K
   (try simp only [Act.put, List.getElem_toArray, List.getElem_cons_zero, List.getElem_cons_succ, List.setIfInBounds_toArray, List.set_cons_zero, List.set_cons_succ])
   clear hHeld2
   cases hcv : (Ar.after wd (Ar.line e) == s.data.toList) with
   | true =>
    rw [hcv] at hcmp
    refine wpAnyH_take (i := 9) (oi := _) (v := ?_) rfl (by kernel_rfl) (by kernel_rfl) (by kernel_rfl) (fun _ _ _ h => h) (Or.inl ⟨by rfl, ?_⟩) (by assumption) ?_
    rotate_left
    ·intro wq hSw
     (try dsimp only at hSw)
     go_simp
     (try with_reducible rfl)
    (try simp only [Act.put, List.getElem_toArray, List.getElem_cons_zero, List.getElem_cons_succ, List.setIfInBounds_toArray, List.set_cons_zero, List.set_cons_succ])
    refine wpAnyH_take (i := 10) (oi := _) (v := ?_) rfl (by kernel_rfl) (by kernel_rfl) (by kernel_rfl) (fun _ _ _ h => h) (Or.inl ⟨by rfl, ?_⟩) (by assumption) ?_
    rotate_left
    ·intro wq hSw
     (try dsimp only at hSw)
     go_simp
     (try with_reducible rfl)
    (try simp only [Act.put, List.getElem_toArray, List.getElem_cons_zero, List.getElem_cons_succ, List.setIfInBounds_toArray, List.set_cons_zero, List.set_cons_succ])
    refine wpAnyH_ready (rs := [11]) (by kernel_rfl) (by simp) ?_
    refine AllReadyH.cons (o := _) rfl (fun K hK => ?_) AllReadyH.nil
    refine SE.stores rfl hHeld _ _ rfl rfl rfl ?_
    refine hK.out _ _ ?_ (fun hHeld2 => ?_)
    ·exact hHeld.set
    clear hK K
    (try simp only [Act.put, List.getElem_toArray, List.getElem_cons_zero, List.getElem_cons_succ, List.setIfInBounds_toArray, List.set_cons_zero, List.set_cons_succ])
    refine wpAnyH_take (i := 12) (oi := _) (v := ?_) rfl (by kernel_rfl) (by kernel_rfl) (by kernel_rfl) (fun _ _ _ h => h) (Or.inl ⟨by rfl, ?_⟩) (by assumption) ?_
    rotate_left
    ·intro wq hSw
     (try dsimp only at hSw)
     go_simp
     (try with_reducible rfl)
    (try simp only [Act.put, List.getElem_toArray, List.getElem_cons_zero, List.getElem_cons_succ, List.setIfInBounds_toArray, List.set_cons_zero, List.set_cons_succ])
    refine wpAnyH_done (by kernel_rfl) ?_ _
    refine NoPanic.normal ?_
    obtain ⟨hk9, he9, hb9⟩ := hHeld.done
    go_wp2_with fail
    refine bodyPost_ret (results_row_tmp rfl _ _ w.heap.size _ X _ rfl hk9 Tryz.underlying40 rfl HS2.out) rfl ?_
    exact ⟨.inl ⟨e, X, HYES.out (beq_iff_eq.1 hcv), rfl, he9⟩, hb9⟩
   | false =>
    rw [hcv] at hcmp
    refine wpAnyH_take (i := 9) (oi := _) (v := ?_) rfl (by kernel_rfl) (by kernel_rfl) (by kernel_rfl) (fun _ _ _ h => h) (Or.inl ⟨by rfl, ?_⟩) (by assumption) ?_
    rotate_left
    ·intro wq hSw
     (try dsimp only at hSw)
     go_simp
     (try with_reducible rfl)
    (try simp only [Act.put, List.getElem_toArray, List.getElem_cons_zero, List.getElem_cons_succ, List.setIfInBounds_toArray, List.set_cons_zero, List.set_cons_succ])
    refine wpAnyH_take (i := 10) (oi := _) (v := ?_) rfl (by kernel_rfl) (by kernel_rfl) (by kernel_rfl) (fun _ _ _ h => h) (Or.inl ⟨by rfl, ?_⟩) (by assumption) ?_
    rotate_left
    ·intro wq hSw
     (try dsimp only at hSw)
     go_simp
     (try with_reducible rfl)
    (try simp only [Act.put, List.getElem_toArray, List.getElem_cons_zero, List.getElem_cons_succ, List.setIfInBounds_toArray, List.set_cons_zero, List.set_cons_succ])
    refine wpAnyH_ready (rs := [11]) (by kernel_rfl) (by simp) ?_
    refine AllReadyH.cons (o := _) rfl (fun K hK => ?_) AllReadyH.nil
    refine SE.stores rfl hHeld _ _ rfl rfl rfl ?_
    refine hK.out _ _ ?_ (fun hHeld2 => ?_)
    ·exact hHeld.set
    clear hK K
    (try simp only [Act.put, List.getElem_toArray, List.getElem_cons_zero, List.getElem_cons_succ, List.setIfInBounds_toArray, List.set_cons_zero, List.set_cons_succ])
    refine wpAnyH_take (i := 12) (oi := _) (v := ?_) rfl (by kernel_rfl) (by kernel_rfl) (by kernel_rfl) (fun _ _ _ h => h) (Or.inl ⟨by rfl, ?_⟩) (by assumption) ?_
    rotate_left
    ·intro wq hSw
     (try dsimp only at hSw)
     go_simp
     (try with_reducible rfl)
    (try simp only [Act.put, List.getElem_toArray, List.getElem_cons_zero, List.getElem_cons_succ, List.setIfInBounds_toArray, List.set_cons_zero, List.set_cons_succ])
    refine wpAnyH_done (by kernel_rfl) ?_ _
    refine NoPanic.normal ?_
    obtain ⟨hk9, he9, hb9⟩ := hHeld.done
    go_wp2_with fail
    refine bodyPost_ret (results_row_tmp rfl _ _ w.heap.size _ X _ rfl hk9 Tryz.underlying40 rfl HS2.out) rfl ?_
    exact ⟨.inr ⟨HNO.out (beq_eq_false_iff_ne.1 hcv), X, rfl, by have := HS2.out; rw [size_event] at this; injection this with this; exact this.symm, HO2.out⟩, hb9⟩
  ·have HNO : Hid (Ar.rdEvent s.data.toList wd = none) := hid (rdEvent_none HP.out (HTE.out ▸ hpe))
   clear hpe
   have HS2 : Hid ((Tryz.prog.info? 40).map (·.size) = some zeroEv.size) := hid (by rw [size_event]; rfl)
   go_wp2_with ((with_reducible refine wpList_store_row' rfl 40 _ _ rfl w2.heap.size zeroEv ?_ ?_ 40 _ (Blk.new w2 40 _) HS2.out ?_ zero_one ?_); rfl; rfl; rfl; intro w3 hk3 hs3 hbl3; have hz3 := ((Below.refl w2.heap.size w2).alloc (Nat.le_refl _) (.cells zeroEv 40)).trans (hbl3 w2.heap.size (Nat.le_refl _)); have HB3 := hid (HB2.out.trans (hz3.mono HB2.out.size)); have HR3 := hid (HR2.out.below hz3 hs2); have HK3 := hid hk3; clear hk3 hs3 hbl3 hz3)
   have hSE : SE w w2.heap.size zeroEv (Ar.zeros Ar.NK) w3 := ⟨(zero_ev _ _), HK3.out, ⟨_, HR3.out, rfl⟩, HB3.out, hs2⟩
   refine wp_region_noPanic ?_
   refine wp_region_held_drew (S := fun W => SE w w2.heap.size zeroEv (Ar.zeros Ar.NK) W) (by kernel_rfl) hSE.drew (fun hHeld => ?_)
   refine wpAnyH_take (i := 0) (oi := _) (v := _) rfl (by kernel_rfl) (by kernel_rfl) (by kernel_rfl) (fun _ _ _ h => h) (SE.yields (by rfl) _ rfl rfl) (by assumption) ?_
   (try simp only [Act.put, List.getElem_toArray, List.getElem_cons_zero, List.getElem_cons_succ, List.setIfInBounds_toArray, List.set_cons_zero, List.set_cons_succ])
   refine wpAnyH_take (i := 1) (oi := _) (v := ?_) rfl (by kernel_rfl) (by kernel_rfl) (by kernel_rfl) (fun _ _ _ h => h) (Or.inl ⟨by rfl, ?_⟩) (by assumption) ?_
   rotate_left
   ·intro wq hSw
    (try dsimp only at hSw)
    go_simp
    (try with_reducible rfl)
   (try simp only [Act.put, List.getElem_toArray, List.getElem_cons_zero, List.getElem_cons_succ, List.setIfInBounds_toArray, List.set_cons_zero, List.set_cons_succ])
   refine wpAnyH_take (i := 2) (oi := _) (v := ?_) rfl (by kernel_rfl) (by kernel_rfl) (by kernel_rfl) (fun _ _ _ h => h) (Or.inl ⟨by rfl, ?_⟩) (by assumption) ?_
   rotate_left
   ·intro wq hSw
    (try dsimp only at hSw)
    go_simp
    (try with_reducible rfl)
   (try simp only [Act.put, List.getElem_toArray, List.getElem_cons_zero, List.getElem_cons_succ, List.setIfInBounds_toArray, List.set_cons_zero, List.set_cons_succ])
   refine wpAnyH_take (i := 3) (oi := _) (v := ?_) rfl (by kernel_rfl) (by kernel_rfl) (by kernel_rfl) (fun _ _ _ h => h) (Or.inl ⟨by rfl, ?_⟩) (by assumption) ?_
   rotate_left
   ·intro wq hSw
    (try dsimp only at hSw)
    go_simp
    (try with_reducible rfl)
   (try simp only [Act.put, List.getElem_toArray, List.getElem_cons_zero, List.getElem_cons_succ, List.setIfInBounds_toArray, List.set_cons_zero, List.set_cons_succ])
   refine wpAnyH_take (i := 4) (oi := _) (v := undef) rfl (by kernel_rfl) (by kernel_rfl) (by kernel_rfl) (fun _ _ _ h => h) (Or.inr ⟨by rfl, rfl⟩) (by assumption) ?_
   (try simp only [Act.put, List.getElem_toArray, List.getElem_cons_zero, List.getElem_cons_succ, List.setIfInBounds_toArray, List.set_cons_zero, List.set_cons_succ])
   refine wpAnyH_take (i := 5) (oi := _) (v := undef) rfl (by kernel_rfl) (by kernel_rfl) (by kernel_rfl) (fun _ _ _ h => h) (Or.inr ⟨by rfl, rfl⟩) (by assumption) ?_
   (try simp only [Act.put, List.getElem_toArray, List.getElem_cons_zero, List.getElem_cons_succ, List.setIfInBounds_toArray, List.set_cons_zero, List.set_cons_succ])
   refine wpAnyH_take (i := 6) (oi := _) (v := undef) rfl (by kernel_rfl) (by kernel_rfl) (by kernel_rfl) (fun _ _ _ h => h) (Or.inr ⟨by rfl, rfl⟩) (by assumption) ?_
   (try simp only [Act.put, List.getElem_toArray, List.getElem_cons_zero, List.getElem_cons_succ, List.setIfInBounds_toArray, List.set_cons_zero, List.set_cons_succ])
   refine wpAnyH_take (i := 7) (oi := _) (v := undef) rfl (by kernel_rfl) (by kernel_rfl) (by kernel_rfl) (fun _ _ _ h => h) (Or.inr ⟨by rfl, rfl⟩) (by assumption) ?_
   (try simp only [Act.put, List.getElem_toArray, List.getElem_cons_zero, List.getElem_cons_succ, List.setIfInBounds_toArray, List.set_cons_zero, List.set_cons_succ])
   refine wpAnyH_take (i := 8) (oi := _) (v := undef) rfl (by kernel_rfl) (by kernel_rfl) (by kernel_rfl) (fun _ _ _ h => h) (Or.inr ⟨by rfl, rfl⟩) (by assumption) ?_
   (try simp only [Act.put, List.getElem_toArray, List.getElem_cons_zero, List.getElem_cons_succ, List.setIfInBounds_toArray, List.set_cons_zero, List.set_cons_succ])
   refine wpAnyH_take (i := 9) (oi := _) (v := undef) rfl (by kernel_rfl) (by kernel_rfl) (by kernel_rfl) (fun _ _ _ h => h) (Or.inr ⟨by rfl, rfl⟩) (by assumption) ?_
   (try simp only [Act.put, List.getElem_toArray, List.getElem_cons_zero, List.getElem_cons_succ, List.setIfInBounds_toArray, List.set_cons_zero, List.set_cons_succ])
   refine wpAnyH_take (i := 10) (oi := _) (v := ?_) rfl (by kernel_rfl) (by kernel_rfl) (by kernel_rfl) (fun _ _ _ h => h) (Or.inl ⟨by rfl, ?_⟩) (by assumption) ?_
   rotate_left
   ·intro wq hSw
    (try dsimp only at hSw)
    go_simp
    (try with_reducible rfl)
   (try simp only [Act.put, List.getElem_toArray, List.getElem_cons_zero, List.getElem_cons_succ, List.setIfInBounds_toArray, List.set_cons_zero, List.set_cons_succ])
   refine wpAnyH_ready (rs := [11]) (by kernel_rfl) (by simp) ?_
   refine AllReadyH.cons (o := _) rfl (fun K hK => ?_) AllReadyH.nil
   refine SE.stores rfl hHeld _ _ rfl rfl rfl ?_
   refine hK.out _ _ ?_ (fun hHeld2 => ?_)
   ·exact hHeld.set
   clear hK K
   (try simp only [Act.put, List.getElem_toArray, List.getElem_cons_zero, List.getElem_cons_succ, List.setIfInBounds_toArray, List.set_cons_zero, List.set_cons_succ])
   refine wpAnyH_take (i := 12) (oi := _) (v := ?_) rfl (by kernel_rfl) (by kernel_rfl) (by kernel_rfl) (fun _ _ _ h => h) (Or.inl ⟨by rfl, ?_⟩) (by assumption) ?_
   rotate_left
   ·intro wq hSw
    (try dsimp only at hSw)
    go_simp
    (try with_reducible rfl)
   (try simp only [Act.put, List.getElem_toArray, List.getElem_cons_zero, List.getElem_cons_succ, List.setIfInBounds_toArray, List.set_cons_zero, List.set_cons_succ])
   refine wpAnyH_done (by kernel_rfl) ?_ _
   refine NoPanic.normal ?_
   obtain ⟨hk9, he9, hb9⟩ := hHeld.done
   go_wp2_with fail
   refine bodyPost_ret (results_row_tmp rfl _ _ w.heap.size _ zeroEv _ rfl hk9 Tryz.underlying40 rfl size_event) rfl ?_
   exact ⟨.inr ⟨HNO.out, zeroEv, rfl, rfl, zero_one⟩, hb9⟩
 ·have hp' : hasPrefix s.data.toList wd = false := by simpa using hp
  have HP := hid hp'
  have HNO := hid (rdEvent_bad hp')
  clear hp hp'
  go_enter Tryz.func138, Tryz.ntmps138
  go_wp2_with fail
  refine (HCP.out _).mono ?_
  rintro r w1 ⟨rfl, hw1⟩
  have HR1 : Hid (Blk w1 w.heap.size 40 zeroEv) := hid (by rw [hw1]; exact HR0.out)
  have HB1 : Hid (Below w.heap.size w w1) := hid (by rw [hw1]; exact HB0.out)
  clear hw1
  rw [HP.out]
  go_wp2_with ((with_reducible refine wpList_store_rowq rfl 40 _ _ rfl w.heap.size zeroEv ?_ ?_ 40 zeroEv HR1.out ?_ rfl zero_one ?_); rfl; rfl; exact size_event; intro wz hkz hsz hblz hotz)
  refine bodyPost_ret (results_row_tmp rfl _ _ w.heap.size _ zeroEv _ rfl hkz Tryz.underlying40 rfl size_event) rfl ?_
  exact ⟨.inr ⟨HNO.out, zeroEv, rfl, rfl, zero_one⟩, HB1.out.trans (hblz _ (Nat.le_refl _))⟩
end Go.Proofs.YteadlcncnhbmjaaGreatDoor
/- The text Rh0. -/
namespace Go.Proofs.YteadlcncnhbmjaaGreatDoor
open Go.RowKit Go.Lib
set_option linter.unusedVariables false
theorem emp_t {t : List UInt8} (h : t = []) : (bstr t).toList.isEmpty = true := by rw [h, Lib.toList_data]; rfl
theorem emp_f {t : List UInt8} (h : t ≠ []) : (bstr t).toList.isEmpty = false := by
 rw [Lib.toList_data]
 show t.isEmpty = false
 cases t with
 | nil => exact absurd rfl h
 | cons c b => rfl
section
variable {P : Program} {ops : Array Oper} {Q : Exit → Act → World → Prop} {md : Region.Mode} {C : World → Prop} {late : Nat → Bool}
def AnyT (P : Program) (md : Region.Mode) (ops : Array Oper) (Q : Exit → Act → World → Prop) (C : World → Prop) (late : Nat → Bool) : Nat → Array Bool → Act → World → Prop
 | 0, listed, a, w => Region.ready md ops listed = [] ∧ Q .normal a w
 | fuel + 1, listed, a, w =>
  (Region.ready md ops listed = [] → Q .normal a w) ∧
  ∀ i ∈ Region.ready md ops listed, wpOp P ops Q i (fun a' w' => (late i = true ∨ C w') ∧ AnyT P md ops Q C late fuel (listed.setIfInBounds i true) a' w') a w
theorem any_of_till : ∀ (fuel : Nat) (listed : Array Bool) (a : Act) (w : World), AnyT P md ops Q C late fuel listed a w → wpAny P md ops Q fuel listed a w
 | 0, _, _, _, h => h
 | fuel + 1, _, _, _, h => ⟨h.1, fun i hi => wpOp_mono (fun a' w' h' => any_of_till fuel _ a' w' h'.2) (h.2 i hi)⟩
theorem till_first {i : Nat} {oi : Oper} {v : Value} (hi : ops[i]? = some oi) (hsel : ∀ (j : Nat) (o : Oper) cs b, ops[j]? = some o → o.op ≠ .select cs b)
  (hQ : ∀ c a w, Q (.panic c) (a.put oi.dst v) w → Q (.panic c) a w)
  (hlate : ∀ j oj, ops[j]? = some oj → late j = true → ∃ e ∈ oj.after, Region.binds md e = true ∧ e.on = i) :
  ∀ (fuel : Nat) (listed : Array Bool) (a : Act) (w : World),
   (∀ j oj, ops[j]? = some oj → j ≠ i → listed.getD j true = false → (∀ e ∈ oj.after, Region.binds md e = true → e.on ≠ i) → oi.apart ops oj = true) →
   i ∈ Region.ready md ops listed → YieldsIf P ops C oi v a → C w →
   AnyT P md ops Q C late fuel (listed.setIfInBounds i true) (a.put oi.dst v) w → AnyT P md ops Q C late (fuel + 1) listed a w := by
 intro fuel
 induction fuel with
 | zero =>
  intro listed a w _ hr hy hS H
  refine ⟨fun h => (by rw [h] at hr; cases hr), fun j hj => ?_⟩
  by_cases hji : j = i
  ·subst hji; exact hy.wpOp hi hS ⟨.inr hS, H⟩
  ·have := ready_mono hj hji
   rw [H.1] at this
   cases this
 | succ fuel ih =>
  intro listed a w hfree hr hy hS H
  refine ⟨fun h => (by rw [h] at hr; cases hr), fun j hj => ?_⟩
  by_cases hji : j = i
  ·subst hji; exact hy.wpOp hi hS ⟨.inr hS, H⟩
  ·have h1 := H.2 j (ready_mono hj hji)
   obtain ⟨hjun, oj, hoj, hall⟩ := mem_ready.1 hj
   have hnot : ∀ e ∈ oj.after, Region.binds md e = true → e.on ≠ i := fun e he hb heq => by
    have h1 := hall e he hb
    have h0 := (mem_ready.1 hr).1
    rw [heq] at h1
    rcases Nat.lt_or_ge i listed.size with h' | h'
    ·simp [h'] at h0 h1; rw [h0] at h1; cases h1
    ·simp [Array.getElem?_eq_none h'] at h1
   have hjl : late j ≠ true := fun hl => by
    obtain ⟨e, he, hb, heq⟩ := hlate j oj hoj hl
    exact hnot e he hb heq
   have h2 := wpOp_putIf hoj (hfree j oj hoj hji hjun hnot) (fun cs b => hsel i oi cs b hi) (fun cs b => hsel j oj cs b hoj) hQ hy h1
   have hfree' : ∀ k ok, ops[k]? = some ok → k ≠ i → (listed.setIfInBounds j true).getD k true = false →
     (∀ e ∈ ok.after, Region.binds md e = true → e.on ≠ i) → oi.apart ops ok = true := fun k ok hk hki hun hno => by
    refine hfree k ok hk hki ?_ hno
    by_cases hjk : j = k
    ·subst hjk; exact hjun
    ·rw [getD_set_ne true hjk] at hun; exact hun
   refine wpOp_mono (fun a' w' h3 => ⟨h3.2.1, ih (listed.setIfInBounds j true) a' w' hfree' (ready_mono hr (Ne.symm hji)) h3.1 (h3.2.1.resolve_left hjl) ?_⟩) h2
   rw [Array.setIfInBounds_comm _ _ hji]
   exact h3.2.2
def lateOn (md : Region.Mode) (ops : Array Oper) (late : Nat → Bool) (i : Nat) : Bool := (List.range ops.size).all fun j => !late j || match ops[j]? with
 | some oj => oj.after.any fun e => Region.binds md e && e.on == i
 | none => true
theorem lateOn_spec {i : Nat} (h : lateOn md ops late i = true) : ∀ j oj, ops[j]? = some oj → late j = true → ∃ e ∈ oj.after, Region.binds md e = true ∧ e.on = i := by
 intro j oj hj hl
 unfold lateOn at h
 rw [List.all_eq_true] at h
 have h1 := h j (List.mem_range.2 (Array.getElem?_eq_some_iff.1 hj).1)
 rw [hl, hj] at h1
 simp only [Bool.not_true, Bool.false_or, Array.any_eq_true', Bool.and_eq_true, beq_iff_eq] at h1
 obtain ⟨e, he, hb⟩ := h1
 exact ⟨e, he, hb⟩
theorem till_take {i : Nat} {oi : Oper} {v : Value} {fuel : Nat} {listed : Array Bool} {a : Act} {w : World} (hi : ops[i]? = some oi)
  (hs : Region.noSelect ops = true) (hf : Region.free md ops listed i = true) (hr : (Region.ready md ops listed).contains i = true) (hl : lateOn md ops late i = true)
  (hQ : ∀ c a w, Q (.panic c) (a.put oi.dst v) w → Q (.panic c) a w) (hy : YieldsIf P ops C oi v a) (hS : C w)
  (h : AnyT P md ops Q C late fuel (listed.setIfInBounds i true) (a.put oi.dst v) w) : AnyT P md ops Q C late (fuel + 1) listed a w :=
 till_first hi (Region.noSelect_spec hs) hQ (lateOn_spec hl) fuel listed a w (Region.free_spec hi hf) (by simpa using hr) hy hS h
def ReadyT (P : Program) (md : Region.Mode) (ops : Array Oper) (Q : Exit → Act → World → Prop) (C : World → Prop) (late : Nat → Bool) (fuel : Nat) (listed : Array Bool) (a : Act) (w : World) (rs : List Nat) : Prop :=
 ∀ i ∈ rs, wpOp P ops Q i (fun a' w' => (late i = true ∨ C w') ∧ AnyT P md ops Q C late fuel (listed.setIfInBounds i true) a' w') a w
theorem ReadyT.nil {fuel : Nat} {listed : Array Bool} {a : Act} {w : World} : ReadyT P md ops Q C late fuel listed a w [] := fun _ h => by cases h
theorem ReadyT.cons {fuel : Nat} {listed : Array Bool} {a : Act} {w : World} {i : Nat} {o : Oper} {rs : List Nat} (ho : ops[i]? = some o)
  (h : ∀ K' : Act → World → Prop, Shut (∀ a w, (late i = true ∨ C w) → AnyT P md ops Q C late fuel (listed.setIfInBounds i true) a w → K' a w) → if Region.wanted o (yielded ops a.tmps) = true then Oper.wp P o a w K' Q else K' (a.put o.dst undef) w)
  (hs : ReadyT P md ops Q C late fuel listed a w rs) : ReadyT P md ops Q C late fuel listed a w (i :: rs) := fun j hj => by
 rcases List.mem_cons.1 hj with rfl | hj
 ·exact wpOp_step ho (fun K' hK => h K' (fun a w hS hW => hK a w ⟨hS, hW⟩))
 ·exact hs j hj
theorem till_ready {rs : List Nat} {fuel : Nat} {listed : Array Bool} {a : Act} {w : World} (hr : Region.ready md ops listed = rs) (hne : rs ≠ [])
  (h : ReadyT P md ops Q C late fuel listed a w rs) : AnyT P md ops Q C late (fuel + 1) listed a w := ⟨fun h0 => absurd (hr ▸ h0) hne, hr ▸ h⟩
theorem till_done {listed : Array Bool} {a : Act} {w : World} (hr : Region.ready md ops listed = []) (h : Q .normal a w) :
  ∀ fuel, AnyT P md ops Q C late fuel listed a w
 | 0 => ⟨hr, h⟩
 | _ + 1 => ⟨fun _ => h, by rw [hr]; simp⟩
theorem region_till (C : World → Prop) (late : Nat → Bool) {id : Nat} {a : Act} {w : World} (hm : P.follows .mixedOrders = true) (hS : C w.drew)
  (h : C w.drew → AnyT P .any ops Q C late ops.size (Array.replicate ops.size false) a w.drew) : (Code.region id ops true).wp P Q a w :=
 wp_region_any hm (any_of_till _ _ _ _ (h hS))
end
end Go.Proofs.YteadlcncnhbmjaaGreatDoor
/- The text Rf3. -/
namespace Go.Proofs.YteadlcncnhbmjaaGreatDoor
open Go.RowKit Go.Lib
set_option linter.unusedVariables false
set_option linter.unusedSimpArgs false
theorem row_yields {T : TypeId} {d : TypeDesc} {C : World → Prop} {be : Nat} {X : Array Value} {ops : Array Oper} {op : Oper} {a : Act} (hd : (match d with | .struct _ | .array _ _ => true | _ => false) = true) (hu : Tryz.prog.underlying T = some d) (hi : (Tryz.prog.info? T).map (·.size) = some X.size) (hC : ∀ W, C W → Blk W be T X)
  (hw : Region.wanted op (yielded ops a.tmps) = true) (x : Operand) (ho : op.op = .load T x) (hx : a.eval x = .pointer (some ⟨be, 0, none⟩)) : YieldsIf Tryz.prog ops C op (.agg X) a :=
 .inl ⟨hw, fun w hw' => by
  unfold execOp
  simp only [ho, hx, Instr.loadAt, Instr.sureAddr, Sem.run_bind, Sem.run_pure, Result.andThen_ok, run_loadVar_row w be T T X (0, 0) d (hC w hw') hu (by cases d <;> first | rfl | cases hd) hi]⟩
theorem fold_list : ∀ (l : List Value) (k : Nat) (Z : Array Value) (j : Nat), ((l.zipIdx k).foldl (fun cs x => cs.setIfInBounds x.2 x.1) Z)[j]? = if k ≤ j ∧ j < k + l.length ∧ j < Z.size then l[j - k]? else Z[j]?
 | [], k, Z, j => by
  rw [if_neg (by simp only [List.length_nil]; omega)]
  rfl
 | c :: l, k, Z, j => by
  show ((l.zipIdx (k + 1)).foldl _ (Z.setIfInBounds k c))[j]? = _
  rw [fold_list l (k + 1) (Z.setIfInBounds k c) j, Array.size_setIfInBounds, Array.getElem?_setIfInBounds]
  by_cases hkj : k = j
  ·subst hkj
   rw [if_neg (by omega), if_pos rfl]
   by_cases hz : k < Z.size
   ·rw [if_pos hz, if_pos ⟨Nat.le_refl _, by simp, hz⟩, Nat.sub_self]
    rfl
   ·rw [if_neg hz, if_neg (fun h => hz h.2.2), Array.getElem?_eq_none (by omega)]
  ·rw [if_neg hkj]
   by_cases h : k + 1 ≤ j ∧ j < k + 1 + l.length ∧ j < Z.size
   ·rw [if_pos h, if_pos ⟨by omega, by simp only [List.length_cons]; omega, h.2.2⟩, show j - k = (j - (k + 1)) + 1 by omega]
    rfl
   ·rw [if_neg h, if_neg (fun h2 => h ⟨by omega, by have := h2.2.1; simp only [List.length_cons] at this; omega, h2.2.2⟩)]
theorem fold_zip (X Z : Array Value) (h : Z.size = X.size) : X.zipIdx.foldl (fun cs x => cs.setIfInBounds x.2 x.1) Z 0 X.size = X := by
 have e : X.size = X.zipIdx.size := by simp
 rw [e, ← Array.foldl_toList, Array.toList_zipIdx]
 apply Array.ext_getElem?
 intro j
 rw [fold_list, Array.length_toList, Nat.zero_add, Nat.sub_zero]
 by_cases hj : j < X.size
 ·rw [if_pos ⟨Nat.zero_le _, hj, by omega⟩, Array.getElem?_toList]
 ·rw [if_neg (fun h => hj h.2.1), Array.getElem?_eq_none (by omega), Array.getElem?_eq_none (by omega)]
theorem own_uniq {w : World} {base size n : Nat} {e : TypeId} {v : Value} {xs ys : List Value} (h1 : w.ownsRow base e size v n xs) (h2 : w.ownsRow base e size v n ys) : xs = ys := by
 obtain ⟨a1, b1⟩ := h1
 obtain ⟨a2, b2⟩ := h2
 rcases b1 with ⟨rfl, rfl⟩ | ⟨g, cap, cur, rfl, hg, hh, hn, hcap, hsz, ht⟩
 ·rw [Nat.zero_mul] at a1 a2
  rw [List.eq_nil_of_length_eq_zero a1, List.eq_nil_of_length_eq_zero a2]
 ·rcases b2 with ⟨e1, _⟩ | ⟨g', cap', cur', e1, hg', hh', hn', hcap', hsz', ht'⟩
  ·cases e1
  ·injection e1 with e2 e3 e4
   injection e2 with e2
   injection e2 with e5 e6
   subst e5
   rw [hh] at hh'
   injection hh' with hh'
   injection hh' with hh'
   subst hh'
   rw [← ht, ← ht']
theorem chb {w w' : World} {g : Nat} {row : Option Nat} (hb : Below w.heap.size w w') : Ch w w' g row := ⟨hb.os, hb.tape, hb.output, hb.size, fun k hk _ _ => hb.block k hk⟩
theorem ev_far {w w3 w10 : World} {g i : Nat} {O : List (Option Nat)} {o o' : Option Nat} {X : Array Value} {e : List Ar.FV} (h : EvOf (fun b => w.heap.size ≤ b) w3 X e) (hg : g < w.heap.size) (hO : ∀ o ∈ O, ∀ k, o = some k → k < w.heap.size) (hi : O[i]? = some o) (hf : Fresh w3.heap.size o o') (hch : Ch w3 w10 g o) : EvOf (far g (O.set i o')) w10 X e := by
 refine h.keep fun b hb hlt => ⟨⟨by omega, fun hm => ?_⟩, hch.block b hlt (by omega) (fun e => ?_)⟩
 ·rcases mem_set hi hf _ hm with h1 | ⟨k, hk, e⟩
  ·have := hO _ h1 b rfl; omega
  ·injection e with e; omega
 ·have := hO _ (List.mem_of_getElem? hi) b e.symm; omega
theorem info_ev : (Tryz.prog.info? 40).map (fun i => (i.zero, i.size, i.bytes)) = some (some (.agg zeroEv), 29, 376) := by kernel_rfl
theorem rowEv : RowT 48 40 29 376 := ⟨Tryz.underlying48, ⟨_, info_ev, rfl⟩, by decide, by decide⟩
theorem rdline_event (s : ByteArray) (g : Nat) (r : Ar.Rm) (w : World) (hs : s.size ≤ 100000) (hRd : Ready w) (hx : RmX w g r) (hg3 : 3 ≤ g) (hn : r.num ≤ 1000000) (hw : (Lib.cut s.data.toList [32]).1 = [101, 118, 101, 110, 116]) : Calls Tryz.prog 77 #[.string s, .pointer (some ⟨g, 0, none⟩)] w (RlA g w (Ar.rdLine s.data.toList r)) := by
 have HL : Hid (Ar.rdLine s.data.toList r = Ar.retK r 2 ((Ar.rdEvent s.data.toList [101, 118, 101, 110, 116]).map fun e => Ar.upE r e)) := hid (by rw [Ar.rdLine_eq, hw, if_pos (show [101, 118, 101, 110, 116] = Ar.evN from rfl)]; rfl)
 obtain ⟨mx, hmx⟩ := hRd.1
 have hcut := Tryz.strings_Cut s ⟨#[32]⟩ mx w (by omega) hmx
 rw [show (⟨#[32]⟩ : ByteArray).data.toList = [32] from rfl, hw] at hcut
 rw [show (⟨[101, 118, 101, 110, 116].toArray⟩ : ByteArray) = bstr [101, 118, 101, 110, 116] from rfl] at hcut
 have HCUT := hid hcut
 have h1 : ((bstr [101, 118, 101, 110, 116]).toList == [101, 118, 101, 110, 116]) = true := by rw [str_cmp]; rfl
 have HQ := hid (fun q => readev_any s [101, 118, 101, 110, 116] (w.drewN q) hs (by decide) (hRd.below (below_drewN (Below.refl _ _) q)))
 obtain ⟨cE, cR, cW, cH, cS, cC, cT, hrm0⟩ := hx
 have HR0 := hid hrm0
 have hlt := hrm0.blk.lt
 rw [HL.out]
 clear hcut hmx hw hRd hrm0 HL
 generalize (Lib.cut s.data.toList [32]).2.1.toArray = S2 at *
 generalize (Lib.cut s.data.toList [32]).2.2 = B2 at *
 generalize hSW : bstr [101, 118, 101, 110, 116] = SW at *
 go_enter Tryz.func77, Tryz.ntmps77
 go_wp2_with fail
 refine HCUT.out.mono ?_
 rintro e w1 ⟨rfl, q2, rfl⟩
 go_wp2_with fail
 refine (HQ.out q2).mono ?_
 rintro r0 w2 ⟨hev, hb2⟩
 have HX2 : Hid (RmO w2 g r cE cR cW cH cS cC cT) := hid (HR0.out.below ⟨hb2.os, hb2.tape, hb2.output, hb2.size, hb2.block⟩)
 have HB2 : Hid (Below w.heap.size w w2) := hid ⟨hb2.os, hb2.tape, hb2.output, hb2.size, hb2.block⟩
 clear hb2
 rcases hev with ⟨e, X, he, rfl, hx2⟩ | ⟨he, X, rfl, hxs, hx1⟩
 ·have HE := hid he
  have HV2 : Hid (EvOf (fun b => w.heap.size ≤ b) w2 X e) := hid hx2
  have HS2 : Hid ((Tryz.prog.info? 40).map (·.size) = some X.size) := hid (by rw [size_event, hx2.size])
  have HO2 := hid hx2.one
  have HZ2 : Hid (zeroEv.size = X.size) := hid (by rw [hx2.size]; rfl)
  clear he hx2
  go_wp2_with ((with_reducible refine wpList_store_row' rfl 40 _ _ rfl w2.heap.size X ?_ ?_ 40 _ (Blk.new w2 40 _) HS2.out ?_ HO2.out ?_); rfl; rfl; exact HZ2.out; intro w3 hk3 hs3 hbl3; have hz3 := ((Below.refl w2.heap.size w2).alloc (Nat.le_refl _) (.cells zeroEv 40)).trans (hbl3 w2.heap.size (Nat.le_refl _)); have HRM := hid (HX2.out.below hz3); have HB3 := hid (HB2.out.trans (hz3.mono HB2.out.size)); have HV3 := hid (HV2.out.below hz3); have HK3 := hid hk3; clear hk3 hs3 hbl3 hz3)
  have hrm := HRM.out
  have hs2 := HB2.out.size
  have hs3 := HB3.out.size
  have hk3 := HK3.out.lt
  obtain ⟨xs, hown, _⟩ := hrm.ev
  have HOWN := hid hown
  obtain ⟨A0, c0, rfl⟩ := own_any hown
  have HLT : Hid (∀ k, (Value.slice A0 r.events.length c0).ownBlock = some k → g + 1 ≤ k ∧ k < w.heap.size) := hid (fun k hk => ⟨(HOWN.out.lt k hk).1, HR0.out.lt _ (by unfold ownL; simp) k hk⟩)
  clear hown
  have hc0 := hrm.blk.cell 1
  have hf0 := hrm.blk.frozen 1
  rw [show (#[.string (bstr r.id), .slice A0 r.events.length c0, cR, cW, cH, cS, .int .i64 r.next, cC, cT] : Array Value)[1]? = some (.slice A0 r.events.length c0) from rfl] at hc0
  clear hrm
  have HSX : Hid (X.size = 29) := hid (by have := HS2.out; rw [size_event] at this; injection this with this; exact this.symm)
  have hnum : r.events.length ≤ 1000000 := by unfold Ar.Rm.num at hn; omega
  refine wp_region_noPanic ?_
  refine region_till (fun W => W.cell? ⟨g, 1, none⟩ = some (.slice A0 r.events.length c0) ∧ Blk W w2.heap.size 40 X) (fun i => i == 10) (by kernel_rfl) ⟨hc0, HK3.out.drew⟩ (fun hHeld => ?_)
  refine till_take (i := 0) (oi := _) (v := ?_) rfl (by kernel_rfl) (by kernel_rfl) (by kernel_rfl) (by kernel_rfl) (fun _ _ _ h => h) (Or.inl ⟨by rfl, ?_⟩) hHeld ?_
  rotate_left
  ·intro wq hSw
   obtain ⟨hSw1, hSw2⟩ := hSw
   go_simp
   (try with_reducible rfl)
  (try simp only [Act.put, List.getElem_toArray, List.getElem_cons_zero, List.getElem_cons_succ, List.setIfInBounds_toArray, List.set_cons_zero, List.set_cons_succ])
  refine till_take (i := 1) (oi := _) (v := ?_) rfl (by kernel_rfl) (by kernel_rfl) (by kernel_rfl) (by kernel_rfl) (fun _ _ _ h => h) (Or.inl ⟨by rfl, ?_⟩) hHeld ?_
  rotate_left
  ·intro wq hSw
   obtain ⟨hSw1, hSw2⟩ := hSw
   go_simp
   (try with_reducible rfl)
  (try simp only [Act.put, List.getElem_toArray, List.getElem_cons_zero, List.getElem_cons_succ, List.setIfInBounds_toArray, List.set_cons_zero, List.set_cons_succ])
  refine till_take (i := 2) (oi := _) (v := ?_) rfl (by kernel_rfl) (by kernel_rfl) (by kernel_rfl) (by kernel_rfl) (fun _ _ _ h => h) (Or.inl ⟨by rfl, ?_⟩) hHeld ?_
  rotate_left
  ·intro wq hSw
   obtain ⟨hSw1, hSw2⟩ := hSw
   go_simp
   (try with_reducible rfl)
  (try simp only [Act.put, List.getElem_toArray, List.getElem_cons_zero, List.getElem_cons_succ, List.setIfInBounds_toArray, List.set_cons_zero, List.set_cons_succ])
  refine till_take (i := 3) (oi := _) (v := ?_) rfl (by kernel_rfl) (by kernel_rfl) (by kernel_rfl) (by kernel_rfl) (fun _ _ _ h => h) (Or.inl ⟨by rfl, ?_⟩) hHeld ?_
  rotate_left
  ·intro wq hSw
   obtain ⟨hSw1, hSw2⟩ := hSw
   go_simp
   (try with_reducible rfl)
  (try simp only [Act.put, List.getElem_toArray, List.getElem_cons_zero, List.getElem_cons_succ, List.setIfInBounds_toArray, List.set_cons_zero, List.set_cons_succ])
  refine till_take (i := 4) (oi := _) (v := ?_) rfl (by kernel_rfl) (by kernel_rfl) (by kernel_rfl) (by kernel_rfl) (fun _ _ _ h => h) (Or.inl ⟨by rfl, ?_⟩) hHeld ?_
  rotate_left
  ·intro wq hSw
   obtain ⟨hSw1, hSw2⟩ := hSw
   go_simp
   (try with_reducible rfl)
  (try simp only [Act.put, List.getElem_toArray, List.getElem_cons_zero, List.getElem_cons_succ, List.setIfInBounds_toArray, List.set_cons_zero, List.set_cons_succ])
  refine till_take (i := 5) (oi := _) (v := _) rfl (by kernel_rfl) (by kernel_rfl) (by kernel_rfl) (by kernel_rfl) (fun _ _ _ h => h) (row_yields rfl Tryz.underlying40 HS2.out (fun W h => h.2) (by rfl) _ rfl rfl) hHeld ?_
  (try simp only [Act.put, List.getElem_toArray, List.getElem_cons_zero, List.getElem_cons_succ, List.setIfInBounds_toArray, List.set_cons_zero, List.set_cons_succ])
  refine till_ready (rs := [6]) (by kernel_rfl) (by simp) ?_
  refine ReadyT.cons (o := _) rfl (fun K hK => ?_) ReadyT.nil
  go_simp
  rw [if_neg (by have hx := HSX.out; rintro (h | h); exact (of_decide_eq_true h) hx; omega), fold_zip X _ (by rw [HSX.out]; rfl)]
  go_simp
  refine hK.out _ _ (.inr ⟨(HRM.out.blk.drew.alloc (.cells X 40)).cell 1, HK3.out.drew.alloc (.cells X 40)⟩) ?_
  clear hK K
  (try simp only [Act.put, List.getElem_toArray, List.getElem_cons_zero, List.getElem_cons_succ, List.setIfInBounds_toArray, List.set_cons_zero, List.set_cons_succ])
  have hHeld1 : (w3.drew.alloc (.cells X 40)).cell? ⟨g, 1, none⟩ = some (.slice A0 r.events.length c0) ∧ Blk (w3.drew.alloc (.cells X 40)) w2.heap.size 40 X := ⟨(HRM.out.blk.drew.alloc (.cells X 40)).cell 1, HK3.out.drew.alloc (.cells X 40)⟩
  refine till_ready (rs := [7]) (by kernel_rfl) (by simp) ?_
  refine ReadyT.cons (o := _) rfl (fun K hK => ?_) ReadyT.nil
  refine step_appG rowEv rfl _ _ rfl (w3.drew.alloc (.cells X 40)) (.slice A0 r.events.length c0) r.events.length xs X.toList (g + 1) ?_ (HOWN.out.drew.alloc _) w3.heap.size 1 1 ?_ (by rw [Array.length_toList, HSX.out]) (fun u hu => by have := HO2.out; rw [Array.all_eq_true_iff_forall_mem] at this; exact this u (by simpa using hu)) (fun j u hu => by rw [show w3.heap.size = w3.drew.heap.size from rfl, (Blk.new w3.drew 40 X).cell j, ← Array.getElem?_toList]; exact hu) (by rw [World.size_alloc]; show g + 1 ≤ w3.heap.size + 1; omega) (by omega) ?_
  ·kernel_rfl
  ·kernel_rfl
  intro v9 w9 ho9 hg9 hb9 hwh9
  obtain ⟨A9, c9, rfl⟩ := own_any ho9
  have HKG9 := hid ((HRM.out.blk.drew.alloc (.cells X 40)).grown hg9 (by intro e; have := (HLT.out g e.symm).1; omega))
  have HKB9 := hid ((HK3.out.drew.alloc (.cells X 40)).grown hg9 (by intro e; have := (HLT.out _ e.symm).2; omega))
  have hf9 := HKG9.out.frozen 1
  have hc9 := HKG9.out.cell 1
  rw [show (#[.string (bstr r.id), .slice A0 r.events.length c0, cR, cW, cH, cS, .int .i64 r.next, cC, cT] : Array Value)[1]? = some (.slice A0 r.events.length c0) from rfl] at hc9
  have HCH := hid ((((chb (g := g) (row := (Value.slice A0 r.events.length c0).ownBlock) (((Below.refl w3.heap.size w3).drew).alloc (Nat.le_refl _) (.cells X 40))).grown hg9).set 1 (.slice A9 (r.events.length + 1) c9)))
  have HFR : Hid (Fresh w3.heap.size (Value.slice A0 r.events.length c0).ownBlock (Value.slice A9 (r.events.length + 1) c9).ownBlock) := hid (by
   rcases hwh9 with h | h
   ·exact .inl h
   ·exact .inr ⟨_, by rw [World.size_alloc]; exact Nat.le_succ _, h⟩)
  have HKG := hid (HKG9.out.set_ 1 (.slice A9 (r.events.length + 1) c9))
  rw [show (#[.string (bstr r.id), .slice A0 r.events.length c0, cR, cW, cH, cS, .int .i64 r.next, cC, cT] : Array Value).setIfInBounds 1 (.slice A9 (r.events.length + 1) c9) = #[.string (bstr r.id), .slice A9 (r.events.length + 1) c9, cR, cW, cH, cS, .int .i64 r.next, cC, cT] from rfl] at HKG
  have HOW := hid (own_set (i := 1) (u := .slice A9 (r.events.length + 1) c9) ho9 (Nat.lt_succ_self g))
  have HFIN : Hid (RlA g w (Ar.retK r 2 ((Ar.rdEvent s.data.toList [101, 118, 101, 110, 116]).map fun e => Ar.upE r e)) (.returned (.int .i64 2)) (w9.setCell ⟨g, 1, none⟩ (.slice A9 (r.events.length + 1) c9))) := hid (by
   rw [HE.out]
   refine ⟨⟨rfl, fun _ => ⟨_, _, _, _, _, _, _, HRM.out.evStep HKG.out HCH.out HFR.out (fun ys hys => by rw [own_uniq hys HOWN.out]; exact HOW.out) (ev_far (i := 0) HV3.out hlt HR0.out.lt rfl HFR.out HCH.out)⟩⟩, ?_⟩
   exact (HB3.out.mono (Nat.le_of_lt hlt)).trans (HCH.out.low (by omega) (fun k e => by have := (HLT.out k e).1; omega)))
  refine hK.out _ _ (.inr ⟨hc9, HKB9.out⟩) ?_
  clear hK K hHeld hHeld1 ho9 hg9 hb9 hwh9
  (try simp only [Act.put, List.getElem_toArray, List.getElem_cons_zero, List.getElem_cons_succ, List.setIfInBounds_toArray, List.set_cons_zero, List.set_cons_succ])
  have hHeld : w9.cell? ⟨g, 1, none⟩ = some (.slice A0 r.events.length c0) ∧ Blk w9 w2.heap.size 40 X := ⟨hc9, HKB9.out⟩
  refine till_ready (rs := [8]) (by kernel_rfl) (by simp) ?_
  refine ReadyT.cons (o := _) rfl (fun K hK => ?_) ReadyT.nil
  go_simp
  refine hK.out _ _ (.inr hHeld) ?_
  clear hK K
  (try simp only [Act.put, List.getElem_toArray, List.getElem_cons_zero, List.getElem_cons_succ, List.setIfInBounds_toArray, List.set_cons_zero, List.set_cons_succ])
  refine till_ready (rs := [9]) (by kernel_rfl) (by simp) ?_
  refine ReadyT.cons (o := _) rfl (fun K hK => ?_) ReadyT.nil
  go_simp
  refine hK.out _ _ (.inr hHeld) ?_
  clear hK K
  (try simp only [Act.put, List.getElem_toArray, List.getElem_cons_zero, List.getElem_cons_succ, List.setIfInBounds_toArray, List.set_cons_zero, List.set_cons_succ])
  refine till_ready (rs := [10]) (by kernel_rfl) (by simp) ?_
  refine ReadyT.cons (o := _) rfl (fun K hK => ?_) ReadyT.nil
  go_simp
  refine hK.out _ _ (.inl rfl) ?_
  clear hK K
  (try simp only [Act.put, List.getElem_toArray, List.getElem_cons_zero, List.getElem_cons_succ, List.setIfInBounds_toArray, List.set_cons_zero, List.set_cons_succ])
  refine till_done (by kernel_rfl) ?_ _
  refine NoPanic.normal ?_
  go_wp2_with fail
  go_ret
  exact HFIN.out
 ·have HNO := hid he
  have HS2 : Hid ((Tryz.prog.info? 40).map (·.size) = some X.size) := hid (by rw [size_event, hxs])
  have HZ2 : Hid (zeroEv.size = X.size) := hid (by rw [hxs]; rfl)
  have HO2 := hid hx1
  clear he hxs hx1
  go_wp2_with ((with_reducible refine wpList_store_row' rfl 40 _ _ rfl w2.heap.size X ?_ ?_ 40 _ (Blk.new w2 40 _) HS2.out ?_ HO2.out ?_); rfl; rfl; exact HZ2.out; intro w3 hk3 hs3 hbl3; have HB3 := hid (HB2.out.trans ((((Below.refl w2.heap.size w2).alloc (Nat.le_refl _) (.cells zeroEv 40)).trans (hbl3 w2.heap.size (Nat.le_refl _))).mono HB2.out.size)); clear hk3 hs3 hbl3)
  go_ret
  rw [HNO.out]
  exact ⟨⟨rfl, fun h => absurd rfl h⟩, HB3.out.mono (Nat.le_of_lt hlt)⟩
theorem rdline_wait (s : ByteArray) (g : Nat) (r : Ar.Rm) (w : World) (hs : s.size ≤ 100000) (hRd : Ready w) (hx : RmX w g r) (hg3 : 3 ≤ g) (hn : r.num ≤ 1000000) (hw : (Lib.cut s.data.toList [32]).1 = [119, 97, 105, 116]) : Calls Tryz.prog 77 #[.string s, .pointer (some ⟨g, 0, none⟩)] w (RlA g w (Ar.rdLine s.data.toList r)) := by
 have HL : Hid (Ar.rdLine s.data.toList r = Ar.retK r 4 ((Ar.rdEvent s.data.toList [119, 97, 105, 116]).map fun e => Ar.upW r e)) := hid (by rw [Ar.rdLine_eq, hw, if_neg (by decide), if_pos (show [119, 97, 105, 116] = Ar.waitN from rfl)]; rfl)
 obtain ⟨mx, hmx⟩ := hRd.1
 have hcut := Tryz.strings_Cut s ⟨#[32]⟩ mx w (by omega) hmx
 rw [show (⟨#[32]⟩ : ByteArray).data.toList = [32] from rfl, hw] at hcut
 rw [show (⟨[119, 97, 105, 116].toArray⟩ : ByteArray) = bstr [119, 97, 105, 116] from rfl] at hcut
 have HCUT := hid hcut
 have h1 : ((bstr [119, 97, 105, 116]).toList == [101, 118, 101, 110, 116]) = false := by rw [str_cmp]; rfl
 have h2 : ((bstr [119, 97, 105, 116]).toList == [119, 97, 105, 116]) = true := by rw [str_cmp]; rfl
 have HQ := hid (fun q => readev_any s [119, 97, 105, 116] (w.drewN q) hs (by decide) (hRd.below (below_drewN (Below.refl _ _) q)))
 obtain ⟨cE, cR, cW, cH, cS, cC, cT, hrm0⟩ := hx
 have HR0 := hid hrm0
 have hlt := hrm0.blk.lt
 rw [HL.out]
 clear hcut hmx hw hRd hrm0 HL
 generalize (Lib.cut s.data.toList [32]).2.1.toArray = S2 at *
 generalize (Lib.cut s.data.toList [32]).2.2 = B2 at *
 generalize hSW : bstr [119, 97, 105, 116] = SW at *
 go_enter Tryz.func77, Tryz.ntmps77
 go_wp2_with fail
 refine HCUT.out.mono ?_
 rintro e w1 ⟨rfl, q2, rfl⟩
 go_wp2_with fail
 refine (HQ.out q2).mono ?_
 rintro r0 w2 ⟨hev, hb2⟩
 have HX2 : Hid (RmO w2 g r cE cR cW cH cS cC cT) := hid (HR0.out.below ⟨hb2.os, hb2.tape, hb2.output, hb2.size, hb2.block⟩)
 have HB2 : Hid (Below w.heap.size w w2) := hid ⟨hb2.os, hb2.tape, hb2.output, hb2.size, hb2.block⟩
 clear hb2
 rcases hev with ⟨e, X, he, rfl, hx2⟩ | ⟨he, X, rfl, hxs, hx1⟩
 ·have HE := hid he
  have HV2 : Hid (EvOf (fun b => w.heap.size ≤ b) w2 X e) := hid hx2
  have HS2 : Hid ((Tryz.prog.info? 40).map (·.size) = some X.size) := hid (by rw [size_event, hx2.size])
  have HO2 := hid hx2.one
  have HZ2 : Hid (zeroEv.size = X.size) := hid (by rw [hx2.size]; rfl)
  clear he hx2
  go_wp2_with ((with_reducible refine wpList_store_row' rfl 40 _ _ rfl w2.heap.size X ?_ ?_ 40 _ (Blk.new w2 40 _) HS2.out ?_ HO2.out ?_); rfl; rfl; exact HZ2.out; intro w3 hk3 hs3 hbl3; have hz3 := ((Below.refl w2.heap.size w2).alloc (Nat.le_refl _) (.cells zeroEv 40)).trans (hbl3 w2.heap.size (Nat.le_refl _)); have HRM := hid (HX2.out.below hz3); have HB3 := hid (HB2.out.trans (hz3.mono HB2.out.size)); have HV3 := hid (HV2.out.below hz3); have HK3 := hid hk3; clear hk3 hs3 hbl3 hz3)
  have hrm := HRM.out
  have hs2 := HB2.out.size
  have hs3 := HB3.out.size
  have hk3 := HK3.out.lt
  obtain ⟨xs, hown, _⟩ := hrm.wait
  have HOWN := hid hown
  obtain ⟨A0, c0, rfl⟩ := own_any hown
  have HLT : Hid (∀ k, (Value.slice A0 r.waiting.length c0).ownBlock = some k → g + 1 ≤ k ∧ k < w.heap.size) := hid (fun k hk => ⟨(HOWN.out.lt k hk).1, HR0.out.lt _ (by unfold ownL; simp) k hk⟩)
  clear hown
  have hc0 := hrm.blk.cell 3
  have hf0 := hrm.blk.frozen 3
  rw [show (#[.string (bstr r.id), cE, cR, .slice A0 r.waiting.length c0, cH, cS, .int .i64 r.next, cC, cT] : Array Value)[3]? = some (.slice A0 r.waiting.length c0) from rfl] at hc0
  clear hrm
  have HSX : Hid (X.size = 29) := hid (by have := HS2.out; rw [size_event] at this; injection this with this; exact this.symm)
  have hnum : r.waiting.length ≤ 1000000 := by unfold Ar.Rm.num at hn; omega
  refine wp_region_noPanic ?_
  refine region_till (fun W => W.cell? ⟨g, 3, none⟩ = some (.slice A0 r.waiting.length c0) ∧ Blk W w2.heap.size 40 X) (fun i => i == 10) (by kernel_rfl) ⟨hc0, HK3.out.drew⟩ (fun hHeld => ?_)
  refine till_take (i := 0) (oi := _) (v := ?_) rfl (by kernel_rfl) (by kernel_rfl) (by kernel_rfl) (by kernel_rfl) (fun _ _ _ h => h) (Or.inl ⟨by rfl, ?_⟩) hHeld ?_
  rotate_left
  ·intro wq hSw
   obtain ⟨hSw1, hSw2⟩ := hSw
   go_simp
   (try with_reducible rfl)
  (try simp only [Act.put, List.getElem_toArray, List.getElem_cons_zero, List.getElem_cons_succ, List.setIfInBounds_toArray, List.set_cons_zero, List.set_cons_succ])
  refine till_take (i := 1) (oi := _) (v := ?_) rfl (by kernel_rfl) (by kernel_rfl) (by kernel_rfl) (by kernel_rfl) (fun _ _ _ h => h) (Or.inl ⟨by rfl, ?_⟩) hHeld ?_
  rotate_left
  ·intro wq hSw
   obtain ⟨hSw1, hSw2⟩ := hSw
   go_simp
   (try with_reducible rfl)
  (try simp only [Act.put, List.getElem_toArray, List.getElem_cons_zero, List.getElem_cons_succ, List.setIfInBounds_toArray, List.set_cons_zero, List.set_cons_succ])
  refine till_take (i := 2) (oi := _) (v := ?_) rfl (by kernel_rfl) (by kernel_rfl) (by kernel_rfl) (by kernel_rfl) (fun _ _ _ h => h) (Or.inl ⟨by rfl, ?_⟩) hHeld ?_
  rotate_left
  ·intro wq hSw
   obtain ⟨hSw1, hSw2⟩ := hSw
   go_simp
   (try with_reducible rfl)
  (try simp only [Act.put, List.getElem_toArray, List.getElem_cons_zero, List.getElem_cons_succ, List.setIfInBounds_toArray, List.set_cons_zero, List.set_cons_succ])
  refine till_take (i := 3) (oi := _) (v := ?_) rfl (by kernel_rfl) (by kernel_rfl) (by kernel_rfl) (by kernel_rfl) (fun _ _ _ h => h) (Or.inl ⟨by rfl, ?_⟩) hHeld ?_
  rotate_left
  ·intro wq hSw
   obtain ⟨hSw1, hSw2⟩ := hSw
   go_simp
   (try with_reducible rfl)
  (try simp only [Act.put, List.getElem_toArray, List.getElem_cons_zero, List.getElem_cons_succ, List.setIfInBounds_toArray, List.set_cons_zero, List.set_cons_succ])
  refine till_take (i := 4) (oi := _) (v := ?_) rfl (by kernel_rfl) (by kernel_rfl) (by kernel_rfl) (by kernel_rfl) (fun _ _ _ h => h) (Or.inl ⟨by rfl, ?_⟩) hHeld ?_
  rotate_left
  ·intro wq hSw
   obtain ⟨hSw1, hSw2⟩ := hSw
   go_simp
   (try with_reducible rfl)
  (try simp only [Act.put, List.getElem_toArray, List.getElem_cons_zero, List.getElem_cons_succ, List.setIfInBounds_toArray, List.set_cons_zero, List.set_cons_succ])
  refine till_take (i := 5) (oi := _) (v := _) rfl (by kernel_rfl) (by kernel_rfl) (by kernel_rfl) (by kernel_rfl) (fun _ _ _ h => h) (row_yields rfl Tryz.underlying40 HS2.out (fun W h => h.2) (by rfl) _ rfl rfl) hHeld ?_
  (try simp only [Act.put, List.getElem_toArray, List.getElem_cons_zero, List.getElem_cons_succ, List.setIfInBounds_toArray, List.set_cons_zero, List.set_cons_succ])
  refine till_ready (rs := [6]) (by kernel_rfl) (by simp) ?_
  refine ReadyT.cons (o := _) rfl (fun K hK => ?_) ReadyT.nil
  go_simp
  rw [if_neg (by have hx := HSX.out; rintro (h | h); exact (of_decide_eq_true h) hx; omega), fold_zip X _ (by rw [HSX.out]; rfl)]
  go_simp
  refine hK.out _ _ (.inr ⟨(HRM.out.blk.drew.alloc (.cells X 40)).cell 3, HK3.out.drew.alloc (.cells X 40)⟩) ?_
  clear hK K
  (try simp only [Act.put, List.getElem_toArray, List.getElem_cons_zero, List.getElem_cons_succ, List.setIfInBounds_toArray, List.set_cons_zero, List.set_cons_succ])
  have hHeld1 : (w3.drew.alloc (.cells X 40)).cell? ⟨g, 3, none⟩ = some (.slice A0 r.waiting.length c0) ∧ Blk (w3.drew.alloc (.cells X 40)) w2.heap.size 40 X := ⟨(HRM.out.blk.drew.alloc (.cells X 40)).cell 3, HK3.out.drew.alloc (.cells X 40)⟩
  refine till_ready (rs := [7]) (by kernel_rfl) (by simp) ?_
  refine ReadyT.cons (o := _) rfl (fun K hK => ?_) ReadyT.nil
  refine step_appG rowEv rfl _ _ rfl (w3.drew.alloc (.cells X 40)) (.slice A0 r.waiting.length c0) r.waiting.length xs X.toList (g + 1) ?_ (HOWN.out.drew.alloc _) w3.heap.size 1 1 ?_ (by rw [Array.length_toList, HSX.out]) (fun u hu => by have := HO2.out; rw [Array.all_eq_true_iff_forall_mem] at this; exact this u (by simpa using hu)) (fun j u hu => by rw [show w3.heap.size = w3.drew.heap.size from rfl, (Blk.new w3.drew 40 X).cell j, ← Array.getElem?_toList]; exact hu) (by rw [World.size_alloc]; show g + 1 ≤ w3.heap.size + 1; omega) (by omega) ?_
  ·kernel_rfl
  ·kernel_rfl
  intro v9 w9 ho9 hg9 hb9 hwh9
  obtain ⟨A9, c9, rfl⟩ := own_any ho9
  have HKG9 := hid ((HRM.out.blk.drew.alloc (.cells X 40)).grown hg9 (by intro e; have := (HLT.out g e.symm).1; omega))
  have HKB9 := hid ((HK3.out.drew.alloc (.cells X 40)).grown hg9 (by intro e; have := (HLT.out _ e.symm).2; omega))
  have hf9 := HKG9.out.frozen 3
  have hc9 := HKG9.out.cell 3
  rw [show (#[.string (bstr r.id), cE, cR, .slice A0 r.waiting.length c0, cH, cS, .int .i64 r.next, cC, cT] : Array Value)[3]? = some (.slice A0 r.waiting.length c0) from rfl] at hc9
  have HCH := hid ((((chb (g := g) (row := (Value.slice A0 r.waiting.length c0).ownBlock) (((Below.refl w3.heap.size w3).drew).alloc (Nat.le_refl _) (.cells X 40))).grown hg9).set 3 (.slice A9 (r.waiting.length + 1) c9)))
  have HFR : Hid (Fresh w3.heap.size (Value.slice A0 r.waiting.length c0).ownBlock (Value.slice A9 (r.waiting.length + 1) c9).ownBlock) := hid (by
   rcases hwh9 with h | h
   ·exact .inl h
   ·exact .inr ⟨_, by rw [World.size_alloc]; exact Nat.le_succ _, h⟩)
  have HKG := hid (HKG9.out.set_ 3 (.slice A9 (r.waiting.length + 1) c9))
  rw [show (#[.string (bstr r.id), cE, cR, .slice A0 r.waiting.length c0, cH, cS, .int .i64 r.next, cC, cT] : Array Value).setIfInBounds 3 (.slice A9 (r.waiting.length + 1) c9) = #[.string (bstr r.id), cE, cR, .slice A9 (r.waiting.length + 1) c9, cH, cS, .int .i64 r.next, cC, cT] from rfl] at HKG
  have HOW := hid (own_set (i := 3) (u := .slice A9 (r.waiting.length + 1) c9) ho9 (Nat.lt_succ_self g))
  have HFIN : Hid (RlA g w (Ar.retK r 4 ((Ar.rdEvent s.data.toList [119, 97, 105, 116]).map fun e => Ar.upW r e)) (.returned (.int .i64 4)) (w9.setCell ⟨g, 3, none⟩ (.slice A9 (r.waiting.length + 1) c9))) := hid (by
   rw [HE.out]
   refine ⟨⟨rfl, fun _ => ⟨_, _, _, _, _, _, _, HRM.out.waitStep HKG.out HCH.out HFR.out (fun ys hys => by rw [own_uniq hys HOWN.out]; exact HOW.out) (ev_far (i := 2) HV3.out hlt HR0.out.lt rfl HFR.out HCH.out)⟩⟩, ?_⟩
   exact (HB3.out.mono (Nat.le_of_lt hlt)).trans (HCH.out.low (by omega) (fun k e => by have := (HLT.out k e).1; omega)))
  refine hK.out _ _ (.inr ⟨hc9, HKB9.out⟩) ?_
  clear hK K hHeld hHeld1 ho9 hg9 hb9 hwh9
  (try simp only [Act.put, List.getElem_toArray, List.getElem_cons_zero, List.getElem_cons_succ, List.setIfInBounds_toArray, List.set_cons_zero, List.set_cons_succ])
  have hHeld : w9.cell? ⟨g, 3, none⟩ = some (.slice A0 r.waiting.length c0) ∧ Blk w9 w2.heap.size 40 X := ⟨hc9, HKB9.out⟩
  refine till_ready (rs := [8]) (by kernel_rfl) (by simp) ?_
  refine ReadyT.cons (o := _) rfl (fun K hK => ?_) ReadyT.nil
  go_simp
  refine hK.out _ _ (.inr hHeld) ?_
  clear hK K
  (try simp only [Act.put, List.getElem_toArray, List.getElem_cons_zero, List.getElem_cons_succ, List.setIfInBounds_toArray, List.set_cons_zero, List.set_cons_succ])
  refine till_ready (rs := [9]) (by kernel_rfl) (by simp) ?_
  refine ReadyT.cons (o := _) rfl (fun K hK => ?_) ReadyT.nil
  go_simp
  refine hK.out _ _ (.inr hHeld) ?_
  clear hK K
  (try simp only [Act.put, List.getElem_toArray, List.getElem_cons_zero, List.getElem_cons_succ, List.setIfInBounds_toArray, List.set_cons_zero, List.set_cons_succ])
  refine till_ready (rs := [10]) (by kernel_rfl) (by simp) ?_
  refine ReadyT.cons (o := _) rfl (fun K hK => ?_) ReadyT.nil
  go_simp
  refine hK.out _ _ (.inl rfl) ?_
  clear hK K
  (try simp only [Act.put, List.getElem_toArray, List.getElem_cons_zero, List.getElem_cons_succ, List.setIfInBounds_toArray, List.set_cons_zero, List.set_cons_succ])
  refine till_done (by kernel_rfl) ?_ _
  refine NoPanic.normal ?_
  go_wp2_with fail
  go_ret
  exact HFIN.out
 ·have HNO := hid he
  have HS2 : Hid ((Tryz.prog.info? 40).map (·.size) = some X.size) := hid (by rw [size_event, hxs])
  have HZ2 : Hid (zeroEv.size = X.size) := hid (by rw [hxs]; rfl)
  have HO2 := hid hx1
  clear he hxs hx1
  go_wp2_with ((with_reducible refine wpList_store_row' rfl 40 _ _ rfl w2.heap.size X ?_ ?_ 40 _ (Blk.new w2 40 _) HS2.out ?_ HO2.out ?_); rfl; rfl; exact HZ2.out; intro w3 hk3 hs3 hbl3; have HB3 := hid (HB2.out.trans ((((Below.refl w2.heap.size w2).alloc (Nat.le_refl _) (.cells zeroEv 40)).trans (hbl3 w2.heap.size (Nat.le_refl _))).mono HB2.out.size)); clear hk3 hs3 hbl3)
  go_ret
  rw [HNO.out]
  exact ⟨⟨rfl, fun h => absurd rfl h⟩, HB3.out.mono (Nat.le_of_lt hlt)⟩
theorem rdline_any (s : ByteArray) (g : Nat) (r : Ar.Rm) (w : World) (hs : s.size ≤ 100000) (hRd : Ready w) (hx : RmX w g r) (hg3 : 3 ≤ g) (hn : r.num ≤ 1000000) : Calls Tryz.prog 77 #[.string s, .pointer (some ⟨g, 0, none⟩)] w (RlA g w (Ar.rdLine s.data.toList r)) := by
 by_cases h1 : (Lib.cut s.data.toList [32]).1 = [101, 118, 101, 110, 116]
 ·exact rdline_event s g r w hs hRd hx hg3 hn h1
 by_cases h2 : (Lib.cut s.data.toList [32]).1 = [119, 97, 105, 116]
 ·exact rdline_wait s g r w hs hRd hx hg3 hn h2
 by_cases h3 : (Lib.cut s.data.toList [32]).1 = [114, 111, 119]
 ·exact rdline_row s g r w hs hRd hx hg3 hn h3
 by_cases h4 : (Lib.cut s.data.toList [32]).1 = [104, 101, 97, 100, 115]
 ·exact rdline_heads s g r w hs hRd hx hg3 hn h4
 by_cases h5 : (Lib.cut s.data.toList [32]).1 = [101, 110, 116, 114, 121]
 ·exact rdline_entry s g r w hs hRd hx hg3 hn h5
 by_cases h6 : (Lib.cut s.data.toList [32]).1 = [114, 101, 99, 101, 105, 112, 116]
 ·exact rdline_receipt s g r w hs hRd hx hg3 hn h6
 by_cases h7 : (Lib.cut s.data.toList [32]).1 = [116, 121, 112, 105, 110, 103]
 ·exact rdline_typing s g r w hs hRd hx hg3 hn h7
 exact rdline_none s g r w hs hRd hx hg3 hn h1 h2 h3 h4 h5 h6 h7
end Go.Proofs.YteadlcncnhbmjaaGreatDoor
/- The text Rf4. -/
namespace Ar
theorem rdAll_bad1 {s : Str} {r : Rm} {i form : Nat} (hi : i ≠ 0) (h : (rdLine s r).1 = 0 ∨ (rdLine s r).1 < form ∨ ((rdLine s r).1 = 5 ∧ form = 5)) (L : List Str) : rdAll i form r (s :: L) = .inr (i + 1) := by
 rw [rdAll]
 simp only [if_neg hi]
 rw [if_pos h]
theorem rdAll_next {s : Str} {r : Rm} {i form : Nat} (hi : i ≠ 0) (h : ¬ ((rdLine s r).1 = 0 ∨ (rdLine s r).1 < form ∨ ((rdLine s r).1 = 5 ∧ form = 5))) (L : List Str) : rdAll i form r (s :: L) = rdAll (i + 1) (rdLine s r).1 (rdLine s r).2 L := by
 rw [rdAll]
 simp only [if_neg hi]
 rw [if_neg h]
theorem retK_le {r : Rm} {k : Nat} {x : Option Rm} {n : Nat} (h : k ≤ n) : (retK r k x).1 ≤ n := by
 unfold retK
 split
 ·exact h
 ·exact Nat.zero_le _
theorem rdLine_le8 (s : Str) (r : Rm) : (rdLine s r).1 ≤ 8 := by
 rw [rdLine_eq]
 repeat' split
 all_goals first | exact retK_le (by decide) | exact Nat.zero_le _
theorem retK_num {r : Rm} {k : Nat} {x : Option Rm} {n : Nat} (h0 : r.num ≤ n) (h : ∀ y, x = some y → y.num ≤ n) : (retK r k x).2.num ≤ n := by
 unfold retK
 split
 ·exact h _ rfl
 ·exact h0
theorem rdLine_num (s : Str) (r : Rm) : (rdLine s r).2.num ≤ r.num + 1 := by
 rw [rdLine_eq]
 have h0 : r.num ≤ r.num + 1 := Nat.le_succ _
 split
 ·exact retK_num h0 (fun y h => by obtain ⟨e, _, rfl⟩ := Option.map_eq_some_iff.1 h; unfold Rm.num; simp only [List.length_append, List.length_cons, List.length_nil]; omega)
 ·split
  ·exact retK_num h0 (fun y h => by obtain ⟨e, _, rfl⟩ := Option.map_eq_some_iff.1 h; unfold Rm.num; simp only [List.length_append, List.length_cons, List.length_nil]; omega)
  ·split
   ·exact retK_num h0 (fun y h => by obtain ⟨x, _, rfl, _⟩ := rdRow_some h; unfold Rm.num upR; simp only [List.length_append, List.length_cons, List.length_nil]; omega)
   ·split
    ·exact retK_num h0 (fun y h => by obtain ⟨x, _, rfl, _⟩ := rdHeads_some h; exact h0)
    ·split
     ·exact retK_num h0 (fun y h => by obtain ⟨x, _, rfl, _⟩ := rdEntry_some h; unfold Rm.num upS; simp only [List.length_append, List.length_cons, List.length_nil]; omega)
     ·split
      ·exact retK_num h0 (fun y h => by obtain ⟨x, _, rfl, _⟩ := rdReceipt_some h; unfold Rm.num upC; simp only [List.length_append, List.length_cons, List.length_nil]; omega)
      ·split
       ·exact retK_num h0 (fun y h => by obtain ⟨x, _, rfl, _⟩ := rdTyping_some h; unfold Rm.num upT; simp only [List.length_append, List.length_cons, List.length_nil]; omega)
       ·exact h0
end Ar
namespace Go.Proofs.YteadlcncnhbmjaaGreatDoor
open Go.RowKit Go.Lib
set_option linter.unusedVariables false
set_option linter.unusedSimpArgs false
def RmV (w : World) (r : Ar.Rm) (cells : Array Value) : Prop := ∃ cE cR cW cH cS cC cT, cells = #[.string (bstr r.id), cE, cR, cW, cH, cS, .int .i64 r.next, cC, cT] ∧ RoomV w w.heap.size r cE cR cW cH cS cC cT
theorem RmV.below {w w' : World} {r : Ar.Rm} {cells : Array Value} (h : RmV w r cells) (hb : Below w.heap.size w w') : RmV w' r cells := by
 obtain ⟨_, _, _, _, _, _, _, e, h⟩ := h
 exact ⟨_, _, _, _, _, _, _, e, (h.keep (Nat.le_refl _) hb).keep hb.size (Below.refl _ _)⟩
theorem RmV.size {w : World} {r : Ar.Rm} {cells : Array Value} (h : RmV w r cells) : cells.size = 9 := by obtain ⟨_, _, _, _, _, _, _, rfl, _⟩ := h; rfl
theorem RmV.one {w : World} {r : Ar.Rm} {cells : Array Value} (h : RmV w r cells) : cells.all (·.oneCell') = true := by
 obtain ⟨_, _, _, _, _, _, _, rfl, h⟩ := h
 obtain ⟨A1, c1, rfl, _⟩ := h.ev
 obtain ⟨A2, c2, rfl, _⟩ := h.row
 obtain ⟨A3, c3, rfl, _⟩ := h.wait
 obtain ⟨A4, c4, rfl, _⟩ := h.heads
 obtain ⟨A5, c5, rfl, _⟩ := h.state
 obtain ⟨A6, c6, rfl, _⟩ := h.rcp
 obtain ⟨A7, c7, rfl, _⟩ := h.typ
 simp [Value.oneCell']
def RdR (x : Ar.Rm ⊕ Nat) (e : Ending) (w' : World) : Prop := (∃ y cells, x = .inl y ∧ e = .returned (.tuple #[.agg cells, .int .i64 0, .int .i64 0]) ∧ RmV w' y cells) ∨ (∃ n : Nat, x = .inr n ∧ e = .returned (.tuple #[.agg #[.string ⟨#[]⟩, nilS, nilS, nilS, nilS, nilS, .int .i64 0, nilS, nilS], .int .i64 (n : Int), .int .i64 10]))
theorem RmO.moved {w w' : World} {g b : Nat} {r : Ar.Rm} {cE cR cW cH cS cC cT : Value} (h : RmO w g r cE cR cW cH cS cC cT) (hb : b < g) (hs : w'.heap.size = w.heap.size) (ho : ∀ k, k ≠ b → w'.heap[k]? = w.heap[k]?) : RmO w' g r cE cR cW cH cS cC cT := by
 have own : ∀ {e sz v n xs}, w.ownsRow (g + 1) e sz v n xs → w'.ownsRow (g + 1) e sz v n xs := by
  intro e sz v n xs h
  obtain ⟨h1, h2⟩ := h
  refine ⟨h1, ?_⟩
  rcases h2 with h2 | ⟨k, cap, cur, rfl, hk, hh, hn, hcap, hsz, ht⟩
  ·exact .inl h2
  ·exact .inr ⟨k, cap, cur, rfl, hk, (ho k (by omega)).trans hh, hn, hcap, hsz, ht⟩
 have ev : ∀ {O v L}, EvO w g O v L → EvO w' g O v L := by
  intro O v L h
  obtain ⟨xs, h1, h2⟩ := h
  refine ⟨xs, own h1, fun i e hi => ?_⟩
  obtain ⟨cs, a, b', c⟩ := h2 i e hi
  exact ⟨cs, a, b', c.keep fun k hk _ => ⟨hk, ho k (by have := hk.1; omega)⟩⟩
 exact ⟨(ho g (by omega)).trans h.blk, h.apart, ev h.ev, own h.row, ev h.wait, h.heads.keep (by decide) (fun k hk _ => ⟨hk, ho k (by have := hk.1; omega)⟩), own h.state, own h.rcp, own h.typ⟩
theorem size_room : (Tryz.prog.info? 55).map (·.size) = some 9 := by kernel_rfl
theorem one_room : (#[.string ⟨#[]⟩, nilS, nilS, nilS, nilS, nilS, .int .i64 0, nilS, nilS] : Array Value).all (·.oneCell') = true := by simp [Value.oneCell']
theorem wrap_succ (k : Nat) (h : k ≤ 1000000) : IntKind.i64.wrap ((k : Int) + 1) = ((k + 1 : Nat) : Int) := by rw [IntWalk.i64_in _ (by omega)]; rfl
theorem wrap_pred (m : Nat) (h : m ≤ 1000000) : IntKind.i64.wrap (((m + 1 : Nat) : Int) - 1) = (m : Int) := by rw [IntWalk.i64_in _ (by omega)]; omega
theorem read_any (s : ByteArray) (w : World) (hs : s.size ≤ 500000) (hle : ∀ l ∈ Ar.lines s.data.toList, l.length ≤ 100000) (hR : Ready w) : Calls Tryz.prog 28 #[.string s] w fun e w' => RdR (Ar.read s.data.toList) e w' ∧ Below w.heap.size w w' := by
 have h3 : 3 ≤ w.heap.size := by
  obtain ⟨t, p, h⟩ := hR.2.2
  exact block_lt h
 have HRY := hid hR
 have hln := fun W hW => lines_any s W (by omega) hW
 have hll := Ar.lines_len s.data.toList
 have hsz := str_size s
 have hread : Ar.read s.data.toList = match Ar.rdAll 0 0 Ar.Rm.zero (Ar.lines s.data.toList).dropLast with
  | .inr n => .inr n
  | .inl r => if (Ar.lines s.data.toList).length = 1 ∨ (Ar.lines s.data.toList).getLast? ≠ some [] then .inr (Ar.lines s.data.toList).length else .inl r := rfl
 obtain ⟨L, l, hL⟩ : ∃ L l, Ar.lines s.data.toList = L ++ [l] := ⟨_, _, (List.dropLast_concat_getLast (Ar.lines_ne _)).symm⟩
 rw [hL] at hln hll hle
 rw [hL, List.dropLast_concat, List.getLast?_concat, List.length_append, List.length_singleton] at hread
 rw [List.length_append, List.length_singleton] at hln hll
 have HLE := hid hle
 have HREAD := hid hread
 have HLN := hid hln
 have hm6 : L.length ≤ 1000000 := by omega
 have hs5 : ¬ (500000 : Int) < (s.size : Int) := by omega
 clear hR hln hread hL hle hll hsz
 generalize hX : Ar.read s.data.toList = X at *
 clear hX
 have HR1 := hid (HRY.out.below ((Below.refl _ _).alloc (Nat.le_refl _) (.cells #[.string ⟨#[]⟩, nilS, nilS, nilS, nilS, nilS, .int .i64 0, nilS, nilS] 55)))
 have hs1 : (w.alloc (.cells #[.string ⟨#[]⟩, nilS, nilS, nilS, nilS, nilS, .int .i64 0, nilS, nilS] 55)).heap.size = w.heap.size + 1 := World.size_alloc _ _
 have HB1 := hid ((Below.refl w.heap.size w).alloc (Nat.le_refl _) (.cells #[.string ⟨#[]⟩, nilS, nilS, nilS, nilS, nilS, .int .i64 0, nilS, nilS] 55))
 have HKT := hid (Blk.new w 55 #[.string ⟨#[]⟩, nilS, nilS, nilS, nilS, nilS, .int .i64 0, nilS, nilS])
 have HQ1 := hid (HLN.out _ HR1.out)
 rw [hs1] at HQ1
 generalize hw1 : w.alloc (.cells #[.string ⟨#[]⟩, nilS, nilS, nilS, nilS, nilS, .int .i64 0, nilS, nilS] 55) = w1 at *
 have HB2 := hid (HB1.out.alloc HB1.out.size (.cells (strL (L ++ [l])).toArray 9))
 have HR2 := hid (HR1.out.below ((Below.refl _ _).alloc (Nat.le_refl _) (.cells (strL (L ++ [l])).toArray 9)))
 have hs2 : (w1.alloc (.cells (strL (L ++ [l])).toArray 9)).heap.size = w.heap.size + 2 := by rw [World.size_alloc, hs1]
 have HKT2 := hid (HKT.out.alloc (.cells (strL (L ++ [l])).toArray 9))
 have HKL := hid (Rd.litS w1 (L ++ [l]))
 rw [hs1] at HKL
 generalize hw2 : w1.alloc (.cells (strL (L ++ [l])).toArray 9) = w2 at *
 have HB3 := hid (HB2.out.alloc HB2.out.size (.cells #[.string ⟨#[]⟩, nilS, nilS, nilS, nilS, nilS, .int .i64 0, nilS, nilS] 55))
 have HR3 := hid (HR2.out.below ((Below.refl _ _).alloc (Nat.le_refl _) (.cells #[.string ⟨#[]⟩, nilS, nilS, nilS, nilS, nilS, .int .i64 0, nilS, nilS] 55)))
 have hs3 : (w2.alloc (.cells #[.string ⟨#[]⟩, nilS, nilS, nilS, nilS, nilS, .int .i64 0, nilS, nilS] 55)).heap.size = w.heap.size + 3 := by rw [World.size_alloc, hs2]
 have HKT3 := hid (HKT2.out.alloc (.cells #[.string ⟨#[]⟩, nilS, nilS, nilS, nilS, nilS, .int .i64 0, nilS, nilS] 55))
 have HKL3 := hid (HKL.out.below ((Below.refl _ _).alloc (Nat.le_refl _) (.cells #[.string ⟨#[]⟩, nilS, nilS, nilS, nilS, nilS, .int .i64 0, nilS, nilS] 55)))
 have HKG3 := hid (Blk.new w2 55 #[.string ⟨#[]⟩, nilS, nilS, nilS, nilS, nilS, .int .i64 0, nilS, nilS])
 rw [hs2] at HKG3
 have hsl : ∀ W : World, (Instr.slice 30 (.slice (some ⟨w.heap.size + 1, 0, none⟩) (L.length + 1) (L.length + 1)) none (some (.int .i64 (L.length : Int))) (some (.int .i64 (L.length : Int)))).run Tryz.prog W = .ok (.slice (some ⟨w.heap.size + 1, 0, none⟩) L.length L.length) W := fun W => slice_left W (w.heap.size + 1) 0 (L.length + 1) (L.length + 1) L.length (by omega) (by omega)
 have HST : Hid (∀ wr, Below (w.heap.size + 2) (w2.alloc (.cells #[.string ⟨#[]⟩, nilS, nilS, nilS, nilS, nilS, .int .i64 0, nilS, nilS] 55)) wr → Below w.heap.size w wr ∧ Ready wr ∧ Blk wr w.heap.size 55 #[.string ⟨#[]⟩, nilS, nilS, nilS, nilS, nilS, .int .i64 0, nilS, nilS] ∧ Rd wr (some ⟨w.heap.size + 1, 0, none⟩) (L ++ [l]).length (strL (L ++ [l]))) := hid (fun wr hb => ⟨HB3.out.trans (hb.mono (by omega)), HR3.out.grown ⟨hb.os, hb.tape, hb.output, hb.size, fun k hk hne => by
   rcases Nat.lt_or_ge k (w.heap.size + 2) with h | h
   ·exact hb.block k h
   ·exfalso; exact hne (by rw [hs3] at hk; congr 1; omega)⟩ (fun g e => by injection e with e; omega : ∀ g, some (w.heap.size + 2) = some g → 3 ≤ g), HKT3.out.below hb (by omega), HKL3.out.low hb (fun a e => by injection e with e; rw [← e]; show w.heap.size + 1 < w.heap.size + 2; omega)⟩)
 generalize hw3 : w2.alloc (.cells #[.string ⟨#[]⟩, nilS, nilS, nilS, nilS, nilS, .int .i64 0, nilS, nilS] 55) = w3 at *
 have HX3 : Hid (RmX w3 (w.heap.size + 2) Ar.Rm.zero) := hid ⟨_, _, _, _, _, _, _, RmO.zero HKG3.out⟩
 have hwp := wrap_pred L.length hm6
 go_enter Tryz.func28, Tryz.ntmps28
 go_wp2_with fail
 refine HQ1.out.mono ?_
 rintro e w2' ⟨rfl, rfl⟩
 go_wp2_with fail
 go_loopw [8, 28] (fun fx ix wr => ∃ (k f : Nat) (r : Ar.Rm), k ≤ L.length ∧ ix = .int .i64 k ∧ fx = .int .i64 f ∧ Below (w.heap.size + 2) w3 wr ∧ RmX wr (w.heap.size + 2) r ∧ r.num ≤ k ∧ f ≤ 8 ∧ (k = 0 → r = Ar.Rm.zero ∧ f = 0) ∧ Hid (Ar.rdAll 0 0 Ar.Rm.zero L = Ar.rdAll k f r (L.drop k))) (fun _ ix _ => L.length - (RowKit.intOf ix).toNat)
 case atStart => exact ⟨0, 0, _, Nat.zero_le _, rfl, rfl, Below.refl _ _, HX3.out, Nat.le_refl _, by omega, fun _ => ⟨rfl, rfl⟩, hid rfl⟩
 case round =>
  obtain ⟨k, f, r, hk, rfl, rfl, hb, hx, hnum, hf8, hzero, hall⟩ := hrel
  have HB := hid hb
  have hbs := hb.size
  have HX := hid hx
  have HALL := hid hall.out
  obtain ⟨hBw, hRw, hKT, hKL⟩ := HST.out wr hb
  have HBW := hid hBw
  have HRW := hid hRw
  have HKTW := hid hKT
  have HKLW := hid hKL
  clear hb hx hall hBw hRw hKT hKL
  by_cases hlt : k < L.length
  ·obtain ⟨b1, o1, x1, e1, hxk, hc⟩ := HKLW.out.str_at (k := k) (by rw [List.length_append, List.length_singleton]; omega)
   injection e1 with e1
   injection e1 with e1 e2 e3
   subst e1 e2
   rw [Nat.zero_add] at hc
   have hxl : x1.length ≤ 100000 := HLE.out x1 (List.mem_of_getElem? hxk)
   rw [List.getElem?_append_left hlt] at hxk
   have HDR : Hid (L.drop k = x1 :: L.drop (k + 1)) := hid (by obtain ⟨h1, h2⟩ := List.getElem?_eq_some_iff.1 hxk; rw [← h2]; exact List.drop_eq_getElem_cons h1)
   clear hxk
   have hsx : (bstr x1).size ≤ 100000 := by rw [bstr_size]; exact hxl
   by_cases hk0 : k = 0
   ·obtain ⟨rfl, rfl⟩ := hzero hk0
    subst hk0
    have HC := hid (rdHead_rm (bstr x1) (w.heap.size + 2) Ar.Rm.zero wr hsx HRW.out HX.out (by omega) (Nat.zero_le _) (by show Ar.inInt 0; unfold Ar.inInt; omega))
    rw [show (bstr x1).data.toList = x1 from rfl] at HC
    have HT : Hid (∀ W, Calls Tryz.prog 75 #[.bool true] W fun e w' => e = .returned (.int .i64 1) ∧ W = w') := hid (fun W => one_any true W)
    have HF : Hid (∀ W, Calls Tryz.prog 75 #[.bool false] W fun e w' => e = .returned (.int .i64 0) ∧ W = w') := hid (fun W => one_any false W)
    generalize hS1 : bstr x1 = S1 at *
    go_wp2_with fail
    refine HC.out.mono ?_
    rintro e w4 ⟨hans, hb4⟩
    have HB4 := hid (HB.out.trans hb4)
    clear hb4
    rcases hans with ⟨y, hy, rfl, hx4⟩ | ⟨hy, rfl⟩
    ·have HX4 := hid hx4
     have HA4 : Hid (Ar.rdAll 0 0 Ar.Rm.zero L = Ar.rdAll 1 1 y (L.drop 1)) := hid (by rw [HALL.out, HDR.out]; exact Ar.rdAll_first hy _)
     have HN4 : Hid (y.num ≤ 0) := hid (by obtain ⟨_, ⟨i, n, rfl⟩, _⟩ := Ar.rdHead_some hy; exact Nat.le_refl _)
     clear hy hx4
     go_wp2_with fail
     refine (HT.out _).mono ?_
     rintro e w5 ⟨rfl, rfl⟩
     go_wp2_with fail
     go_roundw
     case rel => exact ⟨1, 1, y, by omega, by go_num, rfl, HB4.out, HX4.out, by have := HN4.out; omega, by omega, fun h => by omega, HA4⟩
     case measure => simp [RowKit.intOf]; omega
    ·have HX9 : Hid (X = .inr 1) := hid (by rw [HREAD.out, HALL.out, HDR.out, Ar.rdAll_fail hy])
     have HKT4 := hid ((HST.out w4 HB4.out).2.2.1)
     have HBW4 := hid ((HST.out w4 HB4.out).1)
     clear hy
     go_wp2_with fail
     refine (HF.out _).mono ?_
     rintro e w5 ⟨rfl, rfl⟩
     go_wp2_with ((with_reducible refine wpList_store_rowq rfl 55 _ _ rfl w.heap.size #[.string ⟨#[]⟩, nilS, nilS, nilS, nilS, nilS, .int .i64 0, nilS, nilS] ?_ ?_ 55 #[.string ⟨#[]⟩, nilS, nilS, nilS, nilS, nilS, .int .i64 0, nilS, nilS] HKT4.out ?_ rfl one_room ?_); rfl; rfl; exact size_room; intro wz hkz hsz hblz hotz)
     refine bodyPost_ret (results_row_tmp2 rfl _ _ w.heap.size _ #[.string ⟨#[]⟩, nilS, nilS, nilS, nilS, nilS, .int .i64 0, nilS, nilS] _ rfl hkz Tryz.underlying55 rfl size_room) rfl ?_
     exact ⟨.inr ⟨_, HX9.out, rfl⟩, HBW4.out.trans (hblz _ (Nat.le_refl _))⟩
   ·have HC := hid (rdline_any (bstr x1) (w.heap.size + 2) r wr hsx HRW.out HX.out (by omega) (by omega))
    rw [show (bstr x1).data.toList = x1 from rfl] at HC
    have hki : ((k : Int) == 0) = false := by rw [beq_eq_false_iff_ne]; omega
    have HNX := hid (Ar.rdLine_num x1 r)
    have HBAD := hid (Ar.rdAll_bad1 (s := x1) (r := r) (form := f) hk0)
    have HNXT := hid (Ar.rdAll_next (s := x1) (r := r) (form := f) hk0)
    have hx8 := Ar.rdLine_le8 x1 r
    have hwk := wrap_succ k (by omega)
    generalize hS1 : bstr x1 = S1 at *
    go_wp2_with fail
    refine HC.out.mono ?_
    rintro e w4 ⟨⟨rfl, hx4⟩, hb4⟩
    have HX4 := hid hx4
    have HB4 := hid (HB.out.trans hb4)
    have HKT4 := hid ((HST.out w4 HB4.out).2.2.1)
    have HBW4 := hid ((HST.out w4 HB4.out).1)
    clear hb4 hx4 hzero
    generalize hq : Ar.rdLine x1 r = q at *
    obtain ⟨q, y⟩ := q
    simp only at HX4 HNX HBAD HNXT hx8 ⊢
    clear hq
    by_cases hq0 : q = 0
    ·have HX9 : Hid (X = .inr (k + 1)) := hid (by rw [HREAD.out, HALL.out, HDR.out, HBAD.out (.inl hq0)])
     subst hq0
     go_wp2_with ((with_reducible refine wpList_store_rowq rfl 55 _ _ rfl w.heap.size #[.string ⟨#[]⟩, nilS, nilS, nilS, nilS, nilS, .int .i64 0, nilS, nilS] ?_ ?_ 55 #[.string ⟨#[]⟩, nilS, nilS, nilS, nilS, nilS, .int .i64 0, nilS, nilS] HKT4.out ?_ rfl one_room ?_); rfl; rfl; exact size_room; intro wz hkz hsz hblz hotz)
     refine bodyPost_ret (results_row_tmp2 rfl _ _ w.heap.size _ #[.string ⟨#[]⟩, nilS, nilS, nilS, nilS, nilS, .int .i64 0, nilS, nilS] _ rfl hkz Tryz.underlying55 rfl size_room) rfl ?_
     exact ⟨.inr ⟨_, HX9.out, rfl⟩, HBW4.out.trans (hblz _ (Nat.le_refl _))⟩
    ·have d0 : ((q : Int) == 0) = false := by rw [beq_eq_false_iff_ne]; omega
     by_cases hqf : q < f
     ·have HX9 : Hid (X = .inr (k + 1)) := hid (by rw [HREAD.out, HALL.out, HDR.out, HBAD.out (.inr (.inl hqf))])
      have d1 : decide ((q : Int) < (f : Int)) = true := decide_eq_true (by omega)
      clear hq0
      go_wp2_with ((with_reducible refine wpList_store_rowq rfl 55 _ _ rfl w.heap.size #[.string ⟨#[]⟩, nilS, nilS, nilS, nilS, nilS, .int .i64 0, nilS, nilS] ?_ ?_ 55 #[.string ⟨#[]⟩, nilS, nilS, nilS, nilS, nilS, .int .i64 0, nilS, nilS] HKT4.out ?_ rfl one_room ?_); rfl; rfl; exact size_room; intro wz hkz hsz hblz hotz)
      refine bodyPost_ret (results_row_tmp2 rfl _ _ w.heap.size _ #[.string ⟨#[]⟩, nilS, nilS, nilS, nilS, nilS, .int .i64 0, nilS, nilS] _ rfl hkz Tryz.underlying55 rfl size_room) rfl ?_
      exact ⟨.inr ⟨_, HX9.out, rfl⟩, HBW4.out.trans (hblz _ (Nat.le_refl _))⟩
     ·have d1 : decide ((q : Int) < (f : Int)) = false := decide_eq_false (by omega)
      by_cases hq5 : q = 5
      ·subst hq5
       by_cases hf5 : f = 5
       ·have HX9 : Hid (X = .inr (k + 1)) := hid (by rw [HREAD.out, HALL.out, HDR.out, HBAD.out (.inr (.inr ⟨rfl, hf5⟩))])
        subst hf5
        go_wp2_with ((with_reducible refine wpList_store_rowq rfl 55 _ _ rfl w.heap.size #[.string ⟨#[]⟩, nilS, nilS, nilS, nilS, nilS, .int .i64 0, nilS, nilS] ?_ ?_ 55 #[.string ⟨#[]⟩, nilS, nilS, nilS, nilS, nilS, .int .i64 0, nilS, nilS] HKT4.out ?_ rfl one_room ?_); rfl; rfl; exact size_room; intro wz hkz hsz hblz hotz)
        refine bodyPost_ret (results_row_tmp2 rfl _ _ w.heap.size _ #[.string ⟨#[]⟩, nilS, nilS, nilS, nilS, nilS, .int .i64 0, nilS, nilS] _ rfl hkz Tryz.underlying55 rfl size_room) rfl ?_
        exact ⟨.inr ⟨_, HX9.out, rfl⟩, HBW4.out.trans (hblz _ (Nat.le_refl _))⟩
       ·have d2 : ((f : Int) == 5) = false := by rw [beq_eq_false_iff_ne]; omega
        have HA4 : Hid (Ar.rdAll 0 0 Ar.Rm.zero L = Ar.rdAll (k + 1) 5 y (L.drop (k + 1))) := hid (by rw [HALL.out, HDR.out]; exact HNXT.out (by omega) _)
        go_wp2_with fail
        go_roundw
        case rel => exact ⟨k + 1, 5, y, by omega, by go_num, rfl, HB4.out, HX4.out (by omega), by have := HNX.out; omega, by omega, fun h => by omega, HA4⟩
        case measure => simp [RowKit.intOf]; omega
      ·have d2 : ((q : Int) == 5) = false := by rw [beq_eq_false_iff_ne]; omega
       have HA4 : Hid (Ar.rdAll 0 0 Ar.Rm.zero L = Ar.rdAll (k + 1) q y (L.drop (k + 1))) := hid (by rw [HALL.out, HDR.out]; exact HNXT.out (by omega) _)
       go_wp2_with fail
       go_roundw
       case rel => exact ⟨k + 1, q, y, by omega, by go_num, rfl, HB4.out, HX4.out hq0, by have := HNX.out; omega, by omega, fun h => by omega, HA4⟩
       case measure => simp [RowKit.intOf]; omega
  ·obtain rfl : k = L.length := by omega
   have HEND : Hid (X = if L.length + 1 = 1 ∨ some l ≠ some [] then .inr (L.length + 1) else .inl r) := hid (by rw [HREAD.out, HALL.out, List.drop_length]; rfl)
   have hwk := wrap_succ L.length hm6
   clear hlt hzero
   by_cases hm0 : L.length = 0
   ·have HX9 : Hid (X = .inr (L.length + 1)) := hid (by rw [HEND.out, if_pos (.inl (by omega))])
    have d0 : ((L.length : Int) == 0) = true := by rw [hm0]; rfl
    clear hm0
    go_wp2_with ((with_reducible refine wpList_store_rowq rfl 55 _ _ rfl w.heap.size #[.string ⟨#[]⟩, nilS, nilS, nilS, nilS, nilS, .int .i64 0, nilS, nilS] ?_ ?_ 55 #[.string ⟨#[]⟩, nilS, nilS, nilS, nilS, nilS, .int .i64 0, nilS, nilS] HKTW.out ?_ rfl one_room ?_); rfl; rfl; exact size_room; intro wz hkz hsz hblz hotz)
    refine bodyPost_ret (results_row_tmp2 rfl _ _ w.heap.size _ #[.string ⟨#[]⟩, nilS, nilS, nilS, nilS, nilS, .int .i64 0, nilS, nilS] _ rfl hkz Tryz.underlying55 rfl size_room) rfl ?_
    exact ⟨.inr ⟨_, HX9.out, rfl⟩, HBW.out.trans (hblz _ (Nat.le_refl _))⟩
   ·have d0 : ((L.length : Int) == 0) = false := by rw [beq_eq_false_iff_ne]; omega
    obtain ⟨b1, o1, x1, e1, hxk, hc⟩ := HKLW.out.str_at (k := L.length) (by rw [List.length_append, List.length_singleton]; omega)
    injection e1 with e1
    injection e1 with e1 e2 e3
    subst e1 e2
    rw [Nat.zero_add] at hc
    rw [List.getElem?_append_right (Nat.le_refl _), Nat.sub_self] at hxk
    obtain rfl : l = x1 := Option.some.inj hxk
    clear hxk
    by_cases hl : l = []
    ·have hem := emp_t hl
     have HX9 : Hid (X = .inl r) := hid (by rw [HEND.out, if_neg (by rintro (h | h); omega; exact h (by rw [hl]))])
     obtain ⟨cE, cR, cW, cH, cS, cC, cT, hrm⟩ := HX.out
     have HRM := hid hrm
     have HO : Hid ((#[.string (bstr r.id), cE, cR, cW, cH, cS, .int .i64 r.next, cC, cT] : Array Value).all (·.oneCell') = true) := hid (RmV.one ⟨_, _, _, _, _, _, _, rfl, hrm.room⟩)
     clear hl hrm
     generalize hSL : bstr l = SL at *
     generalize hRI : bstr r.id = RI at *
     go_wp2_with (first
      | (refine wpList_load_row rfl 55 _ rfl (w.heap.size + 2) rfl 55 #[.string RI, cE, cR, cW, cH, cS, .int .i64 r.next, cC, cT] (0, 0) _ (by rw [← hRI]; exact HRM.out.blk) Tryz.underlying55 rfl size_room ?_)
      | ((with_reducible refine wpList_store_rowq rfl 55 _ _ rfl w.heap.size #[.string RI, cE, cR, cW, cH, cS, .int .i64 r.next, cC, cT] ?_ ?_ 55 #[.string ⟨#[]⟩, nilS, nilS, nilS, nilS, nilS, .int .i64 0, nilS, nilS] HKTW.out ?_ rfl HO.out ?_); rfl; rfl; exact size_room; intro wz hkz hsz hblz hotz))
     refine bodyPost_ret (results_row_tmp2 rfl _ _ w.heap.size _ #[.string RI, cE, cR, cW, cH, cS, .int .i64 r.next, cC, cT] _ rfl hkz Tryz.underlying55 rfl size_room) rfl ?_
     refine ⟨.inl ⟨r, _, HX9.out, rfl, ?_⟩, HBW.out.trans (hblz _ (Nat.le_refl _))⟩
     rw [← hRI]
     exact ⟨_, _, _, _, _, _, _, rfl, (HRM.out.moved (Nat.lt_succ_of_lt (Nat.lt_succ_self _)) hsz hotz).room⟩
    ·have hem := emp_f hl
     have HX9 : Hid (X = .inr (L.length + 1)) := hid (by rw [HEND.out, if_pos (.inr (fun h => hl (by injection h)))])
     clear hl
     generalize hSL : bstr l = SL at *
     go_wp2_with ((with_reducible refine wpList_store_rowq rfl 55 _ _ rfl w.heap.size #[.string ⟨#[]⟩, nilS, nilS, nilS, nilS, nilS, .int .i64 0, nilS, nilS] ?_ ?_ 55 #[.string ⟨#[]⟩, nilS, nilS, nilS, nilS, nilS, .int .i64 0, nilS, nilS] HKTW.out ?_ rfl one_room ?_); rfl; rfl; exact size_room; intro wz hkz hsz hblz hotz)
     refine bodyPost_ret (results_row_tmp2 rfl _ _ w.heap.size _ #[.string ⟨#[]⟩, nilS, nilS, nilS, nilS, nilS, .int .i64 0, nilS, nilS] _ rfl hkz Tryz.underlying55 rfl size_room) rfl ?_
     exact ⟨.inr ⟨_, HX9.out, rfl⟩, HBW.out.trans (hblz _ (Nat.le_refl _))⟩
end Go.Proofs.YteadlcncnhbmjaaGreatDoor
/- The text Rs1. -/
namespace Go.Proofs.YteadlcncnhbmjaaGreatDoor
open Go.RowKit Go.Lib
set_option linter.unusedVariables false
set_option linter.unusedSimpArgs false
theorem mid_yields {T : TypeId} {d : TypeDesc} {C : World → Prop} {b q : Nat} {cs : List Value} {ops : Array Oper} {op : Oper} {a : Act} (hd : (match d with | .struct _ | .array _ _ => true | _ => false) = true) (hu : Tryz.prog.underlying T = some d) (hi : (Tryz.prog.info? T).map (·.size) = some cs.length) (hC : ∀ W, C W → W.rangeAt b q cs)
  (hw : Region.wanted op (yielded ops a.tmps) = true) (x : Operand) (ho : op.op = .load T x) (hx : a.eval x = .pointer (some ⟨b, q, none⟩)) : YieldsIf Tryz.prog ops C op (.agg cs.toArray) a :=
 .inl ⟨hw, fun w hw' => by
  unfold execOp
  simp only [ho, hx, Instr.loadAt, Instr.sureAddr, Sem.run_bind, Sem.run_pure, Result.andThen_ok, run_loadVar_mid w b q T cs d (hC w hw') hu (by cases d <;> first | rfl | cases hd) hi]⟩
theorem sameR24 (A B : Option Addr) (ca cb : Nat) (a : List (Int × Int × Int × Bool)) (w : World) (ha : Rd w A (a.length * 4) (a.flatMap rowC)) (hb : Rd w B (a.length * 4) (a.flatMap rowC)) (hn : a.length ≤ 1000000) :
  Calls Tryz.prog 79 #[.slice A a.length ca, .slice B a.length cb] w fun e w' => e = .returned (.bool true) ∧ Below w.heap.size w w' := by
 have HA := hid ha
 have HB := hid hb
 clear ha hb
 have hne : ((a.length : Int) != (a.length : Int)) = false := by rw [bne_eq_false_iff_eq]
 go_enter Tryz.func79, Tryz.ntmps79
 go_wp2_with fail
 go_loopw [5] (fun i wr => ∃ k q : Nat, k ≤ a.length ∧ i = .int .i64 k ∧ wr = w.drewN q) (fun i _ => a.length - (RowKit.intOf i).toNat)
 case atStart => exact ⟨0, 0, by omega, rfl, rfl⟩
 case round =>
  obtain ⟨k, q, hk, rfl, rfl⟩ := hrel
  by_cases hlt : k < a.length
  ·obtain ⟨ba, oa, x, rfl, hx, hca⟩ := HA.out.el_at (el := rowC) (sz := 4) (fun _ => rfl) (by decide) hlt
   obtain ⟨bb, ob, y, rfl, hy, hcb⟩ := HB.out.el_at (el := rowC) (sz := 4) (fun _ => rfl) (by decide) hlt
   obtain rfl : x = y := Option.some.inj (hx.symm.trans hy)
   have ha0 := hca 0 _ rfl
   have hb0 := hcb 0 _ rfl
   have ha1 := hca 1 _ rfl
   have hb1 := hcb 1 _ rfl
   have ha2 := hca 2 _ rfl
   have hb2 := hcb 2 _ rfl
   have ha3 := hca 3 _ rfl
   have hb3 := hcb 3 _ rfl
   rw [Nat.add_zero] at ha0 hb0
   have h0 : (x.1 != x.1) = false := by rw [bne_eq_false_iff_eq]
   have g0 : (x.1 == x.1) = true := beq_self_eq_true _
   have h1 : (x.2.1 != x.2.1) = false := by rw [bne_eq_false_iff_eq]
   have g1 : (x.2.1 == x.2.1) = true := beq_self_eq_true _
   have h2 : (x.2.2.1 != x.2.2.1) = false := by rw [bne_eq_false_iff_eq]
   have g2 : (x.2.2.1 == x.2.2.1) = true := beq_self_eq_true _
   have g3 : (x.2.2.2 == x.2.2.2) = true := beq_self_eq_true _
   generalize x.1 = z0 at *
   generalize x.2.1 = z1 at *
   generalize x.2.2.1 = z2 at *
   generalize x.2.2.2 = z3 at *
   clear hx hy hca hcb
   go_wp2_with fail
   go_quiet (fail)
   go_wp2_with fail
   go_roundw
   case rel => exact ⟨k + 1, _, by omega, by go_num, rfl⟩
   case measure => simp [RowKit.intOf]; omega
  ·obtain rfl : k = a.length := by omega
   go_wp2_with fail
   go_ret
   exact ⟨rfl, below_drewN (Below.refl _ _) q⟩
theorem sameE10 (A B : Option Addr) (ca cb : Nat) (a : List (Int × List UInt8 × Int)) (w : World) (ha : Rd w A (a.length * 3) (a.flatMap entC)) (hb : Rd w B (a.length * 3) (a.flatMap entC)) (hn : a.length ≤ 1000000) :
  Calls Tryz.prog 81 #[.slice A a.length ca, .slice B a.length cb] w fun e w' => e = .returned (.bool true) ∧ Below w.heap.size w w' := by
 have HA := hid ha
 have HB := hid hb
 clear ha hb
 have hne : ((a.length : Int) != (a.length : Int)) = false := by rw [bne_eq_false_iff_eq]
 go_enter Tryz.func81, Tryz.ntmps81
 go_wp2_with fail
 go_loopw [5] (fun i wr => ∃ k q : Nat, k ≤ a.length ∧ i = .int .i64 k ∧ wr = w.drewN q) (fun i _ => a.length - (RowKit.intOf i).toNat)
 case atStart => exact ⟨0, 0, by omega, rfl, rfl⟩
 case round =>
  obtain ⟨k, q, hk, rfl, rfl⟩ := hrel
  by_cases hlt : k < a.length
  ·obtain ⟨ba, oa, x, rfl, hx, hca⟩ := HA.out.el_at (el := entC) (sz := 3) (fun _ => rfl) (by decide) hlt
   obtain ⟨bb, ob, y, rfl, hy, hcb⟩ := HB.out.el_at (el := entC) (sz := 3) (fun _ => rfl) (by decide) hlt
   obtain rfl : x = y := Option.some.inj (hx.symm.trans hy)
   have ha0 := hca 0 _ rfl
   have hb0 := hcb 0 _ rfl
   have ha1 := hca 1 _ rfl
   have hb1 := hcb 1 _ rfl
   have ha2 := hca 2 _ rfl
   have hb2 := hcb 2 _ rfl
   rw [Nat.add_zero] at ha0 hb0
   have h0 : (x.1 != x.1) = false := by rw [bne_eq_false_iff_eq]
   have g0 : (x.1 == x.1) = true := beq_self_eq_true _
   have h1 : (!((bstr x.2.1).toList == (bstr x.2.1).toList)) = false := by rw [beq_self_eq_true]; rfl
   have g1 : ((bstr x.2.1).toList == (bstr x.2.1).toList) = true := beq_self_eq_true _
   have h2 : (x.2.2 != x.2.2) = false := by rw [bne_eq_false_iff_eq]
   have g2 : (x.2.2 == x.2.2) = true := beq_self_eq_true _
   generalize x.1 = z0 at *
   generalize bstr x.2.1 = z1 at *
   generalize x.2.2 = z2 at *
   clear hx hy hca hcb
   go_wp2_with fail
   go_quiet (fail)
   go_wp2_with fail
   go_roundw
   case rel => exact ⟨k + 1, _, by omega, by go_num, rfl⟩
   case measure => simp [RowKit.intOf]; omega
  ·obtain rfl : k = a.length := by omega
   go_wp2_with fail
   go_ret
   exact ⟨rfl, below_drewN (Below.refl _ _) q⟩
theorem sameI24 (A B : Option Addr) (ca cb : Nat) (a : List Int) (w : World) (ha : Rd w A a.length (intL a)) (hb : Rd w B a.length (intL a)) (hn : a.length ≤ 1000000) :
  Calls Tryz.prog 80 #[.slice A a.length ca, .slice B a.length cb] w fun e w' => e = .returned (.bool true) ∧ Below w.heap.size w w' := by
 have HA := hid ha
 have HB := hid hb
 clear ha hb
 have hne : ((a.length : Int) != (a.length : Int)) = false := by rw [bne_eq_false_iff_eq]
 go_enter Tryz.func80, Tryz.ntmps80
 go_wp2_with fail
 go_loopw [5] (fun i wr => ∃ k q : Nat, k ≤ a.length ∧ i = .int .i64 k ∧ wr = w.drewN q) (fun i _ => a.length - (RowKit.intOf i).toNat)
 case atStart => exact ⟨0, 0, by omega, rfl, rfl⟩
 case round =>
  obtain ⟨k, q, hk, rfl, rfl⟩ := hrel
  by_cases hlt : k < a.length
  ·obtain ⟨ba, oa, x, rfl, hx, hcx⟩ := HA.out.int_at hlt
   obtain ⟨bb, ob, y, rfl, hy, hcy⟩ := HB.out.int_at hlt
   obtain rfl : x = y := Option.some.inj (hx.symm.trans hy)
   have h1 : (x != x) = false := by rw [bne_eq_false_iff_eq]
   clear hx hy
   go_wp2_with fail
   go_quiet (fail)
   go_wp2_with fail
   go_roundw
   case rel => exact ⟨k + 1, _, by omega, by go_num, rfl⟩
   case measure => simp [RowKit.intOf]; omega
  ·obtain rfl : k = a.length := by omega
   go_wp2_with fail
   go_ret
   exact ⟨rfl, below_drewN (Below.refl _ _) q⟩
theorem told_any (r : Ar.Rm) (X Y : Array Value) (w : World) (hx : RmV w r X) (hy : RmV w r Y) (hc : r.receipts.length ≤ 1000000) (ht : r.typing.length ≤ 1000000) : Calls Tryz.prog 82 #[.agg X, .agg Y] w fun e w' => e = .returned (.bool true) ∧ Below w.heap.size w w' := by
 obtain ⟨cE, cR, cW, cH, cS, cC, cT, rfl, hX⟩ := hx
 obtain ⟨dE, dR, dW, dH, dS, dC, dT, rfl, hY⟩ := hy
 obtain ⟨AC, kC, rfl, hAC, -⟩ := hX.rcp
 obtain ⟨AT, kT, rfl, hAT, -⟩ := hX.typ
 obtain ⟨BC, lC, rfl, hBC, -⟩ := hY.rcp
 obtain ⟨BT, lT, rfl, hBT, -⟩ := hY.typ
 have hb := ((Below.refl w.heap.size w).alloc (Nat.le_refl _) (.cells #[.string (bstr r.id), cE, cR, cW, cH, cS, .int .i64 r.next, .slice AC r.receipts.length kC, .slice AT r.typing.length kT] 55)).alloc (by simp) (.cells #[.string (bstr r.id), dE, dR, dW, dH, dS, .int .i64 r.next, .slice BC r.receipts.length lC, .slice BT r.typing.length lT] 55)
 have HB := hid hb
 have HCA := hid (hAC.below hb)
 have HTA := hid (hAT.below hb)
 have HCB := hid (hBC.below hb)
 have HTB := hid (hBT.below hb)
 have hk1 : Blk ((w.alloc (.cells #[.string (bstr r.id), cE, cR, cW, cH, cS, .int .i64 r.next, .slice AC r.receipts.length kC, .slice AT r.typing.length kT] 55)).alloc (.cells #[.string (bstr r.id), dE, dR, dW, dH, dS, .int .i64 r.next, .slice BC r.receipts.length lC, .slice BT r.typing.length lT] 55)) w.heap.size 55 #[.string (bstr r.id), cE, cR, cW, cH, cS, .int .i64 r.next, .slice AC r.receipts.length kC, .slice AT r.typing.length kT] := (Blk.new w 55 #[.string (bstr r.id), cE, cR, cW, cH, cS, .int .i64 r.next, .slice AC r.receipts.length kC, .slice AT r.typing.length kT]).alloc _
 have hk2 : Blk ((w.alloc (.cells #[.string (bstr r.id), cE, cR, cW, cH, cS, .int .i64 r.next, .slice AC r.receipts.length kC, .slice AT r.typing.length kT] 55)).alloc (.cells #[.string (bstr r.id), dE, dR, dW, dH, dS, .int .i64 r.next, .slice BC r.receipts.length lC, .slice BT r.typing.length lT] 55)) (w.heap.size + 1) 55 #[.string (bstr r.id), dE, dR, dW, dH, dS, .int .i64 r.next, .slice BC r.receipts.length lC, .slice BT r.typing.length lT] := blk_n1 w _ 55 #[.string (bstr r.id), dE, dR, dW, dH, dS, .int .i64 r.next, .slice BC r.receipts.length lC, .slice BT r.typing.length lT]
 have p7 := hk1.cell 7
 have p8 := hk1.cell 8
 have q7 := hk2.cell 7
 have q8 := hk2.cell 8
 change _ = some (Value.slice AC r.receipts.length kC) at p7
 change _ = some (Value.slice AT r.typing.length kT) at p8
 change _ = some (Value.slice BC r.receipts.length lC) at q7
 change _ = some (Value.slice BT r.typing.length lT) at q8
 clear hX hY hAC hAT hBC hBT hb hk1 hk2
 have e1 : ((r.receipts.length : Int) != (r.receipts.length : Int)) = false := by rw [bne_eq_false_iff_eq]
 have e2 : ((r.typing.length : Int) != (r.typing.length : Int)) = false := by rw [bne_eq_false_iff_eq]
 generalize hw2 : (w.alloc (.cells #[.string (bstr r.id), cE, cR, cW, cH, cS, .int .i64 r.next, .slice AC r.receipts.length kC, .slice AT r.typing.length kT] 55)).alloc (.cells #[.string (bstr r.id), dE, dR, dW, dH, dS, .int .i64 r.next, .slice BC r.receipts.length lC, .slice BT r.typing.length lT] 55) = w2 at *
 go_enter Tryz.func82, Tryz.ntmps82
 go_wp2_with fail
 go_loopw [5] (fun i wr => ∃ k q : Nat, k ≤ r.receipts.length ∧ i = .int .i64 k ∧ wr = w2.drewN q) (fun i _ => r.receipts.length - (RowKit.intOf i).toNat)
 case atStart => exact ⟨0, 0, by omega, rfl, rfl⟩
 case round =>
  obtain ⟨k, q, hk, rfl, rfl⟩ := hrel
  by_cases hlt : k < r.receipts.length
  ·obtain ⟨ba, oa, x, e1, hx, hca⟩ := HCA.out.el_at (el := recC) (sz := 4) (fun _ => rfl) (by decide) hlt
   obtain ⟨bb, ob, y, e2, hy, hcb⟩ := HCB.out.el_at (el := recC) (sz := 4) (fun _ => rfl) (by decide) hlt
   subst e1 e2
   obtain rfl : x = y := Option.some.inj (hx.symm.trans hy)
   have ha0 := hca 0 _ rfl
   have hb0 := hcb 0 _ rfl
   have ha1 := hca 1 _ rfl
   have hb1 := hcb 1 _ rfl
   have ha2 := hca 2 _ rfl
   have hb2 := hcb 2 _ rfl
   have ha3 := hca 3 _ rfl
   have hb3 := hcb 3 _ rfl
   rw [Nat.add_zero] at ha0 hb0
   have h0 : (!((bstr x.1).toList == (bstr x.1).toList)) = false := by rw [beq_self_eq_true]; rfl
   have g0 : ((bstr x.1).toList == (bstr x.1).toList) = true := beq_self_eq_true _
   have h1 : (x.2.1 != x.2.1) = false := by rw [bne_eq_false_iff_eq]
   have g1 : (x.2.1 == x.2.1) = true := beq_self_eq_true _
   have h2 : (x.2.2.1 != x.2.2.1) = false := by rw [bne_eq_false_iff_eq]
   have g2 : (x.2.2.1 == x.2.2.1) = true := beq_self_eq_true _
   have h3 : (x.2.2.2 != x.2.2.2) = false := by rw [bne_eq_false_iff_eq]
   have g3 : (x.2.2.2 == x.2.2.2) = true := beq_self_eq_true _
   generalize bstr x.1 = z0 at *
   generalize x.2.1 = z1 at *
   generalize x.2.2.1 = z2 at *
   generalize x.2.2.2 = z3 at *
   clear hx hy hca hcb
   go_wp2_with fail
   go_quiet (fail)
   go_wp2_with fail
   go_roundw
   case rel => exact ⟨k + 1, _, by omega, by go_num, rfl⟩
   case measure => simp [RowKit.intOf]; omega
  ·obtain rfl : k = r.receipts.length := by omega
   go_wp2_with fail
   go_loopw [6] (fun i wr => ∃ k q : Nat, k ≤ r.typing.length ∧ i = .int .i64 k ∧ wr = w2.drewN q) (fun i _ => r.typing.length - (RowKit.intOf i).toNat)
   case atStart => exact ⟨0, _, by omega, rfl, rfl⟩
   case round =>
    obtain ⟨k, q, hk, rfl, rfl⟩ := hrel
    by_cases hlt : k < r.typing.length
    ·obtain ⟨ba, oa, x, e1, hx, hca⟩ := HTA.out.el_at (el := typC) (sz := 2) (fun _ => rfl) (by decide) hlt
     obtain ⟨bb, ob, y, e2, hy, hcb⟩ := HTB.out.el_at (el := typC) (sz := 2) (fun _ => rfl) (by decide) hlt
     subst e1 e2
     obtain rfl : x = y := Option.some.inj (hx.symm.trans hy)
     have ha0 := hca 0 _ rfl
     have hb0 := hcb 0 _ rfl
     have ha1 := hca 1 _ rfl
     have hb1 := hcb 1 _ rfl
     rw [Nat.add_zero] at ha0 hb0
     have h0 : (!((bstr x.1).toList == (bstr x.1).toList)) = false := by rw [beq_self_eq_true]; rfl
     have g0 : ((bstr x.1).toList == (bstr x.1).toList) = true := beq_self_eq_true _
     have h1 : (x.2 != x.2) = false := by rw [bne_eq_false_iff_eq]
     have g1 : (x.2 == x.2) = true := beq_self_eq_true _
     generalize bstr x.1 = z0 at *
     generalize x.2 = z1 at *
     clear hx hy hca hcb
     go_wp2_with fail
     go_quiet (fail)
     go_wp2_with fail
     go_roundw
     case rel => exact ⟨k + 1, _, by omega, by go_num, rfl⟩
     case measure => simp [RowKit.intOf]; omega
    ·obtain rfl : k = r.typing.length := by omega
     go_wp2_with fail
     go_ret
     exact ⟨rfl, below_drewN HB.out _⟩
theorem sameV8 (A B : Option Addr) (ca cb : Nat) (b1 b2 : Nat) (L : List (List Ar.FV)) (w : World) (ha : EvRow w b1 A L) (hb : EvRow w b2 B L) (hw : ∀ e ∈ L, ∀ v ∈ e, v.WOk) (hn : L.length ≤ 1000000) :
  Calls Tryz.prog 78 #[.slice A L.length ca, .slice B L.length cb] w fun e w' => e = .returned (.bool true) ∧ Below w.heap.size w w' := by
 have HA := hid ha
 have HB := hid hb
 have HW := hid hw
 clear ha hb hw
 have hne : ((L.length : Int) != (L.length : Int)) = false := by rw [bne_eq_false_iff_eq]
 go_enter Tryz.func78, Tryz.ntmps78
 go_wp2_with fail
 go_loopw [5] (fun i wr => ∃ k : Nat, k ≤ L.length ∧ i = .int .i64 k ∧ Below w.heap.size w wr) (fun i _ => L.length - (RowKit.intOf i).toNat)
 case atStart => exact ⟨0, by omega, rfl, Below.refl _ _⟩
 case round =>
  obtain ⟨k, hk, rfl, hbl⟩ := hrel
  have HBL := hid hbl
  clear hbl
  by_cases hlt : k < L.length
  ·obtain ⟨e, he⟩ : ∃ e, L[k]? = some e := ⟨_, List.getElem?_eq_getElem hlt⟩
   obtain ⟨ba, oa, cs, rfl, -, hr1, hl1, hv1⟩ := HA.out k e he
   obtain ⟨bb, ob, ds, rfl, -, hr2, hl2, hv2⟩ := HB.out k e he
   have HR1 := hid (rg_b HBL.out hr1)
   have HR2 := hid (rg_b HBL.out hr2)
   have HV1 := hid (hv1.below HBL.out)
   have HV2 := hid (hv2.below HBL.out)
   have HWE := hid (HW.out e (List.mem_of_getElem? he))
   have hk0 : (0 : Int) ≤ (k : Int) := by omega
   have hk1 : (k : Int) < (L.length : Int) := by omega
   clear hr1 hr2 hv1 hv2 he
   go_wp2_with fail
   refine wp_region_noPanic ?_
   refine wp_region_held_drew (S := fun W => W.rangeAt ba (oa + k * 29) cs ∧ W.rangeAt bb (ob + k * 29) ds) (by kernel_rfl) ⟨HR1.out, HR2.out⟩ (fun hHeld => ?_)
   refine wpAnyH_take (i := 0) (oi := _) (v := ?_) rfl (by kernel_rfl) (by kernel_rfl) (by kernel_rfl) (fun _ _ _ h => h) (Or.inl ⟨by rfl, ?_⟩) hHeld ?_
   rotate_left
   ·intro wq hSw
    go_simp
    (try with_reducible rfl)
   (try simp only [Act.put, List.getElem_toArray, List.getElem_cons_zero, List.getElem_cons_succ, List.setIfInBounds_toArray, List.set_cons_zero, List.set_cons_succ])
   refine wpAnyH_take (i := 1) (oi := _) (v := ?_) rfl (by kernel_rfl) (by kernel_rfl) (by kernel_rfl) (fun _ _ _ h => h) (Or.inl ⟨by rfl, ?_⟩) hHeld ?_
   rotate_left
   ·intro wq hSw
    go_simp
    (try with_reducible rfl)
   (try simp only [Act.put, List.getElem_toArray, List.getElem_cons_zero, List.getElem_cons_succ, List.setIfInBounds_toArray, List.set_cons_zero, List.set_cons_succ])
   refine wpAnyH_take (i := 2) (oi := _) (v := ?_) rfl (by kernel_rfl) (by kernel_rfl) (by kernel_rfl) (fun _ _ _ h => h) (Or.inl ⟨by rfl, ?_⟩) hHeld ?_
   rotate_left
   ·intro wq hSw
    go_simp
    (try with_reducible rfl)
   (try simp only [Act.put, List.getElem_toArray, List.getElem_cons_zero, List.getElem_cons_succ, List.setIfInBounds_toArray, List.set_cons_zero, List.set_cons_succ])
   refine wpAnyH_take (i := 3) (oi := _) (v := _) rfl (by kernel_rfl) (by kernel_rfl) (by kernel_rfl) (fun _ _ _ h => h) (mid_yields rfl Tryz.underlying40 (by rw [size_event, hl1]) (fun W h => h.1) (by rfl) _ rfl rfl) hHeld ?_
   (try simp only [Act.put, List.getElem_toArray, List.getElem_cons_zero, List.getElem_cons_succ, List.setIfInBounds_toArray, List.set_cons_zero, List.set_cons_succ])
   refine wpAnyH_take (i := 4) (oi := _) (v := ?_) rfl (by kernel_rfl) (by kernel_rfl) (by kernel_rfl) (fun _ _ _ h => h) (Or.inl ⟨by rfl, ?_⟩) hHeld ?_
   rotate_left
   ·intro wq hSw
    go_simp
    (try with_reducible rfl)
   (try simp only [Act.put, List.getElem_toArray, List.getElem_cons_zero, List.getElem_cons_succ, List.setIfInBounds_toArray, List.set_cons_zero, List.set_cons_succ])
   refine wpAnyH_take (i := 5) (oi := _) (v := ?_) rfl (by kernel_rfl) (by kernel_rfl) (by kernel_rfl) (fun _ _ _ h => h) (Or.inl ⟨by rfl, ?_⟩) hHeld ?_
   rotate_left
   ·intro wq hSw
    go_simp
    (try with_reducible rfl)
   (try simp only [Act.put, List.getElem_toArray, List.getElem_cons_zero, List.getElem_cons_succ, List.setIfInBounds_toArray, List.set_cons_zero, List.set_cons_succ])
   refine wpAnyH_take (i := 6) (oi := _) (v := ?_) rfl (by kernel_rfl) (by kernel_rfl) (by kernel_rfl) (fun _ _ _ h => h) (Or.inl ⟨by rfl, ?_⟩) hHeld ?_
   rotate_left
   ·intro wq hSw
    go_simp
    (try with_reducible rfl)
   (try simp only [Act.put, List.getElem_toArray, List.getElem_cons_zero, List.getElem_cons_succ, List.setIfInBounds_toArray, List.set_cons_zero, List.set_cons_succ])
   refine wpAnyH_take (i := 7) (oi := _) (v := _) rfl (by kernel_rfl) (by kernel_rfl) (by kernel_rfl) (fun _ _ _ h => h) (mid_yields rfl Tryz.underlying40 (by rw [size_event, hl2]) (fun W h => h.2) (by rfl) _ rfl rfl) hHeld ?_
   (try simp only [Act.put, List.getElem_toArray, List.getElem_cons_zero, List.getElem_cons_succ, List.setIfInBounds_toArray, List.set_cons_zero, List.set_cons_succ])
   refine wpAnyH_ready (rs := [8]) (by kernel_rfl) (by simp) ?_
   refine AllReadyH.cons (o := _) rfl (fun K hK => ?_) AllReadyH.nil
   go_simp
   go_at_call 22
   refine (ev_same (w := wr.drew) (HV1.out.below ((Below.refl _ _).drew)) (HV2.out.below ((Below.refl _ _).drew)) HWE.out).mono ?_
   rintro e2 wA ⟨rfl, hbA⟩
   have hb9 : Below wr.heap.size wr wA := (Below.refl wr.heap.size wr).drew.trans hbA
   have HBA := hid (HBL.out.trans (hb9.mono HBL.out.size))
   refine hK.out _ _ ⟨rg_b hb9 HR1.out, rg_b hb9 HR2.out⟩ (fun hHeld => ?_)
   clear hK K hbA hb9
   (try simp only [Act.put, List.getElem_toArray, List.getElem_cons_zero, List.getElem_cons_succ, List.setIfInBounds_toArray, List.set_cons_zero, List.set_cons_succ])
   refine wpAnyH_take (i := 9) (oi := _) (v := ?_) rfl (by kernel_rfl) (by kernel_rfl) (by kernel_rfl) (fun _ _ _ h => h) (Or.inl ⟨by rfl, ?_⟩) hHeld ?_
   rotate_left
   ·intro wq hSw
    go_simp
    (try with_reducible rfl)
   (try simp only [Act.put, List.getElem_toArray, List.getElem_cons_zero, List.getElem_cons_succ, List.setIfInBounds_toArray, List.set_cons_zero, List.set_cons_succ])
   refine wpAnyH_done (by kernel_rfl) ?_ _
   refine NoPanic.normal ?_
   go_wp2_with fail
   go_roundw
   case rel => exact ⟨k + 1, by omega, by go_num, HBA.out⟩
   case measure => simp [RowKit.intOf]; omega
  ·obtain rfl : k = L.length := by omega
   go_wp2_with fail
   go_ret
   exact ⟨rfl, HBL.out⟩
theorem same24_any (r : Ar.Rm) (X Y : Array Value) (w : World) (hx : RmV w r X) (hy : RmV w r Y) (hw1 : ∀ e ∈ r.events, ∀ v ∈ e, v.WOk) (hw2 : ∀ e ∈ r.waiting, ∀ v ∈ e, v.WOk)
  (hn : r.events.length ≤ 1000000 ∧ r.rows.length ≤ 1000000 ∧ r.waiting.length ≤ 1000000 ∧ r.heads.length ≤ 1000000 ∧ r.state.length ≤ 1000000 ∧ r.receipts.length ≤ 1000000 ∧ r.typing.length ≤ 1000000) :
  Calls Tryz.prog 29 #[.agg X, .agg Y] w fun e w' => e = .returned (.bool true) ∧ Below w.heap.size w w' := by
 obtain ⟨n1, n2, n3, n4, n5, n6, n7⟩ := hn
 have HX0 := hid hx
 have HY0 := hid hy
 have HTOLD := hid (fun W (h1 : RmV W r X) (h2 : RmV W r Y) => told_any r X Y W h1 h2 n6 n7)
 obtain ⟨cE, cR, cW, cH, cS, cC, cT, rfl, hX⟩ := hx
 obtain ⟨dE, dR, dW, dH, dS, dC, dT, rfl, hY⟩ := hy
 obtain ⟨AE, kE, rfl, hAE⟩ := hX.ev
 obtain ⟨BE, lE, rfl, hBE⟩ := hY.ev
 obtain ⟨AW, kW, rfl, hAW⟩ := hX.wait
 obtain ⟨BW, lW, rfl, hBW⟩ := hY.wait
 obtain ⟨AR, kR, rfl, hAR, -⟩ := hX.row
 obtain ⟨BR, lR, rfl, hBR, -⟩ := hY.row
 obtain ⟨AH, kH, rfl, hAH, -⟩ := hX.heads
 obtain ⟨BH, lH, rfl, hBH, -⟩ := hY.heads
 obtain ⟨AS, kS, rfl, hAS, -⟩ := hX.state
 obtain ⟨BS, lS, rfl, hBS, -⟩ := hY.state
 obtain ⟨AC, kC, rfl, -, -⟩ := hX.rcp
 obtain ⟨BC, lC, rfl, -, -⟩ := hY.rcp
 obtain ⟨AT, kT, rfl, -, -⟩ := hX.typ
 obtain ⟨BT, lT, rfl, -, -⟩ := hY.typ
 rw [Nat.mul_one] at hAH hBH
 have hri : ((bstr r.id).toList == (bstr r.id).toList) = true := beq_self_eq_true _
 have hrn : (r.next == r.next) = true := beq_self_eq_true _
 generalize bstr r.id = RI at *
 have HE := hid (fun W (hb : Below w.heap.size w W) => sameV8 AE BE kE lE w.heap.size w.heap.size r.events W (hAE.keep hb) (hBE.keep hb) hw1 n1)
 have HW := hid (fun W (hb : Below w.heap.size w W) => sameV8 AW BW kW lW w.heap.size w.heap.size r.waiting W (hAW.keep hb) (hBW.keep hb) hw2 n3)
 have HR := hid (fun W (hb : Below w.heap.size w W) => sameR24 AR BR kR lR r.rows W (hAR.below hb) (hBR.below hb) n2)
 have HI := hid (fun W (hb : Below w.heap.size w W) => sameI24 AH BH kH lH r.heads W (hAH.below hb) (hBH.below hb) n4)
 have HS := hid (fun W (hb : Below w.heap.size w W) => sameE10 AS BS kS lS r.state W (hAS.below hb) (hBS.below hb) n5)
 have HT := hid (fun W (hb : Below w.heap.size w W) => HTOLD.out W (HX0.out.below hb) (HY0.out.below hb))
 have hb2 := ((Below.refl w.heap.size w).alloc (Nat.le_refl _) (.cells #[.string RI, .slice AE r.events.length kE, .slice AR r.rows.length kR, .slice AW r.waiting.length kW, .slice AH r.heads.length kH, .slice AS r.state.length kS, .int .i64 r.next, .slice AC r.receipts.length kC, .slice AT r.typing.length kT] 55)).alloc (by simp) (.cells #[.string RI, .slice BE r.events.length lE, .slice BR r.rows.length lR, .slice BW r.waiting.length lW, .slice BH r.heads.length lH, .slice BS r.state.length lS, .int .i64 r.next, .slice BC r.receipts.length lC, .slice BT r.typing.length lT] 55)
 have hk1 : Blk ((w.alloc (.cells #[.string RI, .slice AE r.events.length kE, .slice AR r.rows.length kR, .slice AW r.waiting.length kW, .slice AH r.heads.length kH, .slice AS r.state.length kS, .int .i64 r.next, .slice AC r.receipts.length kC, .slice AT r.typing.length kT] 55)).alloc (.cells #[.string RI, .slice BE r.events.length lE, .slice BR r.rows.length lR, .slice BW r.waiting.length lW, .slice BH r.heads.length lH, .slice BS r.state.length lS, .int .i64 r.next, .slice BC r.receipts.length lC, .slice BT r.typing.length lT] 55)) w.heap.size 55 #[.string RI, .slice AE r.events.length kE, .slice AR r.rows.length kR, .slice AW r.waiting.length kW, .slice AH r.heads.length kH, .slice AS r.state.length kS, .int .i64 r.next, .slice AC r.receipts.length kC, .slice AT r.typing.length kT] := (Blk.new w 55 #[.string RI, .slice AE r.events.length kE, .slice AR r.rows.length kR, .slice AW r.waiting.length kW, .slice AH r.heads.length kH, .slice AS r.state.length kS, .int .i64 r.next, .slice AC r.receipts.length kC, .slice AT r.typing.length kT]).alloc _
 have hk2 : Blk ((w.alloc (.cells #[.string RI, .slice AE r.events.length kE, .slice AR r.rows.length kR, .slice AW r.waiting.length kW, .slice AH r.heads.length kH, .slice AS r.state.length kS, .int .i64 r.next, .slice AC r.receipts.length kC, .slice AT r.typing.length kT] 55)).alloc (.cells #[.string RI, .slice BE r.events.length lE, .slice BR r.rows.length lR, .slice BW r.waiting.length lW, .slice BH r.heads.length lH, .slice BS r.state.length lS, .int .i64 r.next, .slice BC r.receipts.length lC, .slice BT r.typing.length lT] 55)) (w.heap.size + 1) 55 #[.string RI, .slice BE r.events.length lE, .slice BR r.rows.length lR, .slice BW r.waiting.length lW, .slice BH r.heads.length lH, .slice BS r.state.length lS, .int .i64 r.next, .slice BC r.receipts.length lC, .slice BT r.typing.length lT] := blk_n1 w _ 55 #[.string RI, .slice BE r.events.length lE, .slice BR r.rows.length lR, .slice BW r.waiting.length lW, .slice BH r.heads.length lH, .slice BS r.state.length lS, .int .i64 r.next, .slice BC r.receipts.length lC, .slice BT r.typing.length lT]
 generalize hw2 : (w.alloc (.cells #[.string RI, .slice AE r.events.length kE, .slice AR r.rows.length kR, .slice AW r.waiting.length kW, .slice AH r.heads.length kH, .slice AS r.state.length kS, .int .i64 r.next, .slice AC r.receipts.length kC, .slice AT r.typing.length kT] 55)).alloc (.cells #[.string RI, .slice BE r.events.length lE, .slice BR r.rows.length lR, .slice BW r.waiting.length lW, .slice BH r.heads.length lH, .slice BS r.state.length lS, .int .i64 r.next, .slice BC r.receipts.length lC, .slice BT r.typing.length lT] 55) = w2 at *
 have HB2 := hid hb2
 have HK12 := hid hk1
 have HK22 := hid hk2
 clear hX hY hAE hBE hAW hBW hAR hBR hAH hBH hAS hBS hb2 hk1 hk2 hw1 HTOLD HX0 HY0
 have p0 := HK12.out.cell 0
 have q0 := HK22.out.cell 0
 rw [show (#[.string RI, .slice AE r.events.length kE, .slice AR r.rows.length kR, .slice AW r.waiting.length kW, .slice AH r.heads.length kH, .slice AS r.state.length kS, .int .i64 r.next, .slice AC r.receipts.length kC, .slice AT r.typing.length kT] : Array Value)[0]? = some (.string RI) from rfl] at p0
 rw [show (#[.string RI, .slice BE r.events.length lE, .slice BR r.rows.length lR, .slice BW r.waiting.length lW, .slice BH r.heads.length lH, .slice BS r.state.length lS, .int .i64 r.next, .slice BC r.receipts.length lC, .slice BT r.typing.length lT] : Array Value)[0]? = some (.string RI) from rfl] at q0
 have p6 := HK12.out.cell 6
 have q6 := HK22.out.cell 6
 rw [show (#[.string RI, .slice AE r.events.length kE, .slice AR r.rows.length kR, .slice AW r.waiting.length kW, .slice AH r.heads.length kH, .slice AS r.state.length kS, .int .i64 r.next, .slice AC r.receipts.length kC, .slice AT r.typing.length kT] : Array Value)[6]? = some (.int .i64 r.next) from rfl] at p6
 rw [show (#[.string RI, .slice BE r.events.length lE, .slice BR r.rows.length lR, .slice BW r.waiting.length lW, .slice BH r.heads.length lH, .slice BS r.state.length lS, .int .i64 r.next, .slice BC r.receipts.length lC, .slice BT r.typing.length lT] : Array Value)[6]? = some (.int .i64 r.next) from rfl] at q6
 have p1 := HK12.out.cell 1
 have q1 := HK22.out.cell 1
 rw [show (#[.string RI, .slice AE r.events.length kE, .slice AR r.rows.length kR, .slice AW r.waiting.length kW, .slice AH r.heads.length kH, .slice AS r.state.length kS, .int .i64 r.next, .slice AC r.receipts.length kC, .slice AT r.typing.length kT] : Array Value)[1]? = some (.slice AE r.events.length kE) from rfl] at p1
 rw [show (#[.string RI, .slice BE r.events.length lE, .slice BR r.rows.length lR, .slice BW r.waiting.length lW, .slice BH r.heads.length lH, .slice BS r.state.length lS, .int .i64 r.next, .slice BC r.receipts.length lC, .slice BT r.typing.length lT] : Array Value)[1]? = some (.slice BE r.events.length lE) from rfl] at q1
 go_enter Tryz.func29, Tryz.ntmps29
 go_wp2_with fail
 refine (HE.out _ HB2.out).mono ?_
 rintro e w3 ⟨rfl, hb3⟩
 have HB3 := hid (HB2.out.trans (hb3.mono HB2.out.size))
 have HK13 := hid (HK12.out.below hb3 HK12.out.lt)
 have HK23 := hid (HK22.out.below hb3 HK22.out.lt)
 clear hb3
 have p3' := HK13.out.cell 3
 have q3' := HK23.out.cell 3
 rw [show (#[.string RI, .slice AE r.events.length kE, .slice AR r.rows.length kR, .slice AW r.waiting.length kW, .slice AH r.heads.length kH, .slice AS r.state.length kS, .int .i64 r.next, .slice AC r.receipts.length kC, .slice AT r.typing.length kT] : Array Value)[3]? = some (.slice AW r.waiting.length kW) from rfl] at p3'
 rw [show (#[.string RI, .slice BE r.events.length lE, .slice BR r.rows.length lR, .slice BW r.waiting.length lW, .slice BH r.heads.length lH, .slice BS r.state.length lS, .int .i64 r.next, .slice BC r.receipts.length lC, .slice BT r.typing.length lT] : Array Value)[3]? = some (.slice BW r.waiting.length lW) from rfl] at q3'
 go_wp2_with fail
 refine (HW.out _ HB3.out).mono ?_
 rintro e w4 ⟨rfl, hb4⟩
 have HB4 := hid (HB3.out.trans (hb4.mono HB3.out.size))
 have HK14 := hid (HK13.out.below hb4 HK13.out.lt)
 have HK24 := hid (HK23.out.below hb4 HK23.out.lt)
 clear hb4
 have p2' := HK14.out.cell 2
 have q2' := HK24.out.cell 2
 rw [show (#[.string RI, .slice AE r.events.length kE, .slice AR r.rows.length kR, .slice AW r.waiting.length kW, .slice AH r.heads.length kH, .slice AS r.state.length kS, .int .i64 r.next, .slice AC r.receipts.length kC, .slice AT r.typing.length kT] : Array Value)[2]? = some (.slice AR r.rows.length kR) from rfl] at p2'
 rw [show (#[.string RI, .slice BE r.events.length lE, .slice BR r.rows.length lR, .slice BW r.waiting.length lW, .slice BH r.heads.length lH, .slice BS r.state.length lS, .int .i64 r.next, .slice BC r.receipts.length lC, .slice BT r.typing.length lT] : Array Value)[2]? = some (.slice BR r.rows.length lR) from rfl] at q2'
 go_wp2_with fail
 refine (HR.out _ HB4.out).mono ?_
 rintro e w5 ⟨rfl, hb5⟩
 have HB5 := hid (HB4.out.trans (hb5.mono HB4.out.size))
 have HK15 := hid (HK14.out.below hb5 HK14.out.lt)
 have HK25 := hid (HK24.out.below hb5 HK24.out.lt)
 clear hb5
 have p4' := HK15.out.cell 4
 have q4' := HK25.out.cell 4
 rw [show (#[.string RI, .slice AE r.events.length kE, .slice AR r.rows.length kR, .slice AW r.waiting.length kW, .slice AH r.heads.length kH, .slice AS r.state.length kS, .int .i64 r.next, .slice AC r.receipts.length kC, .slice AT r.typing.length kT] : Array Value)[4]? = some (.slice AH r.heads.length kH) from rfl] at p4'
 rw [show (#[.string RI, .slice BE r.events.length lE, .slice BR r.rows.length lR, .slice BW r.waiting.length lW, .slice BH r.heads.length lH, .slice BS r.state.length lS, .int .i64 r.next, .slice BC r.receipts.length lC, .slice BT r.typing.length lT] : Array Value)[4]? = some (.slice BH r.heads.length lH) from rfl] at q4'
 go_wp2_with fail
 refine (HI.out _ HB5.out).mono ?_
 rintro e w6 ⟨rfl, hb6⟩
 have HB6 := hid (HB5.out.trans (hb6.mono HB5.out.size))
 have HK16 := hid (HK15.out.below hb6 HK15.out.lt)
 have HK26 := hid (HK25.out.below hb6 HK25.out.lt)
 clear hb6
 have p5' := HK16.out.cell 5
 have q5' := HK26.out.cell 5
 rw [show (#[.string RI, .slice AE r.events.length kE, .slice AR r.rows.length kR, .slice AW r.waiting.length kW, .slice AH r.heads.length kH, .slice AS r.state.length kS, .int .i64 r.next, .slice AC r.receipts.length kC, .slice AT r.typing.length kT] : Array Value)[5]? = some (.slice AS r.state.length kS) from rfl] at p5'
 rw [show (#[.string RI, .slice BE r.events.length lE, .slice BR r.rows.length lR, .slice BW r.waiting.length lW, .slice BH r.heads.length lH, .slice BS r.state.length lS, .int .i64 r.next, .slice BC r.receipts.length lC, .slice BT r.typing.length lT] : Array Value)[5]? = some (.slice BS r.state.length lS) from rfl] at q5'
 go_wp2_with fail
 refine (HS.out _ HB6.out).mono ?_
 rintro e w7 ⟨rfl, hb7⟩
 have HB7 := hid (HB6.out.trans (hb7.mono HB6.out.size))
 have HK17 := hid (HK16.out.below hb7 HK16.out.lt)
 have HK27 := hid (HK26.out.below hb7 HK26.out.lt)
 clear hb7
 go_wp2_with (first | (refine load_row_w (by rfl) 55 _ rfl w.heap.size rfl 55 #[.string RI, .slice AE r.events.length kE, .slice AR r.rows.length kR, .slice AW r.waiting.length kW, .slice AH r.heads.length kH, .slice AS r.state.length kS, .int .i64 r.next, .slice AC r.receipts.length kC, .slice AT r.typing.length kT] (0, 0) _ (by rfl) HK17.out Tryz.underlying55 size_room ?_) | (refine load_row_w (by rfl) 55 _ rfl (w.heap.size + 1) rfl 55 #[.string RI, .slice BE r.events.length lE, .slice BR r.rows.length lR, .slice BW r.waiting.length lW, .slice BH r.heads.length lH, .slice BS r.state.length lS, .int .i64 r.next, .slice BC r.receipts.length lC, .slice BT r.typing.length lT] (0, 0) _ (by rfl) HK27.out Tryz.underlying55 size_room ?_))
 refine (HT.out _ HB7.out).mono ?_
 rintro e w8 ⟨rfl, hb8⟩
 have HB8 := hid (HB7.out.trans (hb8.mono HB7.out.size))
 clear hb8
 go_wp2_with fail
 go_ret
 exact ⟨rfl, HB8.out⟩
end Go.Proofs.YteadlcncnhbmjaaGreatDoor
/- The text Re2. -/
namespace Ar
def txE (e : List FV) : Str := after evN (line e) ++ [10]
def txR (x : Int × Int × Int × Bool) : Str := rowLine x ++ [10]
def txW (e : List FV) : Str := after waitN (line e) ++ [10]
def txH (l : List Int) : Str := if l = [] then [] else headsLine l ++ [10]
def txS (x : Int × Str × Int) : Str := entryLine x ++ [10]
def txC (x : Str × Int × Int × Int) : Str := receiptLine x ++ [10]
def txT (x : Str × Int) : Str := typingLine x ++ [10]
def tp0 (r : Rm) : Str := headLine r.id r.next ++ [10]
def tp1 (r : Rm) : Str := tp0 r ++ r.events.flatMap txE
def tp2 (r : Rm) : Str := tp1 r ++ r.rows.flatMap txR
def tp3 (r : Rm) : Str := tp2 r ++ r.waiting.flatMap txW
def tp4 (r : Rm) : Str := tp3 r ++ txH r.heads
def tp5 (r : Rm) : Str := tp4 r ++ r.state.flatMap txS
def tp6 (r : Rm) : Str := tp5 r ++ r.receipts.flatMap txC
def tp7 (r : Rm) : Str := tp6 r ++ r.typing.flatMap txT
theorem rmText_tp (r : Rm) : rmText r = tp7 r := by
 have e : ∀ {α : Type} (l : List α) (f : α → Str), (l.map f).flatMap (fun s => s ++ [10]) = l.flatMap (fun x => f x ++ [10]) := by
  intro α l f
  induction l with
  | nil => rfl
  | cons x l ih => simp [ih]
 unfold rmText
 rw [join_cat _ (rmLines_ne r)]
 unfold rmLines tp7 tp6 tp5 tp4 tp3 tp2 tp1 tp0 txH
 simp only [List.flatMap_append, e]
 by_cases h : r.heads = []
 ·simp only [h, if_true, List.flatMap_singleton, List.flatMap_nil]
  rfl
 ·simp only [h, if_false, List.flatMap_singleton]
  rfl
theorem seg_le {α : Type} (P : Str) (f : α → Str) (l : List α) (k : Nat) : (P ++ (l.take k).flatMap f).length ≤ (P ++ l.flatMap f).length := by
 have h : l.flatMap f = (l.take k).flatMap f ++ (l.drop k).flatMap f := by rw [← List.flatMap_append, List.take_append_drop]
 rw [h]
 simp only [List.length_append]
 omega
theorem seg_next {α : Type} (P : Str) (f : α → Str) {l : List α} {k : Nat} {x : α} (h : l[k]? = some x) : P ++ (l.take (k + 1)).flatMap f = (P ++ (l.take k).flatMap f) ++ f x := by
 rw [Go.Proofs.YteadlcncnhbmjaaGreatDoor.take_snoc h, List.flatMap_append]
 simp
theorem seg_all {α : Type} (P : Str) (f : α → Str) (l : List α) : P ++ (l.take l.length).flatMap f = P ++ l.flatMap f := by rw [List.take_length]
end Ar
namespace Go.Proofs.YteadlcncnhbmjaaGreatDoor
open Go.RowKit Go.Lib
set_option linter.unusedVariables false
set_option linter.unusedSimpArgs false
theorem cat_str (x y : List UInt8) : bstr x ++ bstr y = bstr (x ++ y) := str_eq (by simp [bstr])
theorem head_eqA (id : List UInt8) : ((⟨#[114, 111, 111, 109, 32]⟩ : ByteArray) ++ bstr (Ar.quote id)) ++ (⟨#[10]⟩ : ByteArray) = bstr (Ar.headLine id 0 ++ [10]) := str_eq (by simp [bstr, Ar.headLine, Ar.headW])
theorem head_eqB (id : List UInt8) (n : Int) (h : n ≠ 0) : ((((⟨#[114, 111, 111, 109, 32]⟩ : ByteArray) ++ bstr (Ar.quote id)) ++ (⟨#[32, 110, 101, 120, 116, 61]⟩ : ByteArray)) ++ bstr (Ar.itoa n)) ++ (⟨#[10]⟩ : ByteArray) = bstr (Ar.headLine id n ++ [10]) := str_eq (by simp [bstr, Ar.headLine, Ar.headW, Ar.nextW, h])
theorem rowA_eq (J : List UInt8) (a b c : Int) : ((bstr J ++ (⟨#[114, 111, 119]⟩ : ByteArray)) ++ bstr (figT [a, b, c])) ++ (⟨#[10]⟩ : ByteArray) = bstr (J ++ Ar.txR (a, b, c, false)) := str_eq (by simp [bstr, Ar.txR, Ar.rowLine, Ar.rowW, figT])
theorem rowB_eq (J : List UInt8) (a b c : Int) : (((bstr J ++ (⟨#[114, 111, 119]⟩ : ByteArray)) ++ bstr (figT [a, b, c])) ++ (⟨#[32, 103, 111, 110, 101]⟩ : ByteArray)) ++ (⟨#[10]⟩ : ByteArray) = bstr (J ++ Ar.txR (a, b, c, true)) := str_eq (by simp [bstr, Ar.txR, Ar.rowLine, Ar.rowW, figT, Ar.goneW])
theorem hds_eq (J : List UInt8) (l : List Int) (h : l ≠ []) : ((bstr J ++ (⟨#[104, 101, 97, 100, 115, 32]⟩ : ByteArray)) ++ bstr (Ar.join [44] (l.map Ar.itoa))) ++ (⟨#[10]⟩ : ByteArray) = bstr (J ++ Ar.txH l) := str_eq (by simp [bstr, Ar.txH, Ar.headsLine, Ar.headsW, h])
theorem ent_eq (J : List UInt8) (a : Int) (b : List UInt8) (c : Int) : ((((((bstr J ++ (⟨#[101, 110, 116, 114, 121, 32]⟩ : ByteArray)) ++ bstr (Ar.itoa a)) ++ (⟨#[32]⟩ : ByteArray)) ++ bstr (Ar.quote b)) ++ (⟨#[32]⟩ : ByteArray)) ++ bstr (Ar.itoa c)) ++ (⟨#[10]⟩ : ByteArray) = bstr (J ++ Ar.txS (a, b, c)) := str_eq (by simp [bstr, Ar.txS, Ar.entryLine, Ar.entryW])
theorem rec_eq (J : List UInt8) (a : List UInt8) (b c d : Int) : (((bstr J ++ (⟨#[114, 101, 99, 101, 105, 112, 116, 32]⟩ : ByteArray)) ++ bstr (Ar.quote a)) ++ bstr (figT [b, c, d])) ++ (⟨#[10]⟩ : ByteArray) = bstr (J ++ Ar.txC (a, b, c, d)) := str_eq (by simp [bstr, Ar.txC, Ar.receiptLine, Ar.receiptW, figT])
theorem typ_eq (J : List UInt8) (a : List UInt8) (b : Int) : ((((bstr J ++ (⟨#[116, 121, 112, 105, 110, 103, 32]⟩ : ByteArray)) ++ bstr (Ar.quote a)) ++ (⟨#[32]⟩ : ByteArray)) ++ bstr (Ar.itoa b)) ++ (⟨#[10]⟩ : ByteArray) = bstr (J ++ Ar.txT (a, b)) := str_eq (by simp [bstr, Ar.txT, Ar.typingLine, Ar.typingW])
theorem keep_a {w : World} {a : Addr} {v : Value} (h : w.cell? a = some v) (o : Obj) : (w.alloc o).cell? a = some v := keep_b (show Below _ _ _ from (Below.refl _ _).alloc (Nat.le_refl _) o) h
theorem rdn_b {w w' : World} {A : Option Addr} {n : Nat} {vs : List Value} (hb : Nx w w') (h : Rd w A n vs) : Rd w' A n vs := h.below hb
theorem rdn_d {w w' : World} {A : Option Addr} {n : Nat} {vs : List Value} (hb : Nx w.drew w') (h : Rd w A n vs) : Rd w' A n vs := h.below (show Below w.heap.size w w' from (Below.refl w.heap.size w).drew.trans hb)
theorem rd3 (w : World) (a b c : Int) : Rd (w.alloc (.cells #[.int .i64 a, .int .i64 b, .int .i64 c] 3)) (some ⟨w.heap.size, 0, none⟩) 3 (intL [a, b, c]) := Rd.of_blk (vs := intL [a, b, c]) (Blk.new w 3 #[.int .i64 a, .int .i64 b, .int .i64 c])
theorem rtext58_any (r : Ar.Rm) (X : Array Value) (w : World) (hx : RmV w r X) (hf : Fine r) (hn : r.events.length ≤ 1000000 ∧ r.rows.length ≤ 1000000 ∧ r.waiting.length ≤ 1000000 ∧ r.heads.length ≤ 1000000 ∧ r.state.length ≤ 1000000 ∧ r.receipts.length ≤ 1000000 ∧ r.typing.length ≤ 1000000) : Calls Tryz.prog 74 #[.agg X] w fun e w' => e = .returned (.string (bstr (Ar.rmText r))) ∧ Below w.heap.size w w' := by
 obtain ⟨n1, n2, n3, n4, n5, n6, n7⟩ := hn
 have HF := hid hf
 have HLEN : Hid ((Ar.tp1 r).length ≤ 90000001 ∧ (Ar.tp2 r).length ≤ 90000001 ∧ (Ar.tp3 r).length ≤ 90000001 ∧ (Ar.tp4 r).length ≤ 90000001 ∧ (Ar.tp5 r).length ≤ 90000001 ∧ (Ar.tp6 r).length ≤ 90000001 ∧ (Ar.tp7 r).length ≤ 90000001) := hid (by
  have h7 : (Ar.tp7 r).length ≤ 90000001 := by
   rw [← Ar.rmText_tp]
   unfold Ar.rmText
   rw [List.length_append]
   have := hf.tot
   simp only [List.length_cons, List.length_nil]
   omega
  have e7 : (Ar.tp7 r).length = (Ar.tp6 r).length + (r.typing.flatMap Ar.txT).length := by unfold Ar.tp7; rw [List.length_append]
  have e6 : (Ar.tp6 r).length = (Ar.tp5 r).length + (r.receipts.flatMap Ar.txC).length := by unfold Ar.tp6; rw [List.length_append]
  have e5 : (Ar.tp5 r).length = (Ar.tp4 r).length + (r.state.flatMap Ar.txS).length := by unfold Ar.tp5; rw [List.length_append]
  have e4 : (Ar.tp4 r).length = (Ar.tp3 r).length + (Ar.txH r.heads).length := by unfold Ar.tp4; rw [List.length_append]
  have e3 : (Ar.tp3 r).length = (Ar.tp2 r).length + (r.waiting.flatMap Ar.txW).length := by unfold Ar.tp3; rw [List.length_append]
  have e2 : (Ar.tp2 r).length = (Ar.tp1 r).length + (r.rows.flatMap Ar.txR).length := by unfold Ar.tp2; rw [List.length_append]
  omega)
 obtain ⟨cE, cR, cW, cH, cS, cC, cT, rfl, hX⟩ := hx
 obtain ⟨AE, kE, rfl, hAE⟩ := hX.ev
 obtain ⟨AW, kW, rfl, hAW⟩ := hX.wait
 obtain ⟨AR, kR, rfl, hAR, -⟩ := hX.row
 obtain ⟨AH, kH, rfl, hAH, -⟩ := hX.heads
 obtain ⟨AS, kS, rfl, hAS, -⟩ := hX.state
 obtain ⟨AC, kC, rfl, hAC, -⟩ := hX.rcp
 obtain ⟨AT, kT, rfl, hAT, -⟩ := hX.typ
 have HE := hid hAE
 have HW := hid hAW
 have HR := hid hAR
 have HH := hid hAH
 have HS := hid hAS
 have HC := hid hAC
 have HT := hid hAT
 have HQ := hid (fun W => rquote_any (bstr r.id) W (by rw [bstr_size]; exact hf.id))
 rw [show (bstr r.id).data.toList = r.id from rfl] at HQ
 have HNT := hid (fun W => rtext_any r.next W hf.ok)
 have hql : (bstr (Ar.quote r.id)).size ≤ 4000002 := by rw [bstr_size]; have := Ar.quote_len r.id; have := hf.id; omega
 have hnl : (bstr (Ar.itoa r.next)).size ≤ 20 := by rw [bstr_size]; exact itoa_len _ hf.ok
 have HEA := hid (head_eqA r.id)
 have HEB := hid (head_eqB r.id r.next)
 generalize hRI : bstr r.id = RI at *
 have hb1 := (Below.refl w.heap.size w).alloc (Nat.le_refl _) (.cells #[.string RI, .slice AE r.events.length kE, .slice AR r.rows.length kR, .slice AW r.waiting.length kW, .slice AH r.heads.length kH, .slice AS r.state.length kS, .int .i64 r.next, .slice AC r.receipts.length kC, .slice AT r.typing.length kT] 55)
 have hk1 : Blk (w.alloc (.cells #[.string RI, .slice AE r.events.length kE, .slice AR r.rows.length kR, .slice AW r.waiting.length kW, .slice AH r.heads.length kH, .slice AS r.state.length kS, .int .i64 r.next, .slice AC r.receipts.length kC, .slice AT r.typing.length kT] 55)) w.heap.size 55 #[.string RI, .slice AE r.events.length kE, .slice AR r.rows.length kR, .slice AW r.waiting.length kW, .slice AH r.heads.length kH, .slice AS r.state.length kS, .int .i64 r.next, .slice AC r.receipts.length kC, .slice AT r.typing.length kT] := Blk.new w 55 #[.string RI, .slice AE r.events.length kE, .slice AR r.rows.length kR, .slice AW r.waiting.length kW, .slice AH r.heads.length kH, .slice AS r.state.length kS, .int .i64 r.next, .slice AC r.receipts.length kC, .slice AT r.typing.length kT]
 generalize hw1 : w.alloc (.cells #[.string RI, .slice AE r.events.length kE, .slice AR r.rows.length kR, .slice AW r.waiting.length kW, .slice AH r.heads.length kH, .slice AS r.state.length kS, .int .i64 r.next, .slice AC r.receipts.length kC, .slice AT r.typing.length kT] 55) = w1 at *
 have HB1 := hid hb1
 have HK1 := hid hk1
 have hc0 := hk1.cell 0
 have hc6 := hk1.cell 6
 rw [show (#[.string RI, .slice AE r.events.length kE, .slice AR r.rows.length kR, .slice AW r.waiting.length kW, .slice AH r.heads.length kH, .slice AS r.state.length kS, .int .i64 r.next, .slice AC r.receipts.length kC, .slice AT r.typing.length kT] : Array Value)[0]? = some (.string RI) from rfl] at hc0
 rw [show (#[.string RI, .slice AE r.events.length kE, .slice AR r.rows.length kR, .slice AW r.waiting.length kW, .slice AH r.heads.length kH, .slice AS r.state.length kS, .int .i64 r.next, .slice AC r.receipts.length kC, .slice AT r.typing.length kT] : Array Value)[6]? = some (.int .i64 r.next) from rfl] at hc6
 clear hX hAE hAW hAR hAH hAS hAC hAT hb1 hk1 hf
 generalize hQ1 : bstr (Ar.quote r.id) = Q1 at *
 generalize hN1 : bstr (Ar.itoa r.next) = N1 at *
 have hz0 : (⟨#[114, 111, 111, 109, 32]⟩ : ByteArray).size = 5 := rfl
 have hz1 : (⟨#[10]⟩ : ByteArray).size = 1 := rfl
 have hz2 : (⟨#[32, 110, 101, 120, 116, 61]⟩ : ByteArray).size = 6 := rfl
 have hp1 : ¬ 9223372036854775807 < 5 + Q1.size := by omega
 have hp2 : ¬ 9223372036854775807 < 5 + Q1.size + 1 := by omega
 have hp3 : ¬ 9223372036854775807 < 5 + Q1.size + 6 := by omega
 have hp4 : ¬ 9223372036854775807 < 5 + Q1.size + 6 + N1.size := by omega
 have hp5 : ¬ 9223372036854775807 < 5 + Q1.size + 6 + N1.size + 1 := by omega
 go_enter Tryz.func74, Tryz.ntmps74
 go_wp2_with fail
 refine (HQ.out _).mono ?_
 rintro e w2 ⟨rfl, hb2⟩
 have HB2 := hid (HB1.out.trans (hb2.mono HB1.out.size))
 have HK2 := hid (HK1.out.below hb2 HK1.out.lt)
 have hc6' := HK2.out.cell 6
 rw [show (#[.string RI, .slice AE r.events.length kE, .slice AR r.rows.length kR, .slice AW r.waiting.length kW, .slice AH r.heads.length kH, .slice AS r.state.length kS, .int .i64 r.next, .slice AC r.receipts.length kC, .slice AT r.typing.length kT] : Array Value)[6]? = some (.int .i64 r.next) from rfl] at hc6'
 clear hb2
 go_upto_if 20 with fail
 go_cut [3] from 14 to 28 (fun sx wx => ∃ s0, sx = .string s0 ∧ s0 ++ (⟨#[10]⟩ : ByteArray) = bstr (Ar.tp0 r) ∧ s0.size ≤ 5000000 ∧ Below w.heap.size w wx ∧ Blk wx w.heap.size 55 #[.string RI, .slice AE r.events.length kE, .slice AR r.rows.length kR, .slice AW r.waiting.length kW, .slice AH r.heads.length kH, .slice AS r.state.length kS, .int .i64 r.next, .slice AC r.receipts.length kC, .slice AT r.typing.length kT])
 case first =>
  by_cases hn0 : r.next = 0
  ·have hd : (r.next != 0) = false := by rw [hn0]; rfl
   have HP0 : Hid (((⟨#[114, 111, 111, 109, 32]⟩ : ByteArray) ++ Q1) ++ (⟨#[10]⟩ : ByteArray) = bstr (Ar.tp0 r)) := hid (by rw [HEA.out]; unfold Ar.tp0; rw [hn0])
   clear hn0
   go_wp2_with fail
   go_meet
   exact ⟨_, rfl, HP0.out, by simp only [ByteArray.size_append]; omega, HB2.out, HK2.out⟩
  ·have hd : (r.next != 0) = true := by rw [bne_iff_ne]; exact hn0
   have HP0 : Hid (((((⟨#[114, 111, 111, 109, 32]⟩ : ByteArray) ++ Q1) ++ (⟨#[32, 110, 101, 120, 116, 61]⟩ : ByteArray)) ++ N1) ++ (⟨#[10]⟩ : ByteArray) = bstr (Ar.tp0 r)) := hid (HEB.out hn0)
   clear hn0
   go_wp2_with fail
   refine (HNT.out _).mono ?_
   rintro e w3 ⟨rfl, hb3⟩
   have HB3 := hid (HB2.out.trans (hb3.mono HB2.out.size))
   have HK3 := hid (HK2.out.below hb3 HK2.out.lt)
   clear hb3
   go_wp2_with fail
   go_meet
   exact ⟨_, rfl, HP0.out, by simp only [ByteArray.size_append]; omega, HB3.out, HK3.out⟩
 case rest =>
  obtain ⟨s0, rfl, hs0, hs0l, hbx, hkx⟩ := hcut
  have HS0 := hid hs0
  have hp6 : ¬ 9223372036854775807 < s0.size + 1 := by omega
  clear hs0
  have HBX := hid hbx
  have HKX := hid hkx
  clear hbx hkx HB2 HK2 hc6' HQ HNT hql hnl HEA HEB hc0 hc6 HB1 HK1 hz0 hz2 hp1 hp2 hp3 hp4 hp5
  go_wp2_with fail
  go_loopw [3, 4] (fun out ix wr => ∃ k : Nat, k ≤ r.events.length ∧ ix = .int .i64 k ∧ out = .string (bstr (Ar.tp0 r ++ (r.events.take k).flatMap Ar.txE)) ∧ Below w.heap.size w wr ∧ Blk wr w.heap.size 55 #[.string RI, .slice AE r.events.length kE, .slice AR r.rows.length kR, .slice AW r.waiting.length kW, .slice AH r.heads.length kH, .slice AS r.state.length kS, .int .i64 r.next, .slice AC r.receipts.length kC, .slice AT r.typing.length kT]) (fun _ ix _ => r.events.length - (RowKit.intOf ix).toNat)
  case atStart => exact ⟨0, Nat.zero_le _, rfl, by rw [HS0.out]; simp, HBX.out, HKX.out⟩
  case round =>
   obtain ⟨k, hk, rfl, rfl, hb, hkr⟩ := hrel
   have HB := hid hb
   have HKR := hid hkr
   have hbs := hb.size
   have hq0 : (bstr (Ar.tp0 r ++ (r.events.take k).flatMap Ar.txE)).size ≤ 90000001 := by
    rw [bstr_size]
    exact Nat.le_trans (Ar.seg_le _ _ _ _) HLEN.out.1
   have hcr := HKR.out.cell 1
   rw [show (#[.string RI, .slice AE r.events.length kE, .slice AR r.rows.length kR, .slice AW r.waiting.length kW, .slice AH r.heads.length kH, .slice AS r.state.length kS, .int .i64 r.next, .slice AC r.receipts.length kC, .slice AT r.typing.length kT] : Array Value)[1]? = some (.slice AE r.events.length kE) from rfl] at hcr
   clear hb hkr
   by_cases hlt : k < r.events.length
   ·obtain ⟨x, hx⟩ : ∃ x, r.events[k]? = some x := ⟨_, List.getElem?_eq_getElem hlt⟩
    obtain ⟨ba, oa, cs, rfl, -, hr1, hl1, hv1⟩ := HE.out k x hx
    have HR1 := hid (rg_b HB.out hr1)
    have HV1 := hid (hv1.below HB.out)
    have HFX := hid (HF.out.ev x (List.mem_of_getElem? hx))
    have HN := hid (Ar.seg_next (Ar.tp0 r) Ar.txE hx)
    have HI : Hid ((Tryz.prog.info? 40).map (·.size) = some cs.length) := hid (by rw [size_event, hl1])
    have HEV := hid (revent_any _ cs.toArray x wr HV1.out HFX.out.1 HFX.out.2)
    have HWI := hid (fun W => rwith_any Ar.evN (Ar.line x) W (by decide) HFX.out.2)
    have hpl : (bstr (Ar.after Ar.evN (Ar.line x) ++ [10])).size ≤ 100000100 := by
     rw [bstr_size, List.length_append]
     have := HFX.out.2
     unfold Ar.after
     split
     ·simp [Ar.evN]
     ·rw [List.length_append, List.length_cons]
      simp only [Ar.evN, List.length_cons, List.length_nil]
      omega
    have HCT := hid (cat_str (Ar.tp0 r ++ (r.events.take k).flatMap Ar.txE) (Ar.after Ar.evN (Ar.line x) ++ [10]))
    rw [show bstr Ar.evN = (⟨#[101, 118, 101, 110, 116]⟩ : ByteArray) from rfl] at HWI
    clear hr1 hv1 hx
    generalize hJK : bstr (Ar.tp0 r ++ (r.events.take k).flatMap Ar.txE) = JK at *
    generalize hP1 : bstr (Ar.after Ar.evN (Ar.line x) ++ [10]) = P1 at *
    generalize bstr (Ar.line x) = P2 at *
    go_wp2_with ((with_reducible refine wpList_load_mid rfl 40 _ rfl ba (oa + k * 29) ?_ cs _ HR1.out Tryz.underlying40 ?_ HI.out ?_); rfl; rfl)
    refine HEV.out.mono ?_
    rintro e w3 ⟨rfl, hb3⟩
    have HB3 := hid (HB.out.trans (hb3.mono hbs))
    have HK3 := hid (HKR.out.below hb3 HKR.out.lt)
    clear hb3
    go_wp2_with fail
    refine (HWI.out _).mono ?_
    rintro e w4 ⟨rfl, rfl⟩
    go_wp2_with fail
    go_roundw
    case rel => exact ⟨k + 1, by omega, by go_num, by rw [HN.out, HCT.out]; rfl, HB3.out, HK3.out⟩
    case measure => simp [RowKit.intOf]; omega
   ·obtain rfl : k = r.events.length := by omega
    have HALL : Hid (Ar.tp0 r ++ (r.events.take r.events.length).flatMap Ar.txE = Ar.tp1 r) := hid (Ar.seg_all _ _ _)
    rw [HALL.out] at hq0 ⊢
    clear hlt
    go_wp2_with fail
    go_loopw [3, 5] (fun out ix wr => ∃ k : Nat, k ≤ r.rows.length ∧ ix = .int .i64 k ∧ out = .string (bstr (Ar.tp1 r ++ (r.rows.take k).flatMap Ar.txR)) ∧ Below w.heap.size w wr ∧ Blk wr w.heap.size 55 #[.string RI, .slice AE r.events.length kE, .slice AR r.rows.length kR, .slice AW r.waiting.length kW, .slice AH r.heads.length kH, .slice AS r.state.length kS, .int .i64 r.next, .slice AC r.receipts.length kC, .slice AT r.typing.length kT]) (fun _ ix _ => r.rows.length - (RowKit.intOf ix).toNat)
    case atStart => exact ⟨0, Nat.zero_le _, rfl, by simp, HB.out, HKR.out⟩
    case round =>
     obtain ⟨k, hk, rfl, rfl, hb, hkr⟩ := hrel
     have HB := hid hb
     have HKR := hid hkr
     have hbs := hb.size
     have hq0 : (bstr (Ar.tp1 r ++ (r.rows.take k).flatMap Ar.txR)).size ≤ 90000001 := by
      rw [bstr_size]
      exact Nat.le_trans (Ar.seg_le _ _ _ _) HLEN.out.2.1
     have hcr := HKR.out.cell 2
     rw [show (#[.string RI, .slice AE r.events.length kE, .slice AR r.rows.length kR, .slice AW r.waiting.length kW, .slice AH r.heads.length kH, .slice AS r.state.length kS, .int .i64 r.next, .slice AC r.receipts.length kC, .slice AT r.typing.length kT] : Array Value)[2]? = some (.slice AR r.rows.length kR) from rfl] at hcr
     clear hb hkr
     by_cases hlt : k < r.rows.length
     ·obtain ⟨ba, oa, x, e1, hx, hca⟩ := HR.out.el_at (el := rowC) (sz := 4) (fun _ => rfl) (by decide) hlt
      subst e1
      have HR1 : Hid (wr.rangeAt ba (oa + k * 4) (rowC x)) := hid (rg_b HB.out hca)
      have HFX := hid (HF.out.row x (List.mem_of_getElem? hx))
      have HN := hid (Ar.seg_next (Ar.tp1 r) Ar.txR hx)
      obtain ⟨a, b, c, d⟩ := x
      have hcx : wr.rangeAt ba (oa + k * 4) [.int .i64 a, .int .i64 b, .int .i64 c, .bool d] := HR1.out
      clear hca hx HR1
      have HI3 : Hid (∀ x ∈ [a, b, c], Ar.inInt x) := hid (fun x hx => by simp only [List.mem_cons, List.not_mem_nil, or_false] at hx; rcases hx with rfl | rfl | rfl; exact HFX.out.1; exact HFX.out.2.1; exact HFX.out.2.2)
      have hfl : (bstr (figT [a, b, c])).size ≤ 63 := by rw [bstr_size]; exact figT_len _ HI3.out
      have HFG : Hid (∀ (n : Nat) W, Rd W (some ⟨n, 0, none⟩) 3 (intL [a, b, c]) → Calls Tryz.prog 134 #[.slice (some ⟨n, 0, none⟩) 3 3] W fun e w' => e = .returned (.string (bstr (figT [a, b, c]))) ∧ Below W.heap.size W w') := hid (fun n W h => rfigures_any (some ⟨n, 0, none⟩) 3 [a, b, c] W h HI3.out (by simp))
      have HEQA := hid (rowA_eq (Ar.tp1 r ++ (r.rows.take k).flatMap Ar.txR) a b c)
      have HEQB := hid (rowB_eq (Ar.tp1 r ++ (r.rows.take k).flatMap Ar.txR) a b c)
      have hz1 : (⟨#[114, 111, 119]⟩ : ByteArray).size = 3 := rfl
      have hz2 : (⟨#[32, 103, 111, 110, 101]⟩ : ByteArray).size = 5 := rfl
      have hz3 : (⟨#[10]⟩ : ByteArray).size = 1 := rfl
      generalize hJK : bstr (Ar.tp1 r ++ (r.rows.take k).flatMap Ar.txR) = JK at *
      generalize hP1 : bstr (figT [a, b, c]) = P1 at *
      have hs1 : ¬ 9223372036854775807 < JK.size + 3 := by omega
      have hs2 : ¬ 9223372036854775807 < JK.size + 3 + P1.size := by omega
      have hs3 : ¬ 9223372036854775807 < JK.size + 3 + P1.size + 5 := by omega
      have hs4 : ¬ 9223372036854775807 < JK.size + 3 + P1.size + 5 + 1 := by omega
      have hs5 : ¬ 9223372036854775807 < JK.size + 3 + P1.size + 1 := by omega
      go_wp2_with (first
       | ((with_reducible refine wpList_load_mid rfl 114 _ rfl ba (oa + k * 4) ?_ [.int .i64 a, .int .i64 b, .int .i64 c, .bool d] _ hcx Tryz.underlying114 ?_ ?_ ?_); rfl; rfl; kernel_rfl)
       | ((with_reducible refine wpList_store_row' rfl 114 _ _ rfl wr.heap.size #[.int .i64 a, .int .i64 b, .int .i64 c, .bool d] ?_ ?_ 114 _ (Blk.new wr 114 _) ?_ ?_ ?_ ?_); rfl; rfl; kernel_rfl; rfl; simp [Value.oneCell']; intro w2 hk2 hs2 hbl2; have hz2 := ((Below.refl wr.heap.size wr).alloc (Nat.le_refl _) (.cells #[.int .i64 0, .int .i64 0, .int .i64 0, .bool false] 114)).trans (hbl2 wr.heap.size (Nat.le_refl _)); have HB2 := hid (HB.out.trans (hz2.mono hbs)); have HK2 := hid (HKR.out.below hz2 HKR.out.lt); have hx0 := hk2.cell 0; rw [show (#[.int .i64 a, .int .i64 b, .int .i64 c, .bool d] : Array Value)[0]? = some (.int .i64 a) from rfl] at hx0; have hx1 := hk2.cell 1; rw [show (#[.int .i64 a, .int .i64 b, .int .i64 c, .bool d] : Array Value)[1]? = some (.int .i64 b) from rfl] at hx1; have hx2 := hk2.cell 2; rw [show (#[.int .i64 a, .int .i64 b, .int .i64 c, .bool d] : Array Value)[2]? = some (.int .i64 c) from rfl] at hx2; have hx3 := hk2.cell 3; rw [show (#[.int .i64 a, .int .i64 b, .int .i64 c, .bool d] : Array Value)[3]? = some (.bool d) from rfl] at hx3; have HX2 := hid hk2; have hs22 := HB2.out.size; clear hk2 hbl2 hz2 hs2))
      refine (HFG.out w2.heap.size _ (rd3 w2 a b c)).mono ?_
      rintro e w3 ⟨rfl, hb3⟩
      have hb9 : Below w2.heap.size w2 w3 := ((Below.refl w2.heap.size w2).alloc (Nat.le_refl _) (.cells #[.int .i64 a, .int .i64 b, .int .i64 c] 3)).trans (hb3.mono (by rw [World.size_alloc]; exact Nat.le_succ _))
      have HB3 := hid (HB2.out.trans (hb9.mono hs22))
      have HK3 := hid (HK2.out.below hb9 HK2.out.lt)
      have hx3' := (HX2.out.below hb9 HX2.out.lt).cell 3
      rw [show (#[.int .i64 a, .int .i64 b, .int .i64 c, .bool d] : Array Value)[3]? = some (.bool d) from rfl] at hx3'
      clear hb3 hb9
      cases d with
      | true =>
       go_wp2_with fail
       go_roundw
       case rel => exact ⟨k + 1, by omega, by go_num, by rw [HN.out, ← HEQB.out], HB3.out, HK3.out⟩
       case measure => simp [RowKit.intOf]; omega
      | false =>
       go_wp2_with fail
       go_roundw
       case rel => exact ⟨k + 1, by omega, by go_num, by rw [HN.out, ← HEQA.out], HB3.out, HK3.out⟩
       case measure => simp [RowKit.intOf]; omega
     ·obtain rfl : k = r.rows.length := by omega
      have HALL : Hid (Ar.tp1 r ++ (r.rows.take r.rows.length).flatMap Ar.txR = Ar.tp2 r) := hid (Ar.seg_all _ _ _)
      rw [HALL.out] at hq0 ⊢
      clear hlt
      go_wp2_with fail
      go_loopw [3, 7] (fun out ix wr => ∃ k : Nat, k ≤ r.waiting.length ∧ ix = .int .i64 k ∧ out = .string (bstr (Ar.tp2 r ++ (r.waiting.take k).flatMap Ar.txW)) ∧ Below w.heap.size w wr ∧ Blk wr w.heap.size 55 #[.string RI, .slice AE r.events.length kE, .slice AR r.rows.length kR, .slice AW r.waiting.length kW, .slice AH r.heads.length kH, .slice AS r.state.length kS, .int .i64 r.next, .slice AC r.receipts.length kC, .slice AT r.typing.length kT]) (fun _ ix _ => r.waiting.length - (RowKit.intOf ix).toNat)
      case atStart => exact ⟨0, Nat.zero_le _, rfl, by simp, HB.out, HKR.out⟩
      case round =>
       obtain ⟨k, hk, rfl, rfl, hb, hkr⟩ := hrel
       have HB := hid hb
       have HKR := hid hkr
       have hbs := hb.size
       have hq0 : (bstr (Ar.tp2 r ++ (r.waiting.take k).flatMap Ar.txW)).size ≤ 90000001 := by
        rw [bstr_size]
        exact Nat.le_trans (Ar.seg_le _ _ _ _) HLEN.out.2.2.1
       have hcr := HKR.out.cell 3
       rw [show (#[.string RI, .slice AE r.events.length kE, .slice AR r.rows.length kR, .slice AW r.waiting.length kW, .slice AH r.heads.length kH, .slice AS r.state.length kS, .int .i64 r.next, .slice AC r.receipts.length kC, .slice AT r.typing.length kT] : Array Value)[3]? = some (.slice AW r.waiting.length kW) from rfl] at hcr
       clear hb hkr
       by_cases hlt : k < r.waiting.length
       ·obtain ⟨x, hx⟩ : ∃ x, r.waiting[k]? = some x := ⟨_, List.getElem?_eq_getElem hlt⟩
        obtain ⟨ba, oa, cs, rfl, -, hr1, hl1, hv1⟩ := HW.out k x hx
        have HR1 := hid (rg_b HB.out hr1)
        have HV1 := hid (hv1.below HB.out)
        have HFX := hid (HF.out.wait x (List.mem_of_getElem? hx))
        have HN := hid (Ar.seg_next (Ar.tp2 r) Ar.txW hx)
        have HI : Hid ((Tryz.prog.info? 40).map (·.size) = some cs.length) := hid (by rw [size_event, hl1])
        have HEV := hid (revent_any _ cs.toArray x wr HV1.out HFX.out.1 HFX.out.2)
        have HWI := hid (fun W => rwith_any Ar.waitN (Ar.line x) W (by decide) HFX.out.2)
        have hpl : (bstr (Ar.after Ar.waitN (Ar.line x) ++ [10])).size ≤ 100000100 := by
         rw [bstr_size, List.length_append]
         have := HFX.out.2
         unfold Ar.after
         split
         ·simp [Ar.waitN]
         ·rw [List.length_append, List.length_cons]
          simp only [Ar.waitN, List.length_cons, List.length_nil]
          omega
        have HCT := hid (cat_str (Ar.tp2 r ++ (r.waiting.take k).flatMap Ar.txW) (Ar.after Ar.waitN (Ar.line x) ++ [10]))
        rw [show bstr Ar.waitN = (⟨#[119, 97, 105, 116]⟩ : ByteArray) from rfl] at HWI
        clear hr1 hv1 hx
        generalize hJK : bstr (Ar.tp2 r ++ (r.waiting.take k).flatMap Ar.txW) = JK at *
        generalize hP1 : bstr (Ar.after Ar.waitN (Ar.line x) ++ [10]) = P1 at *
        generalize bstr (Ar.line x) = P2 at *
        go_wp2_with ((with_reducible refine wpList_load_mid rfl 40 _ rfl ba (oa + k * 29) ?_ cs _ HR1.out Tryz.underlying40 ?_ HI.out ?_); rfl; rfl)
        refine HEV.out.mono ?_
        rintro e w3 ⟨rfl, hb3⟩
        have HB3 := hid (HB.out.trans (hb3.mono hbs))
        have HK3 := hid (HKR.out.below hb3 HKR.out.lt)
        clear hb3
        go_wp2_with fail
        refine (HWI.out _).mono ?_
        rintro e w4 ⟨rfl, rfl⟩
        go_wp2_with fail
        go_roundw
        case rel => exact ⟨k + 1, by omega, by go_num, by rw [HN.out, HCT.out]; rfl, HB3.out, HK3.out⟩
        case measure => simp [RowKit.intOf]; omega
       ·obtain rfl : k = r.waiting.length := by omega
        have HALL : Hid (Ar.tp2 r ++ (r.waiting.take r.waiting.length).flatMap Ar.txW = Ar.tp3 r) := hid (Ar.seg_all _ _ _)
        rw [HALL.out] at hq0 ⊢
        clear hlt
        have hcr := HKR.out.cell 4
        rw [show (#[.string RI, .slice AE r.events.length kE, .slice AR r.rows.length kR, .slice AW r.waiting.length kW, .slice AH r.heads.length kH, .slice AS r.state.length kS, .int .i64 r.next, .slice AC r.receipts.length kC, .slice AT r.typing.length kT] : Array Value)[4]? = some (.slice AH r.heads.length kH) from rfl] at hcr
        go_upto_if 93 with fail
        go_cut [3] from 90 to 100 (fun sx wx => sx = .string (bstr (Ar.tp4 r)) ∧ Below w.heap.size w wx ∧ Blk wx w.heap.size 55 #[.string RI, .slice AE r.events.length kE, .slice AR r.rows.length kR, .slice AW r.waiting.length kW, .slice AH r.heads.length kH, .slice AS r.state.length kS, .int .i64 r.next, .slice AC r.receipts.length kC, .slice AT r.typing.length kT])
        case first =>
         by_cases hh : r.heads = []
         ·have HP4 : Hid (Ar.tp3 r = Ar.tp4 r) := hid (by unfold Ar.tp4 Ar.txH; rw [if_pos hh, List.append_nil])
          have hl0 : ¬ (0 : Int) < (r.heads.length : Int) := by rw [hh]; decide
          clear hh
          go_wp2_with fail
          go_meet
          exact ⟨by rw [HP4.out], HB.out, HKR.out⟩
         ·have HEQ := hid (hds_eq (Ar.tp3 r) r.heads hh)
          have hl0 : (0 : Int) < (r.heads.length : Int) := by cases hc : r.heads with
           | nil => exact absurd hc hh
           | cons n l => simp only [List.length_cons]; omega
          have HIN := hid (rints_any AH kH r.heads wr (by have := HH.out; rw [Nat.mul_one] at this; exact this.below HB.out) HF.out.heads n4 (by have := HF.out.hj; omega))
          have hjl : (bstr (Ar.join [44] (r.heads.map Ar.itoa))).size ≤ 90000000 := by rw [bstr_size]; exact HF.out.hj
          have hz8 : (⟨#[104, 101, 97, 100, 115, 32]⟩ : ByteArray).size = 6 := rfl
          have hz9 : (⟨#[10]⟩ : ByteArray).size = 1 := rfl
          clear hh
          generalize hJK : bstr (Ar.tp3 r) = JK at *
          generalize hP1 : bstr (Ar.join [44] (r.heads.map Ar.itoa)) = P1 at *
          have hs1 : ¬ 9223372036854775807 < JK.size + 6 := by omega
          have hs2 : ¬ 9223372036854775807 < JK.size + 6 + P1.size := by omega
          have hs3 : ¬ 9223372036854775807 < JK.size + 6 + P1.size + 1 := by omega
          go_wp2_with fail
          refine HIN.out.mono ?_
          rintro e w3 ⟨rfl, hb3⟩
          have HB3 := hid (HB.out.trans (hb3.mono hbs))
          have HK3 := hid (HKR.out.below hb3 HKR.out.lt)
          clear hb3
          go_wp2_with fail
          go_meet
          exact ⟨by rw [HEQ.out]; rfl, HB3.out, HK3.out⟩
        case rest =>
         obtain ⟨rfl, hbx, hkx⟩ := hcut
         have HBX := hid hbx
         have HKX := hid hkx
         clear hbx hkx HB HKR HALL hq0 hcr hbs
         go_wp2_with fail
         go_loopw [3, 8] (fun out ix wr => ∃ k : Nat, k ≤ r.state.length ∧ ix = .int .i64 k ∧ out = .string (bstr (Ar.tp4 r ++ (r.state.take k).flatMap Ar.txS)) ∧ Below w.heap.size w wr ∧ Blk wr w.heap.size 55 #[.string RI, .slice AE r.events.length kE, .slice AR r.rows.length kR, .slice AW r.waiting.length kW, .slice AH r.heads.length kH, .slice AS r.state.length kS, .int .i64 r.next, .slice AC r.receipts.length kC, .slice AT r.typing.length kT]) (fun _ ix _ => r.state.length - (RowKit.intOf ix).toNat)
         case atStart => exact ⟨0, Nat.zero_le _, rfl, by simp, HBX.out, HKX.out⟩
         case round =>
          obtain ⟨k, hk, rfl, rfl, hb, hkr⟩ := hrel
          have HB := hid hb
          have HKR := hid hkr
          have hbs := hb.size
          have hq0 : (bstr (Ar.tp4 r ++ (r.state.take k).flatMap Ar.txS)).size ≤ 90000001 := by
           rw [bstr_size]
           exact Nat.le_trans (Ar.seg_le _ _ _ _) HLEN.out.2.2.2.2.1
          have hcr := HKR.out.cell 5
          rw [show (#[.string RI, .slice AE r.events.length kE, .slice AR r.rows.length kR, .slice AW r.waiting.length kW, .slice AH r.heads.length kH, .slice AS r.state.length kS, .int .i64 r.next, .slice AC r.receipts.length kC, .slice AT r.typing.length kT] : Array Value)[5]? = some (.slice AS r.state.length kS) from rfl] at hcr
          clear hb hkr
          by_cases hlt : k < r.state.length
          ·obtain ⟨ba, oa, x, e1, hx, hca⟩ := HS.out.el_at (el := entC) (sz := 3) (fun _ => rfl) (by decide) hlt
           subst e1
           have HR1 : Hid (wr.rangeAt ba (oa + k * 3) (entC x)) := hid (rg_b HB.out hca)
           have HFX := hid (HF.out.state x (List.mem_of_getElem? hx))
           have HN := hid (Ar.seg_next (Ar.tp4 r) Ar.txS hx)
           obtain ⟨a, b, c⟩ := x
           have hcx : wr.rangeAt ba (oa + k * 3) [.int .i64 a, .string (bstr b), .int .i64 c] := HR1.out
           clear hca hx HR1
           have HEQ := hid (ent_eq (Ar.tp4 r ++ (r.state.take k).flatMap Ar.txS) a b c)
           have HCQ := hid (fun W => rquote_any (bstr b) W (by rw [bstr_size]; exact HFX.out.2.1))
           rw [show (bstr b).data.toList = b from rfl] at HCQ
           have hql2 : (bstr (Ar.quote b)).size ≤ 4000002 := by rw [bstr_size]; have := Ar.quote_len b; have hqb : b.length ≤ 1000000 := HFX.out.2.1; omega
           have hz1 : (⟨#[101, 110, 116, 114, 121, 32]⟩ : ByteArray).size = 6 := rfl
           have hz2 : (⟨#[32]⟩ : ByteArray).size = 1 := rfl
           have hz3 : (⟨#[10]⟩ : ByteArray).size = 1 := rfl
           have HCA := hid (fun W => rtext_any a W HFX.out.1)
           have HCC := hid (fun W => rtext_any c W HFX.out.2.2)
           have hal : (bstr (Ar.itoa a)).size ≤ 20 := by rw [bstr_size]; exact itoa_len _ HFX.out.1
           have hcl : (bstr (Ar.itoa c)).size ≤ 20 := by rw [bstr_size]; exact itoa_len _ HFX.out.2.2
           generalize hJK : bstr (Ar.tp4 r ++ (r.state.take k).flatMap Ar.txS) = JK at *
           generalize hQ : bstr (Ar.quote b) = Q at *
           generalize hP1 : bstr (Ar.itoa a) = P1 at *
           generalize hP2 : bstr (Ar.itoa c) = P2 at *
           generalize hSA : bstr b = SA at *
           have hs1 : ¬ 9223372036854775807 < JK.size + 6 := by omega
           have hs2 : ¬ 9223372036854775807 < JK.size + 6 + P1.size := by omega
           have hs3 : ¬ 9223372036854775807 < JK.size + 6 + P1.size + 1 := by omega
           have hs4 : ¬ 9223372036854775807 < JK.size + 6 + P1.size + 1 + Q.size := by omega
           have hs5 : ¬ 9223372036854775807 < JK.size + 6 + P1.size + 1 + Q.size + 1 := by omega
           have hs6 : ¬ 9223372036854775807 < JK.size + 6 + P1.size + 1 + Q.size + 1 + P2.size := by omega
           have hs7 : ¬ 9223372036854775807 < JK.size + 6 + P1.size + 1 + Q.size + 1 + P2.size + 1 := by omega
           go_wp2_with (first
            | ((with_reducible refine wpList_load_mid rfl 103 _ rfl ba (oa + k * 3) ?_ [.int .i64 a, .string SA, .int .i64 c] _ hcx Tryz.underlying103 ?_ ?_ ?_); rfl; rfl; kernel_rfl)
            | ((with_reducible refine wpList_store_row' rfl 103 _ _ rfl wr.heap.size #[.int .i64 a, .string SA, .int .i64 c] ?_ ?_ 103 _ (Blk.new wr 103 _) ?_ ?_ ?_ ?_); rfl; rfl; kernel_rfl; rfl; simp [Value.oneCell']; intro w2 hk2 hs2 hbl2; have hz2 := ((Below.refl wr.heap.size wr).alloc (Nat.le_refl _) (.cells #[.int .i64 0, .string ⟨#[]⟩, .int .i64 0] 103)).trans (hbl2 wr.heap.size (Nat.le_refl _)); have HB2 := hid (HB.out.trans (hz2.mono hbs)); have HK2 := hid (HKR.out.below hz2 HKR.out.lt); have hx0 := hk2.cell 0; rw [show (#[.int .i64 a, .string SA, .int .i64 c] : Array Value)[0]? = some (.int .i64 a) from rfl] at hx0; have hx1 := hk2.cell 1; rw [show (#[.int .i64 a, .string SA, .int .i64 c] : Array Value)[1]? = some (.string SA) from rfl] at hx1; have hx2 := hk2.cell 2; rw [show (#[.int .i64 a, .string SA, .int .i64 c] : Array Value)[2]? = some (.int .i64 c) from rfl] at hx2; have HX2 := hid hk2; have hs22 := HB2.out.size; clear hk2 hbl2 hz2 hs2))
           have hB := Below.refl w2.heap.size w2
           go_region_held3 (fun W => W.cell? ⟨wr.heap.size, 0, none⟩ = some (.int .i64 a) ∧ W.cell? ⟨wr.heap.size, 1, none⟩ = some (.string SA) ∧ W.cell? ⟨wr.heap.size, 2, none⟩ = some (.int .i64 c) ∧ Below w2.heap.size w2 W) (first | with_reducible exact ⟨hx0, hx1, hx2, hB⟩ | with_reducible exact ⟨keep_drew hx0, keep_drew hx1, keep_drew hx2, hB.drew⟩ | with_reducible exact ⟨keep_drew (keep_a hx0 _), keep_drew (keep_a hx1 _), keep_drew (keep_a hx2 _), (hB.alloc hB.size _).drew⟩ | (go_split_ands; with_reducible exact ⟨keep_b (by assumption) (by assumption), keep_b (by assumption) (by assumption), keep_b (by assumption) (by assumption), below_b (by assumption) (by assumption)⟩) | (go_split_ands; with_reducible exact ⟨keep_a (by assumption) _, keep_a (by assumption) _, keep_a (by assumption) _, below_a1 (by assumption) _⟩)) (first | (go_at_call_of 122 (Value.int .i64 a); refine (HCA.out _).mono ?_; rintro e wA ⟨rfl, hbA⟩; replace hbA : Nx _ _ := hbA) | (go_at_call_of 16 (Value.string SA); refine (HCQ.out _).mono ?_; rintro e wB ⟨rfl, hbB⟩; replace hbB : Nx _ _ := hbB) | (go_at_call_of 122 (Value.int .i64 c); refine (HCC.out _).mono ?_; rintro e wC ⟨rfl, hbC⟩; replace hbC : Nx _ _ := hbC))
           all_goals
            go_split_ands
            rename Below w2.heap.size w2 _ => hb9
            go_wp2_with fail
            go_roundw
            case rel => exact ⟨k + 1, by omega, by go_num, by rw [HN.out, ← HEQ.out], HB2.out.trans (hb9.mono hs22), HK2.out.below hb9 HK2.out.lt⟩
            case measure => simp [RowKit.intOf]; omega
          ·obtain rfl : k = r.state.length := by omega
           have HALL : Hid (Ar.tp4 r ++ (r.state.take r.state.length).flatMap Ar.txS = Ar.tp5 r) := hid (Ar.seg_all _ _ _)
           rw [HALL.out] at hq0 ⊢
           clear hlt
           go_wp2_with fail
           go_loopw [3, 10] (fun out ix wr => ∃ k : Nat, k ≤ r.receipts.length ∧ ix = .int .i64 k ∧ out = .string (bstr (Ar.tp5 r ++ (r.receipts.take k).flatMap Ar.txC)) ∧ Below w.heap.size w wr ∧ Blk wr w.heap.size 55 #[.string RI, .slice AE r.events.length kE, .slice AR r.rows.length kR, .slice AW r.waiting.length kW, .slice AH r.heads.length kH, .slice AS r.state.length kS, .int .i64 r.next, .slice AC r.receipts.length kC, .slice AT r.typing.length kT]) (fun _ ix _ => r.receipts.length - (RowKit.intOf ix).toNat)
           case atStart => exact ⟨0, Nat.zero_le _, rfl, by simp, HB.out, HKR.out⟩
           case round =>
            obtain ⟨k, hk, rfl, rfl, hb, hkr⟩ := hrel
            have HB := hid hb
            have HKR := hid hkr
            have hbs := hb.size
            have hq0 : (bstr (Ar.tp5 r ++ (r.receipts.take k).flatMap Ar.txC)).size ≤ 90000001 := by
             rw [bstr_size]
             exact Nat.le_trans (Ar.seg_le _ _ _ _) HLEN.out.2.2.2.2.2.1
            have hcr := HKR.out.cell 7
            rw [show (#[.string RI, .slice AE r.events.length kE, .slice AR r.rows.length kR, .slice AW r.waiting.length kW, .slice AH r.heads.length kH, .slice AS r.state.length kS, .int .i64 r.next, .slice AC r.receipts.length kC, .slice AT r.typing.length kT] : Array Value)[7]? = some (.slice AC r.receipts.length kC) from rfl] at hcr
            clear hb hkr
            by_cases hlt : k < r.receipts.length
            ·obtain ⟨ba, oa, x, e1, hx, hca⟩ := HC.out.el_at (el := recC) (sz := 4) (fun _ => rfl) (by decide) hlt
             subst e1
             have HR1 : Hid (wr.rangeAt ba (oa + k * 4) (recC x)) := hid (rg_b HB.out hca)
             have HFX := hid (HF.out.rcp x (List.mem_of_getElem? hx))
             have HN := hid (Ar.seg_next (Ar.tp5 r) Ar.txC hx)
             obtain ⟨a, b, c, d⟩ := x
             have hcx : wr.rangeAt ba (oa + k * 4) [.string (bstr a), .int .i64 b, .int .i64 c, .int .i64 d] := HR1.out
             clear hca hx HR1
             have HEQ := hid (rec_eq (Ar.tp5 r ++ (r.receipts.take k).flatMap Ar.txC) a b c d)
             have HCQ := hid (fun W => rquote_any (bstr a) W (by rw [bstr_size]; exact HFX.out.1))
             rw [show (bstr a).data.toList = a from rfl] at HCQ
             have hql2 : (bstr (Ar.quote a)).size ≤ 4000002 := by rw [bstr_size]; have := Ar.quote_len a; have hqb : a.length ≤ 1000000 := HFX.out.1; omega
             have hz1 : (⟨#[114, 101, 99, 101, 105, 112, 116, 32]⟩ : ByteArray).size = 8 := rfl
             have hz2 : (⟨#[32]⟩ : ByteArray).size = 1 := rfl
             have hz3 : (⟨#[10]⟩ : ByteArray).size = 1 := rfl
             have HI3 : Hid (∀ x ∈ [b, c, d], Ar.inInt x) := hid (fun x hx => by simp only [List.mem_cons, List.not_mem_nil, or_false] at hx; rcases hx with rfl | rfl | rfl; exact HFX.out.2.1; exact HFX.out.2.2.1; exact HFX.out.2.2.2)
             have hfl : (bstr (figT [b, c, d])).size ≤ 63 := by rw [bstr_size]; exact figT_len _ HI3.out
             have HFG : Hid (∀ (n : Nat) W, Rd W (some ⟨n, 0, none⟩) 3 (intL [b, c, d]) → Calls Tryz.prog 134 #[.slice (some ⟨n, 0, none⟩) 3 3] W fun e w' => e = .returned (.string (bstr (figT [b, c, d]))) ∧ Below W.heap.size W w') := hid (fun n W h => rfigures_any (some ⟨n, 0, none⟩) 3 [b, c, d] W h HI3.out (by simp))
             generalize hJK : bstr (Ar.tp5 r ++ (r.receipts.take k).flatMap Ar.txC) = JK at *
             generalize hQ : bstr (Ar.quote a) = Q at *
             generalize hP1 : bstr (figT [b, c, d]) = P1 at *
             generalize hSA : bstr a = SA at *
             have hs1 : ¬ 9223372036854775807 < JK.size + 8 := by omega
             have hs2 : ¬ 9223372036854775807 < JK.size + 8 + Q.size := by omega
             have hs3 : ¬ 9223372036854775807 < JK.size + 8 + Q.size + P1.size := by omega
             have hs4 : ¬ 9223372036854775807 < JK.size + 8 + Q.size + P1.size + 1 := by omega
             go_wp2_with (first
              | ((with_reducible refine wpList_load_mid rfl 105 _ rfl ba (oa + k * 4) ?_ [.string SA, .int .i64 b, .int .i64 c, .int .i64 d] _ hcx Tryz.underlying105 ?_ ?_ ?_); rfl; rfl; kernel_rfl)
              | ((with_reducible refine wpList_store_row' rfl 105 _ _ rfl wr.heap.size #[.string SA, .int .i64 b, .int .i64 c, .int .i64 d] ?_ ?_ 105 _ (Blk.new wr 105 _) ?_ ?_ ?_ ?_); rfl; rfl; kernel_rfl; rfl; simp [Value.oneCell']; intro w2 hk2 hs2 hbl2; have hz2 := ((Below.refl wr.heap.size wr).alloc (Nat.le_refl _) (.cells #[.string ⟨#[]⟩, .int .i64 0, .int .i64 0, .int .i64 0] 105)).trans (hbl2 wr.heap.size (Nat.le_refl _)); have HB2 := hid (HB.out.trans (hz2.mono hbs)); have HK2 := hid (HKR.out.below hz2 HKR.out.lt); have hx0 := hk2.cell 0; rw [show (#[.string SA, .int .i64 b, .int .i64 c, .int .i64 d] : Array Value)[0]? = some (.string SA) from rfl] at hx0; have hx1 := hk2.cell 1; rw [show (#[.string SA, .int .i64 b, .int .i64 c, .int .i64 d] : Array Value)[1]? = some (.int .i64 b) from rfl] at hx1; have hx2 := hk2.cell 2; rw [show (#[.string SA, .int .i64 b, .int .i64 c, .int .i64 d] : Array Value)[2]? = some (.int .i64 c) from rfl] at hx2; have hx3 := hk2.cell 3; rw [show (#[.string SA, .int .i64 b, .int .i64 c, .int .i64 d] : Array Value)[3]? = some (.int .i64 d) from rfl] at hx3; have HX2 := hid hk2; have hs22 := HB2.out.size; clear hk2 hbl2 hz2 hs2))
             have hB := Below.refl w2.heap.size w2
             go_region_held3 (fun W => W.cell? ⟨wr.heap.size, 0, none⟩ = some (.string SA) ∧ W.cell? ⟨wr.heap.size, 1, none⟩ = some (.int .i64 b) ∧ W.cell? ⟨wr.heap.size, 2, none⟩ = some (.int .i64 c) ∧ W.cell? ⟨wr.heap.size, 3, none⟩ = some (.int .i64 d) ∧ Below w2.heap.size w2 W) (first | with_reducible exact ⟨hx0, hx1, hx2, hx3, hB⟩ | with_reducible exact ⟨keep_drew hx0, keep_drew hx1, keep_drew hx2, keep_drew hx3, hB.drew⟩ | with_reducible exact ⟨keep_drew (keep_a hx0 _), keep_drew (keep_a hx1 _), keep_drew (keep_a hx2 _), keep_drew (keep_a hx3 _), (hB.alloc hB.size _).drew⟩ | (go_split_ands; with_reducible exact ⟨keep_b (by assumption) (by assumption), keep_b (by assumption) (by assumption), keep_b (by assumption) (by assumption), keep_b (by assumption) (by assumption), below_b (by assumption) (by assumption)⟩) | (go_split_ands; with_reducible exact ⟨keep_a (by assumption) _, keep_a (by assumption) _, keep_a (by assumption) _, keep_a (by assumption) _, below_a1 (by assumption) _⟩)) (first | (go_at_call_of 16 (Value.string SA); refine (HCQ.out _).mono ?_; rintro e wB ⟨rfl, hbB⟩; replace hbB : Nx _ _ := hbB) | (go_at_call 134; refine (HFG.out _ _ (by first | exact rd3 _ _ _ _ | exact rdn_d (Below.refl _ _) (rd3 _ _ _ _) | exact rdn_b (by assumption) (rd3 _ _ _ _) | exact rdn_d (by assumption) (rd3 _ _ _ _))).mono ?_; rintro e wC ⟨rfl, hbC⟩; replace hbC : Nx _ _ := hbC))
             all_goals
              go_split_ands
              rename Below w2.heap.size w2 _ => hb9
              go_wp2_with fail
              go_roundw
              case rel => exact ⟨k + 1, by omega, by go_num, by rw [HN.out, ← HEQ.out], HB2.out.trans (hb9.mono hs22), HK2.out.below hb9 HK2.out.lt⟩
              case measure => simp [RowKit.intOf]; omega
            ·obtain rfl : k = r.receipts.length := by omega
             have HALL : Hid (Ar.tp5 r ++ (r.receipts.take r.receipts.length).flatMap Ar.txC = Ar.tp6 r) := hid (Ar.seg_all _ _ _)
             rw [HALL.out] at hq0 ⊢
             clear hlt
             go_wp2_with fail
             go_loopw [3, 12] (fun out ix wr => ∃ k : Nat, k ≤ r.typing.length ∧ ix = .int .i64 k ∧ out = .string (bstr (Ar.tp6 r ++ (r.typing.take k).flatMap Ar.txT)) ∧ Below w.heap.size w wr ∧ Blk wr w.heap.size 55 #[.string RI, .slice AE r.events.length kE, .slice AR r.rows.length kR, .slice AW r.waiting.length kW, .slice AH r.heads.length kH, .slice AS r.state.length kS, .int .i64 r.next, .slice AC r.receipts.length kC, .slice AT r.typing.length kT]) (fun _ ix _ => r.typing.length - (RowKit.intOf ix).toNat)
             case atStart => exact ⟨0, Nat.zero_le _, rfl, by simp, HB.out, HKR.out⟩
             case round =>
              obtain ⟨k, hk, rfl, rfl, hb, hkr⟩ := hrel
              have HB := hid hb
              have HKR := hid hkr
              have hbs := hb.size
              have hq0 : (bstr (Ar.tp6 r ++ (r.typing.take k).flatMap Ar.txT)).size ≤ 90000001 := by
               rw [bstr_size]
               exact Nat.le_trans (Ar.seg_le _ _ _ _) HLEN.out.2.2.2.2.2.2
              have hcr := HKR.out.cell 8
              rw [show (#[.string RI, .slice AE r.events.length kE, .slice AR r.rows.length kR, .slice AW r.waiting.length kW, .slice AH r.heads.length kH, .slice AS r.state.length kS, .int .i64 r.next, .slice AC r.receipts.length kC, .slice AT r.typing.length kT] : Array Value)[8]? = some (.slice AT r.typing.length kT) from rfl] at hcr
              clear hb hkr
              by_cases hlt : k < r.typing.length
              ·obtain ⟨ba, oa, x, e1, hx, hca⟩ := HT.out.el_at (el := typC) (sz := 2) (fun _ => rfl) (by decide) hlt
               subst e1
               have HR1 : Hid (wr.rangeAt ba (oa + k * 2) (typC x)) := hid (rg_b HB.out hca)
               have HFX := hid (HF.out.typ x (List.mem_of_getElem? hx))
               have HN := hid (Ar.seg_next (Ar.tp6 r) Ar.txT hx)
               obtain ⟨a, b⟩ := x
               have hcx : wr.rangeAt ba (oa + k * 2) [.string (bstr a), .int .i64 b] := HR1.out
               clear hca hx HR1
               have HEQ := hid (typ_eq (Ar.tp6 r ++ (r.typing.take k).flatMap Ar.txT) a b)
               have HCQ := hid (fun W => rquote_any (bstr a) W (by rw [bstr_size]; exact HFX.out.1))
               rw [show (bstr a).data.toList = a from rfl] at HCQ
               have hql2 : (bstr (Ar.quote a)).size ≤ 4000002 := by rw [bstr_size]; have := Ar.quote_len a; have hqb : a.length ≤ 1000000 := HFX.out.1; omega
               have hz1 : (⟨#[116, 121, 112, 105, 110, 103, 32]⟩ : ByteArray).size = 7 := rfl
               have hz2 : (⟨#[32]⟩ : ByteArray).size = 1 := rfl
               have hz3 : (⟨#[10]⟩ : ByteArray).size = 1 := rfl
               have HCB := hid (fun W => rtext_any b W HFX.out.2)
               have hbl3 : (bstr (Ar.itoa b)).size ≤ 20 := by rw [bstr_size]; exact itoa_len _ HFX.out.2
               generalize hJK : bstr (Ar.tp6 r ++ (r.typing.take k).flatMap Ar.txT) = JK at *
               generalize hQ : bstr (Ar.quote a) = Q at *
               generalize hP1 : bstr (Ar.itoa b) = P1 at *
               generalize hSA : bstr a = SA at *
               have hs1 : ¬ 9223372036854775807 < JK.size + 7 := by omega
               have hs2 : ¬ 9223372036854775807 < JK.size + 7 + Q.size := by omega
               have hs3 : ¬ 9223372036854775807 < JK.size + 7 + Q.size + 1 := by omega
               have hs4 : ¬ 9223372036854775807 < JK.size + 7 + Q.size + 1 + P1.size := by omega
               have hs5 : ¬ 9223372036854775807 < JK.size + 7 + Q.size + 1 + P1.size + 1 := by omega
               go_wp2_with (first
                | ((with_reducible refine wpList_load_mid rfl 107 _ rfl ba (oa + k * 2) ?_ [.string SA, .int .i64 b] _ hcx Tryz.underlying107 ?_ ?_ ?_); rfl; rfl; kernel_rfl)
                | ((with_reducible refine wpList_store_row' rfl 107 _ _ rfl wr.heap.size #[.string SA, .int .i64 b] ?_ ?_ 107 _ (Blk.new wr 107 _) ?_ ?_ ?_ ?_); rfl; rfl; kernel_rfl; rfl; simp [Value.oneCell']; intro w2 hk2 hs2 hbl2; have hz2 := ((Below.refl wr.heap.size wr).alloc (Nat.le_refl _) (.cells #[.string ⟨#[]⟩, .int .i64 0] 107)).trans (hbl2 wr.heap.size (Nat.le_refl _)); have HB2 := hid (HB.out.trans (hz2.mono hbs)); have HK2 := hid (HKR.out.below hz2 HKR.out.lt); have hx0 := hk2.cell 0; rw [show (#[.string SA, .int .i64 b] : Array Value)[0]? = some (.string SA) from rfl] at hx0; have hx1 := hk2.cell 1; rw [show (#[.string SA, .int .i64 b] : Array Value)[1]? = some (.int .i64 b) from rfl] at hx1; have HX2 := hid hk2; have hs22 := HB2.out.size; clear hk2 hbl2 hz2 hs2))
               have hB := Below.refl w2.heap.size w2
               go_region_held3 (fun W => W.cell? ⟨wr.heap.size, 0, none⟩ = some (.string SA) ∧ W.cell? ⟨wr.heap.size, 1, none⟩ = some (.int .i64 b) ∧ Below w2.heap.size w2 W) (first | with_reducible exact ⟨hx0, hx1, hB⟩ | with_reducible exact ⟨keep_drew hx0, keep_drew hx1, hB.drew⟩ | with_reducible exact ⟨keep_drew (keep_a hx0 _), keep_drew (keep_a hx1 _), (hB.alloc hB.size _).drew⟩ | (go_split_ands; with_reducible exact ⟨keep_b (by assumption) (by assumption), keep_b (by assumption) (by assumption), below_b (by assumption) (by assumption)⟩) | (go_split_ands; with_reducible exact ⟨keep_a (by assumption) _, keep_a (by assumption) _, below_a1 (by assumption) _⟩)) (first | (go_at_call_of 16 (Value.string SA); refine (HCQ.out _).mono ?_; rintro e wB ⟨rfl, hbB⟩; replace hbB : Nx _ _ := hbB) | (go_at_call_of 122 (Value.int .i64 b); refine (HCB.out _).mono ?_; rintro e wC ⟨rfl, hbC⟩; replace hbC : Nx _ _ := hbC))
               all_goals
                go_split_ands
                rename Below w2.heap.size w2 _ => hb9
                go_wp2_with fail
                go_roundw
                case rel => exact ⟨k + 1, by omega, by go_num, by rw [HN.out, ← HEQ.out], HB2.out.trans (hb9.mono hs22), HK2.out.below hb9 HK2.out.lt⟩
                case measure => simp [RowKit.intOf]; omega
              ·obtain rfl : k = r.typing.length := by omega
               have HALL : Hid (Ar.tp6 r ++ (r.typing.take r.typing.length).flatMap Ar.txT = Ar.tp7 r) := hid (Ar.seg_all _ _ _)
               rw [HALL.out] at hq0 ⊢
               clear hlt
               go_wp2_with fail
               go_ret
               exact ⟨by rw [Ar.rmText_tp]; rfl, HB.out⟩
end Go.Proofs.YteadlcncnhbmjaaGreatDoor
/- The text Rl1. -/
namespace Go.Proofs.YteadlcncnhbmjaaGreatDoor
open Go.RowKit Go.Lib
set_option linter.unusedVariables false
set_option linter.unusedSimpArgs false
abbrev PE (e : List Ar.FV) : Prop := (∀ v ∈ e, v.WOk) ∧ (Ar.line e).length ≤ 90000
structure Light (r : Ar.Rm) : Prop where
 ev : ∀ x ∈ r.events, PE x
 wait : ∀ x ∈ r.waiting, PE x
 n : r.events.length ≤ 14 ∧ r.waiting.length ≤ 14 ∧ r.id.length ≤ 100 ∧ r.rows.length ≤ 30 ∧ r.heads.length ≤ 40 ∧ r.state.length ≤ 40 ∧ r.receipts.length ≤ 20 ∧ r.typing.length ≤ 20
 st : ∀ x ∈ r.state, x.2.1.length ≤ 100
 rc : ∀ x ∈ r.receipts, x.1.length ≤ 100
 ty : ∀ x ∈ r.typing, x.1.length ≤ 100
def LtA (r : Ar.Rm) (e : Ending) : Prop := ∃ b, e = .returned (.bool b) ∧ (b = true → Light r)
theorem light_any (r : Ar.Rm) (X : Array Value) (w : World) (hx : RmV w r X) : Calls Tryz.prog 25 #[.agg X] w fun e w' => LtA r e ∧ Below w.heap.size w w' := by
 obtain ⟨cE, cR, cW, cH, cS, cC, cT, rfl, hX⟩ := hx
 obtain ⟨AE, kE, rfl, hAE⟩ := hX.ev
 obtain ⟨AW, kW, rfl, hAW⟩ := hX.wait
 obtain ⟨AR, kR, rfl, hAR, -⟩ := hX.row
 obtain ⟨AH, kH, rfl, hAH, -⟩ := hX.heads
 obtain ⟨AS, kS, rfl, hAS, -⟩ := hX.state
 obtain ⟨AC, kC, rfl, hAC, -⟩ := hX.rcp
 obtain ⟨AT, kT, rfl, hAT, -⟩ := hX.typ
 have HE := hid hAE
 have HW := hid hAW
 have HS := hid hAS
 have HC := hid hAC
 have HT := hid hAT
 have hri : (bstr r.id).size = r.id.length := bstr_size _
 generalize hRI : bstr r.id = RI at *
 have hb1 := (Below.refl w.heap.size w).alloc (Nat.le_refl _) (.cells #[.string RI, .slice AE r.events.length kE, .slice AR r.rows.length kR, .slice AW r.waiting.length kW, .slice AH r.heads.length kH, .slice AS r.state.length kS, .int .i64 r.next, .slice AC r.receipts.length kC, .slice AT r.typing.length kT] 55)
 have hk1 : Blk (w.alloc (.cells #[.string RI, .slice AE r.events.length kE, .slice AR r.rows.length kR, .slice AW r.waiting.length kW, .slice AH r.heads.length kH, .slice AS r.state.length kS, .int .i64 r.next, .slice AC r.receipts.length kC, .slice AT r.typing.length kT] 55)) w.heap.size 55 #[.string RI, .slice AE r.events.length kE, .slice AR r.rows.length kR, .slice AW r.waiting.length kW, .slice AH r.heads.length kH, .slice AS r.state.length kS, .int .i64 r.next, .slice AC r.receipts.length kC, .slice AT r.typing.length kT] := Blk.new w 55 #[.string RI, .slice AE r.events.length kE, .slice AR r.rows.length kR, .slice AW r.waiting.length kW, .slice AH r.heads.length kH, .slice AS r.state.length kS, .int .i64 r.next, .slice AC r.receipts.length kC, .slice AT r.typing.length kT]
 generalize hw1 : w.alloc (.cells #[.string RI, .slice AE r.events.length kE, .slice AR r.rows.length kR, .slice AW r.waiting.length kW, .slice AH r.heads.length kH, .slice AS r.state.length kS, .int .i64 r.next, .slice AC r.receipts.length kC, .slice AT r.typing.length kT] 55) = w1 at *
 have HB1 := hid hb1
 have HK1 := hid hk1
 have hc1 := hk1.cell 1
 rw [show (#[.string RI, .slice AE r.events.length kE, .slice AR r.rows.length kR, .slice AW r.waiting.length kW, .slice AH r.heads.length kH, .slice AS r.state.length kS, .int .i64 r.next, .slice AC r.receipts.length kC, .slice AT r.typing.length kT] : Array Value)[1]? = some (.slice AE r.events.length kE) from rfl] at hc1
 clear hX hAE hAW hAR hAH hAS hAC hAT hb1 hk1 hRI
 go_enter Tryz.func25, Tryz.ntmps25
 go_wp2_with fail
 refine (great_evs AE kE r.events w1 ((HE.out.keep HB1.out).mono HB1.out.size)).mono ?_
 rintro e w2 ⟨⟨b1, rfl, hg1⟩, hb2⟩
 have HB2 := hid (HB1.out.trans (hb2.mono HB1.out.size))
 have HK2 := hid (HK1.out.below hb2 HK1.out.lt)
 clear hb2
 cases b1 with
 | true =>
  clear hg1
  go_wp2_with fail
  go_ret
  exact ⟨⟨_, rfl, fun h => by cases h⟩, HB2.out⟩
 | false =>
  replace hg1 := hg1 rfl
  have hc3 := HK2.out.cell 3
  rw [show (#[.string RI, .slice AE r.events.length kE, .slice AR r.rows.length kR, .slice AW r.waiting.length kW, .slice AH r.heads.length kH, .slice AS r.state.length kS, .int .i64 r.next, .slice AC r.receipts.length kC, .slice AT r.typing.length kT] : Array Value)[3]? = some (.slice AW r.waiting.length kW) from rfl] at hc3
  go_wp2_with fail
  refine (great_evs AW kW r.waiting w2 ((HW.out.keep HB2.out).mono HB2.out.size)).mono ?_
  rintro e w3 ⟨⟨b2, rfl, hg2⟩, hb3⟩
  have HB0 := hid (HB2.out.trans (hb3.mono HB2.out.size))
  have HK0 := hid (HK2.out.below hb3 HK2.out.lt)
  clear hb3
  cases b2 with
  | true =>
   clear hg2
   go_wp2_with fail
   go_ret
   exact ⟨⟨_, rfl, fun h => by cases h⟩, HB0.out⟩
  | false =>
   replace hg2 := hg2 rfl
   have hc0 := HK0.out.cell 0
   rw [show (#[.string RI, .slice AE r.events.length kE, .slice AR r.rows.length kR, .slice AW r.waiting.length kW, .slice AH r.heads.length kH, .slice AS r.state.length kS, .int .i64 r.next, .slice AC r.receipts.length kC, .slice AT r.typing.length kT] : Array Value)[0]? = some (.string RI) from rfl] at hc0
   have hc2 := HK0.out.cell 2
   rw [show (#[.string RI, .slice AE r.events.length kE, .slice AR r.rows.length kR, .slice AW r.waiting.length kW, .slice AH r.heads.length kH, .slice AS r.state.length kS, .int .i64 r.next, .slice AC r.receipts.length kC, .slice AT r.typing.length kT] : Array Value)[2]? = some (.slice AR r.rows.length kR) from rfl] at hc2
   have hc4 := HK0.out.cell 4
   rw [show (#[.string RI, .slice AE r.events.length kE, .slice AR r.rows.length kR, .slice AW r.waiting.length kW, .slice AH r.heads.length kH, .slice AS r.state.length kS, .int .i64 r.next, .slice AC r.receipts.length kC, .slice AT r.typing.length kT] : Array Value)[4]? = some (.slice AH r.heads.length kH) from rfl] at hc4
   have hc5 := HK0.out.cell 5
   rw [show (#[.string RI, .slice AE r.events.length kE, .slice AR r.rows.length kR, .slice AW r.waiting.length kW, .slice AH r.heads.length kH, .slice AS r.state.length kS, .int .i64 r.next, .slice AC r.receipts.length kC, .slice AT r.typing.length kT] : Array Value)[5]? = some (.slice AS r.state.length kS) from rfl] at hc5
   have hc7 := HK0.out.cell 7
   rw [show (#[.string RI, .slice AE r.events.length kE, .slice AR r.rows.length kR, .slice AW r.waiting.length kW, .slice AH r.heads.length kH, .slice AS r.state.length kS, .int .i64 r.next, .slice AC r.receipts.length kC, .slice AT r.typing.length kT] : Array Value)[7]? = some (.slice AC r.receipts.length kC) from rfl] at hc7
   have hc8 := HK0.out.cell 8
   rw [show (#[.string RI, .slice AE r.events.length kE, .slice AR r.rows.length kR, .slice AW r.waiting.length kW, .slice AH r.heads.length kH, .slice AS r.state.length kS, .int .i64 r.next, .slice AC r.receipts.length kC, .slice AT r.typing.length kT] : Array Value)[8]? = some (.slice AT r.typing.length kT) from rfl] at hc8
   by_cases hq0 : 100 < RI.size
   ·have hd1 : decide ((100 : Int) < (RI.size : Int)) = true := decide_eq_true (by omega)
    have hd2 : (100 : Int) < (RI.size : Int) := by omega
    clear hq0
    go_wp2_with fail
    go_ret
    exact ⟨⟨_, rfl, fun h => by cases h⟩, HB0.out⟩
   have hd0a : decide ((100 : Int) < (RI.size : Int)) = false := decide_eq_false (by omega)
   have hd0b : ¬ (100 : Int) < (RI.size : Int) := by omega
   by_cases hq1 : 30 < r.rows.length
   ·have hd1 : decide ((30 : Int) < (r.rows.length : Int)) = true := decide_eq_true (by omega)
    have hd2 : (30 : Int) < (r.rows.length : Int) := by omega
    clear hq1
    go_wp2_with fail
    go_ret
    exact ⟨⟨_, rfl, fun h => by cases h⟩, HB0.out⟩
   have hd1a : decide ((30 : Int) < (r.rows.length : Int)) = false := decide_eq_false (by omega)
   have hd1b : ¬ (30 : Int) < (r.rows.length : Int) := by omega
   by_cases hq2 : 40 < r.heads.length
   ·have hd1 : decide ((40 : Int) < (r.heads.length : Int)) = true := decide_eq_true (by omega)
    have hd2 : (40 : Int) < (r.heads.length : Int) := by omega
    clear hq2
    go_wp2_with fail
    go_ret
    exact ⟨⟨_, rfl, fun h => by cases h⟩, HB0.out⟩
   have hd2a : decide ((40 : Int) < (r.heads.length : Int)) = false := decide_eq_false (by omega)
   have hd2b : ¬ (40 : Int) < (r.heads.length : Int) := by omega
   by_cases hq3 : 40 < r.state.length
   ·have hd1 : decide ((40 : Int) < (r.state.length : Int)) = true := decide_eq_true (by omega)
    have hd2 : (40 : Int) < (r.state.length : Int) := by omega
    clear hq3
    go_wp2_with fail
    go_ret
    exact ⟨⟨_, rfl, fun h => by cases h⟩, HB0.out⟩
   have hd3a : decide ((40 : Int) < (r.state.length : Int)) = false := decide_eq_false (by omega)
   have hd3b : ¬ (40 : Int) < (r.state.length : Int) := by omega
   by_cases hq4 : 20 < r.receipts.length
   ·have hd1 : decide ((20 : Int) < (r.receipts.length : Int)) = true := decide_eq_true (by omega)
    have hd2 : (20 : Int) < (r.receipts.length : Int) := by omega
    clear hq4
    go_wp2_with fail
    go_ret
    exact ⟨⟨_, rfl, fun h => by cases h⟩, HB0.out⟩
   have hd4a : decide ((20 : Int) < (r.receipts.length : Int)) = false := decide_eq_false (by omega)
   have hd4b : ¬ (20 : Int) < (r.receipts.length : Int) := by omega
   by_cases hq5 : 20 < r.typing.length
   ·have hd1 : decide ((20 : Int) < (r.typing.length : Int)) = true := decide_eq_true (by omega)
    have hd2 : (20 : Int) < (r.typing.length : Int) := by omega
    clear hq5
    go_wp2_with fail
    go_ret
    exact ⟨⟨_, rfl, fun h => by cases h⟩, HB0.out⟩
   have hd5a : decide ((20 : Int) < (r.typing.length : Int)) = false := decide_eq_false (by omega)
   have hd5b : ¬ (20 : Int) < (r.typing.length : Int) := by omega
   have HN : Hid (r.events.length ≤ 14 ∧ r.waiting.length ≤ 14 ∧ r.id.length ≤ 100 ∧ r.rows.length ≤ 30 ∧ r.heads.length ≤ 40 ∧ r.state.length ≤ 40 ∧ r.receipts.length ≤ 20 ∧ r.typing.length ≤ 20) := hid ⟨hg1, hg2, by omega, by omega, by omega, by omega, by omega, by omega⟩
   go_wp2_with fail
   go_loopw [3] (fun ix wr => ∃ k : Nat, k ≤ r.events.length ∧ ix = .int .i64 (k : Int) ∧ Below w.heap.size w wr ∧ Blk wr w.heap.size 55 #[.string RI, .slice AE r.events.length kE, .slice AR r.rows.length kR, .slice AW r.waiting.length kW, .slice AH r.heads.length kH, .slice AS r.state.length kS, .int .i64 r.next, .slice AC r.receipts.length kC, .slice AT r.typing.length kT] ∧ ∀ x ∈ r.events.take k, (PE) x) (fun ix _ => r.events.length - (RowKit.intOf ix).toNat)
   case atStart => exact ⟨0, Nat.zero_le _, rfl, HB0.out, HK0.out, by simp⟩
   case round =>
    obtain ⟨k, hk, rfl, hb, hkr, hall⟩ := hrel
    have HBE := hid hb
    have HKE := hid hkr
    have HAE := hid hall
    have hc1 := HKE.out.cell 1
    rw [show (#[.string RI, .slice AE r.events.length kE, .slice AR r.rows.length kR, .slice AW r.waiting.length kW, .slice AH r.heads.length kH, .slice AS r.state.length kS, .int .i64 r.next, .slice AC r.receipts.length kC, .slice AT r.typing.length kT] : Array Value)[1]? = some (.slice AE r.events.length kE) from rfl] at hc1
    clear hb hkr hall
    by_cases hlt : k < r.events.length
    ·obtain ⟨x, hx⟩ : ∃ x, r.events[k]? = some x := ⟨_, List.getElem?_eq_getElem hlt⟩
     obtain ⟨ba, oa, cs, rfl, hbl, hr, hlen, hev⟩ := (HE.out.keep HBE.out) k x hx
     have HL2 : Hid ((Tryz.prog.info? 40).map (·.size) = some cs.length) := hid (by rw [size_event, hlen])
     have HEV := hid hev
     have HX := hid hx
     clear hev hx
     go_wp2_with ((with_reducible refine wpList_load_mid rfl 40 _ rfl ba (oa + k * 29) ?_ cs _ hr Tryz.underlying40 ?_ HL2.out ?_); rfl; rfl)
     refine (ev_both _ _ _ _ HEV.out).2.mono ?_
     rintro e w2 ⟨⟨bb, rfl, hbb⟩, hb2⟩
     have HB2 := hid (HBE.out.trans (hb2.mono HBE.out.size))
     have HK2 := hid (HKE.out.below hb2 HKE.out.lt)
     clear hb2
     cases bb
     ·clear hbb
      go_wp2_with fail
      go_ret
      exact ⟨⟨_, rfl, fun h => by cases h⟩, HB2.out⟩
     ·have HP := hid (hbb rfl)
      clear hbb
      go_wp2_with fail
      go_roundw
      case rel =>
       refine ⟨k + 1, by omega, by go_num, HB2.out, HK2.out, fun y hy => ?_⟩
       rw [take_snoc HX.out] at hy
       rcases List.mem_append.1 hy with hy | hy
       ·exact HAE.out y hy
       ·rw [List.mem_singleton.1 hy]; exact HP.out
      case measure => simp [RowKit.intOf]; omega
    ·obtain rfl : k = r.events.length := by omega
     have HFE : Hid (∀ x ∈ r.events, (PE) x) := hid (by have := HAE.out; rwa [List.take_length] at this)
     clear HAE hlt
     go_wp2_with fail
     go_loopw [4] (fun ix wr => ∃ k : Nat, k ≤ r.waiting.length ∧ ix = .int .i64 (k : Int) ∧ Below w.heap.size w wr ∧ Blk wr w.heap.size 55 #[.string RI, .slice AE r.events.length kE, .slice AR r.rows.length kR, .slice AW r.waiting.length kW, .slice AH r.heads.length kH, .slice AS r.state.length kS, .int .i64 r.next, .slice AC r.receipts.length kC, .slice AT r.typing.length kT] ∧ ∀ x ∈ r.waiting.take k, (PE) x) (fun ix _ => r.waiting.length - (RowKit.intOf ix).toNat)
     case atStart => exact ⟨0, Nat.zero_le _, rfl, HBE.out, HKE.out, by simp⟩
     case round =>
      obtain ⟨k, hk, rfl, hb, hkr, hall⟩ := hrel
      have HBW := hid hb
      have HKW := hid hkr
      have HAW := hid hall
      have hc3 := HKW.out.cell 3
      rw [show (#[.string RI, .slice AE r.events.length kE, .slice AR r.rows.length kR, .slice AW r.waiting.length kW, .slice AH r.heads.length kH, .slice AS r.state.length kS, .int .i64 r.next, .slice AC r.receipts.length kC, .slice AT r.typing.length kT] : Array Value)[3]? = some (.slice AW r.waiting.length kW) from rfl] at hc3
      clear hb hkr hall
      by_cases hlt : k < r.waiting.length
      ·obtain ⟨x, hx⟩ : ∃ x, r.waiting[k]? = some x := ⟨_, List.getElem?_eq_getElem hlt⟩
       obtain ⟨ba, oa, cs, rfl, hbl, hr, hlen, hev⟩ := (HW.out.keep HBW.out) k x hx
       have HL2 : Hid ((Tryz.prog.info? 40).map (·.size) = some cs.length) := hid (by rw [size_event, hlen])
       have HEV := hid hev
       have HX := hid hx
       clear hev hx
       go_wp2_with ((with_reducible refine wpList_load_mid rfl 40 _ rfl ba (oa + k * 29) ?_ cs _ hr Tryz.underlying40 ?_ HL2.out ?_); rfl; rfl)
       refine (ev_both _ _ _ _ HEV.out).2.mono ?_
       rintro e w2 ⟨⟨bb, rfl, hbb⟩, hb2⟩
       have HB2 := hid (HBW.out.trans (hb2.mono HBW.out.size))
       have HK2 := hid (HKW.out.below hb2 HKW.out.lt)
       clear hb2
       cases bb
       ·clear hbb
        go_wp2_with fail
        go_ret
        exact ⟨⟨_, rfl, fun h => by cases h⟩, HB2.out⟩
       ·have HP := hid (hbb rfl)
        clear hbb
        go_wp2_with fail
        go_roundw
        case rel =>
         refine ⟨k + 1, by omega, by go_num, HB2.out, HK2.out, fun y hy => ?_⟩
         rw [take_snoc HX.out] at hy
         rcases List.mem_append.1 hy with hy | hy
         ·exact HAW.out y hy
         ·rw [List.mem_singleton.1 hy]; exact HP.out
        case measure => simp [RowKit.intOf]; omega
      ·obtain rfl : k = r.waiting.length := by omega
       have HFW : Hid (∀ x ∈ r.waiting, (PE) x) := hid (by have := HAW.out; rwa [List.take_length] at this)
       clear HAW hlt
       go_wp2_with fail
       go_loopw [5] (fun ix wr => ∃ k : Nat, k ≤ r.state.length ∧ ix = .int .i64 (k : Int) ∧ Below w.heap.size w wr ∧ Blk wr w.heap.size 55 #[.string RI, .slice AE r.events.length kE, .slice AR r.rows.length kR, .slice AW r.waiting.length kW, .slice AH r.heads.length kH, .slice AS r.state.length kS, .int .i64 r.next, .slice AC r.receipts.length kC, .slice AT r.typing.length kT] ∧ ∀ x ∈ r.state.take k, (fun x => x.2.1.length ≤ 100) x) (fun ix _ => r.state.length - (RowKit.intOf ix).toNat)
       case atStart => exact ⟨0, Nat.zero_le _, rfl, HBW.out, HKW.out, by simp⟩
       case round =>
        obtain ⟨k, hk, rfl, hb, hkr, hall⟩ := hrel
        have HBS := hid hb
        have HKS := hid hkr
        have HAS := hid hall
        have hc5 := HKS.out.cell 5
        rw [show (#[.string RI, .slice AE r.events.length kE, .slice AR r.rows.length kR, .slice AW r.waiting.length kW, .slice AH r.heads.length kH, .slice AS r.state.length kS, .int .i64 r.next, .slice AC r.receipts.length kC, .slice AT r.typing.length kT] : Array Value)[5]? = some (.slice AS r.state.length kS) from rfl] at hc5
        clear hb hkr hall
        by_cases hlt : k < r.state.length
        ·obtain ⟨ba, oa, x, e1, hx, hca⟩ := HS.out.el_at (el := entC) (sz := 3) (fun _ => rfl) (by decide) hlt
         subst e1
         have hcx := rg_b HBS.out hca 1 _ rfl
         try rw [Nat.add_zero] at hcx
         have HX := hid hx
         have hsz : (bstr x.2.1).size = x.2.1.length := bstr_size _
         clear hca hx
         generalize hSB : bstr x.2.1 = SB at *
         by_cases hle : x.2.1.length ≤ 100
         ·have hd1 : decide ((100 : Int) < (SB.size : Int)) = false := decide_eq_false (by omega)
          have hd2 : ¬ (100 : Int) < (SB.size : Int) := by omega
          have HP := hid hle
          clear hle hsz hSB
          go_wp2_with fail
          go_roundw
          case rel =>
           refine ⟨k + 1, by omega, by go_num, HBS.out, HKS.out, fun y hy => ?_⟩
           rw [take_snoc HX.out] at hy
           rcases List.mem_append.1 hy with hy | hy
           ·exact HAS.out y hy
           ·rw [List.mem_singleton.1 hy]; exact HP.out
          case measure => simp [RowKit.intOf]; omega
         ·have hd1 : decide ((100 : Int) < (SB.size : Int)) = true := decide_eq_true (by omega)
          have hd2 : (100 : Int) < (SB.size : Int) := by omega
          clear hle hsz hSB
          go_wp2_with fail
          go_ret
          exact ⟨⟨_, rfl, fun h => by cases h⟩, HBS.out⟩
        ·obtain rfl : k = r.state.length := by omega
         have HFS : Hid (∀ x ∈ r.state, (fun x => x.2.1.length ≤ 100) x) := hid (by have := HAS.out; rwa [List.take_length] at this)
         clear HAS hlt
         go_wp2_with fail
         go_loopw [6] (fun ix wr => ∃ k : Nat, k ≤ r.receipts.length ∧ ix = .int .i64 (k : Int) ∧ Below w.heap.size w wr ∧ Blk wr w.heap.size 55 #[.string RI, .slice AE r.events.length kE, .slice AR r.rows.length kR, .slice AW r.waiting.length kW, .slice AH r.heads.length kH, .slice AS r.state.length kS, .int .i64 r.next, .slice AC r.receipts.length kC, .slice AT r.typing.length kT] ∧ ∀ x ∈ r.receipts.take k, (fun x => x.1.length ≤ 100) x) (fun ix _ => r.receipts.length - (RowKit.intOf ix).toNat)
         case atStart => exact ⟨0, Nat.zero_le _, rfl, HBS.out, HKS.out, by simp⟩
         case round =>
          obtain ⟨k, hk, rfl, hb, hkr, hall⟩ := hrel
          have HBC := hid hb
          have HKC := hid hkr
          have HAC := hid hall
          have hc7 := HKC.out.cell 7
          rw [show (#[.string RI, .slice AE r.events.length kE, .slice AR r.rows.length kR, .slice AW r.waiting.length kW, .slice AH r.heads.length kH, .slice AS r.state.length kS, .int .i64 r.next, .slice AC r.receipts.length kC, .slice AT r.typing.length kT] : Array Value)[7]? = some (.slice AC r.receipts.length kC) from rfl] at hc7
          clear hb hkr hall
          by_cases hlt : k < r.receipts.length
          ·obtain ⟨ba, oa, x, e1, hx, hca⟩ := HC.out.el_at (el := recC) (sz := 4) (fun _ => rfl) (by decide) hlt
           subst e1
           have hcx := rg_b HBC.out hca 0 _ rfl
           try rw [Nat.add_zero] at hcx
           have HX := hid hx
           have hsz : (bstr x.1).size = x.1.length := bstr_size _
           clear hca hx
           generalize hSB : bstr x.1 = SB at *
           by_cases hle : x.1.length ≤ 100
           ·have hd1 : decide ((100 : Int) < (SB.size : Int)) = false := decide_eq_false (by omega)
            have hd2 : ¬ (100 : Int) < (SB.size : Int) := by omega
            have HP := hid hle
            clear hle hsz hSB
            go_wp2_with fail
            go_roundw
            case rel =>
             refine ⟨k + 1, by omega, by go_num, HBC.out, HKC.out, fun y hy => ?_⟩
             rw [take_snoc HX.out] at hy
             rcases List.mem_append.1 hy with hy | hy
             ·exact HAC.out y hy
             ·rw [List.mem_singleton.1 hy]; exact HP.out
            case measure => simp [RowKit.intOf]; omega
           ·have hd1 : decide ((100 : Int) < (SB.size : Int)) = true := decide_eq_true (by omega)
            have hd2 : (100 : Int) < (SB.size : Int) := by omega
            clear hle hsz hSB
            go_wp2_with fail
            go_ret
            exact ⟨⟨_, rfl, fun h => by cases h⟩, HBC.out⟩
          ·obtain rfl : k = r.receipts.length := by omega
           have HFC : Hid (∀ x ∈ r.receipts, (fun x => x.1.length ≤ 100) x) := hid (by have := HAC.out; rwa [List.take_length] at this)
           clear HAC hlt
           go_wp2_with fail
           go_loopw [7] (fun ix wr => ∃ k : Nat, k ≤ r.typing.length ∧ ix = .int .i64 (k : Int) ∧ Below w.heap.size w wr ∧ Blk wr w.heap.size 55 #[.string RI, .slice AE r.events.length kE, .slice AR r.rows.length kR, .slice AW r.waiting.length kW, .slice AH r.heads.length kH, .slice AS r.state.length kS, .int .i64 r.next, .slice AC r.receipts.length kC, .slice AT r.typing.length kT] ∧ ∀ x ∈ r.typing.take k, (fun x => x.1.length ≤ 100) x) (fun ix _ => r.typing.length - (RowKit.intOf ix).toNat)
           case atStart => exact ⟨0, Nat.zero_le _, rfl, HBC.out, HKC.out, by simp⟩
           case round =>
            obtain ⟨k, hk, rfl, hb, hkr, hall⟩ := hrel
            have HBT := hid hb
            have HKT := hid hkr
            have HAT := hid hall
            have hc8 := HKT.out.cell 8
            rw [show (#[.string RI, .slice AE r.events.length kE, .slice AR r.rows.length kR, .slice AW r.waiting.length kW, .slice AH r.heads.length kH, .slice AS r.state.length kS, .int .i64 r.next, .slice AC r.receipts.length kC, .slice AT r.typing.length kT] : Array Value)[8]? = some (.slice AT r.typing.length kT) from rfl] at hc8
            clear hb hkr hall
            by_cases hlt : k < r.typing.length
            ·obtain ⟨ba, oa, x, e1, hx, hca⟩ := HT.out.el_at (el := typC) (sz := 2) (fun _ => rfl) (by decide) hlt
             subst e1
             have hcx := rg_b HBT.out hca 0 _ rfl
             try rw [Nat.add_zero] at hcx
             have HX := hid hx
             have hsz : (bstr x.1).size = x.1.length := bstr_size _
             clear hca hx
             generalize hSB : bstr x.1 = SB at *
             by_cases hle : x.1.length ≤ 100
             ·have hd1 : decide ((100 : Int) < (SB.size : Int)) = false := decide_eq_false (by omega)
              have hd2 : ¬ (100 : Int) < (SB.size : Int) := by omega
              have HP := hid hle
              clear hle hsz hSB
              go_wp2_with fail
              go_roundw
              case rel =>
               refine ⟨k + 1, by omega, by go_num, HBT.out, HKT.out, fun y hy => ?_⟩
               rw [take_snoc HX.out] at hy
               rcases List.mem_append.1 hy with hy | hy
               ·exact HAT.out y hy
               ·rw [List.mem_singleton.1 hy]; exact HP.out
              case measure => simp [RowKit.intOf]; omega
             ·have hd1 : decide ((100 : Int) < (SB.size : Int)) = true := decide_eq_true (by omega)
              have hd2 : (100 : Int) < (SB.size : Int) := by omega
              clear hle hsz hSB
              go_wp2_with fail
              go_ret
              exact ⟨⟨_, rfl, fun h => by cases h⟩, HBT.out⟩
            ·obtain rfl : k = r.typing.length := by omega
             have HFT : Hid (∀ x ∈ r.typing, (fun x => x.1.length ≤ 100) x) := hid (by have := HAT.out; rwa [List.take_length] at this)
             clear HAT hlt
             go_wp2_with fail
             go_ret
             exact ⟨⟨_, rfl, fun _ => ⟨HFE.out, HFW.out, HN.out, HFS.out, HFC.out, HFT.out⟩⟩, HBT.out⟩
end Go.Proofs.YteadlcncnhbmjaaGreatDoor
