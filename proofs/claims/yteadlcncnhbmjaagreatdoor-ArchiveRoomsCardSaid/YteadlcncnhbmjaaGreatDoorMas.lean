/- The texts At3, At4, Ar1, Ar2, Ar3, Ap3, Ap5 of this proof, one behind the other. -/
import Derived.Deep.MidRow
import Derived.Test.YteadlcncnhbmjaaGreatDoorMar
import Derived.Test.YteadlcncnhbmjaaGreatDoorMam
import Derived.Test.YteadlcncnhbmjaaGreatDoorMaq
import Derived.Test.YteadlcncnhbmjaaGreatDoorMao
set_option linter.unusedSimpArgs false
set_option maxHeartbeats 16000000
set_option maxRecDepth 100000
/- The text At3. -/
namespace Go.Proofs.YteadlcncnhbmjaaGreatDoor
open Go.RowKit Go.Lib
set_option linter.unusedVariables false
def EvRow (w : World) (base : Nat) (A : Option Addr) (L : List (List Ar.FV)) : Prop := ∀ (i : Nat) (e : List Ar.FV), L[i]? = some e → ∃ b off cs, A = some ⟨b, off, none⟩ ∧ b < base ∧ w.rangeAt b (off + i * 29) cs ∧ cs.length = 29 ∧ EvOf (fun g => g < base) w cs.toArray e
theorem EvRow.keep {w w' : World} {base : Nat} {A : Option Addr} {L : List (List Ar.FV)} (h : EvRow w base A L) (hb : Below base w w') : EvRow w' base A L := by
 intro i e hi
 obtain ⟨b, off, cs, h1, h2, h3, h4, h5⟩ := h i e hi
 refine ⟨b, off, cs, h1, h2, fun j v hj => ?_, h4, h5.keep fun g hg _ => ⟨hg, hb.block g hg⟩⟩
 rw [← h3 j v hj]
 exact World.cell?_of_block (hb.block b h2)
theorem EvRow.alloc {w : World} {base : Nat} {A : Option Addr} {L : List (List Ar.FV)} (h : EvRow w base A L) (hb : base ≤ w.heap.size) (o : Obj) : EvRow (w.alloc o) base A L := h.keep ((Below.refl _ _).alloc hb o)
theorem EvOf.all1 {ok : Nat → Prop} {w : World} {cs : List Value} {e : List Ar.FV} (h : EvOf ok w cs.toArray e) : cs.toArray.all (·.oneCell') = true := h.one
theorem wev1_any (ok : Nat → Prop) (cells : Array Value) (e : List Ar.FV) (w : World) (h : EvOf ok w cells e) (hw : ∀ v ∈ e, v.WOk) (hl : (Ar.line e).length ≤ 100000000) :
  Calls Tryz.prog 62 #[.agg cells] w fun r w' => r = .returned (.string (bstr (Ar.after Ar.evN (Ar.line e)))) ∧ Below w.heap.size w w' := by
 have HA : Hid (EvOf ok (w.alloc (.cells cells 40)) cells e) := hid (h.below ((Below.refl _ _).alloc (Nat.le_refl _) _))
 have HK := hid (Blk.new w 40 cells)
 have HB := hid ((Below.refl w.heap.size w).alloc (Nat.le_refl _) (.cells cells 40))
 have HW := hid hw
 have hsz := h.size
 have HL := hid hl
 clear h hw hl
 go_enter Tryz.func62, Tryz.ntmps62
 go_wp2_with (refine wpList_load_row rfl 40 _ rfl w.heap.size rfl 40 cells (0, 0) _ HK.out Tryz.underlying40 rfl (by rw [size_event, hsz]) ?_)
 refine (event_any ok cells e _ HA.out HW.out HL.out).mono ?_
 rintro r w2 ⟨rfl, hb2⟩
 have HB2 := hid (HB.out.trans (hb2.mono HB.out.size))
 clear hb2
 go_wp2_with fail
 refine (after_any Ar.evN (Ar.line e) _ (by decide) HL.out).mono ?_
 rintro r w3 ⟨rfl, rfl⟩
 go_wp2_with fail
 go_ret
 exact ⟨rfl, HB2.out⟩
theorem lines_ev1 (vo : Value) (us : List (List UInt8)) (base : Nat) (A : Option Addr) (cap : Nat) (xs : List (List Ar.FV)) (w : World) (ho : OwnS base w vo us) (hbs : base ≤ w.heap.size) (hR : EvRow w base A xs) (hx : ∀ x ∈ xs, (∀ v ∈ x, v.WOk) ∧ (Ar.line x).length ≤ 100000000) (hl : us.length + xs.length ≤ 1000000) :
  Calls Tryz.prog 61 #[vo, .slice A xs.length cap, .func (.func 62) #[] #[]] w fun e w' => (∃ v', e = .returned v' ∧ OwnS base w' v' (us ++ xs.map (fun e => Ar.after Ar.evN (Ar.line e)))) ∧ Below base w w' := by
 obtain ⟨A0, cap0, rfl⟩ := own_any ho
 have HO := hid ho
 have HR := hid hR
 have HX := hid hx
 clear ho hR hx
 obtain ⟨tx, htx⟩ : ∃ tx : List Ar.FV → List UInt8, (fun e => Ar.after Ar.evN (Ar.line e)) = tx := ⟨_, rfl⟩
 rw [htx]
 have HTX : Hid (∀ e, Ar.after Ar.evN (Ar.line e) = tx e) := hid (fun e => congrFun htx e)
 clear htx
 go_enter Tryz.func61, Tryz.ntmps61
 go_wp2_with fail
 go_loopw [0, 11] (fun out ix wr => ∃ k : Nat, k ≤ xs.length ∧ ix = .int .i64 k ∧ OwnS base wr out (us ++ (xs.take k).map tx) ∧ Below base w wr) (fun _ ix _ => xs.length - (RowKit.intOf ix).toNat)
 case atStart => exact ⟨0, by omega, rfl, by simpa using HO.out, Below.refl _ _⟩
 case round =>
  obtain ⟨k, hk, rfl, ho, hb⟩ := hrel
  have HO := hid ho
  have HB := hid hb
  have hws := hb.size
  clear ho hb
  by_cases hlt : k < xs.length
  ·obtain ⟨x, hx⟩ : ∃ x, xs[k]? = some x := ⟨xs[k], List.getElem?_eq_getElem hlt⟩
   obtain ⟨b, off, cs, rfl, hbb, hr, hcl, hev⟩ := (HR.out.keep HB.out) k x hx
   have HXK := hid hx
   have HXO := hid (HX.out x (List.mem_of_getElem? hx))
   have HLEN : Hid ((us ++ (xs.take k).map tx).length = us.length + k) := hid (by rw [List.length_append, List.length_map, List.length_take]; omega)
   have HEV := hid hev
   have HR1 := hid hr
   have hone := hev.all1
   have HL2 : Hid ((Tryz.prog.info? 40).map (·.size) = some cs.length) := hid (by rw [size_event, hcl])
   have HL3 : Hid ((Tryz.prog.info? 40).map (·.size) = some cs.toArray.size) := hid (by rw [size_event, List.size_toArray, hcl])
   have HSZ : Hid (zeroEv.size = cs.toArray.size) := hid (by
    have h29 : cs.toArray.size = 29 := by rw [List.size_toArray, hcl]
    rw [h29]
    rfl)
   clear hx hev
   go_wp2_with (first
    | ((with_reducible refine wpList_load_mid rfl 40 _ rfl b (off + k * 29) ?_ cs _ hr Tryz.underlying40 ?_ HL2.out ?_); rfl; rfl)
    | ((with_reducible refine wpList_store_row' rfl 40 _ _ rfl wr.heap.size cs.toArray ?_ ?_ 40 _ (Blk.new wr 40 _) HL3.out ?_ hone ?_); rfl; rfl; exact HSZ.out; intro w2 hk2 hs2 hbl2)
    | (refine wpList_load_row rfl 40 _ rfl wr.heap.size rfl 40 cs.toArray (0, 0) _ hk2 Tryz.underlying40 rfl HL3.out ?_))
   have HBW2 : Hid (Below base w w2) := hid (HB.out.trans (((Below.refl _ wr).alloc (Nat.le_refl _) (.cells zeroEv 40)).trans (hbl2 wr.heap.size (Nat.le_refl _)) |>.mono (by omega)))
   have HBR2 : Hid (Below wr.heap.size wr w2) := hid (((Below.refl _ wr).alloc (Nat.le_refl _) (.cells zeroEv 40)).trans (hbl2 wr.heap.size (Nat.le_refl _)))
   have hws2 := HBR2.out.size
   refine (wev1_any (fun g => g < base) cs.toArray x _ (HEV.out.keep fun g hg _ => ⟨hg, HBR2.out.block g (by omega)⟩) HXO.out.1 HXO.out.2).mono ?_
   rintro r w3 ⟨rfl, hb3⟩
   rw [HTX.out x]
   have HB3 := hid (HBW2.out.trans (hb3.mono (by omega)))
   have hbs3 := HB3.out.size
   have HO3 : Hid (OwnS base w3 u0 (us ++ (xs.take k).map tx)) := hid (own_below (own_below HO.out HBR2.out (Nat.le_refl _)) hb3 (Nat.le_refl _))
   clear hb3
   go_wp2_with (at_builtin; refine app_lit rowStr rfl _ _ rfl w3 (strL [tx x]) 1 rfl (one_strs [tx x]) u0 (us.length + k) (strL (us ++ (xs.take k).map tx)) base rfl (by have := HO3.out; unfold OwnS at this; rw [HLEN.out] at this; exact this) rfl (by omega) (by omega) ?_; intro v4 w4 ho4 hg4 hb4)
   go_roundw
   case rel =>
    refine ⟨k + 1, by omega, by go_num, ?_, hb4 w HB3.out⟩
    unfold OwnS
    rw [map_take_snoc HXK.out, ← List.append_assoc, List.length_append, HLEN.out, strL_append]
    exact ho4
   case measure => simp [RowKit.intOf]; omega
  ·obtain rfl : k = xs.length := by omega
   have HOE : Hid (OwnS base wr u0 (us ++ xs.map tx)) := hid (by have := HO.out; rwa [List.take_length] at this)
   go_wp2_with fail
   go_ret
   exact ⟨⟨_, rfl, HOE.out⟩, HB.out⟩
theorem wev2_any (ok : Nat → Prop) (cells : Array Value) (e : List Ar.FV) (w : World) (h : EvOf ok w cells e) (hw : ∀ v ∈ e, v.WOk) (hl : (Ar.line e).length ≤ 100000000) :
  Calls Tryz.prog 66 #[.agg cells] w fun r w' => r = .returned (.string (bstr (Ar.after Ar.waitN (Ar.line e)))) ∧ Below w.heap.size w w' := by
 have HA : Hid (EvOf ok (w.alloc (.cells cells 40)) cells e) := hid (h.below ((Below.refl _ _).alloc (Nat.le_refl _) _))
 have HK := hid (Blk.new w 40 cells)
 have HB := hid ((Below.refl w.heap.size w).alloc (Nat.le_refl _) (.cells cells 40))
 have HW := hid hw
 have hsz := h.size
 have HL := hid hl
 clear h hw hl
 go_enter Tryz.func66, Tryz.ntmps66
 go_wp2_with (refine wpList_load_row rfl 40 _ rfl w.heap.size rfl 40 cells (0, 0) _ HK.out Tryz.underlying40 rfl (by rw [size_event, hsz]) ?_)
 refine (event_any ok cells e _ HA.out HW.out HL.out).mono ?_
 rintro r w2 ⟨rfl, hb2⟩
 have HB2 := hid (HB.out.trans (hb2.mono HB.out.size))
 clear hb2
 go_wp2_with fail
 refine (after_any Ar.waitN (Ar.line e) _ (by decide) HL.out).mono ?_
 rintro r w3 ⟨rfl, rfl⟩
 go_wp2_with fail
 go_ret
 exact ⟨rfl, HB2.out⟩
theorem lines_ev2 (vo : Value) (us : List (List UInt8)) (base : Nat) (A : Option Addr) (cap : Nat) (xs : List (List Ar.FV)) (w : World) (ho : OwnS base w vo us) (hbs : base ≤ w.heap.size) (hR : EvRow w base A xs) (hx : ∀ x ∈ xs, (∀ v ∈ x, v.WOk) ∧ (Ar.line x).length ≤ 100000000) (hl : us.length + xs.length ≤ 1000000) :
  Calls Tryz.prog 61 #[vo, .slice A xs.length cap, .func (.func 66) #[] #[]] w fun e w' => (∃ v', e = .returned v' ∧ OwnS base w' v' (us ++ xs.map (fun e => Ar.after Ar.waitN (Ar.line e)))) ∧ Below base w w' := by
 obtain ⟨A0, cap0, rfl⟩ := own_any ho
 have HO := hid ho
 have HR := hid hR
 have HX := hid hx
 clear ho hR hx
 obtain ⟨tx, htx⟩ : ∃ tx : List Ar.FV → List UInt8, (fun e => Ar.after Ar.waitN (Ar.line e)) = tx := ⟨_, rfl⟩
 rw [htx]
 have HTX : Hid (∀ e, Ar.after Ar.waitN (Ar.line e) = tx e) := hid (fun e => congrFun htx e)
 clear htx
 go_enter Tryz.func61, Tryz.ntmps61
 go_wp2_with fail
 go_loopw [0, 11] (fun out ix wr => ∃ k : Nat, k ≤ xs.length ∧ ix = .int .i64 k ∧ OwnS base wr out (us ++ (xs.take k).map tx) ∧ Below base w wr) (fun _ ix _ => xs.length - (RowKit.intOf ix).toNat)
 case atStart => exact ⟨0, by omega, rfl, by simpa using HO.out, Below.refl _ _⟩
 case round =>
  obtain ⟨k, hk, rfl, ho, hb⟩ := hrel
  have HO := hid ho
  have HB := hid hb
  have hws := hb.size
  clear ho hb
  by_cases hlt : k < xs.length
  ·obtain ⟨x, hx⟩ : ∃ x, xs[k]? = some x := ⟨xs[k], List.getElem?_eq_getElem hlt⟩
   obtain ⟨b, off, cs, rfl, hbb, hr, hcl, hev⟩ := (HR.out.keep HB.out) k x hx
   have HXK := hid hx
   have HXO := hid (HX.out x (List.mem_of_getElem? hx))
   have HLEN : Hid ((us ++ (xs.take k).map tx).length = us.length + k) := hid (by rw [List.length_append, List.length_map, List.length_take]; omega)
   have HEV := hid hev
   have HR1 := hid hr
   have hone := hev.all1
   have HL2 : Hid ((Tryz.prog.info? 40).map (·.size) = some cs.length) := hid (by rw [size_event, hcl])
   have HL3 : Hid ((Tryz.prog.info? 40).map (·.size) = some cs.toArray.size) := hid (by rw [size_event, List.size_toArray, hcl])
   have HSZ : Hid (zeroEv.size = cs.toArray.size) := hid (by
    have h29 : cs.toArray.size = 29 := by rw [List.size_toArray, hcl]
    rw [h29]
    rfl)
   clear hx hev
   go_wp2_with (first
    | ((with_reducible refine wpList_load_mid rfl 40 _ rfl b (off + k * 29) ?_ cs _ hr Tryz.underlying40 ?_ HL2.out ?_); rfl; rfl)
    | ((with_reducible refine wpList_store_row' rfl 40 _ _ rfl wr.heap.size cs.toArray ?_ ?_ 40 _ (Blk.new wr 40 _) HL3.out ?_ hone ?_); rfl; rfl; exact HSZ.out; intro w2 hk2 hs2 hbl2)
    | (refine wpList_load_row rfl 40 _ rfl wr.heap.size rfl 40 cs.toArray (0, 0) _ hk2 Tryz.underlying40 rfl HL3.out ?_))
   have HBW2 : Hid (Below base w w2) := hid (HB.out.trans (((Below.refl _ wr).alloc (Nat.le_refl _) (.cells zeroEv 40)).trans (hbl2 wr.heap.size (Nat.le_refl _)) |>.mono (by omega)))
   have HBR2 : Hid (Below wr.heap.size wr w2) := hid (((Below.refl _ wr).alloc (Nat.le_refl _) (.cells zeroEv 40)).trans (hbl2 wr.heap.size (Nat.le_refl _)))
   have hws2 := HBR2.out.size
   refine (wev2_any (fun g => g < base) cs.toArray x _ (HEV.out.keep fun g hg _ => ⟨hg, HBR2.out.block g (by omega)⟩) HXO.out.1 HXO.out.2).mono ?_
   rintro r w3 ⟨rfl, hb3⟩
   rw [HTX.out x]
   have HB3 := hid (HBW2.out.trans (hb3.mono (by omega)))
   have hbs3 := HB3.out.size
   have HO3 : Hid (OwnS base w3 u0 (us ++ (xs.take k).map tx)) := hid (own_below (own_below HO.out HBR2.out (Nat.le_refl _)) hb3 (Nat.le_refl _))
   clear hb3
   go_wp2_with (at_builtin; refine app_lit rowStr rfl _ _ rfl w3 (strL [tx x]) 1 rfl (one_strs [tx x]) u0 (us.length + k) (strL (us ++ (xs.take k).map tx)) base rfl (by have := HO3.out; unfold OwnS at this; rw [HLEN.out] at this; exact this) rfl (by omega) (by omega) ?_; intro v4 w4 ho4 hg4 hb4)
   go_roundw
   case rel =>
    refine ⟨k + 1, by omega, by go_num, ?_, hb4 w HB3.out⟩
    unfold OwnS
    rw [map_take_snoc HXK.out, ← List.append_assoc, List.length_append, HLEN.out, strL_append]
    exact ho4
   case measure => simp [RowKit.intOf]; omega
  ·obtain rfl : k = xs.length := by omega
   have HOE : Hid (OwnS base wr u0 (us ++ xs.map tx)) := hid (by have := HO.out; rwa [List.take_length] at this)
   go_wp2_with fail
   go_ret
   exact ⟨⟨_, rfl, HOE.out⟩, HB.out⟩
end Go.Proofs.YteadlcncnhbmjaaGreatDoor
/- The text At4. -/
namespace Go.Proofs.YteadlcncnhbmjaaGreatDoor
open Go.RowKit Go.Lib
set_option linter.unusedVariables false
def SlB (w : World) (base : Nat) (c : Value) (n sz : Nat) (vs : List Value) : Prop := ∃ A cap, c = .slice A n cap ∧ Rd w A (n * sz) vs ∧ (0 < n → ∀ a, A = some a → a.block < base)
theorem SlB.keep {w w' : World} {base : Nat} {c : Value} {n sz : Nat} {vs : List Value} (h : SlB w base c n sz vs) (hsz : 0 < sz) (hb : Below base w w') : SlB w' base c n sz vs := by
 obtain ⟨A, cap, e, hr, hl⟩ := h
 refine ⟨A, cap, e, ⟨hr.1, fun j v hj => ?_⟩, hl⟩
 obtain ⟨g, o, e1, hc⟩ := hr.2 j v hj
 have hn : 0 < n := by
  rcases Nat.eq_zero_or_pos n with h0 | h0
  ·exfalso
   have h1 := hr.1
   rw [h0, Nat.zero_mul] at h1
   rw [List.eq_nil_of_length_eq_zero h1] at hj
   cases hj
  ·exact h0
 refine ⟨g, o, e1, ?_⟩
 rw [← hc]
 exact World.cell?_of_block (hb.block g (hl hn _ e1))
theorem SlB.mono {w : World} {base base' : Nat} {c : Value} {n sz : Nat} {vs : List Value} (h : SlB w base c n sz vs) (hb : base ≤ base') : SlB w base' c n sz vs := by
 obtain ⟨A, cap, e, hr, hl⟩ := h
 exact ⟨A, cap, e, hr, fun hn a ha => Nat.lt_of_lt_of_le (hl hn a ha) hb⟩
theorem SlB.at_ {w : World} {base : Nat} {A : Option Addr} {n c n' sz : Nat} {vs : List Value} (h : SlB w base (.slice A n c) n' sz vs) : Rd w A (n' * sz) vs ∧ (0 < n' → ∀ a, A = some a → a.block < base) := by
 obtain ⟨A', c', e, h1, h2⟩ := h
 injection e with e1 e2 e3
 subst e1
 exact ⟨h1, h2⟩
theorem EvRow.mono {w : World} {base base' : Nat} {A : Option Addr} {L : List (List Ar.FV)} (h : EvRow w base A L) (hb : base ≤ base') : EvRow w base' A L := by
 intro i e hi
 obtain ⟨b, off, cs, h1, h2, h3, h4, h5⟩ := h i e hi
 exact ⟨b, off, cs, h1, by omega, h3, h4, h5.keep fun g hg _ => ⟨Nat.lt_of_lt_of_le hg hb, rfl⟩⟩
structure RoomV (w : World) (base : Nat) (r : Ar.Rm) (vE vR vW vH vS vC vT : Value) : Prop where
 ev : ∃ A c, vE = .slice A r.events.length c ∧ EvRow w base A r.events
 row : SlB w base vR r.rows.length 4 (r.rows.flatMap rowC)
 wait : ∃ A c, vW = .slice A r.waiting.length c ∧ EvRow w base A r.waiting
 heads : SlB w base vH r.heads.length 1 (intL r.heads)
 state : SlB w base vS r.state.length 3 (r.state.flatMap entC)
 rcp : SlB w base vC r.receipts.length 4 (r.receipts.flatMap recC)
 typ : SlB w base vT r.typing.length 2 (r.typing.flatMap typC)
theorem RoomV.keep {w w' : World} {base base' : Nat} {r : Ar.Rm} {vE vR vW vH vS vC vT : Value} (h : RoomV w base r vE vR vW vH vS vC vT) (hb : base ≤ base') (hw : Below base' w w') : RoomV w' base' r vE vR vW vH vS vC vT where
 ev := by obtain ⟨A, c, e, h1⟩ := h.ev; exact ⟨A, c, e, (h1.mono hb).keep hw⟩
 row := (h.row.mono hb).keep (by decide) hw
 wait := by obtain ⟨A, c, e, h1⟩ := h.wait; exact ⟨A, c, e, (h1.mono hb).keep hw⟩
 heads := (h.heads.mono hb).keep (by decide) hw
 state := (h.state.mono hb).keep (by decide) hw
 rcp := (h.rcp.mono hb).keep (by decide) hw
 typ := (h.typ.mono hb).keep (by decide) hw
structure Fine (r : Ar.Rm) : Prop where
 ok : Ar.inInt r.next
 id : r.id.length ≤ 1000000
 ev : ∀ e ∈ r.events, (∀ v ∈ e, v.WOk) ∧ (Ar.line e).length ≤ 100000000
 row : ∀ x ∈ r.rows, Ar.inInt x.1 ∧ Ar.inInt x.2.1 ∧ Ar.inInt x.2.2.1
 wait : ∀ e ∈ r.waiting, (∀ v ∈ e, v.WOk) ∧ (Ar.line e).length ≤ 100000000
 heads : ∀ n ∈ r.heads, Ar.inInt n
 state : ∀ x ∈ r.state, Ar.inInt x.1 ∧ x.2.1.length ≤ 1000000 ∧ Ar.inInt x.2.2
 rcp : ∀ x ∈ r.receipts, x.1.length ≤ 1000000 ∧ Ar.inInt x.2.1 ∧ Ar.inInt x.2.2.1 ∧ Ar.inInt x.2.2.2
 typ : ∀ x ∈ r.typing, x.1.length ≤ 1000000 ∧ Ar.inInt x.2
 hn : (Ar.join [44] (r.heads.map Ar.itoa)).length ≤ 1000000
 num : (Ar.rmLines r).length ≤ 1000000
 tot : (Ar.join [10] (Ar.rmLines r)).length ≤ 90000000
 hj : (Ar.join [44] (r.heads.map Ar.itoa)).length ≤ 90000000
def WrA (r : Ar.Rm) (e : Ending) : Prop := (∃ t, Ar.write r = some t ∧ e = .returned (.tuple #[.string (bstr t), .int .i64 0])) ∨ (Ar.write r = none ∧ e = .returned (.tuple #[.string ⟨#[]⟩, .int .i64 7]))
theorem rm_str (L : List (List UInt8)) : bstr (Ar.join [10] L) ++ (⟨#[10]⟩ : ByteArray) = bstr (Ar.join [10] L ++ [10]) := str_eq (by simp [bstr])
theorem own_lit1 (w : World) (s : List UInt8) (base : Nat) (hb : base ≤ w.heap.size) : OwnS base (w.alloc (.cells #[.string (bstr s)] 9)) (.slice (some ⟨w.heap.size, 0, none⟩) 1 1) [s] :=
 ⟨rfl, .inr ⟨w.heap.size, 1, _, rfl, hb, heap_alloc_new w _, Nat.le_refl _, by decide, rfl, rfl⟩⟩
theorem write_any (r : Ar.Rm) (vE vR vW vH vS vC vT : Value) (w : World) (h : RoomV w w.heap.size r vE vR vW vH vS vC vT) (hf : Fine r) :
  Calls Tryz.prog 26 #[.agg #[.string (bstr r.id), vE, vR, vW, vH, vS, .int .i64 r.next, vC, vT]] w fun e w' => WrA r e ∧ Below w.heap.size w w' := by
 have hk := Blk.new w 55 #[.string (bstr r.id), vE, vR, vW, vH, vS, .int .i64 r.next, vC, vT]
 have HK := hid hk
 have HB0 := hid ((Below.refl w.heap.size w).alloc (Nat.le_refl _) (.cells #[.string (bstr r.id), vE, vR, vW, vH, vS, .int .i64 r.next, vC, vT] 55))
 have HV0 : Hid (RoomV (w.alloc (.cells #[.string (bstr r.id), vE, vR, vW, vH, vS, .int .i64 r.next, vC, vT] 55)) (w.heap.size + 1) r vE vR vW vH vS vC vT) := hid ((h.keep (Nat.le_refl _) HB0.out).keep (Nat.le_succ _) (Below.refl _ _))
 have HF := hid hf
 clear h hf hk
 obtain ⟨AE, cE, rfl, hE⟩ := HV0.out.ev
 obtain ⟨AW, cW, rfl, hW⟩ := HV0.out.wait
 have hR := HV0.out.row
 obtain ⟨AR, cR, rfl, -⟩ := HV0.out.row
 have hH := HV0.out.heads
 obtain ⟨AH, cH, rfl, -⟩ := HV0.out.heads
 have hS := HV0.out.state
 obtain ⟨AS, cS, rfl, -⟩ := HV0.out.state
 have hC := HV0.out.rcp
 obtain ⟨AC, cC, rfl, -⟩ := HV0.out.rcp
 have hT := HV0.out.typ
 obtain ⟨AT, cT, rfl, -⟩ := HV0.out.typ
 have HE := hid hE
 have HW := hid hW
 have HR := hid hR
 have HH := hid hH
 have HS := hid hS
 have HC := hid hC
 have HT := hid hT
 clear hE hW hR hH hS hC hT HV0
 have HL := hid (fun W => headline_any r.id (.slice AE r.events.length cE) (.slice AR r.rows.length cR) (.slice AW r.waiting.length cW) (.slice AH r.heads.length cH) (.slice AS r.state.length cS) r.next (.slice AC r.receipts.length cC) (.slice AT r.typing.length cT) W HF.out.id HF.out.ok)
 have HBX : Hid (Blk (w.alloc (.cells #[.string (bstr r.id), .slice AE r.events.length cE, .slice AR r.rows.length cR, .slice AW r.waiting.length cW, .slice AH r.heads.length cH, .slice AS r.state.length cS, .int .i64 r.next, .slice AC r.receipts.length cC, .slice AT r.typing.length cT] 55)) w.heap.size 55 #[.string (bstr r.id), .slice AE r.events.length cE, .slice AR r.rows.length cR, .slice AW r.waiting.length cW, .slice AH r.heads.length cH, .slice AS r.state.length cS, .int .i64 r.next, .slice AC r.receipts.length cC, .slice AT r.typing.length cT]) := HK
 have hsw : (w.alloc (.cells #[.string (bstr r.id), .slice AE r.events.length cE, .slice AR r.rows.length cR, .slice AW r.waiting.length cW, .slice AH r.heads.length cH, .slice AS r.state.length cS, .int .i64 r.next, .slice AC r.receipts.length cC, .slice AT r.typing.length cT] 55)).heap.size = w.heap.size + 1 := World.size_alloc _ _
 generalize hw1 : w.alloc (.cells #[.string (bstr r.id), .slice AE r.events.length cE, .slice AR r.rows.length cR, .slice AW r.waiting.length cW, .slice AH r.heads.length cH, .slice AS r.state.length cS, .int .i64 r.next, .slice AC r.receipts.length cC, .slice AT r.typing.length cT] 55) = w1 at *
 have HFIN : Hid (∀ W, Below (w.heap.size + 1) w1 W → Below w.heap.size w W) := hid (fun W h => HB0.out.trans (h.mono (Nat.le_succ _)))
 have HN : Hid (Ar.rmLines r = [Ar.headLine r.id r.next] ++ r.events.map (fun e => Ar.after Ar.evN (Ar.line e)) ++ r.rows.map Ar.rowLine ++ r.waiting.map (fun e => Ar.after Ar.waitN (Ar.line e)) ++ (if r.heads = [] then [] else [Ar.headsLine r.heads]) ++ r.state.map Ar.entryLine ++ r.receipts.map Ar.receiptLine ++ r.typing.map Ar.typingLine) := hid rfl
 have hnum : 1 + r.events.length + r.rows.length + r.waiting.length + (if r.heads = [] then [] else [Ar.headsLine r.heads]).length + r.state.length + r.receipts.length + r.typing.length ≤ 1000000 := by
  have h := HF.out.num
  rw [HN.out] at h
  simp only [List.length_append, List.length_map, List.length_singleton] at h
  omega
 have HJN : Hid ((Ar.join [44] (r.heads.map Ar.itoa)).length ≤ 100000000) := hid (Nat.le_trans HF.out.hj (by omega))
 have HHN : Hid (r.heads.length ≤ 1000000) := hid (by
  have h1 := Ar.join_len Ar.itoa Ar.itoa_ne r.heads
  have h2 := HF.out.hn
  omega)
 go_enter Tryz.func26, Tryz.ntmps26
 go_wp2_with (refine wpList_load_row rfl 55 _ rfl w.heap.size rfl 55 #[.string (bstr r.id), .slice AE r.events.length cE, .slice AR r.rows.length cR, .slice AW r.waiting.length cW, .slice AH r.heads.length cH, .slice AS r.state.length cS, .int .i64 r.next, .slice AC r.receipts.length cC, .slice AT r.typing.length cT] (0, 0) _ HBX.out Tryz.underlying55 rfl (by kernel_rfl) ?_)
 refine (HL.out _).mono ?_
 rintro e w2 ⟨rfl, hb2⟩
 rw [hsw] at hb2
 have hs2 := hb2.size
 have HO2 := hid (own_lit1 w2 (Ar.headLine r.id r.next) (w.heap.size + 1) (by omega))
 have HB2 := hid (hb2.alloc (by omega) (.cells #[.string (bstr (Ar.headLine r.id r.next))] 9))
 have HU1 : Hid ([Ar.headLine r.id r.next] = [Ar.headLine r.id r.next]) := hid rfl
 have hl1 : [Ar.headLine r.id r.next].length = 1 := rfl
 generalize hw3 : w2.alloc (.cells #[.string (bstr (Ar.headLine r.id r.next))] 9) = w3 at *
 generalize hA : (some ⟨w2.heap.size, 0, none⟩ : Option Addr) = A1 at *
 have hc4 := (HBX.out.below HB2.out (Nat.lt_succ_self _)).cell 1
 rw [show (#[.string (bstr r.id), .slice AE r.events.length cE, .slice AR r.rows.length cR, .slice AW r.waiting.length cW, .slice AH r.heads.length cH, .slice AS r.state.length cS, .int .i64 r.next, .slice AC r.receipts.length cC, .slice AT r.typing.length cT] : Array Value)[1]? = some (.slice AE r.events.length cE) from rfl] at hc4
 have hz4 := HB2.out.size
 rw [hsw] at hz4
 have HQ4 := hid (lines_ev1 (.slice A1 [Ar.headLine r.id r.next].length 1) [Ar.headLine r.id r.next] (w.heap.size + 1) AE cE r.events w3 HO2.out hz4 (HE.out.keep HB2.out) HF.out.ev (by (try simp only [List.length_singleton] at *); omega))
 go_wp2_with fail
 refine HQ4.out.mono ?_
 rintro e w4 ⟨⟨v4, rfl, ho4⟩, hb4⟩
 obtain ⟨A4, c4, rfl⟩ := own_any ho4
 have HB4 := hid (HB2.out.trans hb4)
 obtain ⟨U4, hU4⟩ : ∃ U, [Ar.headLine r.id r.next] ++ r.events.map (fun e => Ar.after Ar.evN (Ar.line e)) = U := ⟨_, rfl⟩
 rw [hU4] at ho4
 have HLN4 : Hid (U4.length = [Ar.headLine r.id r.next].length + r.events.length) := hid (by rw [← hU4, List.length_append, List.length_map])
 rw [show ([Ar.headLine r.id r.next] ++ r.events.map (fun e => Ar.after Ar.evN (Ar.line e))).length = U4.length from by rw [hU4]]
 have HO4 := hid ho4
 have HU4 := hid hU4
 clear hU4 ho4 hb4 hc4 HQ4
 have hc5 := (HBX.out.below HB4.out (Nat.lt_succ_self _)).cell 2
 rw [show (#[.string (bstr r.id), .slice AE r.events.length cE, .slice AR r.rows.length cR, .slice AW r.waiting.length cW, .slice AH r.heads.length cH, .slice AS r.state.length cS, .int .i64 r.next, .slice AC r.receipts.length cC, .slice AT r.typing.length cT] : Array Value)[2]? = some (.slice AR r.rows.length cR) from rfl] at hc5
 have hz5 := HB4.out.size
 rw [hsw] at hz5
 have HQ5 := hid (lines_row (.slice A4 U4.length c4) U4 (w.heap.size + 1) AR cR r.rows w4 HO4.out hz5 (HR.out.keep (by decide) HB4.out).at_.1 (HR.out.keep (by decide) HB4.out).at_.2 HF.out.row (by have z4 := HLN4.out; (try simp only [List.length_singleton] at *); omega))
 go_wp2_with fail
 refine HQ5.out.mono ?_
 rintro e w5 ⟨⟨v5, rfl, ho5⟩, hb5⟩
 obtain ⟨A5, c5, rfl⟩ := own_any ho5
 have HB5 := hid (HB4.out.trans hb5)
 obtain ⟨U5, hU5⟩ : ∃ U, U4 ++ r.rows.map Ar.rowLine = U := ⟨_, rfl⟩
 rw [hU5] at ho5
 have HLN5 : Hid (U5.length = U4.length + r.rows.length) := hid (by rw [← hU5, List.length_append, List.length_map])
 rw [show (U4 ++ r.rows.map Ar.rowLine).length = U5.length from by rw [hU5]]
 have HO5 := hid ho5
 have HU5 := hid hU5
 clear hU5 ho5 hb5 hc5 HQ5
 have hc6 := (HBX.out.below HB5.out (Nat.lt_succ_self _)).cell 3
 rw [show (#[.string (bstr r.id), .slice AE r.events.length cE, .slice AR r.rows.length cR, .slice AW r.waiting.length cW, .slice AH r.heads.length cH, .slice AS r.state.length cS, .int .i64 r.next, .slice AC r.receipts.length cC, .slice AT r.typing.length cT] : Array Value)[3]? = some (.slice AW r.waiting.length cW) from rfl] at hc6
 have hz6 := HB5.out.size
 rw [hsw] at hz6
 have HQ6 := hid (lines_ev2 (.slice A5 U5.length c5) U5 (w.heap.size + 1) AW cW r.waiting w5 HO5.out hz6 (HW.out.keep HB5.out) HF.out.wait (by have z4 := HLN4.out; have z5 := HLN5.out; (try simp only [List.length_singleton] at *); omega))
 go_wp2_with fail
 refine HQ6.out.mono ?_
 rintro e w6 ⟨⟨v6, rfl, ho6⟩, hb6⟩
 obtain ⟨A6, c6, rfl⟩ := own_any ho6
 have HB6 := hid (HB5.out.trans hb6)
 obtain ⟨U6, hU6⟩ : ∃ U, U5 ++ r.waiting.map (fun e => Ar.after Ar.waitN (Ar.line e)) = U := ⟨_, rfl⟩
 rw [hU6] at ho6
 have HLN6 : Hid (U6.length = U5.length + r.waiting.length) := hid (by rw [← hU6, List.length_append, List.length_map])
 rw [show (U5 ++ r.waiting.map (fun e => Ar.after Ar.waitN (Ar.line e))).length = U6.length from by rw [hU6]]
 have HO6 := hid ho6
 have HU6 := hid hU6
 clear hU6 ho6 hb6 hc6 HQ6
 have hc7 := (HBX.out.below HB6.out (Nat.lt_succ_self _)).cell 4
 rw [show (#[.string (bstr r.id), .slice AE r.events.length cE, .slice AR r.rows.length cR, .slice AW r.waiting.length cW, .slice AH r.heads.length cH, .slice AS r.state.length cS, .int .i64 r.next, .slice AC r.receipts.length cC, .slice AT r.typing.length cT] : Array Value)[4]? = some (.slice AH r.heads.length cH) from rfl] at hc7
 have hz7 := HB6.out.size
 rw [hsw] at hz7
 by_cases hh0 : r.heads.length = 0
 ·have hh1 : r.heads = [] := List.eq_nil_of_length_eq_zero hh0
  have hgt : ¬ ((0 : Int) < (r.heads.length : Int)) := by omega
  have HIF : Hid ((if r.heads = [] then [] else [Ar.headsLine r.heads]) = []) := hid (if_pos hh1)
  have hnum2 : 1 + r.events.length + r.rows.length + r.waiting.length + r.state.length + r.receipts.length + r.typing.length ≤ 1000000 := by omega
  clear hh1
  have hc8 := (HBX.out.below HB6.out (Nat.lt_succ_self _)).cell 5
  rw [show (#[.string (bstr r.id), .slice AE r.events.length cE, .slice AR r.rows.length cR, .slice AW r.waiting.length cW, .slice AH r.heads.length cH, .slice AS r.state.length cS, .int .i64 r.next, .slice AC r.receipts.length cC, .slice AT r.typing.length cT] : Array Value)[5]? = some (.slice AS r.state.length cS) from rfl] at hc8
  have hz8 := HB6.out.size
  rw [hsw] at hz8
  have HQ8 := hid (lines_entry (.slice A6 U6.length c6) U6 (w.heap.size + 1) AS cS r.state w6 HO6.out hz8 (HS.out.keep (by decide) HB6.out).at_.1 (HS.out.keep (by decide) HB6.out).at_.2 HF.out.state (by have z4 := HLN4.out; have z5 := HLN5.out; have z6 := HLN6.out; (try simp only [List.length_singleton] at *); omega))
  go_wp2_with fail
  refine HQ8.out.mono ?_
  rintro e w8 ⟨⟨v8, rfl, ho8⟩, hb8⟩
  obtain ⟨A8, c8, rfl⟩ := own_any ho8
  have HB8 := hid (HB6.out.trans hb8)
  obtain ⟨U8, hU8⟩ : ∃ U, U6 ++ r.state.map Ar.entryLine = U := ⟨_, rfl⟩
  rw [hU8] at ho8
  have HLN8 : Hid (U8.length = U6.length + r.state.length) := hid (by rw [← hU8, List.length_append, List.length_map])
  rw [show (U6 ++ r.state.map Ar.entryLine).length = U8.length from by rw [hU8]]
  have HO8 := hid ho8
  have HU8 := hid hU8
  clear hU8 ho8 hb8 hc8 HQ8
  have hc9 := (HBX.out.below HB8.out (Nat.lt_succ_self _)).cell 7
  rw [show (#[.string (bstr r.id), .slice AE r.events.length cE, .slice AR r.rows.length cR, .slice AW r.waiting.length cW, .slice AH r.heads.length cH, .slice AS r.state.length cS, .int .i64 r.next, .slice AC r.receipts.length cC, .slice AT r.typing.length cT] : Array Value)[7]? = some (.slice AC r.receipts.length cC) from rfl] at hc9
  have hz9 := HB8.out.size
  rw [hsw] at hz9
  have HQ9 := hid (lines_receipt (.slice A8 U8.length c8) U8 (w.heap.size + 1) AC cC r.receipts w8 HO8.out hz9 (HC.out.keep (by decide) HB8.out).at_.1 (HC.out.keep (by decide) HB8.out).at_.2 HF.out.rcp (by have z4 := HLN4.out; have z5 := HLN5.out; have z6 := HLN6.out; have z8 := HLN8.out; (try simp only [List.length_singleton] at *); omega))
  go_wp2_with fail
  refine HQ9.out.mono ?_
  rintro e w9 ⟨⟨v9, rfl, ho9⟩, hb9⟩
  obtain ⟨A9, c9, rfl⟩ := own_any ho9
  have HB9 := hid (HB8.out.trans hb9)
  obtain ⟨U9, hU9⟩ : ∃ U, U8 ++ r.receipts.map Ar.receiptLine = U := ⟨_, rfl⟩
  rw [hU9] at ho9
  have HLN9 : Hid (U9.length = U8.length + r.receipts.length) := hid (by rw [← hU9, List.length_append, List.length_map])
  rw [show (U8 ++ r.receipts.map Ar.receiptLine).length = U9.length from by rw [hU9]]
  have HO9 := hid ho9
  have HU9 := hid hU9
  clear hU9 ho9 hb9 hc9 HQ9
  have hc10 := (HBX.out.below HB9.out (Nat.lt_succ_self _)).cell 8
  rw [show (#[.string (bstr r.id), .slice AE r.events.length cE, .slice AR r.rows.length cR, .slice AW r.waiting.length cW, .slice AH r.heads.length cH, .slice AS r.state.length cS, .int .i64 r.next, .slice AC r.receipts.length cC, .slice AT r.typing.length cT] : Array Value)[8]? = some (.slice AT r.typing.length cT) from rfl] at hc10
  have hz10 := HB9.out.size
  rw [hsw] at hz10
  have HQ10 := hid (lines_typing (.slice A9 U9.length c9) U9 (w.heap.size + 1) AT cT r.typing w9 HO9.out hz10 (HT.out.keep (by decide) HB9.out).at_.1 (HT.out.keep (by decide) HB9.out).at_.2 HF.out.typ (by have z4 := HLN4.out; have z5 := HLN5.out; have z6 := HLN6.out; have z8 := HLN8.out; have z9 := HLN9.out; (try simp only [List.length_singleton] at *); omega))
  go_wp2_with fail
  refine HQ10.out.mono ?_
  rintro e w10 ⟨⟨v10, rfl, ho10⟩, hb10⟩
  obtain ⟨A10, c10, rfl⟩ := own_any ho10
  have HB10 := hid (HB9.out.trans hb10)
  obtain ⟨U10, hU10⟩ : ∃ U, U9 ++ r.typing.map Ar.typingLine = U := ⟨_, rfl⟩
  rw [hU10] at ho10
  have HLN10 : Hid (U10.length = U9.length + r.typing.length) := hid (by rw [← hU10, List.length_append, List.length_map])
  rw [show (U9 ++ r.typing.map Ar.typingLine).length = U10.length from by rw [hU10]]
  have HO10 := hid ho10
  have HU10 := hid hU10
  clear hU10 ho10 hb10 hc10 HQ10
  have HUN : Hid (Ar.rmLines r = U10) := hid (by rw [HN.out, HU4.out, HU5.out, HU6.out, HIF.out, List.append_nil, HU8.out, HU9.out, HU10.out])
  have HJ : Hid ((Ar.join [10] U10).length ≤ 100000000) := hid (by rw [← HUN.out]; exact Nat.le_trans HF.out.tot (by omega))
  have HJS : Hid ((bstr (Ar.join [10] U10)).size ≤ 90000000) := hid (by rw [bstr_size, ← HUN.out]; exact HF.out.tot)
  have HUL : Hid (U10.length ≤ 10000000) := hid (by rw [← HUN.out]; have := HF.out.num; omega)
  have HQJ := hid (join_own w10 (w.heap.size + 1) (.slice A10 U10.length c10) U10 ⟨#[10]⟩ HO10.out HUL.out HJ.out)
  have HSTR := hid (rm_str U10)
  have HWR : Hid (Ar.write r = if 500000 < (bstr (Ar.join [10] U10)).size + 1 then none else some (Ar.join [10] U10 ++ [10])) := hid (by
   unfold Ar.write Ar.rmText
   rw [HUN.out, List.length_append, List.length_singleton, bstr_size])
  rw [show (⟨#[10]⟩ : ByteArray).data.toList = [10] from rfl] at HQJ
  have hJS := HJS.out
  have hone : (⟨#[10]⟩ : ByteArray).size = 1 := rfl
  generalize hJJ : bstr (Ar.join [10] U10) = J at *
  have hp : ¬ 9223372036854775807 < J.size + 1 := by omega
  have hzj := HB10.out.size
  rw [hsw] at hzj
  clear HJS
  go_wp2_with fail
  refine HQJ.out.mono ?_
  rintro e wj ⟨rfl, hbj⟩
  have HBJ := hid (HB10.out.trans (hbj.mono (by omega)))
  clear hbj hJJ
  by_cases hbig : 500000 < J.size + 1
  ·have hb1 : (500000 : Int) < (J.size : Int) + 1 := by omega
   have HNN : Hid (Ar.write r = none) := hid (by rw [HWR.out, if_pos hbig])
   go_wp2_with fail
   go_ret2
   exact ⟨.inr ⟨HNN.out, rfl⟩, HFIN.out _ HBJ.out⟩
  ·have hb1 : decide ((500000 : Int) < (J.size : Int) + 1) = false := decide_eq_false (by omega)
   have HNN : Hid (Ar.write r = some (Ar.join [10] U10 ++ [10])) := hid (by rw [HWR.out, if_neg hbig])
   clear hbig
   go_wp2_with fail
   go_ret2
   exact ⟨.inl ⟨_, HNN.out, by show Ending.returned (.tuple #[.string (J ++ (⟨#[10]⟩ : ByteArray)), .int .i64 0]) = _; rw [HSTR.out]⟩, HFIN.out _ HBJ.out⟩
 ·have hgt : (0 : Int) < (r.heads.length : Int) := by omega
  have HIF : Hid ((if r.heads = [] then [] else [Ar.headsLine r.heads]) = [Ar.headsLine r.heads]) := hid (if_neg (fun e => hh0 (by rw [e]; rfl)))
  have hnum2 : 2 + r.events.length + r.rows.length + r.waiting.length + r.state.length + r.receipts.length + r.typing.length ≤ 1000000 := by
   have h := hnum
   rw [HIF.out, List.length_singleton] at h
   omega
  have HHQ := hid (headsline_any AH cH r.heads w6 (by have h := (HH.out.keep (by decide) HB6.out).at_.1; rwa [Nat.mul_one] at h) HF.out.heads HHN.out HJN.out)
  go_wp2_with fail
  refine HHQ.out.mono ?_
  rintro e wh ⟨rfl, hbh⟩
  have HBH := hid (HB6.out.trans (hbh.mono (by omega)))
  have HOH : Hid (OwnS (w.heap.size + 1) wh (.slice A6 U6.length c6) U6) := hid (own_below HO6.out hbh (Nat.le_refl _))
  have hzh := HBH.out.size
  rw [hsw] at hzh
  have HLENH : Hid (U6.length ≤ 1000000) := hid (by have z4 := HLN4.out; have z5 := HLN5.out; have z6 := HLN6.out; (try simp only [List.length_singleton] at *); omega)
  clear hbh
  go_wp2_with (at_builtin; refine app_lit rowStr rfl _ _ rfl wh (strL [Ar.headsLine r.heads]) 1 rfl (one_strs [Ar.headsLine r.heads]) (.slice A6 U6.length c6) U6.length (strL U6) (w.heap.size + 1) rfl HOH.out rfl hzh (by have := HLENH.out; omega) ?_; intro vh w11 hoh hgh hbh2; obtain ⟨A11, c11, rfl⟩ := own_slice hoh; have HB11 := hid (hbh2 _ HBH.out); have hcq := (HBX.out.below (hbh2 _ HBH.out) (Nat.lt_succ_self _)).cell 5; rw [show (#[.string (bstr r.id), .slice AE r.events.length cE, .slice AR r.rows.length cR, .slice AW r.waiting.length cW, .slice AH r.heads.length cH, .slice AS r.state.length cS, .int .i64 r.next, .slice AC r.receipts.length cC, .slice AT r.typing.length cT] : Array Value)[5]? = some (.slice AS r.state.length cS) from rfl] at hcq)
  obtain ⟨U11, hU11⟩ : ∃ U, U6 ++ [Ar.headsLine r.heads] = U := ⟨_, rfl⟩
  have HLN11 : Hid (U11.length = U6.length + 1) := hid (by rw [← hU11, List.length_append]; rfl)
  have HO11 : Hid (OwnS (w.heap.size + 1) w11 (.slice A11 U11.length c11) U11) := hid (by unfold OwnS; rw [HLN11.out, ← hU11, strL_append]; exact hoh)
  rw [← HLN11.out]
  have HU11 := hid hU11
  clear hU11 hoh hgh hbh2
  have hc12 := (HBX.out.below HB11.out (Nat.lt_succ_self _)).cell 5
  rw [show (#[.string (bstr r.id), .slice AE r.events.length cE, .slice AR r.rows.length cR, .slice AW r.waiting.length cW, .slice AH r.heads.length cH, .slice AS r.state.length cS, .int .i64 r.next, .slice AC r.receipts.length cC, .slice AT r.typing.length cT] : Array Value)[5]? = some (.slice AS r.state.length cS) from rfl] at hc12
  have hz12 := HB11.out.size
  rw [hsw] at hz12
  have HQ12 := hid (lines_entry (.slice A11 U11.length c11) U11 (w.heap.size + 1) AS cS r.state w11 HO11.out hz12 (HS.out.keep (by decide) HB11.out).at_.1 (HS.out.keep (by decide) HB11.out).at_.2 HF.out.state (by have z4 := HLN4.out; have z5 := HLN5.out; have z6 := HLN6.out; have z11 := HLN11.out; (try simp only [List.length_singleton] at *); omega))
  go_wp2_with fail
  refine HQ12.out.mono ?_
  rintro e w12 ⟨⟨v12, rfl, ho12⟩, hb12⟩
  obtain ⟨A12, c12, rfl⟩ := own_any ho12
  have HB12 := hid (HB11.out.trans hb12)
  obtain ⟨U12, hU12⟩ : ∃ U, U11 ++ r.state.map Ar.entryLine = U := ⟨_, rfl⟩
  rw [hU12] at ho12
  have HLN12 : Hid (U12.length = U11.length + r.state.length) := hid (by rw [← hU12, List.length_append, List.length_map])
  rw [show (U11 ++ r.state.map Ar.entryLine).length = U12.length from by rw [hU12]]
  have HO12 := hid ho12
  have HU12 := hid hU12
  clear hU12 ho12 hb12 hc12 HQ12
  have hc13 := (HBX.out.below HB12.out (Nat.lt_succ_self _)).cell 7
  rw [show (#[.string (bstr r.id), .slice AE r.events.length cE, .slice AR r.rows.length cR, .slice AW r.waiting.length cW, .slice AH r.heads.length cH, .slice AS r.state.length cS, .int .i64 r.next, .slice AC r.receipts.length cC, .slice AT r.typing.length cT] : Array Value)[7]? = some (.slice AC r.receipts.length cC) from rfl] at hc13
  have hz13 := HB12.out.size
  rw [hsw] at hz13
  have HQ13 := hid (lines_receipt (.slice A12 U12.length c12) U12 (w.heap.size + 1) AC cC r.receipts w12 HO12.out hz13 (HC.out.keep (by decide) HB12.out).at_.1 (HC.out.keep (by decide) HB12.out).at_.2 HF.out.rcp (by have z4 := HLN4.out; have z5 := HLN5.out; have z6 := HLN6.out; have z11 := HLN11.out; have z12 := HLN12.out; (try simp only [List.length_singleton] at *); omega))
  go_wp2_with fail
  refine HQ13.out.mono ?_
  rintro e w13 ⟨⟨v13, rfl, ho13⟩, hb13⟩
  obtain ⟨A13, c13, rfl⟩ := own_any ho13
  have HB13 := hid (HB12.out.trans hb13)
  obtain ⟨U13, hU13⟩ : ∃ U, U12 ++ r.receipts.map Ar.receiptLine = U := ⟨_, rfl⟩
  rw [hU13] at ho13
  have HLN13 : Hid (U13.length = U12.length + r.receipts.length) := hid (by rw [← hU13, List.length_append, List.length_map])
  rw [show (U12 ++ r.receipts.map Ar.receiptLine).length = U13.length from by rw [hU13]]
  have HO13 := hid ho13
  have HU13 := hid hU13
  clear hU13 ho13 hb13 hc13 HQ13
  have hc14 := (HBX.out.below HB13.out (Nat.lt_succ_self _)).cell 8
  rw [show (#[.string (bstr r.id), .slice AE r.events.length cE, .slice AR r.rows.length cR, .slice AW r.waiting.length cW, .slice AH r.heads.length cH, .slice AS r.state.length cS, .int .i64 r.next, .slice AC r.receipts.length cC, .slice AT r.typing.length cT] : Array Value)[8]? = some (.slice AT r.typing.length cT) from rfl] at hc14
  have hz14 := HB13.out.size
  rw [hsw] at hz14
  have HQ14 := hid (lines_typing (.slice A13 U13.length c13) U13 (w.heap.size + 1) AT cT r.typing w13 HO13.out hz14 (HT.out.keep (by decide) HB13.out).at_.1 (HT.out.keep (by decide) HB13.out).at_.2 HF.out.typ (by have z4 := HLN4.out; have z5 := HLN5.out; have z6 := HLN6.out; have z11 := HLN11.out; have z12 := HLN12.out; have z13 := HLN13.out; (try simp only [List.length_singleton] at *); omega))
  go_wp2_with fail
  refine HQ14.out.mono ?_
  rintro e w14 ⟨⟨v14, rfl, ho14⟩, hb14⟩
  obtain ⟨A14, c14, rfl⟩ := own_any ho14
  have HB14 := hid (HB13.out.trans hb14)
  obtain ⟨U14, hU14⟩ : ∃ U, U13 ++ r.typing.map Ar.typingLine = U := ⟨_, rfl⟩
  rw [hU14] at ho14
  have HLN14 : Hid (U14.length = U13.length + r.typing.length) := hid (by rw [← hU14, List.length_append, List.length_map])
  rw [show (U13 ++ r.typing.map Ar.typingLine).length = U14.length from by rw [hU14]]
  have HO14 := hid ho14
  have HU14 := hid hU14
  clear hU14 ho14 hb14 hc14 HQ14
  have HUN : Hid (Ar.rmLines r = U14) := hid (by rw [HN.out, HU4.out, HU5.out, HU6.out, HIF.out, HU11.out, HU12.out, HU13.out, HU14.out])
  have HJ : Hid ((Ar.join [10] U14).length ≤ 100000000) := hid (by rw [← HUN.out]; exact Nat.le_trans HF.out.tot (by omega))
  have HJS : Hid ((bstr (Ar.join [10] U14)).size ≤ 90000000) := hid (by rw [bstr_size, ← HUN.out]; exact HF.out.tot)
  have HUL : Hid (U14.length ≤ 10000000) := hid (by rw [← HUN.out]; have := HF.out.num; omega)
  have HQJ := hid (join_own w14 (w.heap.size + 1) (.slice A14 U14.length c14) U14 ⟨#[10]⟩ HO14.out HUL.out HJ.out)
  have HSTR := hid (rm_str U14)
  have HWR : Hid (Ar.write r = if 500000 < (bstr (Ar.join [10] U14)).size + 1 then none else some (Ar.join [10] U14 ++ [10])) := hid (by
   unfold Ar.write Ar.rmText
   rw [HUN.out, List.length_append, List.length_singleton, bstr_size])
  rw [show (⟨#[10]⟩ : ByteArray).data.toList = [10] from rfl] at HQJ
  have hJS := HJS.out
  have hone : (⟨#[10]⟩ : ByteArray).size = 1 := rfl
  generalize hJJ : bstr (Ar.join [10] U14) = J at *
  have hp : ¬ 9223372036854775807 < J.size + 1 := by omega
  have hzj := HB14.out.size
  rw [hsw] at hzj
  clear HJS
  go_wp2_with fail
  refine HQJ.out.mono ?_
  rintro e wj ⟨rfl, hbj⟩
  have HBJ := hid (HB14.out.trans (hbj.mono (by omega)))
  clear hbj hJJ
  by_cases hbig : 500000 < J.size + 1
  ·have hb1 : (500000 : Int) < (J.size : Int) + 1 := by omega
   have HNN : Hid (Ar.write r = none) := hid (by rw [HWR.out, if_pos hbig])
   go_wp2_with fail
   go_ret2
   exact ⟨.inr ⟨HNN.out, rfl⟩, HFIN.out _ HBJ.out⟩
  ·have hb1 : decide ((500000 : Int) < (J.size : Int) + 1) = false := decide_eq_false (by omega)
   have HNN : Hid (Ar.write r = some (Ar.join [10] U14 ++ [10])) := hid (by rw [HWR.out, if_neg hbig])
   clear hbig
   go_wp2_with fail
   go_ret2
   exact ⟨.inl ⟨_, HNN.out, by show Ending.returned (.tuple #[.string (J ++ (⟨#[10]⟩ : ByteArray)), .int .i64 0]) = _; rw [HSTR.out]⟩, HFIN.out _ HBJ.out⟩
end Go.Proofs.YteadlcncnhbmjaaGreatDoor
/- The text Ar1. -/
namespace Go.Proofs.YteadlcncnhbmjaaGreatDoor
open Go.RowKit Go.Lib
set_option linter.unusedVariables false
def Where (w : World) (v v' : Value) : Prop := v'.ownBlock = v.ownBlock ∨ v'.ownBlock = some w.heap.size
section
variable {ops : Array Oper} {rest : List Oper} {o : Oper} {a : Act} {Q : Exit → Act → World → Prop} {K : Act → World → Prop} {T e : TypeId} {size bytes : Nat} {E : Prop}
theorem run_appW (hT : RowT T e size bytes) (ty : TypeId) (w : World) (v : Value) (n : Nat) (xs ys : List Value) (base : Nat) (hown : w.ownsRow base e size v n xs) (g m c : Nat) (hl : ys.length = m * size) (h1 : ∀ u ∈ ys, u.oneCell' = true)
  (hr : ∀ j u, ys[j]? = some u → w.cell? ⟨g, j, none⟩ = some u) (hbase : base ≤ w.heap.size) (hlen : n + m ≤ 100000000000) :
  ∃ v' w', (Builtin.append_ #[T, T] ty #[v, .slice (some ⟨g, 0, none⟩) m c]).run Tryz.prog w = .ok v' w' ∧ w'.ownsRow base e size v' (n + m) (xs ++ ys) ∧ w.grownBy w' v.ownBlock ∧ (∀ w0, Below base w0 w → Below base w0 w') ∧ Where w v v' := by
 obtain ⟨v', w', hrun, h2, h3, h4⟩ := run_appG hT ty w v n xs ys base hown g m c hl h1 hr hbase hlen
 refine ⟨v', w', hrun, h2, h3, h4, ?_⟩
 obtain ⟨z, hi, hz⟩ := hT.info
 obtain ⟨i, hu, zu0, zu1, zu2⟩ := info_parts hi
 have hrr : ∀ j u, ys[j]? = some u → w.cell? ((⟨g, 0, none⟩ : Addr).add j) = some u := fun j u hu => by rw [show (⟨g, 0, none⟩ : Addr).add j = ⟨g, j, none⟩ from by rw [Addr.add_mid g 0 j, Nat.zero_add]]; exact hr j u hu
 have hbs : (n + m) * bytes ≤ 140737488355328 := by
  have := Nat.mul_le_mul hlen hT.small
  omega
 subst zu1
 rcases hown.2 with ⟨rfl, rfl⟩ | ⟨g', cap, cur, rfl, hbg, hg, hnc, hcm, hcs, htake⟩
 ·by_cases hm : m = 0
  ·have hy : ys = [] := List.eq_nil_of_length_eq_zero (by rw [hl, hm, Nat.zero_mul])
   subst hm hy
   have hr0 : (Builtin.append_ #[T, T] ty #[.slice none 0 0, .slice (some ⟨g, 0, none⟩) 0 c]).run Tryz.prog w = .ok (.slice none 0 0) w := by
    simp [Builtin.append_, run_underlying hT.und, Go.sizeOf, typeInfo, hu, Builtin.lenOf, Builtin.firstCells, loadCells, loadCellsFrom]
   rw [hr0] at hrun
   injection hrun with e1 e2
   rw [← e1]
   exact .inl rfl
  ·have hr0 := run_append_nil (P := Tryz.prog) w T ty e i z hT.und hu zu0 ⟨g, 0, none⟩ m c ys hl hrr (by omega) (by omega) (by rw [zu2]; rw [Nat.zero_add] at hbs; omega)
   rw [hr0] at hrun
   injection hrun with e1 e2
   rw [← e1]
   exact .inr rfl
 ·by_cases hroom : n + m ≤ cap
  ·have hfit : n * i.size + ys.length ≤ cur.size := by rw [hl, hcs, ← Nat.add_mul]; exact Nat.mul_le_mul_right _ hroom
   have hr0 := run_append_room (P := Tryz.prog) w T ty e i hT.und hu g' n cap cur hg ⟨g, 0, none⟩ m c ys hl hrr h1 hroom hfit
   rw [hr0] at hrun
   injection hrun with e1 e2
   rw [← e1]
   exact .inl rfl
  ·have hr0 := run_append_grow (P := Tryz.prog) w T ty e i z hT.und hu zu0 ⟨g', 0, none⟩ n cap xs hown.1 (hown.cells (g := g') rfl) ⟨g, 0, none⟩ m c ys hl hrr (by omega) (by omega) (growslice_fits (by omega) (by rw [zu2]; exact hbs))
   rw [hr0] at hrun
   injection hrun with e1 e2
   rw [← e1]
   exact .inr rfl
theorem step_appG (hT : RowT T e size bytes) (hgd : o.guard = none) (s x : Operand) (ho : o.op = .call { callee := .builtin .append, args := #[s, x], argTypes := #[T, T] })
  (w : World) (v : Value) (n : Nat) (xs ys : List Value) (base : Nat) (hs : a.eval s = v) (hown : w.ownsRow base e size v n xs) (g m c : Nat) (hx : a.eval x = .slice (some ⟨g, 0, none⟩) m c) (hl : ys.length = m * size) (h1 : ∀ u ∈ ys, u.oneCell' = true)
  (hr : ∀ j u, ys[j]? = some u → w.cell? ⟨g, j, none⟩ = some u) (hbase : base ≤ w.heap.size) (hlen : n + m ≤ 100000000000)
  (h : ∀ v' w', w'.ownsRow base e size v' (n + m) (xs ++ ys) → w.grownBy w' v.ownBlock → (∀ w0, Below base w0 w → Below base w0 w') → Where w v v' → K (a.put o.dst v') w') : if Region.wanted o (yielded ops a.tmps) = true then o.wp Tryz.prog a w K Q else E := by
 have hw : Region.wanted o (yielded ops a.tmps) = true := by simp [Region.wanted, hgd]
 rw [if_pos hw]
 obtain ⟨v', w', hrun, h2, h3, h4, h5⟩ := run_appW hT o.type w v n xs ys base hown g m c hl h1 hr hbase hlen
 unfold Oper.wp execOp
 simp only [ho, resolve, invoke, builtin, Sem.run_bind, Sem.run_pure, Result.andThen_ok, List.map_toArray, List.map_cons, List.map_nil, hs, hx, hrun]
 exact h v' w' h2 h3 h4 h5
end
theorem info_row : (Tryz.prog.info? 114).map (fun i => (i.zero, i.size, i.bytes)) = some (some (.agg #[.int .i64 0, .int .i64 0, .int .i64 0, .bool false]), 4, 32) := by kernel_rfl
theorem rowRow : RowT 49 114 4 32 := ⟨Tryz.underlying49, ⟨_, info_row, rfl⟩, by decide, by decide⟩
structure RB (W0 w : World) (g n : Nat) (r : Ar.RS) (cs : Array Value) : Prop where
 lt : g < W0.heap.size
 g3 : 3 ≤ g
 rd : RdS w W0.heap.size r
 room : Blk w g 55 cs
 grow : W0.grownBy w (some g)
 len : r.1.length ≤ n
theorem RB.call {W0 w w' : World} {g n : Nat} {r r' : Ar.RS} {cs : Array Value} (h : RB W0 w g n r cs) (hr : RdS w' W0.heap.size r') (hg : w.grownBy w' (some W0.heap.size)) (hl : r'.1.length ≤ r.1.length) : RB W0 w' g n r' cs :=
 ⟨h.lt, h.g3, hr, h.room.grown hg (by intro e; injection e with e; have := h.lt; omega), ⟨hg.os.trans h.grow.os, hg.tape.trans h.grow.tape, hg.output.trans h.grow.output, Nat.le_trans h.grow.size hg.size, fun k hk hne => (hg.block k (Nat.lt_of_lt_of_le hk h.grow.size) (by intro e; injection e with e; omega)).trans (h.grow.block k hk hne)⟩, Nat.le_trans hl h.len⟩
theorem RB.set {W0 w : World} {g n : Nat} {r : Ar.RS} {cs : Array Value} (h : RB W0 w g n r cs) (i : Nat) (v : Value) : RB W0 (w.setCell ⟨g, i, none⟩ v) g n r (cs.setIfInBounds i v) :=
 ⟨h.lt, h.g3, h.rd.keep (grown_set _ _ _ _) (by intro e; injection e with e; have := h.lt; omega), h.room.set_ i v, ⟨h.grow.os, h.grow.tape, h.grow.output, by rw [World.size_setCell]; exact h.grow.size, fun k hk hne => ((grown_set w g i v).block k (Nat.lt_of_lt_of_le hk h.grow.size) hne).trans (h.grow.block k hk hne)⟩, h.len⟩
theorem RB.below {W0 w w' : World} {g n : Nat} {r : Ar.RS} {cs : Array Value} (h : RB W0 w g n r cs) (hb : Below w.heap.size w w') : RB W0 w' g n r cs :=
 ⟨h.lt, h.g3, h.rd.below hb, h.room.below hb h.room.lt, ⟨hb.os.trans h.grow.os, hb.tape.trans h.grow.tape, hb.output.trans h.grow.output, Nat.le_trans h.grow.size hb.size, fun k hk hne => (hb.block k (Nat.lt_of_lt_of_le hk h.grow.size)).trans (h.grow.block k hk hne)⟩, h.len⟩
theorem RB.drewN {W0 w : World} {g n : Nat} {r : Ar.RS} {cs : Array Value} (h : RB W0 w g n r cs) (q : Nat) : RB W0 (w.drewN q) g n r cs := h.below (below_drewN (Below.refl _ _) q)
theorem RB.ready {W0 w : World} {g n : Nat} {r : Ar.RS} {cs : Array Value} (h : RB W0 w g n r cs) (hR : Ready W0) : Ready w := hR.grown h.grow (fun q e => by injection e with e; have := h.g3; omega)
theorem RB.start {w : World} {g : Nat} {s : ByteArray} {cs : Array Value} (hg : Blk w g 55 cs) (h3 : 3 ≤ g) : RB w (w.alloc (.cells #[.string s, .bool false] 87)) g s.size (s.data.toList, false) cs where
 lt := hg.lt
 g3 := h3
 rd := by
  have h := Blk.new w 87 #[.string s, .bool false]
  show Blk _ _ _ #[.string (bstr s.data.toList), .bool false]
  rw [bstr_of]
  exact h
 room := hg.alloc _
 grow := World.grownBy_alloc w _ _
 len := by rw [str_size]; exact Nat.le_refl _
def hdX (s : List UInt8) : List UInt8 × Ar.RS := Ar.rtext (Ar.eat Ar.headW (s, false))
def hdZ (s : List UInt8) (n : Int) : Int × Ar.RS := if (Ar.has Ar.nextW (hdX s).2).1 = true then Ar.rnum (Ar.has Ar.nextW (hdX s).2).2 else (n, (Ar.has Ar.nextW (hdX s).2).2)
def hdOk (s : List UInt8) (n : Int) : Bool := decide ((hdZ s n).2.2 = false ∧ Ar.headLine (hdX s).1 (hdZ s n).1 = s)
theorem readhead_any (s : ByteArray) (g : Nat) (id : ByteArray) (vE vR vW vH vS : Value) (n : Int) (vC vT : Value) (w : World) (hs : s.size ≤ 100000) (hRd : Ready w) (hg : Blk w g 55 #[.string id, vE, vR, vW, vH, vS, .int .i64 n, vC, vT]) (hg3 : 3 ≤ g) (hn : Ar.inInt n) :
  Calls Tryz.prog 76 #[.string s, .pointer (some ⟨g, 0, none⟩)] w fun e w' => e = .returned (.bool (hdOk s.data.toList n)) ∧ Blk w' g 55 #[.string (bstr (hdX s.data.toList).1), vE, vR, vW, vH, vS, .int .i64 (hdZ s.data.toList n).1, vC, vT] ∧ w.grownBy w' (some g) := by
 have HRY := hid hRd
 have HB1 := hid (RB.start (s := s) hg hg3)
 have hle := HB1.out.len
 have hhd := Ar.eat_len Ar.headW (s.data.toList, false)
 have htx := Ar.rtext_len (Ar.eat Ar.headW (s.data.toList, false))
 have hha := (Ar.has_len Ar.nextW (hdX s.data.toList).2).1
 have hnu := Ar.rnum_len (Ar.has Ar.nextW (hdX s.data.toList).2).2
 have hid1 : (hdX s.data.toList).1.length ≤ 100000 := by
  have : (Ar.rtext (Ar.eat Ar.headW (s.data.toList, false))).1.length ≤ (Ar.eat Ar.headW (s.data.toList, false)).1.length := Ar.rtext_b.good _
  have h2 : (hdX s.data.toList).1.length ≤ (Ar.eat Ar.headW (s.data.toList, false)).1.length := this
  have h3 : s.data.toList.length ≤ s.size := hle
  have h4 : (Ar.eat Ar.headW (s.data.toList, false)).1.length ≤ s.data.toList.length := hhd
  omega
 have HEAT := hid (eat_any w.heap.size ⟨#[114, 111, 111, 109, 32]⟩ _ _ HB1.out.rd (by omega))
 have HS := hid hs
 clear hg hRd
 go_enter Tryz.func76, Tryz.ntmps76
 go_wp2_with fail
 refine HEAT.out.mono ?_
 rintro e w2 ⟨rfl, hr2, hg2⟩
 have HB2 := hid (HB1.out.call hr2 hg2 hhd)
 have hl2 := HB2.out.len
 clear hr2 hg2
 go_wp2_with fail
 refine (text_any w.heap.size _ _ HB2.out.rd (by omega)).mono ?_
 rintro e w3 ⟨rfl, hr3, hg3'⟩
 have HB3 := hid (HB2.out.call hr3 hg3' htx)
 clear hr3 hg3'
 have hf3 := HB3.out.room.frozen 0
 have hc3 := HB3.out.room.cell 0
 rw [show (#[.string id, vE, vR, vW, vH, vS, .int .i64 n, vC, vT] : Array Value)[0]? = some (.string id) from rfl] at hc3
 have HB4 := hid (HB3.out.set 0 (.string (bstr (hdX s.data.toList).1)))
 rw [show (#[.string id, vE, vR, vW, vH, vS, .int .i64 n, vC, vT] : Array Value).setIfInBounds 0 (.string (bstr (hdX s.data.toList).1)) = #[.string (bstr (hdX s.data.toList).1), vE, vR, vW, vH, vS, .int .i64 n, vC, vT] from rfl] at HB4
 change Hid (RB w (w3.setCell ⟨g, 0, none⟩ (.string (bstr (hdX s.data.toList).1))) g s.size (hdX s.data.toList).2 _) at HB4
 rw [show (Ar.rtext (Ar.eat (⟨#[114, 111, 111, 109, 32]⟩ : ByteArray).data.toList (s.data.toList, false))).1 = (hdX s.data.toList).1 from rfl]
 go_wp2_with fail
 refine (has_any w.heap.size _ _ _ HB4.out.rd (by have := HB4.out.len; omega)).mono ?_
 rintro e w5 ⟨rfl, hr5, hg5⟩
 rw [show (⟨#[32, 110, 101, 120, 116, 61]⟩ : ByteArray).data.toList = Ar.nextW from rfl] at hr5 ⊢
 have HB5 := hid (HB4.out.call hr5 hg5 hha)
 clear hr5 hg5 hf3 hc3
 by_cases hh : (Ar.has Ar.nextW (hdX s.data.toList).2).1 = true
 ·have hz : hdZ s.data.toList n = Ar.rnum (Ar.has Ar.nextW (hdX s.data.toList).2).2 := if_pos hh
  have HZR : Hid (Ar.inInt (hdZ s.data.toList n).1) := hid (by rw [hz]; exact Ar.rnum_b.good _)
  rw [hh]
  go_wp2_with fail
  refine (number_any w.heap.size _ _ HB5.out.rd (by have := HB5.out.len; omega) (HB5.out.ready HRY.out)).mono ?_
  rintro e w6 ⟨rfl, hr6, hg6⟩
  have HB6 := hid (HB5.out.call hr6 hg6 hnu)
  clear hr6 hg6
  rw [← hz] at HB6 ⊢
  have hf6 := HB6.out.room.frozen 6
  have hc6 := HB6.out.room.cell 6
  rw [show (#[.string (bstr (hdX s.data.toList).1), vE, vR, vW, vH, vS, .int .i64 n, vC, vT] : Array Value)[6]? = some (.int .i64 n) from rfl] at hc6
  have HB7 := hid (HB6.out.set 6 (.int .i64 (hdZ s.data.toList n).1))
  rw [show (#[.string (bstr (hdX s.data.toList).1), vE, vR, vW, vH, vS, .int .i64 n, vC, vT] : Array Value).setIfInBounds 6 (.int .i64 (hdZ s.data.toList n).1) = #[.string (bstr (hdX s.data.toList).1), vE, vR, vW, vH, vS, .int .i64 (hdZ s.data.toList n).1, vC, vT] from rfl] at HB7
  generalize hw7 : w6.setCell ⟨g, 6, none⟩ (.int .i64 (hdZ s.data.toList n).1) = w7 at *
  clear hh hz
  have hb6 := HB7.out.rd.c1
  have HK6 := hid HB7.out.room
  have HQ := hid (fun W => headline_any (hdX s.data.toList).1 vE vR vW vH vS (hdZ s.data.toList n).1 vC vT W (by omega) HZR.out)
  have hcmp : ((bstr (Ar.headLine (hdX s.data.toList).1 (hdZ s.data.toList n).1)).toList == s.toList) = (Ar.headLine (hdX s.data.toList).1 (hdZ s.data.toList n).1 == s.data.toList) := by rw [Lib.toList_data s]; exact str_cmp _ _
  have HEX : Hid (∀ W, Below w7.heap.size w7 W → Blk W g 55 #[.string (bstr (hdX s.data.toList).1), vE, vR, vW, vH, vS, .int .i64 (hdZ s.data.toList n).1, vC, vT] ∧ w.grownBy W (some g)) := hid (fun W hW => ⟨(HB7.out.below hW).room, (HB7.out.below hW).grow⟩)
  by_cases hbad : (hdZ s.data.toList n).2.2 = true
  ·have HO : Hid (hdOk s.data.toList n = false) := hid (by unfold hdOk; rw [hbad]; exact decide_eq_false (fun h => by cases h.1))
   rw [hbad] at hb6
   clear hcmp hbad
   go_wp2_with fail
   go_ret
   exact ⟨ret_bool HO.out.symm, HEX.out _ (Below.refl _ _)⟩
  ·have hbad' : (hdZ s.data.toList n).2.2 = false := by simpa using hbad
   have HO : Hid (hdOk s.data.toList n = (Ar.headLine (hdX s.data.toList).1 (hdZ s.data.toList n).1 == s.data.toList)) := hid (by
    unfold hdOk
    rw [hbad']
    by_cases he : Ar.headLine (hdX s.data.toList).1 (hdZ s.data.toList n).1 = s.data.toList
    ·rw [decide_eq_true ⟨rfl, he⟩, he, beq_self_eq_true]
    ·rw [decide_eq_false (fun h => he h.2)]
     exact (beq_eq_false_iff_ne.2 he).symm)
   rw [hbad'] at hb6
   clear hbad hbad'
   generalize Ar.headLine (hdX s.data.toList).1 (hdZ s.data.toList n).1 = H at *
   go_wp2_with (refine load_row_w (by rfl) 55 _ rfl g rfl 55 #[.string (bstr (hdX s.data.toList).1), vE, vR, vW, vH, vS, .int .i64 (hdZ s.data.toList n).1, vC, vT] (0, 0) _ (by rfl) HK6.out Tryz.underlying55 (by kernel_rfl) ?_)
   refine (HQ.out _).mono ?_
   rintro e w9 ⟨rfl, hb9⟩
   have HEX9 := hid (HEX.out _ hb9)
   clear hb9
   cases hcv : (H == s.data.toList) with
   | true =>
    rw [hcv] at hcmp HO
    generalize bstr H = SH at *
    go_wp2_with fail
    go_ret
    exact ⟨ret_bool HO.out.symm, HEX9.out⟩
   | false =>
    rw [hcv] at hcmp HO
    generalize bstr H = SH at *
    go_wp2_with fail
    go_ret
    exact ⟨ret_bool HO.out.symm, HEX9.out⟩
 ·have hh' : (Ar.has Ar.nextW (hdX s.data.toList).2).1 = false := by simpa using hh
  have hz : hdZ s.data.toList n = (n, (Ar.has Ar.nextW (hdX s.data.toList).2).2) := if_neg hh
  have HZR : Hid (Ar.inInt (hdZ s.data.toList n).1) := hid (by rw [hz]; exact hn)
  have HB7 : Hid (RB w w5 g s.size (hdZ s.data.toList n).2 #[.string (bstr (hdX s.data.toList).1), vE, vR, vW, vH, vS, .int .i64 (hdZ s.data.toList n).1, vC, vT]) := hid (by rw [hz]; exact HB5.out)
  rw [hh']
  clear hh hh' hz
  have hb6 := HB7.out.rd.c1
  have HK6 := hid HB7.out.room
  have HQ := hid (fun W => headline_any (hdX s.data.toList).1 vE vR vW vH vS (hdZ s.data.toList n).1 vC vT W (by omega) HZR.out)
  have hcmp : ((bstr (Ar.headLine (hdX s.data.toList).1 (hdZ s.data.toList n).1)).toList == s.toList) = (Ar.headLine (hdX s.data.toList).1 (hdZ s.data.toList n).1 == s.data.toList) := by rw [Lib.toList_data s]; exact str_cmp _ _
  have HEX : Hid (∀ W, Below w5.heap.size w5 W → Blk W g 55 #[.string (bstr (hdX s.data.toList).1), vE, vR, vW, vH, vS, .int .i64 (hdZ s.data.toList n).1, vC, vT] ∧ w.grownBy W (some g)) := hid (fun W hW => ⟨(HB7.out.below hW).room, (HB7.out.below hW).grow⟩)
  by_cases hbad : (hdZ s.data.toList n).2.2 = true
  ·have HO : Hid (hdOk s.data.toList n = false) := hid (by unfold hdOk; rw [hbad]; exact decide_eq_false (fun h => by cases h.1))
   rw [hbad] at hb6
   clear hcmp hbad
   go_wp2_with fail
   go_ret
   exact ⟨ret_bool HO.out.symm, HEX.out _ (Below.refl _ _)⟩
  ·have hbad' : (hdZ s.data.toList n).2.2 = false := by simpa using hbad
   have HO : Hid (hdOk s.data.toList n = (Ar.headLine (hdX s.data.toList).1 (hdZ s.data.toList n).1 == s.data.toList)) := hid (by
    unfold hdOk
    rw [hbad']
    by_cases he : Ar.headLine (hdX s.data.toList).1 (hdZ s.data.toList n).1 = s.data.toList
    ·rw [decide_eq_true ⟨rfl, he⟩, he, beq_self_eq_true]
    ·rw [decide_eq_false (fun h => he h.2)]
     exact (beq_eq_false_iff_ne.2 he).symm)
   rw [hbad'] at hb6
   clear hbad hbad'
   generalize Ar.headLine (hdX s.data.toList).1 (hdZ s.data.toList n).1 = H at *
   go_wp2_with (refine load_row_w (by rfl) 55 _ rfl g rfl 55 #[.string (bstr (hdX s.data.toList).1), vE, vR, vW, vH, vS, .int .i64 (hdZ s.data.toList n).1, vC, vT] (0, 0) _ (by rfl) HK6.out Tryz.underlying55 (by kernel_rfl) ?_)
   refine (HQ.out _).mono ?_
   rintro e w9 ⟨rfl, hb9⟩
   have HEX9 := hid (HEX.out _ hb9)
   clear hb9
   cases hcv : (H == s.data.toList) with
   | true =>
    rw [hcv] at hcmp HO
    generalize bstr H = SH at *
    go_wp2_with fail
    go_ret
    exact ⟨ret_bool HO.out.symm, HEX9.out⟩
   | false =>
    rw [hcv] at hcmp HO
    generalize bstr H = SH at *
    go_wp2_with fail
    go_ret
    exact ⟨ret_bool HO.out.symm, HEX9.out⟩
end Go.Proofs.YteadlcncnhbmjaaGreatDoor
/- The text Ar2. -/
namespace Go.Proofs.YteadlcncnhbmjaaGreatDoor
open Go.RowKit Go.Lib
set_option linter.unusedVariables false
theorem RB.out {W0 w : World} {g n : Nat} {r : Ar.RS} {cs : Array Value} (h : RB W0 w g n r cs) (b i : Nat) (v : Value) (hb : W0.heap.size < b) : RB W0 (w.setCell ⟨b, i, none⟩ v) g n r cs :=
 ⟨h.lt, h.g3, h.rd.keep (grown_set _ _ _ _) (by intro e; injection e with e; omega), h.room.far (show g ≠ b by have := h.lt; omega) v, ⟨h.grow.os, h.grow.tape, h.grow.output, by rw [World.size_setCell]; exact h.grow.size, fun k hk hne => ((grown_set w b i v).block k (Nat.lt_of_lt_of_le hk h.grow.size) (by intro e; injection e with e; omega)).trans (h.grow.block k hk hne)⟩, h.len⟩
theorem lit_at (w : World) (t : TypeId) (ys : List Value) (j : Nat) (u : Value) (h : ys[j]? = some u) : (w.alloc (.cells ys.toArray t)).cell? ⟨w.heap.size, j, none⟩ = some u := by
 rw [(Blk.new w t ys.toArray).cell j, List.getElem?_toArray]
 exact h
structure Ch (w w' : World) (g : Nat) (row : Option Nat) : Prop where
 os : w'.os = w.os
 tape : w'.tape = w.tape
 output : w'.output = w.output
 size : w.heap.size ≤ w'.heap.size
 block : ∀ k, k < w.heap.size → k ≠ g → some k ≠ row → w'.heap[k]? = w.heap[k]?
theorem Ch.of_grown {w w' : World} {g : Nat} {row : Option Nat} (h : w.grownBy w' (some g)) : Ch w w' g row := ⟨h.os, h.tape, h.output, h.size, fun k hk hne _ => h.block k hk (by intro e; injection e with e; exact hne e)⟩
theorem Ch.below {w w' w'' : World} {g : Nat} {row : Option Nat} (h : Ch w w' g row) (hb : Below w'.heap.size w' w'') : Ch w w'' g row := ⟨hb.os.trans h.os, hb.tape.trans h.tape, hb.output.trans h.output, Nat.le_trans h.size hb.size, fun k hk h1 h2 => (hb.block k (Nat.lt_of_lt_of_le hk h.size)).trans (h.block k hk h1 h2)⟩
theorem Ch.grown {w w' w'' : World} {g : Nat} {row : Option Nat} (h : Ch w w' g row) (hg : w'.grownBy w'' row) : Ch w w'' g row := ⟨hg.os.trans h.os, hg.tape.trans h.tape, hg.output.trans h.output, Nat.le_trans h.size hg.size, fun k hk h1 h2 => (hg.block k (Nat.lt_of_lt_of_le hk h.size) h2).trans (h.block k hk h1 h2)⟩
theorem Ch.set {w w' : World} {g : Nat} {row : Option Nat} (h : Ch w w' g row) (i : Nat) (v : Value) : Ch w (w'.setCell ⟨g, i, none⟩ v) g row := ⟨h.os, h.tape, h.output, by rw [World.size_setCell]; exact h.size, fun k hk h1 h2 => ((grown_set w' g i v).block k (Nat.lt_of_lt_of_le hk h.size) (by intro e; injection e with e; exact h1 e)).trans (h.block k hk h1 h2)⟩
def rwA (s : List UInt8) : Int × Ar.RS := Ar.rnum (Ar.eat Ar.rowW (s, false))
def rwB (s : List UInt8) : Int × Ar.RS := Ar.rnum (Ar.eat [32] (rwA s).2)
def rwC (s : List UInt8) : Int × Ar.RS := Ar.rnum (Ar.eat [32] (rwB s).2)
def rwD (s : List UInt8) : Bool × Ar.RS := Ar.has Ar.goneW (rwC s).2
def rwX (s : List UInt8) : Int × Int × Int × Bool := ((rwA s).1, (rwB s).1, (rwC s).1, (rwD s).1)
def rwOk (s : List UInt8) : Bool := decide ((rwD s).2.2 = false ∧ Ar.rowLine (rwX s) = s)
theorem readrow_any (s : ByteArray) (g : Nat) (c0 vE vR vW vH vS c6 vC vT : Value) (m : Nat) (xs : List Value) (w : World) (hs : s.size ≤ 100000) (hRd : Ready w) (hg : Blk w g 55 #[c0, vE, vR, vW, vH, vS, c6, vC, vT]) (hg3 : 3 ≤ g) (ho : w.ownsRow (g + 1) 114 4 vR m xs) (hm : m ≤ 1000000) :
  Calls Tryz.prog 139 #[.string s, .pointer (some ⟨g, 0, none⟩)] w fun e w' => e = .returned (.bool (rwOk s.data.toList)) ∧ ∃ vR', Blk w' g 55 #[c0, vE, vR', vW, vH, vS, c6, vC, vT] ∧ w'.ownsRow (g + 1) 114 4 vR' (m + 1) (xs ++ rowC (rwX s.data.toList)) ∧ Ch w w' g vR.ownBlock ∧ (vR'.ownBlock = vR.ownBlock ∨ ∃ k, w.heap.size ≤ k ∧ vR'.ownBlock = some k) := by
 have HRY := hid hRd
 have HOWN := hid ho
 obtain ⟨AR, cR, rfl⟩ := own_any ho
 have HB1 := hid (RB.start (s := s) hg hg3)
 have hle : s.data.toList.length ≤ s.size := HB1.out.len
 have hl1 := Ar.eat_len Ar.rowW (s.data.toList, false)
 have hl2 : (rwA s.data.toList).2.1.length ≤ _ := Ar.rnum_len (Ar.eat Ar.rowW (s.data.toList, false))
 have hl3 := Ar.eat_len [32] (rwA s.data.toList).2
 have hl4 : (rwB s.data.toList).2.1.length ≤ _ := Ar.rnum_len (Ar.eat [32] (rwA s.data.toList).2)
 have hl5 := Ar.eat_len [32] (rwB s.data.toList).2
 have hl6 : (rwC s.data.toList).2.1.length ≤ _ := Ar.rnum_len (Ar.eat [32] (rwB s.data.toList).2)
 have hl7 := (Ar.has_len Ar.goneW (rwC s.data.toList).2).1
 have hoo := ho.lt
 have HLT : Hid (∀ k, (Value.slice AR m cR).ownBlock = some k → g + 1 ≤ k ∧ k < w.heap.size) := hid hoo
 clear hoo ho hg hRd
 go_enter Tryz.func139, Tryz.ntmps139
 go_wp2_with fail
 refine (eat_any w.heap.size _ _ _ HB1.out.rd (by simp only; omega)).mono ?_
 rintro e w2 ⟨rfl, hr2, hg2⟩
 rw [show (⟨#[114, 111, 119, 32]⟩ : ByteArray).data.toList = Ar.rowW from rfl] at hr2
 have HB2 := hid ((HB1.out.call hr2 hg2 hl1).below ((Below.refl _ _).alloc (Nat.le_refl _) (.cells #[.int .i64 0, .int .i64 0, .int .i64 0, .bool false] 114)))
 have hB : w.heap.size < w2.heap.size := hr2.lt
 have HK2 := hid (Blk.new w2 114 #[.int .i64 0, .int .i64 0, .int .i64 0, .bool false])
 clear hr2 hg2
 go_wp2_with fail
 refine (number_any w.heap.size _ _ HB2.out.rd (by have := HB2.out.len; omega) (HB2.out.ready HRY.out)).mono ?_
 rintro e w3 ⟨rfl, hr3, hg3'⟩
 have HK3 := hid (HK2.out.grown hg3' (by intro e; injection e with e; omega))
 have HB3 := hid ((HB2.out.call hr3 hg3' hl2).out w2.heap.size 0 (.int .i64 (rwA s.data.toList).1) hB)
 clear hr3 hg3'
 change Hid (RB w _ g s.size (rwA s.data.toList).2 _) at HB3
 rw [show (Ar.rnum (Ar.eat Ar.rowW (s.data.toList, false))).1 = (rwA s.data.toList).1 from rfl]
 have hf3 := HK3.out.frozen 0
 have hc3 := HK3.out.cell 0
 rw [show (#[.int .i64 0, .int .i64 0, .int .i64 0, .bool false] : Array Value)[0]? = some (.int .i64 0) from rfl] at hc3
 have HK4 := hid (HK3.out.set_ 0 (.int .i64 (rwA s.data.toList).1))
 rw [show (#[.int .i64 0, .int .i64 0, .int .i64 0, .bool false] : Array Value).setIfInBounds 0 (.int .i64 (rwA s.data.toList).1) = #[.int .i64 (rwA s.data.toList).1, .int .i64 0, .int .i64 0, .bool false] from rfl] at HK4
 go_wp2_with fail
 refine (eat_any w.heap.size _ _ _ HB3.out.rd (by have := HB3.out.len; omega)).mono ?_
 rintro e wa5 ⟨rfl, hra5, hga5⟩
 rw [show (⟨#[32]⟩ : ByteArray).data.toList = [32] from rfl] at hra5
 have HBa5 := hid (HB3.out.call hra5 hga5 hl3)
 have HKa5 := hid (HK4.out.grown hga5 (by intro e; injection e with e; omega))
 clear hra5 hga5
 go_wp2_with fail
 refine (number_any w.heap.size _ _ HBa5.out.rd (by have := HBa5.out.len; omega) (HBa5.out.ready HRY.out)).mono ?_
 rintro e wb5 ⟨rfl, hrb5, hgb5⟩
 have HKb5 := hid (HKa5.out.grown hgb5 (by intro e; injection e with e; omega))
 have HBb5 := hid ((HBa5.out.call hrb5 hgb5 hl4).out w2.heap.size 1 (.int .i64 (rwB s.data.toList).1) hB)
 clear hrb5 hgb5
 change Hid (RB w _ g s.size (rwB s.data.toList).2 _) at HBb5
 rw [show (Ar.rnum (Ar.eat [32] (rwA s.data.toList).2)).1 = (rwB s.data.toList).1 from rfl]
 have hfb5 := HKb5.out.frozen 1
 have hcb5 := HKb5.out.cell 1
 rw [show (#[.int .i64 (rwA s.data.toList).1, .int .i64 0, .int .i64 0, .bool false] : Array Value)[1]? = some (.int .i64 0) from rfl] at hcb5
 have HKc5 := hid (HKb5.out.set_ 1 (.int .i64 (rwB s.data.toList).1))
 rw [show (#[.int .i64 (rwA s.data.toList).1, .int .i64 0, .int .i64 0, .bool false] : Array Value).setIfInBounds 1 (.int .i64 (rwB s.data.toList).1) = #[.int .i64 (rwA s.data.toList).1, .int .i64 (rwB s.data.toList).1, .int .i64 0, .bool false] from rfl] at HKc5
 go_wp2_with fail
 refine (eat_any w.heap.size _ _ _ HBb5.out.rd (by have := HBb5.out.len; omega)).mono ?_
 rintro e wa6 ⟨rfl, hra6, hga6⟩
 rw [show (⟨#[32]⟩ : ByteArray).data.toList = [32] from rfl] at hra6
 have HBa6 := hid (HBb5.out.call hra6 hga6 hl5)
 have HKa6 := hid (HKc5.out.grown hga6 (by intro e; injection e with e; omega))
 clear hra6 hga6
 go_wp2_with fail
 refine (number_any w.heap.size _ _ HBa6.out.rd (by have := HBa6.out.len; omega) (HBa6.out.ready HRY.out)).mono ?_
 rintro e wb6 ⟨rfl, hrb6, hgb6⟩
 have HKb6 := hid (HKa6.out.grown hgb6 (by intro e; injection e with e; omega))
 have HBb6 := hid ((HBa6.out.call hrb6 hgb6 hl6).out w2.heap.size 2 (.int .i64 (rwC s.data.toList).1) hB)
 clear hrb6 hgb6
 change Hid (RB w _ g s.size (rwC s.data.toList).2 _) at HBb6
 rw [show (Ar.rnum (Ar.eat [32] (rwB s.data.toList).2)).1 = (rwC s.data.toList).1 from rfl]
 have hfb6 := HKb6.out.frozen 2
 have hcb6 := HKb6.out.cell 2
 rw [show (#[.int .i64 (rwA s.data.toList).1, .int .i64 (rwB s.data.toList).1, .int .i64 0, .bool false] : Array Value)[2]? = some (.int .i64 0) from rfl] at hcb6
 have HKc6 := hid (HKb6.out.set_ 2 (.int .i64 (rwC s.data.toList).1))
 rw [show (#[.int .i64 (rwA s.data.toList).1, .int .i64 (rwB s.data.toList).1, .int .i64 0, .bool false] : Array Value).setIfInBounds 2 (.int .i64 (rwC s.data.toList).1) = #[.int .i64 (rwA s.data.toList).1, .int .i64 (rwB s.data.toList).1, .int .i64 (rwC s.data.toList).1, .bool false] from rfl] at HKc6
 go_wp2_with fail
 refine (has_any w.heap.size _ _ _ HBb6.out.rd (by have := HBb6.out.len; omega)).mono ?_
 rintro e w7 ⟨rfl, hr7, hg7⟩
 rw [show (⟨#[32, 103, 111, 110, 101]⟩ : ByteArray).data.toList = Ar.goneW from rfl] at hr7 ⊢
 have HK7 := hid (HKc6.out.grown hg7 (by intro e; injection e with e; omega))
 have HB7 := hid ((HBb6.out.call hr7 hg7 hl7).out w2.heap.size 3 (.bool (rwD s.data.toList).1) hB)
 clear hr7 hg7
 change Hid (RB w _ g s.size (rwD s.data.toList).2 _) at HB7
 rw [show (Ar.has Ar.goneW (rwC s.data.toList).2).1 = (rwD s.data.toList).1 from rfl]
 have hf7 := HK7.out.frozen 3
 have hc7 := HK7.out.cell 3
 rw [show (#[.int .i64 (rwA s.data.toList).1, .int .i64 (rwB s.data.toList).1, .int .i64 (rwC s.data.toList).1, .bool false] : Array Value)[3]? = some (.bool false) from rfl] at hc7
 have HK8 := hid (HK7.out.set_ 3 (.bool (rwD s.data.toList).1))
 rw [show (#[.int .i64 (rwA s.data.toList).1, .int .i64 (rwB s.data.toList).1, .int .i64 (rwC s.data.toList).1, .bool false] : Array Value).setIfInBounds 3 (.bool (rwD s.data.toList).1) = #[.int .i64 (rwA s.data.toList).1, .int .i64 (rwB s.data.toList).1, .int .i64 (rwC s.data.toList).1, .bool (rwD s.data.toList).1] from rfl] at HK8
 have HX : Hid (rwX s.data.toList = ((rwA s.data.toList).1, (rwB s.data.toList).1, (rwC s.data.toList).1, (rwD s.data.toList).1)) := hid rfl
 have HIA : Hid (Ar.inInt (rwA s.data.toList).1) := hid (Ar.rnum_b.good _)
 have HIB : Hid (Ar.inInt (rwB s.data.toList).1) := hid (Ar.rnum_b.good _)
 have HIC : Hid (Ar.inInt (rwC s.data.toList).1) := hid (Ar.rnum_b.good _)
 have HOK : Hid (rwOk s.data.toList = decide ((rwD s.data.toList).2.2 = false ∧ Ar.rowLine (rwX s.data.toList) = s.data.toList)) := hid rfl
 go_wp2_with fail
 generalize hw8 : w7.setCell ⟨w2.heap.size, 3, none⟩ (.bool (rwD s.data.toList).1) = w8 at *
 clear hf7 hc7 hfb5 hcb5 hfb6 hcb6 hf3 hc3 hl1 hl2 hl3 hl4 hl5 hl6 hl7 hw8
 generalize (rwA s.data.toList).1 = xa at *
 generalize (rwB s.data.toList).1 = xb at *
 generalize (rwC s.data.toList).1 = xc at *
 generalize (rwD s.data.toList).1 = xd at *
 have hcg := HB7.out.room.drew.cell 2
 rw [show (#[c0, vE, .slice AR m cR, vW, vH, vS, c6, vC, vT] : Array Value)[2]? = some (.slice AR m cR) from rfl] at hcg
 have hcg2 := (HB7.out.room.alloc (.cells #[.int .i64 xa, .int .i64 xb, .int .i64 xc, .bool xd] 114)).cell 2
 rw [show (#[c0, vE, .slice AR m cR, vW, vH, vS, c6, vC, vT] : Array Value)[2]? = some (.slice AR m cR) from rfl] at hcg2
 have hk0 := HK8.out.drew.cell 0
 have hk1 := HK8.out.drew.cell 1
 have hk2 := HK8.out.drew.cell 2
 have hk3 := HK8.out.drew.cell 3
 rw [show (#[.int .i64 xa, .int .i64 xb, .int .i64 xc, .bool xd] : Array Value)[0]? = some (.int .i64 xa) from rfl] at hk0
 rw [show (#[.int .i64 xa, .int .i64 xb, .int .i64 xc, .bool xd] : Array Value)[1]? = some (.int .i64 xb) from rfl] at hk1
 rw [show (#[.int .i64 xa, .int .i64 xb, .int .i64 xc, .bool xd] : Array Value)[2]? = some (.int .i64 xc) from rfl] at hk2
 rw [show (#[.int .i64 xa, .int .i64 xb, .int .i64 xc, .bool xd] : Array Value)[3]? = some (.bool xd) from rfl] at hk3
 have HOW8 : Hid (w8.ownsRow (g + 1) 114 4 (.slice AR m cR) m xs) := hid (HOWN.out.kept HB7.out.grow (.inr (by intro e; have := (HLT.out g e).1; omega)))
 have hs8 := HB7.out.grow.size
 have hgl := HB7.out.lt
 go_region_law (first
  | (refine step_appG rowRow rfl _ _ rfl (w8.drew.alloc (.cells #[.int .i64 xa, .int .i64 xb, .int .i64 xc, .bool xd] 114)) (.slice AR m cR) m xs [.int .i64 xa, .int .i64 xb, .int .i64 xc, .bool xd] (g + 1) ?_ (HOW8.out.drew.alloc _) w8.heap.size 1 1 ?_ rfl (by simp [Value.oneCell']) (fun j u hu => lit_at w8.drew _ [.int .i64 xa, .int .i64 xb, .int .i64 xc, .bool xd] j u hu) (by rw [World.size_alloc]; show g + 1 ≤ w8.heap.size + 1; omega) (by omega) ?_; kernel_rfl; kernel_rfl; intro v9 w9 ho9 hg9 hb9 hwh9; obtain ⟨A9, c9, rfl⟩ := own_any ho9; have hkg9 := (HB7.out.room.drew.alloc (.cells #[.int .i64 xa, .int .i64 xb, .int .i64 xc, .bool xd] 114)).grown hg9 (by intro e; have := (HLT.out g e.symm).1; omega); have hf9 := hkg9.frozen 2; have hc9 := hkg9.cell 2; rw [show (#[c0, vE, .slice AR m cR, vW, vH, vS, c6, vC, vT] : Array Value)[2]? = some (.slice AR m cR) from rfl] at hc9))
 all_goals
  have HLB : Hid (∀ k, w.heap.size ≤ k → some k ≠ (Value.slice AR m cR).ownBlock) := hid (fun k hk e => by have := (HLT.out k e.symm).2; omega)
  have HRD9 : Hid (RdS (w9.setCell ⟨g, 2, none⟩ (.slice A9 (m + 1) c9)) w.heap.size (rwD s.data.toList).2) := hid (((HB7.out.rd.drew.alloc (.cells #[.int .i64 xa, .int .i64 xb, .int .i64 xc, .bool xd] 114)).grown hg9 (HLB.out _ (Nat.le_refl _))).far (show w.heap.size ≠ g by omega) _)
  have HKR9 : Hid (Blk (w9.setCell ⟨g, 2, none⟩ (.slice A9 (m + 1) c9)) w2.heap.size 114 #[.int .i64 xa, .int .i64 xb, .int .i64 xc, .bool xd]) := hid (((HK8.out.drew.alloc (.cells #[.int .i64 xa, .int .i64 xb, .int .i64 xc, .bool xd] 114)).grown hg9 (HLB.out _ (by omega))).far (show w2.heap.size ≠ g by omega) _)
  have HKG9 := hid (hkg9.set_ 2 (.slice A9 (m + 1) c9))
  rw [show (#[c0, vE, .slice AR m cR, vW, vH, vS, c6, vC, vT] : Array Value).setIfInBounds 2 (.slice A9 (m + 1) c9) = #[c0, vE, .slice A9 (m + 1) c9, vW, vH, vS, c6, vC, vT] from rfl] at HKG9
  have HOW9 : Hid ((w9.setCell ⟨g, 2, none⟩ (.slice A9 (m + 1) c9)).ownsRow (g + 1) 114 4 (.slice A9 (m + 1) c9) (m + 1) (xs ++ rowC (rwX s.data.toList))) := hid (by rw [HX.out]; exact own_set ho9 (Nat.lt_succ_self _))
  have HCH9 : Hid (Ch w (w9.setCell ⟨g, 2, none⟩ (.slice A9 (m + 1) c9)) g (Value.slice AR m cR).ownBlock) := hid ((((Ch.of_grown HB7.out.grow).below (((Below.refl w8.heap.size w8).drew).alloc (Nat.le_refl _) (.cells #[.int .i64 xa, .int .i64 xb, .int .i64 xc, .bool xd] 114))).grown hg9).set 2 _)
  have HWH9 : Hid ((Value.slice A9 (m + 1) c9).ownBlock = (Value.slice AR m cR).ownBlock ∨ ∃ k, w.heap.size ≤ k ∧ (Value.slice A9 (m + 1) c9).ownBlock = some k) := hid (by
   rcases hwh9 with h | h
   ·exact .inl h
   ·exact .inr ⟨_, by rw [World.size_alloc]; exact Nat.le_succ_of_le hs8, h⟩)
  have HFIN : Hid (∀ W, Below (w9.setCell ⟨g, 2, none⟩ (.slice A9 (m + 1) c9)).heap.size (w9.setCell ⟨g, 2, none⟩ (.slice A9 (m + 1) c9)) W → ∃ vR', Blk W g 55 #[c0, vE, vR', vW, vH, vS, c6, vC, vT] ∧ W.ownsRow (g + 1) 114 4 vR' (m + 1) (xs ++ rowC (rwX s.data.toList)) ∧ Ch w W g (Value.slice AR m cR).ownBlock ∧ (vR'.ownBlock = (Value.slice AR m cR).ownBlock ∨ ∃ k, w.heap.size ≤ k ∧ vR'.ownBlock = some k)) := hid (fun W hW => ⟨_, HKG9.out.below hW HKG9.out.lt, own_below HOW9.out hW (Nat.le_refl _), HCH9.out.below hW, HWH9.out⟩)
  clear hkg9 hf9 hc9 ho9 hg9 hb9 hwh9 hcg hcg2 hk0 hk1 hk2 hk3
  generalize hW9 : w9.setCell ⟨g, 2, none⟩ (.slice A9 (m + 1) c9) = W9 at *
  have hb6 := HRD9.out.c1
  have hr0 := HKR9.out.cell 0
  have hr1 := HKR9.out.cell 1
  have hr2 := HKR9.out.cell 2
  have hr3 := HKR9.out.cell 3
  rw [show (#[.int .i64 xa, .int .i64 xb, .int .i64 xc, .bool xd] : Array Value)[0]? = some (.int .i64 xa) from rfl] at hr0
  rw [show (#[.int .i64 xa, .int .i64 xb, .int .i64 xc, .bool xd] : Array Value)[1]? = some (.int .i64 xb) from rfl] at hr1
  rw [show (#[.int .i64 xa, .int .i64 xb, .int .i64 xc, .bool xd] : Array Value)[2]? = some (.int .i64 xc) from rfl] at hr2
  rw [show (#[.int .i64 xa, .int .i64 xb, .int .i64 xc, .bool xd] : Array Value)[3]? = some (.bool xd) from rfl] at hr3
  have HQ := hid (fun W => rowline_any xa xb xc xd W HIA.out HIB.out HIC.out)
  have hcmp : ((bstr (Ar.rowLine (xa, xb, xc, xd))).toList == s.toList) = (Ar.rowLine (xa, xb, xc, xd) == s.data.toList) := by rw [Lib.toList_data s]; exact str_cmp _ _
  by_cases hbad : (rwD s.data.toList).2.2 = true
  ·have HO : Hid (rwOk s.data.toList = false) := hid (by rw [HOK.out, hbad]; exact decide_eq_false (fun h => by cases h.1))
   rw [hbad] at hb6
   clear hcmp hbad
   go_wp2_with fail
   go_ret
   exact ⟨ret_bool HO.out.symm, HFIN.out _ (Below.refl _ _)⟩
  ·have hbad' : (rwD s.data.toList).2.2 = false := by simpa using hbad
   have HO : Hid (rwOk s.data.toList = (Ar.rowLine (xa, xb, xc, xd) == s.data.toList)) := hid (by
    rw [HOK.out, hbad', HX.out]
    by_cases he : Ar.rowLine (xa, xb, xc, xd) = s.data.toList
    ·rw [decide_eq_true ⟨rfl, he⟩, he, beq_self_eq_true]
    ·rw [decide_eq_false (fun h => he h.2)]
     exact (beq_eq_false_iff_ne.2 he).symm)
   rw [hbad'] at hb6
   clear hbad hbad'
   generalize Ar.rowLine (xa, xb, xc, xd) = H at *
   go_wp2_with fail
   refine (HQ.out _).mono ?_
   rintro e wz ⟨rfl, hbz⟩
   have HEX9 := hid (HFIN.out _ hbz)
   clear hbz
   cases hcv : (H == s.data.toList) with
   | true =>
    rw [hcv] at hcmp HO
    generalize bstr H = SH at *
    go_wp2_with fail
    go_ret
    exact ⟨ret_bool HO.out.symm, HEX9.out⟩
   | false =>
    rw [hcv] at hcmp HO
    generalize bstr H = SH at *
    go_wp2_with fail
    go_ret
    exact ⟨ret_bool HO.out.symm, HEX9.out⟩
end Go.Proofs.YteadlcncnhbmjaaGreatDoor
/- The text Ar3. -/
namespace Go.Proofs.YteadlcncnhbmjaaGreatDoor
open Go.RowKit Go.Lib
set_option linter.unusedVariables false
theorem Ch.undrew {w w' : World} {g q : Nat} {row : Option Nat} (h : Ch (w.drewN q) w' g row) : Ch w w' g row := ⟨h.os, h.tape, h.output, h.size, h.block⟩
theorem readline_row (s : ByteArray) (g : Nat) (c0 vE vR vW vH vS c6 vC vT : Value) (m : Nat) (xs : List Value) (w : World) (hs : s.size ≤ 100000) (hRd : Ready w) (hg : Blk w g 55 #[c0, vE, vR, vW, vH, vS, c6, vC, vT]) (hg3 : 3 ≤ g) (ho : w.ownsRow (g + 1) 114 4 vR m xs) (hm : m ≤ 1000000) (hw : (Lib.cut s.data.toList [32]).1 = [114, 111, 119]) :
  Calls Tryz.prog 77 #[.string s, .pointer (some ⟨g, 0, none⟩)] w fun e w' => e = .returned (.int .i64 (if rwOk s.data.toList then 3 else 0)) ∧ ∃ vR', Blk w' g 55 #[c0, vE, vR', vW, vH, vS, c6, vC, vT] ∧ w'.ownsRow (g + 1) 114 4 vR' (m + 1) (xs ++ rowC (rwX s.data.toList)) ∧ Ch w w' g vR.ownBlock ∧ (vR'.ownBlock = vR.ownBlock ∨ ∃ k, w.heap.size ≤ k ∧ vR'.ownBlock = some k) := by
 obtain ⟨mx, hmx⟩ := hRd.1
 have hcut := Tryz.strings_Cut s ⟨#[32]⟩ mx w (by omega) hmx
 rw [show (⟨#[32]⟩ : ByteArray).data.toList = [32] from rfl, hw] at hcut
 rw [show (⟨[114, 111, 119].toArray⟩ : ByteArray) = bstr [114, 111, 119] from rfl] at hcut
 have HCUT := hid hcut
 have h1 : ((bstr [114, 111, 119]).toList == [101, 118, 101, 110, 116]) = false := by rw [str_cmp]; rfl
 have h2 : ((bstr [114, 111, 119]).toList == [119, 97, 105, 116]) = false := by rw [str_cmp]; rfl
 have h3 : ((bstr [114, 111, 119]).toList == [114, 111, 119]) = true := by rw [str_cmp]; rfl
 have HQ := hid (fun q => readrow_any s g c0 vE vR vW vH vS c6 vC vT m xs (w.drewN q) hs hRd hg hg3 ho hm)
 obtain ⟨B, hB⟩ : ∃ B, rwOk s.data.toList = B := ⟨_, rfl⟩
 rw [hB] at HQ ⊢
 clear hcut hmx hw hRd hg ho hB
 generalize bstr [114, 111, 119] = SW at *
 generalize (Lib.cut s.data.toList [32]).2.1.toArray = S2 at *
 generalize (Lib.cut s.data.toList [32]).2.2 = B2 at *
 cases B with
 | true =>
  have HONE : Hid (∀ W, Calls Tryz.prog 75 #[.bool true] W fun e w' => e = .returned (.int .i64 1) ∧ W = w') := hid (fun W => one_any true W)
  rw [show (if true = true then (3 : Int) else 0) = 3 from rfl]
  go_enter Tryz.func77, Tryz.ntmps77
  go_wp2_with fail
  refine HCUT.out.mono ?_
  rintro e w2 ⟨rfl, q2, rfl⟩
  go_wp2_with fail
  refine (HQ.out q2).mono ?_
  rintro e w3 ⟨rfl, vR', ha, hb, hc, hd⟩
  have H3 : Hid (Blk w3 g 55 #[c0, vE, vR', vW, vH, vS, c6, vC, vT] ∧ w3.ownsRow (g + 1) 114 4 vR' (m + 1) (xs ++ rowC (rwX s.data.toList)) ∧ Ch w w3 g vR.ownBlock ∧ (vR'.ownBlock = vR.ownBlock ∨ ∃ k, w.heap.size ≤ k ∧ vR'.ownBlock = some k)) := hid ⟨ha, hb, hc.undrew, hd⟩
  clear ha hb hc hd
  go_wp2_with fail
  refine (HONE.out _).mono ?_
  rintro e w4 ⟨rfl, rfl⟩
  go_wp2_with fail
  go_ret
  exact ⟨rfl, vR', H3.out⟩
 | false =>
  have HONE : Hid (∀ W, Calls Tryz.prog 75 #[.bool false] W fun e w' => e = .returned (.int .i64 0) ∧ W = w') := hid (fun W => one_any false W)
  rw [show (if false = true then (3 : Int) else 0) = 0 from rfl]
  go_enter Tryz.func77, Tryz.ntmps77
  go_wp2_with fail
  refine HCUT.out.mono ?_
  rintro e w2 ⟨rfl, q2, rfl⟩
  go_wp2_with fail
  refine (HQ.out q2).mono ?_
  rintro e w3 ⟨rfl, vR', ha, hb, hc, hd⟩
  have H3 : Hid (Blk w3 g 55 #[c0, vE, vR', vW, vH, vS, c6, vC, vT] ∧ w3.ownsRow (g + 1) 114 4 vR' (m + 1) (xs ++ rowC (rwX s.data.toList)) ∧ Ch w w3 g vR.ownBlock ∧ (vR'.ownBlock = vR.ownBlock ∨ ∃ k, w.heap.size ≤ k ∧ vR'.ownBlock = some k)) := hid ⟨ha, hb, hc.undrew, hd⟩
  clear ha hb hc hd
  go_wp2_with fail
  refine (HONE.out _).mono ?_
  rintro e w4 ⟨rfl, rfl⟩
  go_wp2_with fail
  go_ret
  exact ⟨rfl, vR', H3.out⟩
end Go.Proofs.YteadlcncnhbmjaaGreatDoor
/- The text Ap3. -/
namespace Go.Proofs.YteadlcncnhbmjaaGreatDoor
open Go.RowKit Go.Lib
set_option linter.unusedVariables false
def encs (d : List Ar.Ed) : List (List UInt8) := d.map Ar.Ed.enc
theorem encs_app (a b : List Ar.Ed) : encs (a ++ b) = encs a ++ encs b := List.map_append
theorem enc_del (a : List UInt8) : Ar.Ed.enc (.del a) = sgn 45 a := rfl
theorem enc_add (a : List UInt8) : Ar.Ed.enc (.add a) = sgn 43 a := rfl
theorem flushS_len (n : Nat) : (flushS n).length ≤ 1 := by unfold flushS Ar.flush; split <;> simp
structure DI (w3 wr : World) (X Y : List (List UInt8)) (i j n : Nat) (us : List (List UInt8)) (v : Value) : Prop where
 bel : Below w3.heap.size w3 wr
 size : w3.heap.size + 2 ≤ wr.heap.size
 kept : Blk wr (w3.heap.size + 1) 3 #[.int .i64 n]
 out : Blk wr w3.heap.size 30 #[v]
 own : OwnS (w3.heap.size + 2) wr v us
 eq : encs (Ar.diff X Y) = us ++ encs (Ar.dlA X Y i j n)
 ile : i ≤ X.length
 jle : j ≤ Y.length
 nle : n ≤ i
 ule : us.length ≤ 2 * (i + j)
theorem DI.more {w3 wr w4 w5 : World} {X Y : List (List UInt8)} {i j n i' j' : Nat} {us : List (List UInt8)} {v v4 v5 : Value} {c : UInt8} {l : List UInt8} (h : DI w3 wr X Y i j n us v)
  (hk : Blk w4 (w3.heap.size + 1) 3 #[.int .i64 0]) (ho : Blk w4 w3.heap.size 30 #[v4]) (hb : Below w3.heap.size wr w4) (h5 : OwnS (w3.heap.size + 2) w5 v5 (us ++ flushS n ++ [sgn c l])) (hb5 : Below (w3.heap.size + 2) w4 w5)
  (hs4 : w3.heap.size + 2 ≤ w4.heap.size) (hi : i' ≤ X.length) (hj : j' ≤ Y.length) (hij : i' + j' = i + j + 1) (he : encs (Ar.dlA X Y i j n) = flushS n ++ sgn c l :: encs (Ar.dlA X Y i' j' 0)) : DI w3 (w5.setCell ⟨w3.heap.size, 0, none⟩ v5) X Y i' j' 0 (us ++ flushS n ++ [sgn c l]) v5 where
 bel := by
  have h1 := (h.bel.trans hb).trans (hb5.mono (by omega))
  exact h1.grown (grown_set _ _ _ _) h1.size (fun g e => by injection e with e; omega)
 size := by have := hb5.size; rw [World.size_setCell]; omega
 kept := by
  have h1 : Blk w5 (w3.heap.size + 1) 3 #[.int .i64 0] := (hb5.block _ (by omega)).trans hk
  exact h1.grown (grown_set _ _ _ _) (by simp)
 out := by
  have h1 : Blk w5 w3.heap.size 30 #[v4] := (hb5.block _ (by omega)).trans ho
  exact h1.set_ 0 v5
 own := own_set h5 (by omega)
 eq := by rw [h.eq, he]; simp
 ile := hi
 jle := hj
 nle := Nat.zero_le _
 ule := by
  have := h.ule
  have h2 := flushS_len n
  simp only [List.length_append, List.length_singleton]
  omega
theorem DI.keep {w3 wr : World} {X Y : List (List UInt8)} {i j n : Nat} {us : List (List UInt8)} {v : Value} (h : DI w3 wr X Y i j n us v) (hi : i < X.length) (hj : j < Y.length) (he : Ar.dlA X Y i j n = Ar.dlA X Y (i + 1) (j + 1) (n + 1)) {m : Int} (hm : m = ((n + 1 : Nat) : Int)) (q : Nat) : DI w3 ((wr.drewN q).setCell ⟨w3.heap.size + 1, 0, none⟩ (.int .i64 m)) X Y (i + 1) (j + 1) (n + 1) us v where
 bel := (below_drewN h.bel q).grown (grown_set _ _ _ _) (by have := h.size; show _ ≤ wr.heap.size; omega) (fun g e => by injection e with e; omega)
 size := by rw [World.size_setCell]; exact h.size
 kept := by rw [hm]; exact (h.kept.drewN q).set_ 0 _
 out := (h.out.drewN q).grown (grown_set _ _ _ _) (by simp)
 own := own_set (show OwnS _ (wr.drewN q) v us from h.own) (by omega)
 eq := by rw [h.eq, he]
 ile := hi
 jle := hj
 nle := by have := h.nle; omega
 ule := by have := h.ule; omega
theorem DI.drewN {w3 wr : World} {X Y : List (List UInt8)} {i j n : Nat} {us : List (List UInt8)} {v : Value} (h : DI w3 wr X Y i j n us v) (q : Nat) : DI w3 (wr.drewN q) X Y i j n us v :=
 ⟨below_drewN h.bel q, h.size, h.kept, h.out, h.own, h.eq, h.ile, h.jle, h.nle, h.ule⟩
theorem keep_low {w w' : World} {a : Addr} {v : Value} {B : Nat} (h : w.cell? a = some v) (hb : Below B w w') (hl : a.block < B) : w'.cell? a = some v := by
 rw [← h]
 exact World.cell?_of_block (hb.block _ hl)
theorem slice_one (W : World) (g n i : Nat) (h : i < n) : (Instr.slice 30 (.slice (some ⟨g, 0, none⟩) n n) (some (.int .i64 (i : Int))) (some (.int .i64 ((i : Int) + 1))) (some (.int .i64 ((i : Int) + 1)))).run Tryz.prog W = .ok (.slice (some ⟨g, i, none⟩) 1 1) W := by
 rw [run_slice_lhm W 30 _ n n (by kernel_rfl) .i64 .i64 .i64 _ _ _ (by omega) (by omega) (by omega) (by omega)]
 rw [show (Go.sizeOf (Tryz.prog.elem 30)).run Tryz.prog W = .ok 1 W from by kernel_rfl]
 have e1 : ((i : Int) + 1).toNat = i + 1 := by omega
 have e2 : ((i : Int)).toNat = i := by omega
 show Result.ok (sliced _ _ _ _ _) W = _
 unfold sliced
 rw [e1, e2, if_neg (by omega), show i + 1 - i = 1 from by omega]
 simp [Addr.add]
 exact fun h => h.symm
theorem one_line {w3 wr w4 : World} {g i : Nat} {X : List (List UInt8)} {ax : List UInt8} (h : Rd w3 (some ⟨g, 0, none⟩) X.length (strL X)) (hx : X[i]? = some ax) (h1 : Below w3.heap.size w3 wr) (h2 : Below w3.heap.size wr w4) (hg : g < w3.heap.size) : Rd w4 (some ⟨g, i, none⟩) 1 (strL [ax]) := by
 refine ⟨rfl, fun jj vv hjj => ?_⟩
 rcases jj with _ | jj
 ·injection hjj with hjj
  obtain ⟨b, o, e1, hc⟩ := h.2 i (.string (bstr ax)) (by unfold strL; rw [List.getElem?_map, hx]; rfl)
  injection e1 with e1
  injection e1 with e1 e2 e3
  subst e1 e2
  rw [Nat.zero_add] at hc
  refine ⟨_, _, rfl, ?_⟩
  rw [Nat.add_zero, ← hjj]
  exact keep_low (keep_low hc h1 hg) h2 hg
 ·cases hjj
theorem diff_any (a b : ByteArray) (w : World) (ha : a.size ≤ 100000) (hb : b.size ≤ 100000) (hR : Ready w) (hla : (Ar.lines a.data.toList).length ≤ 2000) (hlb : (Ar.lines b.data.toList).length ≤ 2000) :
  Calls Tryz.prog 32 #[.string a, .string b] w fun e w' => ∃ v, e = .returned v ∧ OwnS w.heap.size w' v (encs (Ar.diff (Ar.lines a.data.toList) (Ar.lines b.data.toList))) ∧ Below w.heap.size w w' := by
 have HR := hid hR
 clear hR
 have HLA := hid (lines_any a w (by omega) HR.out)
 have HLB := hid (lines_any b (w.alloc (.cells (strL (Ar.lines a.data.toList)).toArray 9)) (by omega) (HR.out.below ((Below.refl _ _).alloc (Nat.le_refl _) _)))
 have HSX := hid (Ar.lines_short a.data.toList)
 have HSY := hid (Ar.lines_short b.data.toList)
 have hsa : a.data.toList.length = a.size := str_size a
 have hsb : b.data.toList.length = b.size := str_size b
 rw [hsa] at HSX
 rw [hsb] at HSY
 clear hsa hsb
 generalize Ar.lines a.data.toList = X at *
 generalize Ar.lines b.data.toList = Y at *
 have HX0 := hid (Rd.litS w X)
 have HY0 := hid (Rd.litS (w.alloc (.cells (strL X).toArray 9)) Y)
 have HB0 := hid (((Below.refl w.heap.size w).alloc (Nat.le_refl _) (.cells (strL X).toArray 9)).alloc (by simp) (.cells (strL Y).toArray 9))
 have HX1 := hid (HX0.out.below ((Below.refl _ _).alloc (Nat.le_refl _) (.cells (strL Y).toArray 9)))
 rw [World.size_alloc] at HY0
 go_enter Tryz.func32, Tryz.ntmps32
 go_wp2_with fail
 refine HLA.out.mono ?_
 rintro e w1 ⟨rfl, rfl⟩
 go_wp2_with fail
 refine HLB.out.mono ?_
 rintro e w1 ⟨rfl, rfl⟩
 rw [World.size_alloc]
 go_wp2_with fail
 refine (distances_any _ _ _ _ X Y _ HX1.out HY0.out hla hlb).mono ?_
 rintro e w3 ⟨rfl, hd, hb3⟩
 rw [show ((w.alloc (.cells (strL X).toArray 9)).alloc (.cells (strL Y).toArray 9)).heap.size = w.heap.size + 2 from by rw [World.size_alloc, World.size_alloc]] at hd ⊢
 have HD := hid hd
 have HX3 := hid (HX1.out.below hb3)
 have HY3 := hid (HY0.out.below hb3)
 have HB3 := hid (HB0.out.trans (hb3.mono HB0.out.size))
 have hs3 := hd.lt
 clear hd hb3 HX0 HX1 HY0 HB0 HLA HLB
 have HDI0 : Hid (DI w3 ((w3.alloc (.cells #[.slice none 0 0] 30)).alloc (.cells #[.int .i64 0] 3)) X Y 0 0 0 [] (.slice none 0 0)) := hid {
  bel := ((Below.refl _ _).alloc (Nat.le_refl _) _).alloc (by simp) _
  size := by simp
  kept := by have h := Blk.new (w3.alloc (.cells #[.slice none 0 0] 30)) 3 #[.int .i64 0]; rwa [World.size_alloc] at h
  out := (Blk.new w3 30 #[.slice none 0 0]).alloc _
  own := World.ownsRow_nil _ _ _ _
  eq := rfl
  ile := Nat.zero_le _
  jle := Nat.zero_le _
  nle := Nat.le_refl _
  ule := Nat.le_refl _ }
 go_wp2_with fail
 go_loopw [9, 10] (fun ix jx wr => ∃ (i j n : Nat) (us : List (List UInt8)) (v : Value), ix = .int .i64 i ∧ jx = .int .i64 j ∧ DI w3 wr X Y i j n us v) (fun ix jx _ => (X.length - (RowKit.intOf ix).toNat) + (Y.length - (RowKit.intOf jx).toNat))
 case atStart => exact ⟨0, 0, 0, [], _, rfl, rfl, HDI0.out⟩
 case round =>
  obtain ⟨i, j, n, us, v, rfl, rfl, hdi⟩ := hrel
  have HDI := hid hdi
  have hi := hdi.ile
  have hj := hdi.jle
  have hck := hdi.kept.cell 0
  have hco := hdi.out.cell 0
  rw [show (#[Value.int .i64 n] : Array Value)[0]? = some (.int .i64 n) from rfl] at hck
  rw [show (#[v] : Array Value)[0]? = some v from rfl] at hco
  have hfk := hdi.kept.frozen 0
  have hfo := hdi.out.frozen 0
  have hsz := hdi.size
  have hnl := hdi.nle
  have hul := hdi.ule
  clear hdi
  by_cases hend : i = X.length ∧ j = Y.length
  ·obtain ⟨rfl, rfl⟩ := hend
   go_wp2_with fail
   refine (flush_any (w3.heap.size + 1) w3.heap.size (w3.heap.size + 2) w3.heap.size v us n wr HDI.out.kept HDI.out.out HDI.out.own (by omega) (by omega) (by omega) (by omega) (by omega) (by omega) (by omega) hsz).mono ?_
   rintro e w4 ⟨rfl, hk4, ⟨v4, ho4, how4⟩, hb4⟩
   have hs4 : w3.heap.size + 2 ≤ w4.heap.size := by have := hk4.lt; omega
   have HK4 := hid hk4
   have HO4 := hid ho4
   have HW4 := hid how4
   have HB4 := hid hb4
   have hco4 := ho4.cell 0
   rw [show (#[v4] : Array Value)[0]? = some v4 from rfl] at hco4
   have HE : Hid (encs (Ar.diff X Y) = us ++ flushS n) := hid (by rw [HDI.out.eq, Ar.dlA_end]; rfl)
   have HBE : Hid (Below w.heap.size w w4) := hid (HB3.out.trans ((HDI.out.bel.trans hb4).mono (by omega)))
   clear hk4 ho4 how4 hb4
   go_wp2_with fail
   go_ret
   exact ⟨v4, rfl, by rw [HE.out]; exact own_base' HW4.out (by omega), HBE.out⟩
  ·by_cases hix : i < X.length
   ·obtain ⟨b1, o1, ax, e1, hxa, hca⟩ := (HX3.out.low HDI.out.bel (fun q e => by injection e with e; rw [← e]; show w.heap.size < w3.heap.size; omega)).str_at (k := i) hix
    injection e1 with e1
    injection e1 with e1 e2 e3
    subst e1 e2
    rw [Nat.zero_add] at hca
    have HXA := hid hxa
    clear hxa
    by_cases hjy : j < Y.length
    ·obtain ⟨b1, o1, ay, e1, hyb, hcb⟩ := (HY3.out.low HDI.out.bel (fun q e => by injection e with e; rw [← e]; show w.heap.size + 1 < w3.heap.size; omega)).str_at (k := j) hjy
     injection e1 with e1
     injection e1 with e1 e2 e3
     subst e1 e2
     rw [Nat.zero_add] at hcb
     have HYB := hid hyb
     have hsb := str_beq ax ay
     clear hyb
     by_cases hab : ax = ay
     ·have h1 : ((bstr ax).toList == (bstr ay).toList) = true := by rw [hsb, hab]; exact beq_self_eq_true _
      have HE := hid (Ar.dlA_eq n HXA.out HYB.out hab)
      clear hsb hab
      generalize bstr ax = sx at *
      generalize bstr ay = sy at *
      go_wp2_with fail
      go_quiet (fail)
      go_wp2_with fail
      go_roundw
      case rel => exact ⟨i + 1, j + 1, n + 1, us, v, by go_num, by go_num, HDI.out.keep hix hjy HE.out (by omega) _⟩
      case measure => simp [RowKit.intOf]; omega
     ·have h1 : ((bstr ax).toList == (bstr ay).toList) = false := by rw [hsb]; simpa using hab
      obtain ⟨g1, hd1, hg1, hr1⟩ := (HD.out.below HDI.out.bel).at (i := i + 1) (by omega) (by omega)
      obtain ⟨g0, hd0, hg0, hr0⟩ := (HD.out.below HDI.out.bel).at (i := i) (by omega) (by omega)
      have hv1 := hr1.at (j' := j) (Nat.zero_le _) (by omega)
      have hv0 := hr0.at (j' := j) (Nat.zero_le _) (by omega)
      have hj1 : ((j : Int) == (Y.length : Int)) = false := by rw [beq_eq_false_iff_ne]; omega
      have hj2 : ¬ ((j : Int) = (Y.length : Int)) := by omega
      have hj3 : ¬ (j = Y.length) := by omega
      have hq1 := Ar.disA_le X Y (i + 1) j
      have hq0 := Ar.disA_le X Y i j
      clear hr1 hr0 hg1 hg0
      by_cases hds : Ar.disA X Y (i + 1) j + 1 = Ar.disA X Y i j
      ·have HE := hid (Ar.dlA_del n HXA.out HYB.out hab hds)
       clear hsb hab
       generalize hsx : bstr ax = sx at *
       generalize bstr ay = sy at *
       rw [← hds] at hv0
       clear hds
       generalize Ar.disA X Y (i + 1) j = dd at *
       go_wp2_with fail
       go_quiet (fail)
       go_wp2_with fail
       go_quiet (fail)
       go_wp2_with fail
       try rw [World.drewN_drewN]
       refine (flush_any (w3.heap.size + 1) w3.heap.size (w3.heap.size + 2) w3.heap.size v us n (wr.drewN _) (HDI.out.drewN _).kept (HDI.out.drewN _).out (HDI.out.drewN _).own (by omega) (by omega) (by omega) (by omega) (by omega) (by omega) (by omega) (HDI.out.drewN _).size).mono ?_
       rintro e w4 ⟨rfl, hk4, ⟨v4, ho4, how4⟩, hb4⟩
       obtain ⟨A4, cap4, rfl⟩ := own_any how4
       have hs4 : w3.heap.size + 2 ≤ w4.heap.size := by have := hk4.lt; omega
       have HK4 := hid hk4
       have HO4 := hid ho4
       have HW4 := hid how4
       have HB4 := hid hb4
       have hwr : IntKind.i64.wrap ((i : Int) + 1) = (i : Int) + 1 := by rw [IntKind.wrap_i64]; omega
       have hsl : ∀ W : World, (Instr.slice 30 (.slice (some ⟨w.heap.size, 0, none⟩) X.length X.length) (some (.int .i64 (i : Int))) (some (.int .i64 ((i : Int) + 1))) (some (.int .i64 ((i : Int) + 1)))).run Tryz.prog W = .ok (.slice (some ⟨w.heap.size, i, none⟩) 1 1) W := fun W => slice_one W _ _ _ (by omega)
       have HRL : Hid (Rd w4 (some ⟨w.heap.size, i, none⟩) 1 (strL [ax])) := hid (one_line HX3.out HXA.out (HDI.out.drewN _).bel HB4.out (by omega))
       have hco4 := ho4.cell 0
       rw [show (#[Value.slice A4 (us ++ flushS n).length cap4] : Array Value)[0]? = some (.slice A4 (us ++ flushS n).length cap4) from rfl] at hco4
       have hfo4 := ho4.frozen 0
       have hul4 : (us ++ flushS n).length ≤ 10000 := by have := flushS_len n; rw [List.length_append]; omega
       have HAL : Hid (∀ x ∈ [ax], x.length ≤ 1000000) := hid (by intro x hx; rw [List.mem_singleton.1 hx]; exact Nat.le_trans (HSX.out ax (List.mem_of_getElem? HXA.out)) (by omega))
       clear hk4 ho4 how4 hb4 hco hck hfk hfo
       generalize hU4 : us ++ flushS n = U4 at *
       have HU4 := hid hU4
       clear hU4
       go_wp2_with fail
       go_region_law (first
        | (go_simp; go_at_call 86; (refine (signed_any (.slice A4 U4.length cap4) U4 45 (some ⟨w.heap.size, i, none⟩) 1 [ax] (w3.heap.size + 2) w4.drew HW4.out.drew HRL.out.drew hs4 (by intro q e; injection e with e; rw [← e]; show w.heap.size < w3.heap.size + 2; omega) (by simp only [List.length_singleton]; omega) HAL.out).mono ?_); rintro e w5 ⟨v5, rfl, how5, hb5⟩; obtain ⟨A5, cap5, rfl⟩ := own_any how5; have ho5 := HO4.out.drew.below hb5 (by omega); have hfo5 := ho5.frozen 0; have hco5 := ho5.cell 0; rw [show (#[Value.slice A4 U4.length cap4] : Array Value)[0]? = some (.slice A4 U4.length cap4) from rfl] at hco5))
       all_goals
        have HM : Hid (DI w3 (w5.setCell ⟨w3.heap.size, 0, none⟩ (.slice A5 (U4 ++ List.map (sgn 45) [ax]).length cap5)) X Y (i + 1) (j) 0 (us ++ flushS n ++ [sgn 45 ax]) (.slice A5 (U4 ++ List.map (sgn 45) [ax]).length cap5)) := hid (HDI.out.more HK4.out HO4.out ((below_drewN (Below.refl _ wr) _).trans HB4.out) (by rw [HU4.out]; exact how5) ((Below.refl _ w4).drew.trans hb5) hs4 (by omega) (by omega) (by omega) (by rw [HE.out, encs_app]; rfl))
        rw [show (U4 ++ List.map (sgn 45) [ax]).length = U4.length + 1 from by simp] at HM
        clear ho5 hfo5 hco5 how5 hb5 hco4 hfo4
        go_wp2_with fail
        go_roundw
        case rel => exact ⟨i + 1, j, 0, _, _, by go_num, by go_num, HM.out⟩
        case measure => simp [RowKit.intOf]; omega
      ·have HE := hid (Ar.dlA_add n HXA.out HYB.out hab hds)
       clear hsb hab
       generalize bstr ax = sx at *
       generalize hsy : bstr ay = sy at *
       have hd1 : ¬ ((Ar.disA X Y (i + 1) j : Nat) : Int) + 1 = (Ar.disA X Y i j : Nat) := by omega
       have hd2 : ((((Ar.disA X Y (i + 1) j : Nat) : Int) + 1) == ((Ar.disA X Y i j : Nat) : Int)) = false := by rw [beq_eq_false_iff_ne]; omega
       clear hds
       generalize Ar.disA X Y (i + 1) j = dd at *
       generalize Ar.disA X Y i j = de at *
       go_wp2_with fail
       go_quiet (fail)
       go_wp2_with fail
       go_quiet (fail)
       go_wp2_with fail
       try rw [World.drewN_drewN]
       refine (flush_any (w3.heap.size + 1) w3.heap.size (w3.heap.size + 2) w3.heap.size v us n (wr.drewN _) (HDI.out.drewN _).kept (HDI.out.drewN _).out (HDI.out.drewN _).own (by omega) (by omega) (by omega) (by omega) (by omega) (by omega) (by omega) (HDI.out.drewN _).size).mono ?_
       rintro e w4 ⟨rfl, hk4, ⟨v4, ho4, how4⟩, hb4⟩
       obtain ⟨A4, cap4, rfl⟩ := own_any how4
       have hs4 : w3.heap.size + 2 ≤ w4.heap.size := by have := hk4.lt; omega
       have HK4 := hid hk4
       have HO4 := hid ho4
       have HW4 := hid how4
       have HB4 := hid hb4
       have hwr : IntKind.i64.wrap ((j : Int) + 1) = (j : Int) + 1 := by rw [IntKind.wrap_i64]; omega
       have hsl : ∀ W : World, (Instr.slice 30 (.slice (some ⟨w.heap.size + 1, 0, none⟩) Y.length Y.length) (some (.int .i64 (j : Int))) (some (.int .i64 ((j : Int) + 1))) (some (.int .i64 ((j : Int) + 1)))).run Tryz.prog W = .ok (.slice (some ⟨w.heap.size + 1, j, none⟩) 1 1) W := fun W => slice_one W _ _ _ (by omega)
       have HRL : Hid (Rd w4 (some ⟨w.heap.size + 1, j, none⟩) 1 (strL [ay])) := hid (one_line HY3.out HYB.out (HDI.out.drewN _).bel HB4.out (by omega))
       have hco4 := ho4.cell 0
       rw [show (#[Value.slice A4 (us ++ flushS n).length cap4] : Array Value)[0]? = some (.slice A4 (us ++ flushS n).length cap4) from rfl] at hco4
       have hfo4 := ho4.frozen 0
       have hul4 : (us ++ flushS n).length ≤ 10000 := by have := flushS_len n; rw [List.length_append]; omega
       have HAL : Hid (∀ x ∈ [ay], x.length ≤ 1000000) := hid (by intro x hx; rw [List.mem_singleton.1 hx]; exact Nat.le_trans (HSY.out ay (List.mem_of_getElem? HYB.out)) (by omega))
       clear hk4 ho4 how4 hb4 hco hck hfk hfo
       generalize hU4 : us ++ flushS n = U4 at *
       have HU4 := hid hU4
       clear hU4
       go_wp2_with fail
       go_region_law (first
        | (go_simp; go_at_call 86; (refine (signed_any (.slice A4 U4.length cap4) U4 43 (some ⟨w.heap.size + 1, j, none⟩) 1 [ay] (w3.heap.size + 2) w4.drew HW4.out.drew HRL.out.drew hs4 (by intro q e; injection e with e; rw [← e]; show w.heap.size + 1 < w3.heap.size + 2; omega) (by simp only [List.length_singleton]; omega) HAL.out).mono ?_); rintro e w5 ⟨v5, rfl, how5, hb5⟩; obtain ⟨A5, cap5, rfl⟩ := own_any how5; have ho5 := HO4.out.drew.below hb5 (by omega); have hfo5 := ho5.frozen 0; have hco5 := ho5.cell 0; rw [show (#[Value.slice A4 U4.length cap4] : Array Value)[0]? = some (.slice A4 U4.length cap4) from rfl] at hco5))
       all_goals
        have HM : Hid (DI w3 (w5.setCell ⟨w3.heap.size, 0, none⟩ (.slice A5 (U4 ++ List.map (sgn 43) [ay]).length cap5)) X Y (i) (j + 1) 0 (us ++ flushS n ++ [sgn 43 ay]) (.slice A5 (U4 ++ List.map (sgn 43) [ay]).length cap5)) := hid (HDI.out.more HK4.out HO4.out ((below_drewN (Below.refl _ wr) _).trans HB4.out) (by rw [HU4.out]; exact how5) ((Below.refl _ w4).drew.trans hb5) hs4 (by omega) (by omega) (by omega) (by rw [HE.out, encs_app]; rfl))
        rw [show (U4 ++ List.map (sgn 43) [ay]).length = U4.length + 1 from by simp] at HM
        clear ho5 hfo5 hco5 how5 hb5 hco4 hfo4
        go_wp2_with fail
        go_roundw
        case rel => exact ⟨i, j + 1, 0, _, _, by go_num, by go_num, HM.out⟩
        case measure => simp [RowKit.intOf]; omega
    ·obtain rfl : j = Y.length := by omega
     have HE := hid (Ar.dlA_del0 n HXA.out (y := Y))
     have hj1 : ((Y.length : Int) == (Y.length : Int)) = true := beq_self_eq_true _
     generalize hsx : bstr ax = sx at *
     go_wp2_with fail
     go_quiet (fail)
     go_wp2_with fail
     go_quiet (fail)
     go_wp2_with fail
     try rw [World.drewN_drewN]
     refine (flush_any (w3.heap.size + 1) w3.heap.size (w3.heap.size + 2) w3.heap.size v us n (wr.drewN _) (HDI.out.drewN _).kept (HDI.out.drewN _).out (HDI.out.drewN _).own (by omega) (by omega) (by omega) (by omega) (by omega) (by omega) (by omega) (HDI.out.drewN _).size).mono ?_
     rintro e w4 ⟨rfl, hk4, ⟨v4, ho4, how4⟩, hb4⟩
     obtain ⟨A4, cap4, rfl⟩ := own_any how4
     have hs4 : w3.heap.size + 2 ≤ w4.heap.size := by have := hk4.lt; omega
     have HK4 := hid hk4
     have HO4 := hid ho4
     have HW4 := hid how4
     have HB4 := hid hb4
     have hwr : IntKind.i64.wrap ((i : Int) + 1) = (i : Int) + 1 := by rw [IntKind.wrap_i64]; omega
     have hsl : ∀ W : World, (Instr.slice 30 (.slice (some ⟨w.heap.size, 0, none⟩) X.length X.length) (some (.int .i64 (i : Int))) (some (.int .i64 ((i : Int) + 1))) (some (.int .i64 ((i : Int) + 1)))).run Tryz.prog W = .ok (.slice (some ⟨w.heap.size, i, none⟩) 1 1) W := fun W => slice_one W _ _ _ (by omega)
     have HRL : Hid (Rd w4 (some ⟨w.heap.size, i, none⟩) 1 (strL [ax])) := hid (one_line HX3.out HXA.out (HDI.out.drewN _).bel HB4.out (by omega))
     have hco4 := ho4.cell 0
     rw [show (#[Value.slice A4 (us ++ flushS n).length cap4] : Array Value)[0]? = some (.slice A4 (us ++ flushS n).length cap4) from rfl] at hco4
     have hfo4 := ho4.frozen 0
     have hul4 : (us ++ flushS n).length ≤ 10000 := by have := flushS_len n; rw [List.length_append]; omega
     have HAL : Hid (∀ x ∈ [ax], x.length ≤ 1000000) := hid (by intro x hx; rw [List.mem_singleton.1 hx]; exact Nat.le_trans (HSX.out ax (List.mem_of_getElem? HXA.out)) (by omega))
     clear hk4 ho4 how4 hb4 hco hck hfk hfo
     generalize hU4 : us ++ flushS n = U4 at *
     have HU4 := hid hU4
     clear hU4
     go_wp2_with fail
     go_region_law (first
      | (go_simp; go_at_call 86; (refine (signed_any (.slice A4 U4.length cap4) U4 45 (some ⟨w.heap.size, i, none⟩) 1 [ax] (w3.heap.size + 2) w4.drew HW4.out.drew HRL.out.drew hs4 (by intro q e; injection e with e; rw [← e]; show w.heap.size < w3.heap.size + 2; omega) (by simp only [List.length_singleton]; omega) HAL.out).mono ?_); rintro e w5 ⟨v5, rfl, how5, hb5⟩; obtain ⟨A5, cap5, rfl⟩ := own_any how5; have ho5 := HO4.out.drew.below hb5 (by omega); have hfo5 := ho5.frozen 0; have hco5 := ho5.cell 0; rw [show (#[Value.slice A4 U4.length cap4] : Array Value)[0]? = some (.slice A4 U4.length cap4) from rfl] at hco5))
     all_goals
      have HM : Hid (DI w3 (w5.setCell ⟨w3.heap.size, 0, none⟩ (.slice A5 (U4 ++ List.map (sgn 45) [ax]).length cap5)) X Y (i + 1) (Y.length) 0 (us ++ flushS n ++ [sgn 45 ax]) (.slice A5 (U4 ++ List.map (sgn 45) [ax]).length cap5)) := hid (HDI.out.more HK4.out HO4.out ((below_drewN (Below.refl _ wr) _).trans HB4.out) (by rw [HU4.out]; exact how5) ((Below.refl _ w4).drew.trans hb5) hs4 (by omega) (by omega) (by omega) (by rw [HE.out, encs_app]; rfl))
      rw [show (U4 ++ List.map (sgn 45) [ax]).length = U4.length + 1 from by simp] at HM
      clear ho5 hfo5 hco5 how5 hb5 hco4 hfo4
      go_wp2_with fail
      go_roundw
      case rel => exact ⟨i + 1, Y.length, 0, _, _, by go_num, by go_num, HM.out⟩
      case measure => simp [RowKit.intOf]; omega
   ·obtain rfl : i = X.length := by omega
    have hjy : j < Y.length := by omega
    obtain ⟨b1, o1, ay, e1, hyb, hcb⟩ := (HY3.out.low HDI.out.bel (fun q e => by injection e with e; rw [← e]; show w.heap.size + 1 < w3.heap.size; omega)).str_at (k := j) hjy
    injection e1 with e1
    injection e1 with e1 e2 e3
    subst e1 e2
    rw [Nat.zero_add] at hcb
    have HYB := hid hyb
    have HE := hid (Ar.dlA_add0 n HYB.out (x := X))
    clear hyb
    generalize hsy : bstr ay = sy at *
    go_wp2_with fail
    go_quiet (fail)
    go_wp2_with fail
    go_quiet (fail)
    go_wp2_with fail
    try rw [World.drewN_drewN]
    refine (flush_any (w3.heap.size + 1) w3.heap.size (w3.heap.size + 2) w3.heap.size v us n (wr.drewN _) (HDI.out.drewN _).kept (HDI.out.drewN _).out (HDI.out.drewN _).own (by omega) (by omega) (by omega) (by omega) (by omega) (by omega) (by omega) (HDI.out.drewN _).size).mono ?_
    rintro e w4 ⟨rfl, hk4, ⟨v4, ho4, how4⟩, hb4⟩
    obtain ⟨A4, cap4, rfl⟩ := own_any how4
    have hs4 : w3.heap.size + 2 ≤ w4.heap.size := by have := hk4.lt; omega
    have HK4 := hid hk4
    have HO4 := hid ho4
    have HW4 := hid how4
    have HB4 := hid hb4
    have hwr : IntKind.i64.wrap ((j : Int) + 1) = (j : Int) + 1 := by rw [IntKind.wrap_i64]; omega
    have hsl : ∀ W : World, (Instr.slice 30 (.slice (some ⟨w.heap.size + 1, 0, none⟩) Y.length Y.length) (some (.int .i64 (j : Int))) (some (.int .i64 ((j : Int) + 1))) (some (.int .i64 ((j : Int) + 1)))).run Tryz.prog W = .ok (.slice (some ⟨w.heap.size + 1, j, none⟩) 1 1) W := fun W => slice_one W _ _ _ (by omega)
    have HRL : Hid (Rd w4 (some ⟨w.heap.size + 1, j, none⟩) 1 (strL [ay])) := hid (one_line HY3.out HYB.out (HDI.out.drewN _).bel HB4.out (by omega))
    have hco4 := ho4.cell 0
    rw [show (#[Value.slice A4 (us ++ flushS n).length cap4] : Array Value)[0]? = some (.slice A4 (us ++ flushS n).length cap4) from rfl] at hco4
    have hfo4 := ho4.frozen 0
    have hul4 : (us ++ flushS n).length ≤ 10000 := by have := flushS_len n; rw [List.length_append]; omega
    have HAL : Hid (∀ x ∈ [ay], x.length ≤ 1000000) := hid (by intro x hx; rw [List.mem_singleton.1 hx]; exact Nat.le_trans (HSY.out ay (List.mem_of_getElem? HYB.out)) (by omega))
    clear hk4 ho4 how4 hb4 hco hck hfk hfo
    generalize hU4 : us ++ flushS n = U4 at *
    have HU4 := hid hU4
    clear hU4
    go_wp2_with fail
    go_region_law (first
     | (go_simp; go_at_call 86; (refine (signed_any (.slice A4 U4.length cap4) U4 43 (some ⟨w.heap.size + 1, j, none⟩) 1 [ay] (w3.heap.size + 2) w4.drew HW4.out.drew HRL.out.drew hs4 (by intro q e; injection e with e; rw [← e]; show w.heap.size + 1 < w3.heap.size + 2; omega) (by simp only [List.length_singleton]; omega) HAL.out).mono ?_); rintro e w5 ⟨v5, rfl, how5, hb5⟩; obtain ⟨A5, cap5, rfl⟩ := own_any how5; have ho5 := HO4.out.drew.below hb5 (by omega); have hfo5 := ho5.frozen 0; have hco5 := ho5.cell 0; rw [show (#[Value.slice A4 U4.length cap4] : Array Value)[0]? = some (.slice A4 U4.length cap4) from rfl] at hco5))
    all_goals
     have HM : Hid (DI w3 (w5.setCell ⟨w3.heap.size, 0, none⟩ (.slice A5 (U4 ++ List.map (sgn 43) [ay]).length cap5)) X Y (X.length) (j + 1) 0 (us ++ flushS n ++ [sgn 43 ay]) (.slice A5 (U4 ++ List.map (sgn 43) [ay]).length cap5)) := hid (HDI.out.more HK4.out HO4.out ((below_drewN (Below.refl _ wr) _).trans HB4.out) (by rw [HU4.out]; exact how5) ((Below.refl _ w4).drew.trans hb5) hs4 (by omega) (by omega) (by omega) (by rw [HE.out, encs_app]; rfl))
     rw [show (U4 ++ List.map (sgn 43) [ay]).length = U4.length + 1 from by simp] at HM
     clear ho5 hfo5 hco5 how5 hb5 hco4 hfo4
     go_wp2_with fail
     go_roundw
     case rel => exact ⟨X.length, j + 1, 0, _, _, by go_num, by go_num, HM.out⟩
     case measure => simp [RowKit.intOf]; omega
end Go.Proofs.YteadlcncnhbmjaaGreatDoor
/- The text Ap5. -/
namespace Go.Proofs.YteadlcncnhbmjaaGreatDoor
open Go.RowKit Go.Lib
set_option linter.unusedVariables false
def ApA (x : Option (List UInt8)) (e : Ending) : Prop := (∃ t, x = some t ∧ e = .returned (.tuple #[.string (bstr t), .bool true])) ∨ (x = none ∧ e = .returned (.tuple #[.string ⟨#[]⟩, .bool false]))
theorem slice_left (W : World) (b o n cap m : Nat) (hm : m ≤ n) (hn : n ≤ cap) : (Instr.slice 30 (.slice (some ⟨b, o, none⟩) n cap) none (some (.int .i64 (m : Int))) (some (.int .i64 (m : Int)))).run Tryz.prog W = .ok (.slice (some ⟨b, o, none⟩) m m) W := by
 rw [run_slice_hm W 30 _ n cap (by kernel_rfl) .i64 .i64 _ _ (by omega) (by omega) (by omega)]
 rw [show (Go.sizeOf (Tryz.prog.elem 30)).run Tryz.prog W = .ok 1 W from by kernel_rfl]
 show Result.ok (sliced _ _ _ _ _) W = _
 unfold sliced
 rw [Int.toNat_natCast]
 by_cases h : m = 0
 ·rw [if_pos h, Nat.sub_zero]
 ·rw [if_neg h, Nat.sub_zero]
  simp [Addr.add]
theorem slice_rest (b o n cap m : Nat) (hm : m ≤ n) (hn : n ≤ cap) : ∃ A : Addr, A.block = b ∧ (m < n → A = ⟨b, o + m, none⟩) ∧ ∀ W : World, (Instr.slice 30 (.slice (some ⟨b, o, none⟩) n cap) (some (.int .i64 (m : Int))) none none).run Tryz.prog W = .ok (.slice (some A) (n - m) (cap - m)) W := by
 refine ⟨if cap = m then ⟨b, o, none⟩ else ⟨b, o + m, none⟩, by split <;> rfl, fun h => by rw [if_neg (by omega)], fun W => ?_⟩
 rw [run_slice_l W 30 _ n cap (by kernel_rfl) .i64 _ (by omega) (by omega)]
 rw [show (Go.sizeOf (Tryz.prog.elem 30)).run Tryz.prog W = .ok 1 W from by kernel_rfl]
 show Result.ok (sliced _ _ _ _ _) W = _
 unfold sliced
 rw [Int.toNat_natCast]
 by_cases h : cap = m
 ·rw [if_pos h, if_pos h]
 ·rw [if_neg h, if_neg h]
  by_cases h0 : m = 0
  ·subst h0; simp [Addr.add]
  ·simp [Addr.add, h0]
theorem Rd.rest {w : World} {b o : Nat} {T L2 : List (List UInt8)} (h : Rd w (some ⟨b, o, none⟩) (T ++ L2).length (strL (T ++ L2))) {A : Addr} (hA : T.length < (T ++ L2).length → A = ⟨b, o + T.length, none⟩) : Rd w (some A) L2.length (strL L2) := by
 refine ⟨strL_len' _, fun j v hj => ?_⟩
 have hlt : j < L2.length := by have := (List.getElem?_eq_some_iff.1 hj).1; rwa [strL_len'] at this
 rw [hA (by rw [List.length_append]; omega)]
 obtain ⟨g, q, e, hc⟩ := h.2 (T.length + j) v (by rw [strL_append, List.getElem?_append_right (by rw [strL_len']; omega), strL_len', Nat.add_sub_cancel_left]; exact hj)
 injection e with e
 injection e with e1 e2 e3
 subst e1 e2
 exact ⟨_, _, rfl, by rw [Nat.add_assoc]; exact hc⟩
theorem Rd.front {w : World} {A : Option Addr} {T L2 : List (List UInt8)} (h : Rd w A (T ++ L2).length (strL (T ++ L2))) : Rd w A T.length (strL T) := by
 refine ⟨strL_len' _, fun j v hj => ?_⟩
 have hlt : j < T.length := by have := (List.getElem?_eq_some_iff.1 hj).1; rwa [strL_len'] at this
 exact h.2 j v (by rw [strL_append, List.getElem?_append_left (by rw [strL_len']; exact hlt)]; exact hj)
structure PI (w0 wr : World) (B : Nat) (X : List (List UInt8)) (d : List (List UInt8)) (k : Nat) (A1 : Option Addr) (c1 : Nat) (L O : List (List UInt8)) (v : Value) : Prop where
 kle : k ≤ d.length
 cap : L.length ≤ c1
 rd : Rd wr A1 L.length (strL L)
 low : ∀ a, A1 = some a → a.block < B
 own : OwnS B wr v O
 eq : Ar.aall (X, []) (d.take k) = some (L, O)
 bel : Below B w0 wr
theorem PI.bound {w0 wr : World} {B : Nat} {X d : List (List UInt8)} {k : Nat} {A1 : Option Addr} {c1 : Nat} {L O : List (List UInt8)} {v : Value} (h : PI w0 wr B X d k A1 c1 L O v) : O.length + L.length ≤ X.length + k ∧ (∀ y ∈ O, y ∈ X ∨ ∃ s ∈ d, y.length ≤ s.length) := by
 obtain ⟨h1, h2, h3⟩ := Ar.aall_le _ _ _ _ _ h.eq
 refine ⟨by rw [List.length_nil, List.length_take] at h1; omega, fun y hy => ?_⟩
 rcases h3 y hy with hy | hy | ⟨s, hs, hy⟩
 ·cases hy
 ·exact .inl hy
 ·exact .inr ⟨s, List.mem_of_mem_take hs, hy⟩
theorem PI.step {w0 wr wr' : World} {B : Nat} {X d : List (List UInt8)} {k : Nat} {A1 A2 : Option Addr} {c1 c2 : Nat} {L O L2 O2 : List (List UInt8)} {v v2 : Value} {s : List UInt8} (h : PI w0 wr B X d k A1 c1 L O v) (hk : k < d.length) (hs : d[k]? = some s) (ha : Ar.astep (L, O) s = some (L2, O2)) (hb : Below B w0 wr') (hr : Rd wr' A2 L2.length (strL L2)) (hlow : ∀ a, A2 = some a → a.block < B) (hown : OwnS B wr' v2 O2) (hc : L2.length ≤ c2) : PI w0 wr' B X d (k + 1) A2 c2 L2 O2 v2 :=
 ⟨hk, hc, hr, hlow, hown, by rw [Ar.aall_snoc hs h.eq, ha], hb⟩
theorem apply_any (a : ByteArray) (A : Option Addr) (ca : Nat) (d : List (List UInt8)) (w : World) (hr : Rd w A d.length (strL d)) (ha : a.size ≤ 2000) (hd : d.length ≤ 2000) (hx : ∀ s ∈ d, s.length ≤ 2000) (hR : Ready w) :
  Calls Tryz.prog 33 #[.string a, .slice A d.length ca] w fun e w' => ApA (Ar.apply a.data.toList d) e ∧ Below w.heap.size w w' := by
 have HR := hid hR
 have HRD := hid (hr.below ((Below.refl _ _).alloc (Nat.le_refl _) (.cells (strL (Ar.lines a.data.toList)).toArray 9)))
 have HX := hid hx
 have HSH := hid (Ar.lines_short a.data.toList)
 have hll := Ar.lines_len a.data.toList
 have hsz : a.data.toList.length = a.size := str_size a
 rw [hsz] at hll
 have HSZ := hid hsz
 have HLN := hid (lines_any a w (by omega) HR.out)
 clear hsz hr hx hR
 generalize hXX : Ar.lines a.data.toList = X at *
 have HXX := hid hXX
 clear hXX
 have HRL := hid (Rd.litS w X)
 have HB0 := hid ((Below.refl w.heap.size w).alloc (Nat.le_refl _) (.cells (strL X).toArray 9))
 have HRY := hid (HR.out.below ((Below.refl _ _).alloc (Nat.le_refl _) (.cells (strL X).toArray 9)))
 have hw1s : (w.alloc (.cells (strL X).toArray 9)).heap.size = w.heap.size + 1 := World.size_alloc _ _
 generalize hw1 : w.alloc (.cells (strL X).toArray 9) = w1 at *
 have HFIN : Hid (∀ wr, Below (w.heap.size + 1) w1 wr → Below w.heap.size w wr) := hid (fun wr h => HB0.out.trans (h.mono (by omega)))
 have HPI0 : Hid (PI w1 w1 (w.heap.size + 1) X d 0 (some ⟨w.heap.size, 0, none⟩) X.length X [] (.slice none 0 0)) := hid ⟨Nat.zero_le _, Nat.le_refl _, HRL.out, fun q e => by injection e with e; rw [← e]; exact Nat.lt_succ_self _, World.ownsRow_nil _ _ _ _, rfl, Below.refl _ _⟩
 go_enter Tryz.func33, Tryz.ntmps33
 go_wp2_with fail
 refine HLN.out.mono ?_
 rintro e w2 ⟨rfl, rfl⟩
 go_wp2_with fail
 go_loopw [6, 7, 19] (fun lx ox ix wr => ∃ (k : Nat) (A1 : Option Addr) (c1 : Nat) (L O : List (List UInt8)), ix = .int .i64 k ∧ lx = .slice A1 L.length c1 ∧ PI w2 wr (w.heap.size + 1) X d k A1 c1 L O ox) (fun _ _ ix _ => d.length - (RowKit.intOf ix).toNat)
 case atStart => exact ⟨0, _, _, X, [], rfl, rfl, HPI0.out⟩
 case round =>
  obtain ⟨k, A1, c1, L, O, rfl, rfl, hpi⟩ := hrel
  obtain ⟨AO, capO, rfl⟩ := own_any hpi.own
  have HPI := hid hpi
  have hkle := hpi.kle
  have hcap := hpi.cap
  have hbd := hpi.bound
  have HBD := hid hbd.2
  have hbl := hbd.1
  have hwrs := hpi.bel.size
  clear hpi hbd
  by_cases hlt : k < d.length
  ·obtain ⟨ba, oa, s, rfl, hs, hc0⟩ := (HRD.out.below (by rw [hw1s]; exact HPI.out.bel)).str_at hlt
   have HS := hid hs
   have HSL : Hid (s.length ≤ 2000) := hid (HX.out s (List.mem_of_getElem? hs))
   obtain ⟨mx, hmx⟩ := (HRY.out.below (by rw [hw1s]; exact HPI.out.bel)).1
   have hcut := Tryz.strings_Cut (bstr s) ⟨#[32]⟩ mx wr (by rw [bstr_size]; have := HSL.out; omega) hmx
   rw [show (bstr s).data.toList = s from rfl, show (⟨#[32]⟩ : ByteArray).data.toList = [32] from rfl] at hcut
   have HNO : Hid (Ar.astep (L, O) s = none → ∀ wr', Below (w.heap.size + 1) w2 wr' → ApA (Ar.apply a.data.toList d) (.returned (.tuple #[.string ⟨#[]⟩, .bool false])) ∧ Below w.heap.size w wr') := hid (fun h wr' hb => ⟨.inr ⟨Ar.apply_stuck HS.out (by rw [HXX.out]; exact HPI.out.eq) h, rfl⟩, HFIN.out _ hb⟩)
   clear hmx hs
   rcases Ar.split_blank s with hb | ⟨l, t, hst, hb⟩
   ·rw [Ar.cut_none hb] at hcut
    have HCUT := hid hcut
    have HA := hid (Ar.astep_noblank (L, O) hb)
    clear hcut
    generalize hss : bstr s = S at *
    go_wp2_with fail
    refine HCUT.out.mono ?_
    rintro e w3 ⟨rfl, q3, rfl⟩
    go_wp2_with fail
    go_ret2
    exact HNO.out HA.out _ (below_drewN HPI.out.bel _)
   ·have hcc : Lib.cut s [32] = (l, t, true) := by rw [hst]; exact Ar.cut_at hb
    rw [hcc] at hcut
    clear hcc
    have HCUT := hid hcut
    have HST := hid hst
    have HBL := hid hb
    clear hcut hst hb
    rw [show (⟨l.toArray⟩ : ByteArray) = bstr l from rfl, show (⟨t.toArray⟩ : ByteArray) = bstr t from rfl] at HCUT
    have HTL : Hid (t.length ≤ 2000) := hid (by have := HSL.out; rw [HST.out, List.length_append, List.length_cons] at this; omega)
    have htl : (bstr t).size ≤ 2000 := by rw [bstr_size]; exact HTL.out
    have h61 := str_cmp l [61]
    have h45 := str_cmp l [45]
    have h43 := str_cmp l [43]
    have HB3 : Hid (∀ q, Below (w.heap.size + 1) w2 (wr.drewN q)) := hid (fun q => below_drewN HPI.out.bel q)
    by_cases k61 : l = [61]
    ·have g61 : ((bstr l).toList == [61]) = true := by rw [h61, k61]; rfl
     have HAS : Hid (Ar.astep (L, O) s = (match Ar.pnum t with | some n => if 1 ≤ n ∧ n ≤ L.length then some (L.drop n.toNat, O ++ L.take n.toNat) else none | none => none)) := hid (by rw [HST.out, k61]; exact Ar.astep_eq L O t)
     clear h61 h45 h43 k61
     generalize hss : bstr s = S at *
     generalize hsl : bstr l = SL at *
     by_cases hok : ∃ v, Lib.atoiAll t = .ok v
     ·obtain ⟨v, hv⟩ := hok
      have HAT := hid (fun W => atoi_ok (bstr t) v W (by omega) hv)
      have hvr := (Ar.atoi_bound hv).1
      have HTX := hid (fun W => ntext_any v W hvr)
      have hcm := str_beq (Ar.itoa v) t
      have HV := hid hv
      clear hv
      obtain ⟨hv1, hv2⟩ := hvr
      by_cases hne : Ar.itoa v = t
      ·have HPN := hid (Ar.pnum_yes HV.out hne)
       have gcm : (!((bstr (Ar.itoa v)).toList == (bstr t).toList)) = false := by rw [hcm, hne]; simp
       clear hcm hne
       generalize bstr (Ar.itoa v) = TV at *
       generalize htt : bstr t = ST at *
       by_cases hin : 1 ≤ v ∧ v ≤ L.length
       ·obtain ⟨hin1, hin2⟩ := hin
        obtain ⟨T, L2, hLT, hTv⟩ : ∃ T L2, L = T ++ L2 ∧ (T.length : Int) = v := ⟨L.take v.toNat, L.drop v.toNat, (List.take_append_drop _ _).symm, by rw [List.length_take]; omega⟩
        subst hTv
        have HLT := hid hLT
        have hlen : L.length = T.length + L2.length := by rw [hLT, List.length_append]
        obtain ⟨bL, oL, x0, hA1, _, _⟩ := HPI.out.rd.str_at (k := 0) (by omega)
        subst hA1
        have hs1 : ∀ W : World, (Instr.slice 30 (.slice (some ⟨bL, oL, none⟩) L.length c1) none (some (.int .i64 (T.length : Int))) (some (.int .i64 (T.length : Int)))).run Tryz.prog W = .ok (.slice (some ⟨bL, oL, none⟩) T.length T.length) W := fun W => slice_left W bL oL L.length c1 T.length (by omega) hcap
        obtain ⟨A2, hA2b, hA2, hs2⟩ := slice_rest bL oL L.length c1 T.length (by omega) hcap
        have hs2' : ∀ W : World, (Instr.slice 30 (.slice (some ⟨bL, oL, none⟩) L.length c1) (some (.int .i64 (T.length : Int))) none none).run Tryz.prog W = .ok (.slice (some A2) L2.length (c1 - T.length)) W := fun W => by rw [hs2 W, hlen, Nat.add_sub_cancel_left]
        have HAS2 : Hid (Ar.astep (L, O) s = some (L2, O ++ T)) := hid (by rw [HAS.out, HPN.out]; simp only; rw [if_pos ⟨hin1, hin2⟩, hLT, Int.toNat_natCast, List.drop_left, List.take_left])
        have HRF : Hid (Rd wr (some ⟨bL, oL, none⟩) T.length (strL T)) := hid (by have h := HPI.out.rd; rw [hLT] at h; exact h.front)
        have HRR : Hid (Rd wr (some A2) L2.length (strL L2)) := hid (by have h := HPI.out.rd; rw [hLT] at h; exact h.rest (by rw [← hLT]; exact hA2))
        have HLOW : Hid (A2.block < w.heap.size + 1) := hid (by rw [hA2b]; exact HPI.out.low _ rfl)
        have HLEN := hid hlen
        clear hs2 hA2 hA2b hLT hlen
        go_wp2_with fail
        refine HCUT.out.mono ?_
        rintro e w3 ⟨rfl, q3, rfl⟩
        go_wp2_with fail
        refine (HAT.out _).mono ?_
        rintro e w4 ⟨rfl, hb4⟩
        have HB4 := hid hb4
        clear hb4
        go_wp2_with fail
        refine (HTX.out _).mono ?_
        rintro e w5 ⟨rfl, hb5⟩
        have HB5 := hid (HB4.out.trans (hb5.mono HB4.out.size))
        clear hb5
        go_wp2_with fail
        have HOW5 : Hid (OwnS (w.heap.size + 1) w5 (.slice AO O.length capO) O) := hid (own_below (show OwnS (w.heap.size + 1) (wr.drewN q3) _ O from HPI.out.own) HB5.out (Nat.le_refl _))
        have HRF5 : Hid (Rd w5 (some ⟨bL, oL, none⟩) T.length (strL T)) := hid ((HRF.out.drewN q3).below HB5.out)
        have HRR5 : Hid (Rd w5 (some A2) L2.length (strL L2)) := hid ((HRR.out.drewN q3).below HB5.out)
        have HBW5 : Hid (Below (w.heap.size + 1) w2 w5) := hid ((HB3.out q3).trans (HB5.out.mono (by show _ ≤ wr.heap.size; omega)))
        have hs5 := HBW5.out.size
        have hTL : T.length ≤ 100000 := by omega
        go_region_law (first | (refine step_appS rfl _ _ rfl w5.drew (.slice AO O.length capO) O T (w.heap.size + 1) ?_ (some ⟨bL, oL, none⟩) T.length ?_ HOW5.out.drew HRF5.out.drew (by show _ ≤ w5.heap.size; omega) (by omega) ?_; kernel_rfl; kernel_rfl; intro v6 w6 ho6 hg6 hb6; obtain ⟨A6, cap6, rfl⟩ := own_any ho6))
        all_goals
         have HP : Hid (PI w2 w6 (w.heap.size + 1) X d (k + 1) (some A2) (c1 - T.length) L2 (O ++ T) (.slice A6 (O ++ T).length cap6)) := hid (HPI.out.step hlt HS.out HAS2.out (hb6 _ HBW5.out.drew) (HRR5.out.drew.low (hb6 _ (Below.refl _ _)) (fun q e => by injection e with e; rw [← e]; exact HLOW.out)) (fun q e => by injection e with e; rw [← e]; exact HLOW.out) ho6 (by have := HLEN.out; omega))
         rw [show (O ++ T).length = O.length + T.length from List.length_append] at HP
         clear hg6 hb6 ho6
         go_wp2_with fail
         go_roundw
         case rel => exact ⟨k + 1, some A2, c1 - T.length, L2, O ++ T, by go_num, rfl, HP.out⟩
         case measure => simp [RowKit.intOf]; omega
       ·have HAN : Hid (Ar.astep (L, O) s = none) := hid (by rw [HAS.out, HPN.out]; simp only; rw [if_neg hin])
        by_cases hv0 : v < 1
        ·clear hin
         go_wp2_with fail
         refine HCUT.out.mono ?_
         rintro e w3 ⟨rfl, q3, rfl⟩
         go_wp2_with fail
         refine (HAT.out _).mono ?_
         rintro e w4 ⟨rfl, hb4⟩
         have HB4 := hid hb4
         clear hb4
         go_wp2_with fail
         refine (HTX.out _).mono ?_
         rintro e w5 ⟨rfl, hb5⟩
         have HB5 := hid (HB4.out.trans (hb5.mono HB4.out.size))
         clear hb5
         go_wp2_with fail
         go_ret2
         exact HNO.out HAN.out _ ((HB3.out q3).trans (HB5.out.mono (by show _ ≤ wr.heap.size; omega)))
        ·have hv0' : 1 ≤ v := by omega
         have hvL : (L.length : Int) < v := by omega
         clear hin hv0
         go_wp2_with fail
         refine HCUT.out.mono ?_
         rintro e w3 ⟨rfl, q3, rfl⟩
         go_wp2_with fail
         refine (HAT.out _).mono ?_
         rintro e w4 ⟨rfl, hb4⟩
         have HB4 := hid hb4
         clear hb4
         go_wp2_with fail
         refine (HTX.out _).mono ?_
         rintro e w5 ⟨rfl, hb5⟩
         have HB5 := hid (HB4.out.trans (hb5.mono HB4.out.size))
         clear hb5
         go_wp2_with fail
         go_ret2
         exact HNO.out HAN.out _ ((HB3.out q3).trans (HB5.out.mono (by show _ ≤ wr.heap.size; omega)))
      ·have HAN : Hid (Ar.astep (L, O) s = none) := hid (by rw [HAS.out, Ar.pnum_ne HV.out hne])
       have gcm : (!((bstr (Ar.itoa v)).toList == (bstr t).toList)) = true := by rw [hcm]; simpa using hne
       clear hcm hne
       generalize bstr (Ar.itoa v) = TV at *
       generalize htt : bstr t = ST at *
       go_wp2_with fail
       refine HCUT.out.mono ?_
       rintro e w3 ⟨rfl, q3, rfl⟩
       go_wp2_with fail
       refine (HAT.out _).mono ?_
       rintro e w4 ⟨rfl, hb4⟩
       have HB4 := hid hb4
       clear hb4
       go_wp2_with fail
       refine (HTX.out _).mono ?_
       rintro e w5 ⟨rfl, hb5⟩
       have HB5 := hid (HB4.out.trans (hb5.mono HB4.out.size))
       clear hb5
       go_wp2_with fail
       go_ret2
       exact HNO.out HAN.out _ ((HB3.out q3).trans (HB5.out.mono (by show _ ≤ wr.heap.size; omega)))
     ·have hno : ∀ v, Lib.atoiAll t ≠ .ok v := fun v hv => hok ⟨v, hv⟩
      have HAN : Hid (Ar.astep (L, O) s = none) := hid (by rw [HAS.out, Ar.pnum_no hno])
      have HBAD := hid (fun W hW => atoi_bad (bstr t) W hW (by omega) hno)
      have HRW : Hid (∀ q, Ready (wr.drewN q)) := hid (fun q => (HRY.out.below (by rw [hw1s]; exact below_drewN HPI.out.bel q)))
      clear hno hok
      generalize htt : bstr t = ST at *
      go_wp2_with fail
      refine HCUT.out.mono ?_
      rintro e w3 ⟨rfl, q3, rfl⟩
      go_wp2_with fail
      refine (HBAD.out _ (HRW.out q3)).mono ?_
      rintro e w4 ⟨⟨vn, tn, pn, rfl⟩, hb4⟩
      have HB4 := hid hb4
      clear hb4
      go_wp2_with fail
      go_ret2
      exact HNO.out HAN.out _ ((HB3.out q3).trans (HB4.out.mono (by show _ ≤ wr.heap.size; omega)))
    ·have g61 : ((bstr l).toList == [61]) = false := by rw [h61]; simpa using k61
     by_cases k45 : l = [45]
     ·have g45 : ((bstr l).toList == [45]) = true := by rw [h45, k45]; rfl
      have HS45 : Hid (s = 45 :: 32 :: t) := hid (by rw [HST.out, k45]; rfl)
      clear h61 h45 h43 k61 k45
      by_cases hL0 : L.length = 0
      ·have HAN : Hid (Ar.astep (L, O) s = none) := hid (by rw [HS45.out, List.eq_nil_of_length_eq_zero hL0, Ar.astep_minus])
       have z1 : ((L.length : Int) == 0) = true := by rw [hL0]; rfl
       generalize hss : bstr s = S at *
       generalize hsl : bstr l = SL at *
       generalize htt : bstr t = ST at *
       go_wp2_with fail
       refine HCUT.out.mono ?_
       rintro e w3 ⟨rfl, q3, rfl⟩
       go_wp2_with fail
       go_ret2
       exact HNO.out HAN.out _ (HB3.out q3)
      ·have z1 : ((L.length : Int) == 0) = false := by rw [beq_eq_false_iff_ne]; omega
       have z2 : ¬ ((L.length : Int) = 0) := by omega
       have z3 : ¬ (L = []) := fun e => hL0 (by rw [e]; rfl)
       obtain ⟨bL, oL, x0, hA1, hx0, hcx⟩ := HPI.out.rd.str_at (k := 0) (by omega)
       subst hA1
       rw [Nat.add_zero] at hcx
       obtain ⟨L2, hLT⟩ : ∃ L2, L = [x0] ++ L2 := by
        cases hh : L with
        | nil => exact absurd hh z3
        | cons y L2 => rw [hh] at hx0; injection hx0 with hx0; exact ⟨L2, by rw [hx0]; rfl⟩
       have hcm := str_beq x0 t
       have hlen : L.length = 1 + L2.length := by rw [hLT, List.length_append]; rfl
       have HLEN := hid hlen
       have hl1 : 1 ≤ L.length := by omega
       by_cases hxt : x0 = t
       ·have gcm : (!((bstr x0).toList == (bstr t).toList)) = false := by rw [hcm, hxt]; simp
        have HAS2 : Hid (Ar.astep (L, O) s = some (L2, O)) := hid (by rw [HS45.out, hLT, Ar.astep_minus]; show (if x0 = t then some (L2, O) else none) = _; rw [if_pos hxt])
        obtain ⟨A2, hA2b, hA2, hs2⟩ := slice_rest bL oL L.length c1 1 (by omega) hcap
        have hs2' : ∀ W : World, (Instr.slice 30 (.slice (some ⟨bL, oL, none⟩) L.length c1) (some (.int .i64 1)) none none).run Tryz.prog W = .ok (.slice (some A2) L2.length (c1 - 1)) W := fun W => by have h := hs2 W; rw [hlen, Nat.add_sub_cancel_left] at h; rw [hlen]; exact h
        have HRR : Hid (Rd wr (some A2) L2.length (strL L2)) := hid (by have h := HPI.out.rd; rw [hLT] at h; exact h.rest (by rw [← hLT]; exact hA2))
        have HLOW : Hid (A2.block < w.heap.size + 1) := hid (by rw [hA2b]; exact HPI.out.low _ rfl)
        have HP : Hid (∀ q, PI w2 (wr.drewN q) (w.heap.size + 1) X d (k + 1) (some A2) (c1 - 1) L2 O (.slice AO O.length capO)) := hid (fun q => HPI.out.step hlt HS.out HAS2.out (HB3.out q) (HRR.out.drewN q) (fun q e => by injection e with e; rw [← e]; exact HLOW.out) HPI.out.own (by have := HLEN.out; omega))
        clear hs2 hA2 hA2b hLT hlen hcm hxt hx0 hL0
        generalize hss : bstr s = S at *
        generalize hsl : bstr l = SL at *
        generalize htt : bstr t = ST at *
        generalize bstr x0 = SX at *
        go_wp2_with fail
        refine HCUT.out.mono ?_
        rintro e w3 ⟨rfl, q3, rfl⟩
        go_wp2_with fail
        go_roundw
        case rel => exact ⟨k + 1, some A2, c1 - 1, L2, O, by go_num, rfl, HP.out q3⟩
        case measure => simp [RowKit.intOf]; omega
       ·have gcm : (!((bstr x0).toList == (bstr t).toList)) = true := by rw [hcm]; simpa using hxt
        have HAN : Hid (Ar.astep (L, O) s = none) := hid (by rw [HS45.out, hLT, Ar.astep_minus]; show (if x0 = t then some (L2, O) else none) = _; rw [if_neg hxt])
        clear hLT hlen hcm hxt hx0 hL0
        generalize hss : bstr s = S at *
        generalize hsl : bstr l = SL at *
        generalize htt : bstr t = ST at *
        generalize bstr x0 = SX at *
        go_wp2_with fail
        refine HCUT.out.mono ?_
        rintro e w3 ⟨rfl, q3, rfl⟩
        go_wp2_with fail
        go_ret2
        exact HNO.out HAN.out _ (HB3.out q3)
     ·have g45 : ((bstr l).toList == [45]) = false := by rw [h45]; simpa using k45
      by_cases k43 : l = [43]
      ·have g43 : ((bstr l).toList == [43]) = true := by rw [h43, k43]; rfl
       have HAS : Hid (Ar.astep (L, O) s = if (10 : UInt8) ∈ t then none else some (L, O ++ [t])) := hid (by rw [HST.out, k43]; exact Ar.astep_plus L O t)
       clear h61 h45 h43 k61 k45 k43
       have hcon := fun W => Tryz.strings_Contains_one (bstr t) 10 W
       rw [show (bstr t).data.toList = t from rfl, Ar.index_in] at hcon
       by_cases hin : (10 : UInt8) ∈ t
       ·rw [decide_eq_true hin] at hcon
        have HCON := hid hcon
        have HAN : Hid (Ar.astep (L, O) s = none) := hid (by rw [HAS.out, if_pos hin])
        clear hcon hin
        generalize hss : bstr s = S at *
        generalize hsl : bstr l = SL at *
        generalize htt : bstr t = ST at *
        go_wp2_with fail
        refine HCUT.out.mono ?_
        rintro e w3 ⟨rfl, q3, rfl⟩
        go_wp2_with fail
        refine (HCON.out _).mono ?_
        rintro e w4 ⟨rfl, rfl⟩
        go_wp2_with fail
        go_ret2
        exact HNO.out HAN.out _ (HB3.out q3)
       ·rw [decide_eq_false hin] at hcon
        have HCON := hid hcon
        have HAS2 : Hid (Ar.astep (L, O) s = some (L, O ++ [t])) := hid (by rw [HAS.out, if_neg hin])
        clear hcon hin
        have HSTR : Hid (∀ u ∈ [Value.string (bstr t)], u.oneCell' = true) := hid (one_strs [t])
        have HTE : Hid (strL [t] = [Value.string (bstr t)]) := hid rfl
        have HOWN : Hid (∀ q, (wr.drewN q).ownsRow (w.heap.size + 1) 9 1 (.slice AO O.length capO) O.length (strL O)) := hid (fun q => HPI.out.own)
        have HSZ3 : Hid (∀ q, w.heap.size + 1 ≤ (wr.drewN q).heap.size) := hid (fun q => by show _ ≤ wr.heap.size; omega)
        generalize hss : bstr s = S at *
        generalize hsl : bstr l = SL at *
        generalize htt : bstr t = ST at *
        go_wp2_with fail
        refine HCUT.out.mono ?_
        rintro e w3 ⟨rfl, q3, rfl⟩
        go_wp2_with fail
        refine (HCON.out _).mono ?_
        rintro e w4 ⟨rfl, rfl⟩
        go_wp2_with (at_builtin; refine app_lit rowStr rfl _ _ rfl (wr.drewN q3) [.string ST] 1 rfl HSTR.out (.slice AO O.length capO) O.length (strL O) (w.heap.size + 1) rfl (HOWN.out q3) rfl (HSZ3.out q3) (by omega) ?_; intro v6 w6 ho6 hg6 hb6; obtain ⟨A6, cap6, rfl⟩ := own_slice ho6)
        have HP : Hid (PI w2 w6 (w.heap.size + 1) X d (k + 1) A1 c1 L (O ++ [t]) (.slice A6 (O.length + 1) cap6)) := hid (HPI.out.step hlt HS.out HAS2.out (hb6 _ (HB3.out q3)) ((HPI.out.rd.drewN q3).low (hb6 _ (Below.refl _ _)) HPI.out.low) HPI.out.low (by unfold OwnS; rw [List.length_append, strL_append, HTE.out]; exact ho6) HPI.out.cap)
        clear hg6 hb6 ho6
        go_roundw
        case rel => exact ⟨k + 1, A1, c1, L, O ++ [t], by go_num, rfl, HP.out⟩
        case measure => simp [RowKit.intOf]; omega
      ·have g43 : ((bstr l).toList == [43]) = false := by rw [h43]; simpa using k43
       have HAN : Hid (Ar.astep (L, O) s = none) := hid (by rw [HST.out]; exact Ar.astep_other (L, O) HBL.out k61 k45 k43)
       clear h61 h45 h43 k61 k45 k43
       generalize hss : bstr s = S at *
       generalize hsl : bstr l = SL at *
       generalize htt : bstr t = ST at *
       go_wp2_with fail
       refine HCUT.out.mono ?_
       rintro e w3 ⟨rfl, q3, rfl⟩
       go_wp2_with fail
       go_ret2
       exact HNO.out HAN.out _ (HB3.out q3)
  ·obtain rfl : k = d.length := by omega
   have HEQ : Hid (Ar.aall (X, []) d = some (L, O)) := hid (by have := HPI.out.eq; rwa [List.take_length] at this)
   have HEND : Hid (Ar.apply a.data.toList d = if L = [] ∧ O ≠ [] then some (Ar.join [10] O) else none) := hid (Ar.apply_end (by rw [HXX.out]; exact HEQ.out))
   have HJ : Hid ((Ar.join [10] O).length ≤ 100000000) := hid (by
    have h1 := Ar.join_le [10] 2000 O (fun y hy => by
     rcases HBD.out y hy with hy | ⟨q, hq, hy⟩
     ·have := HSH.out y hy
      have h2 := HSZ.out
      omega
     ·exact Nat.le_trans hy (HX.out q hq))
    have h2 : O.length ≤ 4001 := by omega
    have h3 := Nat.mul_le_mul_right (2000 + [10].length) h2
    simp only [List.length_singleton] at h1 h3
    omega)
   by_cases hL0 : L.length = 0
   ·have hL : L = [] := List.eq_nil_of_length_eq_zero hL0
    have z1 : ((L.length : Int) == 0) = true := by rw [hL0]; rfl
    by_cases hO0 : O.length = 0
    ·have hO : O = [] := List.eq_nil_of_length_eq_zero hO0
     have z2 : ((O.length : Int) == 0) = true := by rw [hO0]; rfl
     have HNN : Hid (Ar.apply a.data.toList d = none) := hid (by rw [HEND.out, if_neg (fun h => h.2 hO)])
     clear hL hO
     go_wp2_with fail
     go_ret2
     exact ⟨.inr ⟨HNN.out, rfl⟩, HFIN.out _ HPI.out.bel⟩
    ·have z2 : ((O.length : Int) == 0) = false := by rw [beq_eq_false_iff_ne]; omega
     have HNN : Hid (Ar.apply a.data.toList d = some (Ar.join [10] O)) := hid (by rw [HEND.out, if_pos ⟨hL, fun h => hO0 (by rw [h]; rfl)⟩])
     clear hL
     go_wp2_with fail
     refine (join_own wr (w.heap.size + 1) (.slice AO O.length capO) O ⟨#[10]⟩ HPI.out.own (by omega) HJ.out).mono ?_
     rintro e w3 ⟨rfl, hb3⟩
     have HB3 := hid (HPI.out.bel.trans (hb3.mono (by omega)))
     clear hb3
     go_wp2_with fail
     go_ret2
     exact ⟨.inl ⟨_, HNN.out, rfl⟩, HFIN.out _ HB3.out⟩
   ·have z1 : ((L.length : Int) == 0) = false := by rw [beq_eq_false_iff_ne]; omega
    have HNN : Hid (Ar.apply a.data.toList d = none) := hid (by rw [HEND.out, if_neg (fun h => hL0 (by rw [h.1]; rfl))])
    go_wp2_with fail
    go_ret2
    exact ⟨.inr ⟨HNN.out, rfl⟩, HFIN.out _ HPI.out.bel⟩
end Go.Proofs.YteadlcncnhbmjaaGreatDoor
