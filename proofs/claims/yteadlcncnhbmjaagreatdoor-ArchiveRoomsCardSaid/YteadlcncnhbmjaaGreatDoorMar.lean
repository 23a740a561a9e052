/- The text At2. -/
import Derived.Test.YteadlcncnhbmjaaGreatDoorMaq
set_option linter.unusedSimpArgs false
set_option maxHeartbeats 16000000
set_option maxRecDepth 100000
namespace Go.Proofs.YteadlcncnhbmjaaGreatDoor
open Go.RowKit Go.Lib
set_option linter.unusedVariables false
def rowC (x : Int × Int × Int × Bool) : List Value := [.int .i64 x.1, .int .i64 x.2.1, .int .i64 x.2.2.1, .bool x.2.2.2]
def entC (x : Int × List UInt8 × Int) : List Value := [.int .i64 x.1, .string (bstr x.2.1), .int .i64 x.2.2]
def recC (x : List UInt8 × Int × Int × Int) : List Value := [.string (bstr x.1), .int .i64 x.2.1, .int .i64 x.2.2.1, .int .i64 x.2.2.2]
def typC (x : List UInt8 × Int) : List Value := [.string (bstr x.1), .int .i64 x.2]
theorem Rd.el_at {α : Type} {el : α → List Value} {sz : Nat} (hsz : ∀ x, (el x).length = sz) {w : World} {A : Option Addr} {xs : List α} (h : Rd w A (xs.length * sz) (xs.flatMap el)) (h0 : 0 < sz) {k : Nat} (hk : k < xs.length) :
  ∃ b off x, A = some ⟨b, off, none⟩ ∧ xs[k]? = some x ∧ ∀ j v, (el x)[j]? = some v → w.cell? ⟨b, off + k * sz + j, none⟩ = some v := by
 have hx := List.getElem?_eq_getElem hk
 obtain ⟨v0, hv0⟩ : ∃ v, (el xs[k])[0]? = some v := by
  rw [List.getElem?_eq_getElem (by rw [hsz]; exact h0)]
  exact ⟨_, rfl⟩
 have h00 := row_at el sz hsz xs k 0 xs[k] h0 hx
 obtain ⟨b, off, e, _⟩ := h.2 _ _ (h00.trans hv0)
 refine ⟨b, off, xs[k], e, hx, fun j v hv => ?_⟩
 have hj : j < sz := by have := (List.getElem?_eq_some_iff.1 hv).1; rwa [hsz] at this
 obtain ⟨b', off', e', hc⟩ := h.2 _ _ ((row_at el sz hsz xs k j xs[k] hj hx).trans hv)
 rw [e] at e'
 injection e' with e'
 injection e' with e1 e2 e3
 subst e1 e2
 rw [Nat.add_assoc]
 exact hc
theorem lines_row (vo : Value) (us : List (List UInt8)) (base : Nat) (A : Option Addr) (cap : Nat) (xs : List (Int × Int × Int × Bool)) (w : World) (ho : OwnS base w vo us) (hbs : base ≤ w.heap.size) (hR : Rd w A (xs.length * 4) (xs.flatMap rowC)) (hlo : 0 < xs.length → ∀ a, A = some a → a.block < base) (hx : ∀ x ∈ xs, Ar.inInt x.1 ∧ Ar.inInt x.2.1 ∧ Ar.inInt x.2.2.1) (hl : us.length + xs.length ≤ 1000000) :
  Calls Tryz.prog 64 #[vo, .slice A xs.length cap, .func (.func 65) #[] #[]] w fun e w' => (∃ v', e = .returned v' ∧ OwnS base w' v' (us ++ xs.map Ar.rowLine)) ∧ Below base w w' := by
 obtain ⟨A0, cap0, rfl⟩ := own_any ho
 have HO := hid ho
 have HR := hid hR
 have HX := hid hx
 have HLO := hid hlo
 clear ho hR hx hlo
 go_enter Tryz.func64, Tryz.ntmps64
 go_wp2_with fail
 go_loopw [0, 11] (fun out ix wr => ∃ k : Nat, k ≤ xs.length ∧ ix = .int .i64 k ∧ OwnS base wr out (us ++ (xs.take k).map Ar.rowLine) ∧ Below base w wr) (fun _ ix _ => xs.length - (RowKit.intOf ix).toNat)
 case atStart => exact ⟨0, by omega, rfl, by simpa using HO.out, Below.refl _ _⟩
 case round =>
  obtain ⟨k, hk, rfl, ho, hb⟩ := hrel
  have HO := hid ho
  have HB := hid hb
  have hws := hb.size
  clear ho hb
  by_cases hlt : k < xs.length
  ·obtain ⟨ba, oa, x, rfl, hx, hcs⟩ := Rd.el_at (el := rowC) (sz := 4) (fun _ => rfl) (HR.out.low HB.out (HLO.out (by omega))) (by decide) hlt
   have hc0 := hcs 0 _ rfl
   have hc1 := hcs 1 _ rfl
   have hc2 := hcs 2 _ rfl
   have hc3 := hcs 3 _ rfl
   rw [Nat.add_zero] at hc0
   have HXK := hid hx
   have HXO := hid (HX.out x (List.mem_of_getElem? hx))
   have HLEN : Hid ((us ++ (xs.take k).map Ar.rowLine).length = us.length + k) := hid (by rw [List.length_append, List.length_map, List.length_take]; omega)
   clear hx hcs
   go_wp2_with fail
   refine (rowline_any x.1 x.2.1 x.2.2.1 x.2.2.2 _ HXO.out.1 HXO.out.2.1 HXO.out.2.2).mono ?_
   rintro e w2 ⟨rfl, hb2⟩
   have HB2 := hid ((HB.out.alloc (Nat.le_trans hbs hws) (.cells #[.int .i64 x.1, .int .i64 x.2.1, .int .i64 x.2.2.1, .bool x.2.2.2] 114)).trans (hb2.mono (by rw [World.size_alloc]; omega)))
   have hbs2 := HB2.out.size
   have HO2 : Hid (OwnS base w2 u0 (us ++ (xs.take k).map Ar.rowLine)) := hid (own_below (HO.out.alloc _) hb2 (Nat.le_refl _))
   clear hb2
   go_wp2_with (at_builtin; refine app_lit rowStr rfl _ _ rfl w2 (strL [Ar.rowLine x]) 1 rfl (one_strs [Ar.rowLine x]) u0 (us.length + k) (strL (us ++ (xs.take k).map Ar.rowLine)) base rfl (by have := HO2.out; unfold OwnS at this; rw [HLEN.out] at this; exact this) rfl (by omega) (by omega) ?_; intro v4 w4 ho4 hg4 hb4)
   go_roundw
   case rel =>
    refine ⟨k + 1, by omega, by go_num, ?_, hb4 w HB2.out⟩
    unfold OwnS
    rw [map_take_snoc HXK.out, ← List.append_assoc, List.length_append, HLEN.out, strL_append]
    exact ho4
   case measure => simp [RowKit.intOf]; omega
  ·obtain rfl : k = xs.length := by omega
   have HOE : Hid (OwnS base wr u0 (us ++ xs.map Ar.rowLine)) := hid (by have := HO.out; rwa [List.take_length] at this)
   go_wp2_with fail
   go_ret
   exact ⟨⟨_, rfl, HOE.out⟩, HB.out⟩
theorem lines_entry (vo : Value) (us : List (List UInt8)) (base : Nat) (A : Option Addr) (cap : Nat) (xs : List (Int × List UInt8 × Int)) (w : World) (ho : OwnS base w vo us) (hbs : base ≤ w.heap.size) (hR : Rd w A (xs.length * 3) (xs.flatMap entC)) (hlo : 0 < xs.length → ∀ a, A = some a → a.block < base) (hx : ∀ x ∈ xs, Ar.inInt x.1 ∧ x.2.1.length ≤ 1000000 ∧ Ar.inInt x.2.2) (hl : us.length + xs.length ≤ 1000000) :
  Calls Tryz.prog 68 #[vo, .slice A xs.length cap, .func (.func 69) #[] #[]] w fun e w' => (∃ v', e = .returned v' ∧ OwnS base w' v' (us ++ xs.map Ar.entryLine)) ∧ Below base w w' := by
 obtain ⟨A0, cap0, rfl⟩ := own_any ho
 have HO := hid ho
 have HR := hid hR
 have HX := hid hx
 have HLO := hid hlo
 clear ho hR hx hlo
 go_enter Tryz.func68, Tryz.ntmps68
 go_wp2_with fail
 go_loopw [0, 11] (fun out ix wr => ∃ k : Nat, k ≤ xs.length ∧ ix = .int .i64 k ∧ OwnS base wr out (us ++ (xs.take k).map Ar.entryLine) ∧ Below base w wr) (fun _ ix _ => xs.length - (RowKit.intOf ix).toNat)
 case atStart => exact ⟨0, by omega, rfl, by simpa using HO.out, Below.refl _ _⟩
 case round =>
  obtain ⟨k, hk, rfl, ho, hb⟩ := hrel
  have HO := hid ho
  have HB := hid hb
  have hws := hb.size
  clear ho hb
  by_cases hlt : k < xs.length
  ·obtain ⟨ba, oa, x, rfl, hx, hcs⟩ := Rd.el_at (el := entC) (sz := 3) (fun _ => rfl) (HR.out.low HB.out (HLO.out (by omega))) (by decide) hlt
   have hc0 := hcs 0 _ rfl
   have hc1 := hcs 1 _ rfl
   have hc2 := hcs 2 _ rfl
   rw [Nat.add_zero] at hc0
   have HXK := hid hx
   have HXO := hid (HX.out x (List.mem_of_getElem? hx))
   have HLEN : Hid ((us ++ (xs.take k).map Ar.entryLine).length = us.length + k) := hid (by rw [List.length_append, List.length_map, List.length_take]; omega)
   clear hx hcs
   go_wp2_with fail
   refine (entryline_any x.1 x.2.1 x.2.2 _ HXO.out.1 HXO.out.2.1 HXO.out.2.2).mono ?_
   rintro e w2 ⟨rfl, hb2⟩
   have HB2 := hid ((HB.out.alloc (Nat.le_trans hbs hws) (.cells #[.int .i64 x.1, .string (bstr x.2.1), .int .i64 x.2.2] 103)).trans (hb2.mono (by rw [World.size_alloc]; omega)))
   have hbs2 := HB2.out.size
   have HO2 : Hid (OwnS base w2 u0 (us ++ (xs.take k).map Ar.entryLine)) := hid (own_below (HO.out.alloc _) hb2 (Nat.le_refl _))
   clear hb2
   go_wp2_with (at_builtin; refine app_lit rowStr rfl _ _ rfl w2 (strL [Ar.entryLine x]) 1 rfl (one_strs [Ar.entryLine x]) u0 (us.length + k) (strL (us ++ (xs.take k).map Ar.entryLine)) base rfl (by have := HO2.out; unfold OwnS at this; rw [HLEN.out] at this; exact this) rfl (by omega) (by omega) ?_; intro v4 w4 ho4 hg4 hb4)
   go_roundw
   case rel =>
    refine ⟨k + 1, by omega, by go_num, ?_, hb4 w HB2.out⟩
    unfold OwnS
    rw [map_take_snoc HXK.out, ← List.append_assoc, List.length_append, HLEN.out, strL_append]
    exact ho4
   case measure => simp [RowKit.intOf]; omega
  ·obtain rfl : k = xs.length := by omega
   have HOE : Hid (OwnS base wr u0 (us ++ xs.map Ar.entryLine)) := hid (by have := HO.out; rwa [List.take_length] at this)
   go_wp2_with fail
   go_ret
   exact ⟨⟨_, rfl, HOE.out⟩, HB.out⟩
theorem lines_receipt (vo : Value) (us : List (List UInt8)) (base : Nat) (A : Option Addr) (cap : Nat) (xs : List (List UInt8 × Int × Int × Int)) (w : World) (ho : OwnS base w vo us) (hbs : base ≤ w.heap.size) (hR : Rd w A (xs.length * 4) (xs.flatMap recC)) (hlo : 0 < xs.length → ∀ a, A = some a → a.block < base) (hx : ∀ x ∈ xs, x.1.length ≤ 1000000 ∧ Ar.inInt x.2.1 ∧ Ar.inInt x.2.2.1 ∧ Ar.inInt x.2.2.2) (hl : us.length + xs.length ≤ 1000000) :
  Calls Tryz.prog 70 #[vo, .slice A xs.length cap, .func (.func 71) #[] #[]] w fun e w' => (∃ v', e = .returned v' ∧ OwnS base w' v' (us ++ xs.map Ar.receiptLine)) ∧ Below base w w' := by
 obtain ⟨A0, cap0, rfl⟩ := own_any ho
 have HO := hid ho
 have HR := hid hR
 have HX := hid hx
 have HLO := hid hlo
 clear ho hR hx hlo
 go_enter Tryz.func70, Tryz.ntmps70
 go_wp2_with fail
 go_loopw [0, 11] (fun out ix wr => ∃ k : Nat, k ≤ xs.length ∧ ix = .int .i64 k ∧ OwnS base wr out (us ++ (xs.take k).map Ar.receiptLine) ∧ Below base w wr) (fun _ ix _ => xs.length - (RowKit.intOf ix).toNat)
 case atStart => exact ⟨0, by omega, rfl, by simpa using HO.out, Below.refl _ _⟩
 case round =>
  obtain ⟨k, hk, rfl, ho, hb⟩ := hrel
  have HO := hid ho
  have HB := hid hb
  have hws := hb.size
  clear ho hb
  by_cases hlt : k < xs.length
  ·obtain ⟨ba, oa, x, rfl, hx, hcs⟩ := Rd.el_at (el := recC) (sz := 4) (fun _ => rfl) (HR.out.low HB.out (HLO.out (by omega))) (by decide) hlt
   have hc0 := hcs 0 _ rfl
   have hc1 := hcs 1 _ rfl
   have hc2 := hcs 2 _ rfl
   have hc3 := hcs 3 _ rfl
   rw [Nat.add_zero] at hc0
   have HXK := hid hx
   have HXO := hid (HX.out x (List.mem_of_getElem? hx))
   have HLEN : Hid ((us ++ (xs.take k).map Ar.receiptLine).length = us.length + k) := hid (by rw [List.length_append, List.length_map, List.length_take]; omega)
   clear hx hcs
   go_wp2_with fail
   refine (receiptline_any x.1 x.2.1 x.2.2.1 x.2.2.2 _ HXO.out.1 HXO.out.2.1 HXO.out.2.2.1 HXO.out.2.2.2).mono ?_
   rintro e w2 ⟨rfl, hb2⟩
   have HB2 := hid ((HB.out.alloc (Nat.le_trans hbs hws) (.cells #[.string (bstr x.1), .int .i64 x.2.1, .int .i64 x.2.2.1, .int .i64 x.2.2.2] 105)).trans (hb2.mono (by rw [World.size_alloc]; omega)))
   have hbs2 := HB2.out.size
   have HO2 : Hid (OwnS base w2 u0 (us ++ (xs.take k).map Ar.receiptLine)) := hid (own_below (HO.out.alloc _) hb2 (Nat.le_refl _))
   clear hb2
   go_wp2_with (at_builtin; refine app_lit rowStr rfl _ _ rfl w2 (strL [Ar.receiptLine x]) 1 rfl (one_strs [Ar.receiptLine x]) u0 (us.length + k) (strL (us ++ (xs.take k).map Ar.receiptLine)) base rfl (by have := HO2.out; unfold OwnS at this; rw [HLEN.out] at this; exact this) rfl (by omega) (by omega) ?_; intro v4 w4 ho4 hg4 hb4)
   go_roundw
   case rel =>
    refine ⟨k + 1, by omega, by go_num, ?_, hb4 w HB2.out⟩
    unfold OwnS
    rw [map_take_snoc HXK.out, ← List.append_assoc, List.length_append, HLEN.out, strL_append]
    exact ho4
   case measure => simp [RowKit.intOf]; omega
  ·obtain rfl : k = xs.length := by omega
   have HOE : Hid (OwnS base wr u0 (us ++ xs.map Ar.receiptLine)) := hid (by have := HO.out; rwa [List.take_length] at this)
   go_wp2_with fail
   go_ret
   exact ⟨⟨_, rfl, HOE.out⟩, HB.out⟩
theorem lines_typing (vo : Value) (us : List (List UInt8)) (base : Nat) (A : Option Addr) (cap : Nat) (xs : List (List UInt8 × Int)) (w : World) (ho : OwnS base w vo us) (hbs : base ≤ w.heap.size) (hR : Rd w A (xs.length * 2) (xs.flatMap typC)) (hlo : 0 < xs.length → ∀ a, A = some a → a.block < base) (hx : ∀ x ∈ xs, x.1.length ≤ 1000000 ∧ Ar.inInt x.2) (hl : us.length + xs.length ≤ 1000000) :
  Calls Tryz.prog 72 #[vo, .slice A xs.length cap, .func (.func 73) #[] #[]] w fun e w' => (∃ v', e = .returned v' ∧ OwnS base w' v' (us ++ xs.map Ar.typingLine)) ∧ Below base w w' := by
 obtain ⟨A0, cap0, rfl⟩ := own_any ho
 have HO := hid ho
 have HR := hid hR
 have HX := hid hx
 have HLO := hid hlo
 clear ho hR hx hlo
 go_enter Tryz.func72, Tryz.ntmps72
 go_wp2_with fail
 go_loopw [0, 11] (fun out ix wr => ∃ k : Nat, k ≤ xs.length ∧ ix = .int .i64 k ∧ OwnS base wr out (us ++ (xs.take k).map Ar.typingLine) ∧ Below base w wr) (fun _ ix _ => xs.length - (RowKit.intOf ix).toNat)
 case atStart => exact ⟨0, by omega, rfl, by simpa using HO.out, Below.refl _ _⟩
 case round =>
  obtain ⟨k, hk, rfl, ho, hb⟩ := hrel
  have HO := hid ho
  have HB := hid hb
  have hws := hb.size
  clear ho hb
  by_cases hlt : k < xs.length
  ·obtain ⟨ba, oa, x, rfl, hx, hcs⟩ := Rd.el_at (el := typC) (sz := 2) (fun _ => rfl) (HR.out.low HB.out (HLO.out (by omega))) (by decide) hlt
   have hc0 := hcs 0 _ rfl
   have hc1 := hcs 1 _ rfl
   rw [Nat.add_zero] at hc0
   have HXK := hid hx
   have HXO := hid (HX.out x (List.mem_of_getElem? hx))
   have HLEN : Hid ((us ++ (xs.take k).map Ar.typingLine).length = us.length + k) := hid (by rw [List.length_append, List.length_map, List.length_take]; omega)
   clear hx hcs
   go_wp2_with fail
   refine (typingline_any x.1 x.2 _ HXO.out.1 HXO.out.2).mono ?_
   rintro e w2 ⟨rfl, hb2⟩
   have HB2 := hid ((HB.out.alloc (Nat.le_trans hbs hws) (.cells #[.string (bstr x.1), .int .i64 x.2] 107)).trans (hb2.mono (by rw [World.size_alloc]; omega)))
   have hbs2 := HB2.out.size
   have HO2 : Hid (OwnS base w2 u0 (us ++ (xs.take k).map Ar.typingLine)) := hid (own_below (HO.out.alloc _) hb2 (Nat.le_refl _))
   clear hb2
   go_wp2_with (at_builtin; refine app_lit rowStr rfl _ _ rfl w2 (strL [Ar.typingLine x]) 1 rfl (one_strs [Ar.typingLine x]) u0 (us.length + k) (strL (us ++ (xs.take k).map Ar.typingLine)) base rfl (by have := HO2.out; unfold OwnS at this; rw [HLEN.out] at this; exact this) rfl (by omega) (by omega) ?_; intro v4 w4 ho4 hg4 hb4)
   go_roundw
   case rel =>
    refine ⟨k + 1, by omega, by go_num, ?_, hb4 w HB2.out⟩
    unfold OwnS
    rw [map_take_snoc HXK.out, ← List.append_assoc, List.length_append, HLEN.out, strL_append]
    exact ho4
   case measure => simp [RowKit.intOf]; omega
  ·obtain rfl : k = xs.length := by omega
   have HOE : Hid (OwnS base wr u0 (us ++ xs.map Ar.typingLine)) := hid (by have := HO.out; rwa [List.take_length] at this)
   go_wp2_with fail
   go_ret
   exact ⟨⟨_, rfl, HOE.out⟩, HB.out⟩
end Go.Proofs.YteadlcncnhbmjaaGreatDoor
