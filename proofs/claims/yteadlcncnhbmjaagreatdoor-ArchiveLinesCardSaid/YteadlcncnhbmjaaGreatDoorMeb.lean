/- The texts Cx5, Cx6, Cx7, Cx8, Cx9 of this proof, one behind the other. -/
import Derived.Deep.MidRow
import Derived.Test.YteadlcncnhbmjaaGreatDoorMea
import Derived.Test.YteadlcncnhbmjaaGreatDoorMat
import Derived.Test.YteadlcncnhbmjaaGreatDoorMam
set_option linter.unusedSimpArgs false
set_option linter.unusedVariables false
/- The walks of the reference's field. Written by gencx5.py. -/
namespace Go.Proofs.YteadlcncnhbmjaaGreatDoor
open Go.RowKit Go.Lib
set_option linter.unusedVariables false
set_option linter.unusedSimpArgs false
section
variable {P : Program} {ops : Array Oper} {rest : List Oper} {o : Oper} {a : Act} {w : World} {Q : Exit → Act → World → Prop}
/-- a row is stored; the other blocks are as they were -/
theorem wpList_store_rowk (hgd : o.guard = none) (ty : TypeId) (x y : Operand) (ho : o.op = .store ty x y)
    (g : Nat) (cells : Array Value) (hx : a.eval x = .pointer (some ⟨g, 0, none⟩)) (hy : a.eval y = .agg cells)
    (t : TypeId) (old : Array Value) (hg : Blk w g t old) (hi : (P.info? ty).map (·.size) = some cells.size)
    (hold : old.size = cells.size) (h1 : cells.all (·.oneCell') = true)
    (h : ∀ w', Blk w' g t cells → w'.heap.size = w.heap.size → (∀ B, B ≤ g → Below B w w') → (∀ k, k ≠ g → w'.heap[k]? = w.heap[k]?) → wpList P ops Q rest (a.put o.dst undef) w') : wpList P ops Q (o :: rest) a w :=
  wpList_store_row hgd ty x y ho g cells hx hy t old hg hi hold h1
    (h _ (setRow_heap _ _ _ _ _ _ hg) (setRow_size _ _ _) (fun _ hB => below_setRow (Below.refl _ _) hB _) (fun k hk => setRow_other _ _ _ _ hk))
end
/-- blocks that are neither the event's own nor the result's -/
abbrev okF (ok : Nat → Prop) (n : Nat) : Nat → Prop := fun b => (ok b ∧ b < n) ∨ n + 2 ≤ b
abbrev okN (ok : Nat → Prop) (n : Nat) : Nat → Prop := fun b => ok b ∨ n ≤ b
def FdA (ok : Nat → Prop) (n : Nat) (i : Nat) (s : List UInt8) (e : List Ar.FV) (r : Ending) (w' : World) : Prop := (∃ v t cells', Ar.xfield i s = some (v, t) ∧ r = .returned (.tuple #[.agg cells', .string (bstr t), .bool true]) ∧ EvOf (okN ok n) w' cells' (e.set i v)) ∨ (Ar.xfield i s = none ∧ ∃ cells' X, r = .returned (.tuple #[.agg cells', .string X, .bool false]) ∧ cells'.size = 29 ∧ cells'.all (·.oneCell') = true)
theorem EvOf.toF {ok : Nat → Prop} {w W : World} {cells : Array Value} {e : List Ar.FV} (h : EvOf ok w cells e) (hb : Below w.heap.size w W) : EvOf (okF ok w.heap.size) W cells e := h.keep fun b ho hlt => ⟨.inl ⟨ho, hlt⟩, hb.block b hlt⟩
theorem EvOf.toB {ok : Nat → Prop} {n : Nat} {w : World} {cells : Array Value} {e : List Ar.FV} (h : EvOf (okF ok n) w cells e) : EvOf (okN ok n) w cells e := h.keep fun b ho _ => ⟨by rcases ho with ho | ho; exact .inl ho.1; exact .inr (by omega), rfl⟩
theorem EvOf.others {ok : Nat → Prop} {n : Nat} {w W : World} {cells : Array Value} {e : List Ar.FV} (h : EvOf (okF ok n) w cells e) (hk : ∀ k, k ≠ n → k ≠ n + 1 → W.heap[k]? = w.heap[k]?) : EvOf (okF ok n) W cells e := h.keep fun b hb _ => ⟨hb, hk b (by rcases hb with h | h <;> omega) (by rcases hb with h | h <;> omega)⟩
theorem xfield_eq {i : Nat} {s : List UInt8} (hi : Ar.isFlg (Ar.kindAt i) = false) : Ar.xfield i s = (Ar.xsign 61 s).bind fun r => Ar.xreadK (Ar.kindAt i) r := by
  unfold Ar.xfield; rw [hi]; rfl
set_option maxHeartbeats 8000000 in
set_option maxRecDepth 100000 in
theorem field_1 (ok : Nat → Prop) (cells : Array Value) (e : List Ar.FV) (s : List UInt8) (w : World) (h : EvOf ok w cells e) (hs : s.length ≤ 1000000) : Calls Tryz.prog 57 #[.agg cells, .int .i64 1, .string (bstr s)] w fun r w' => FdA ok w.heap.size 1 s e r w' ∧ Below w.heap.size w w' := by
  have HS : Hid (∀ k c, (Tryz.prog.info? 40).map (·.size) = some (cells.setIfInBounds k c).size) := Lib.hid (fun k c => by rw [Array.size_setIfInBounds, size_event, h.size])
  have HS0 : Hid ((Tryz.prog.info? 40).map (·.size) = some cells.size) := Lib.hid (by rw [size_event, h.size])
  have HZ : Hid (∀ k c, zeroEv.size = (cells.setIfInBounds k c).size) := Lib.hid (fun k c => by rw [Array.size_setIfInBounds, h.size]; rfl)
  have HZ0 : Hid (zeroEv.size = cells.size) := Lib.hid (by rw [h.size]; rfl)
  have HO0 := Lib.hid h.one
  have HX := Lib.hid h
  have HSG := Lib.hid (fun W => sign_any s 61 W hs)
  rw [show (((61 : UInt8).toNat : Nat) : Int) = 61 from rfl] at HSG
  have HXF := Lib.hid (xfield_eq (i := 1) (s := s) rfl)
  clear h
  go_enter Tryz.func57, Tryz.ntmps57
  go_wp2_with fail
  refine (HSG.out _).mono ?_
  rintro r w1 ⟨hsg, rfl⟩
  rcases hsg with ⟨r1, hr1, rfl⟩ | ⟨hr1, rfl⟩
  · have HR1 := Lib.hid hr1
    have hrl := Ar.xsign_len hr1
    have HUQ := Lib.hid (fun W => runq_any r1 W (by omega))
    clear hr1
    generalize hRB : bstr r1 = RB at *
    go_wp2_with fail
    refine (HUQ.out _).mono ?_
    rintro r w5 ⟨hone, hb5⟩
    have HK5 := Lib.hid (Blk.below ((Blk.new w 40 cells).alloc _) hb5 (by rw [World.size_alloc, World.size_alloc]; omega))
    have HR5 := Lib.hid (Blk.below (blk_n1 w _ 40 _) hb5 (by rw [World.size_alloc, World.size_alloc]; omega))
    have HB5 : Hid (Below w.heap.size w w5) := Lib.hid ((((Below.refl w.heap.size w).alloc (Nat.le_refl _) _).alloc (by rw [World.size_alloc]; exact Nat.le_succ _) _).trans (hb5.mono (by rw [World.size_alloc, World.size_alloc]; omega)))
    have HE5 := Lib.hid (HX.out.toF HB5.out)
    obtain ⟨ci, hci, _⟩ := HX.out.cell 1 _ (List.getElem?_eq_getElem (by rw [HX.out.len]; omega))
    have hc5 := (HK5.out.cell 1).trans hci
    have hf5 := HK5.out.frozen 1
    rcases hone with ⟨x, t, hxt, rfl⟩ | ⟨hno, rfl⟩
    · have HSO : Hid (Ar.xfield 1 s = some (.txt x, t)) := Lib.hid (by rw [HXF.out, HR1.out]; show (Ar.unquote r1).map _ = _; rw [hxt]; rfl)
      clear hxt
      have HK6 := Lib.hid (HK5.out.set_ 1 (.string (bstr x)))
      have HR6 := Lib.hid (HR5.out.grown (grown_set w5 w.heap.size 1 (.string (bstr x))) (by simp))
      have HE6 : Hid (EvOf (okF ok w.heap.size) (w5.setCell ⟨w.heap.size, 1, none⟩ (.string (bstr x))) (cells.setIfInBounds 1 (.string (bstr x))) (e.set 1 (.txt x))) := Lib.hid ((HE5.out.setv (by omega) (Ar.xfield_fits HSO.out) rfl).others (fun k h1 h2 => Below.heap_setCell w5 ⟨w.heap.size, 1, none⟩ _ k h1))
      have HO6 := Lib.hid HE6.out.one
      have HB6 : Hid (Below w.heap.size w (w5.setCell ⟨w.heap.size, 1, none⟩ (.string (bstr x)))) := Lib.hid (HB5.out.setCell (Nat.le_refl _) _)
      go_wp2_with (first
        | (refine wpList_load_row rfl 40 _ rfl w.heap.size rfl 40 (cells.setIfInBounds 1 (.string (bstr x))) (0, 0) _ HK6.out Tryz.underlying40 rfl (HS.out 1 (.string (bstr x))) ?_)
        | ((with_reducible refine wpList_store_rowk rfl 40 _ _ rfl (w.heap.size + 1) (cells.setIfInBounds 1 (.string (bstr x))) ?_ ?_ 40 _ HR6.out (HS.out 1 (.string (bstr x))) ?_ HO6.out ?_); rfl; rfl; exact HZ.out 1 (.string (bstr x)); intro w7 hk7 hs7 hbl7 hot7))
      refine bodyPost_ret (results_row_tmp2 rfl _ _ (w.heap.size + 1) _ _ _ rfl hk7 Tryz.underlying40 rfl (HS.out 1 (.string (bstr x)))) rfl ?_
      exact ⟨.inl ⟨_, _, _, HSO.out, rfl, (HE6.out.others fun k _ h2 => hot7 k h2).toB⟩, HB6.out.trans (hbl7 w.heap.size (Nat.le_succ _))⟩
    · have HNO : Hid (Ar.xfield 1 s = none) := Lib.hid (by rw [HXF.out, HR1.out]; show (Ar.unquote r1).map _ = _; rw [hno]; rfl)
      clear hno
      have HK6 := Lib.hid (HK5.out.set_ 1 (.string ⟨#[]⟩))
      have HR6 := Lib.hid (HR5.out.grown (grown_set w5 w.heap.size 1 (.string ⟨#[]⟩)) (by simp))
      have HE6 : Hid (EvOf (okF ok w.heap.size) (w5.setCell ⟨w.heap.size, 1, none⟩ (.string ⟨#[]⟩)) (cells.setIfInBounds 1 (.string ⟨#[]⟩)) (e.set 1 (.txt []))) := Lib.hid ((HE5.out.setv (by omega) ⟨rfl, (show Ar.FV.Ok (.txt []) from trivial)⟩ rfl).others (fun k h1 h2 => Below.heap_setCell w5 ⟨w.heap.size, 1, none⟩ _ k h1))
      have HO6 := Lib.hid HE6.out.one
      have HB6 : Hid (Below w.heap.size w (w5.setCell ⟨w.heap.size, 1, none⟩ (.string ⟨#[]⟩))) := Lib.hid (HB5.out.setCell (Nat.le_refl _) _)
      go_wp2_with (first
        | (refine wpList_load_row rfl 40 _ rfl w.heap.size rfl 40 (cells.setIfInBounds 1 (.string ⟨#[]⟩)) (0, 0) _ HK6.out Tryz.underlying40 rfl (HS.out 1 (.string ⟨#[]⟩)) ?_)
        | ((with_reducible refine wpList_store_rowk rfl 40 _ _ rfl (w.heap.size + 1) (cells.setIfInBounds 1 (.string ⟨#[]⟩)) ?_ ?_ 40 _ HR6.out (HS.out 1 (.string ⟨#[]⟩)) ?_ HO6.out ?_); rfl; rfl; exact HZ.out 1 (.string ⟨#[]⟩); intro w7 hk7 hs7 hbl7 hot7))
      refine bodyPost_ret (results_row_tmp2 rfl _ _ (w.heap.size + 1) _ _ _ rfl hk7 Tryz.underlying40 rfl (HS.out 1 (.string ⟨#[]⟩))) rfl ?_
      exact ⟨.inr ⟨HNO.out, _, _, rfl, HE6.out.size, HO6.out⟩, HB6.out.trans (hbl7 w.heap.size (Nat.le_succ _))⟩
  · have HNO : Hid (Ar.xfield 1 s = none) := Lib.hid (by rw [HXF.out, hr1]; rfl)
    clear hr1
    go_wp2_with (first
      | (refine wpList_load_row rfl 40 _ rfl w.heap.size rfl 40 cells (0, 0) _ ((Blk.new w 40 cells).alloc _) Tryz.underlying40 rfl HS0.out ?_)
      | ((with_reducible refine wpList_store_rowk rfl 40 _ _ rfl (w.heap.size + 1) cells ?_ ?_ 40 _ (blk_n1 w _ 40 _) HS0.out ?_ HO0.out ?_); rfl; rfl; exact HZ0.out; intro w6 hk6 hs6 hbl6 hot6))
    have HB6 : Hid (Below w.heap.size w w6) := Lib.hid ((((Below.refl w.heap.size w).alloc (Nat.le_refl _) _).alloc (by rw [World.size_alloc]; exact Nat.le_succ _) _).trans (hbl6 w.heap.size (Nat.le_succ _)))
    refine bodyPost_ret (results_row_tmp2 rfl _ _ (w.heap.size + 1) _ _ _ rfl hk6 Tryz.underlying40 rfl HS0.out) rfl ?_
    exact ⟨.inr ⟨HNO.out, _, _, rfl, HX.out.size, HO0.out⟩, HB6.out⟩
set_option maxHeartbeats 8000000 in
set_option maxRecDepth 100000 in
theorem field_2 (ok : Nat → Prop) (cells : Array Value) (e : List Ar.FV) (s : List UInt8) (w : World) (h : EvOf ok w cells e) (hs : s.length ≤ 1000000) : Calls Tryz.prog 57 #[.agg cells, .int .i64 2, .string (bstr s)] w fun r w' => FdA ok w.heap.size 2 s e r w' ∧ Below w.heap.size w w' := by
  have HS : Hid (∀ k c, (Tryz.prog.info? 40).map (·.size) = some (cells.setIfInBounds k c).size) := Lib.hid (fun k c => by rw [Array.size_setIfInBounds, size_event, h.size])
  have HS0 : Hid ((Tryz.prog.info? 40).map (·.size) = some cells.size) := Lib.hid (by rw [size_event, h.size])
  have HZ : Hid (∀ k c, zeroEv.size = (cells.setIfInBounds k c).size) := Lib.hid (fun k c => by rw [Array.size_setIfInBounds, h.size]; rfl)
  have HZ0 : Hid (zeroEv.size = cells.size) := Lib.hid (by rw [h.size]; rfl)
  have HO0 := Lib.hid h.one
  have HX := Lib.hid h
  have HSG := Lib.hid (fun W => sign_any s 61 W hs)
  rw [show (((61 : UInt8).toNat : Nat) : Int) = 61 from rfl] at HSG
  have HXF := Lib.hid (xfield_eq (i := 2) (s := s) rfl)
  clear h
  go_enter Tryz.func57, Tryz.ntmps57
  go_wp2_with fail
  refine (HSG.out _).mono ?_
  rintro r w1 ⟨hsg, rfl⟩
  rcases hsg with ⟨r1, hr1, rfl⟩ | ⟨hr1, rfl⟩
  · have HR1 := Lib.hid hr1
    have hrl := Ar.xsign_len hr1
    have HUQ := Lib.hid (fun W => runq_any r1 W (by omega))
    clear hr1
    generalize hRB : bstr r1 = RB at *
    go_wp2_with fail
    refine (HUQ.out _).mono ?_
    rintro r w5 ⟨hone, hb5⟩
    have HK5 := Lib.hid (Blk.below ((Blk.new w 40 cells).alloc _) hb5 (by rw [World.size_alloc, World.size_alloc]; omega))
    have HR5 := Lib.hid (Blk.below (blk_n1 w _ 40 _) hb5 (by rw [World.size_alloc, World.size_alloc]; omega))
    have HB5 : Hid (Below w.heap.size w w5) := Lib.hid ((((Below.refl w.heap.size w).alloc (Nat.le_refl _) _).alloc (by rw [World.size_alloc]; exact Nat.le_succ _) _).trans (hb5.mono (by rw [World.size_alloc, World.size_alloc]; omega)))
    have HE5 := Lib.hid (HX.out.toF HB5.out)
    obtain ⟨ci, hci, _⟩ := HX.out.cell 2 _ (List.getElem?_eq_getElem (by rw [HX.out.len]; omega))
    have hc5 := (HK5.out.cell 2).trans hci
    have hf5 := HK5.out.frozen 2
    rcases hone with ⟨x, t, hxt, rfl⟩ | ⟨hno, rfl⟩
    · have HSO : Hid (Ar.xfield 2 s = some (.txt x, t)) := Lib.hid (by rw [HXF.out, HR1.out]; show (Ar.unquote r1).map _ = _; rw [hxt]; rfl)
      clear hxt
      have HK6 := Lib.hid (HK5.out.set_ 2 (.string (bstr x)))
      have HR6 := Lib.hid (HR5.out.grown (grown_set w5 w.heap.size 2 (.string (bstr x))) (by simp))
      have HE6 : Hid (EvOf (okF ok w.heap.size) (w5.setCell ⟨w.heap.size, 2, none⟩ (.string (bstr x))) (cells.setIfInBounds 2 (.string (bstr x))) (e.set 2 (.txt x))) := Lib.hid ((HE5.out.setv (by omega) (Ar.xfield_fits HSO.out) rfl).others (fun k h1 h2 => Below.heap_setCell w5 ⟨w.heap.size, 2, none⟩ _ k h1))
      have HO6 := Lib.hid HE6.out.one
      have HB6 : Hid (Below w.heap.size w (w5.setCell ⟨w.heap.size, 2, none⟩ (.string (bstr x)))) := Lib.hid (HB5.out.setCell (Nat.le_refl _) _)
      go_wp2_with (first
        | (refine wpList_load_row rfl 40 _ rfl w.heap.size rfl 40 (cells.setIfInBounds 2 (.string (bstr x))) (0, 0) _ HK6.out Tryz.underlying40 rfl (HS.out 2 (.string (bstr x))) ?_)
        | ((with_reducible refine wpList_store_rowk rfl 40 _ _ rfl (w.heap.size + 1) (cells.setIfInBounds 2 (.string (bstr x))) ?_ ?_ 40 _ HR6.out (HS.out 2 (.string (bstr x))) ?_ HO6.out ?_); rfl; rfl; exact HZ.out 2 (.string (bstr x)); intro w7 hk7 hs7 hbl7 hot7))
      refine bodyPost_ret (results_row_tmp2 rfl _ _ (w.heap.size + 1) _ _ _ rfl hk7 Tryz.underlying40 rfl (HS.out 2 (.string (bstr x)))) rfl ?_
      exact ⟨.inl ⟨_, _, _, HSO.out, rfl, (HE6.out.others fun k _ h2 => hot7 k h2).toB⟩, HB6.out.trans (hbl7 w.heap.size (Nat.le_succ _))⟩
    · have HNO : Hid (Ar.xfield 2 s = none) := Lib.hid (by rw [HXF.out, HR1.out]; show (Ar.unquote r1).map _ = _; rw [hno]; rfl)
      clear hno
      have HK6 := Lib.hid (HK5.out.set_ 2 (.string ⟨#[]⟩))
      have HR6 := Lib.hid (HR5.out.grown (grown_set w5 w.heap.size 2 (.string ⟨#[]⟩)) (by simp))
      have HE6 : Hid (EvOf (okF ok w.heap.size) (w5.setCell ⟨w.heap.size, 2, none⟩ (.string ⟨#[]⟩)) (cells.setIfInBounds 2 (.string ⟨#[]⟩)) (e.set 2 (.txt []))) := Lib.hid ((HE5.out.setv (by omega) ⟨rfl, (show Ar.FV.Ok (.txt []) from trivial)⟩ rfl).others (fun k h1 h2 => Below.heap_setCell w5 ⟨w.heap.size, 2, none⟩ _ k h1))
      have HO6 := Lib.hid HE6.out.one
      have HB6 : Hid (Below w.heap.size w (w5.setCell ⟨w.heap.size, 2, none⟩ (.string ⟨#[]⟩))) := Lib.hid (HB5.out.setCell (Nat.le_refl _) _)
      go_wp2_with (first
        | (refine wpList_load_row rfl 40 _ rfl w.heap.size rfl 40 (cells.setIfInBounds 2 (.string ⟨#[]⟩)) (0, 0) _ HK6.out Tryz.underlying40 rfl (HS.out 2 (.string ⟨#[]⟩)) ?_)
        | ((with_reducible refine wpList_store_rowk rfl 40 _ _ rfl (w.heap.size + 1) (cells.setIfInBounds 2 (.string ⟨#[]⟩)) ?_ ?_ 40 _ HR6.out (HS.out 2 (.string ⟨#[]⟩)) ?_ HO6.out ?_); rfl; rfl; exact HZ.out 2 (.string ⟨#[]⟩); intro w7 hk7 hs7 hbl7 hot7))
      refine bodyPost_ret (results_row_tmp2 rfl _ _ (w.heap.size + 1) _ _ _ rfl hk7 Tryz.underlying40 rfl (HS.out 2 (.string ⟨#[]⟩))) rfl ?_
      exact ⟨.inr ⟨HNO.out, _, _, rfl, HE6.out.size, HO6.out⟩, HB6.out.trans (hbl7 w.heap.size (Nat.le_succ _))⟩
  · have HNO : Hid (Ar.xfield 2 s = none) := Lib.hid (by rw [HXF.out, hr1]; rfl)
    clear hr1
    go_wp2_with (first
      | (refine wpList_load_row rfl 40 _ rfl w.heap.size rfl 40 cells (0, 0) _ ((Blk.new w 40 cells).alloc _) Tryz.underlying40 rfl HS0.out ?_)
      | ((with_reducible refine wpList_store_rowk rfl 40 _ _ rfl (w.heap.size + 1) cells ?_ ?_ 40 _ (blk_n1 w _ 40 _) HS0.out ?_ HO0.out ?_); rfl; rfl; exact HZ0.out; intro w6 hk6 hs6 hbl6 hot6))
    have HB6 : Hid (Below w.heap.size w w6) := Lib.hid ((((Below.refl w.heap.size w).alloc (Nat.le_refl _) _).alloc (by rw [World.size_alloc]; exact Nat.le_succ _) _).trans (hbl6 w.heap.size (Nat.le_succ _)))
    refine bodyPost_ret (results_row_tmp2 rfl _ _ (w.heap.size + 1) _ _ _ rfl hk6 Tryz.underlying40 rfl HS0.out) rfl ?_
    exact ⟨.inr ⟨HNO.out, _, _, rfl, HX.out.size, HO0.out⟩, HB6.out⟩
set_option maxHeartbeats 8000000 in
set_option maxRecDepth 100000 in
theorem field_4 (ok : Nat → Prop) (cells : Array Value) (e : List Ar.FV) (s : List UInt8) (w : World) (h : EvOf ok w cells e) (hs : s.length ≤ 1000000) : Calls Tryz.prog 57 #[.agg cells, .int .i64 4, .string (bstr s)] w fun r w' => FdA ok w.heap.size 4 s e r w' ∧ Below w.heap.size w w' := by
  have HS : Hid (∀ k c, (Tryz.prog.info? 40).map (·.size) = some (cells.setIfInBounds k c).size) := Lib.hid (fun k c => by rw [Array.size_setIfInBounds, size_event, h.size])
  have HZ : Hid (∀ k c, zeroEv.size = (cells.setIfInBounds k c).size) := Lib.hid (fun k c => by rw [Array.size_setIfInBounds, h.size]; rfl)
  have HX := Lib.hid h
  clear h
  have HSO : Hid (Ar.xfield 4 s = some (.flg true, s)) := Lib.hid (by unfold Ar.xfield; rfl)
  have HV : Hid (EvOf ok w (cells.setIfInBounds 4 (.bool true)) (e.set 4 (.flg true))) := Lib.hid (HX.out.setv (by omega) (Ar.xfield_fits HSO.out) rfl)
  have HO := Lib.hid HV.out.one
  obtain ⟨ci, hci, _⟩ := HX.out.cell 4 _ (List.getElem?_eq_getElem (by rw [HX.out.len]; omega))
  go_enter Tryz.func57, Tryz.ntmps57
  go_wp2_with (first
    | (refine wpList_load_row rfl 40 _ rfl w.heap.size rfl 40 (cells.setIfInBounds 4 (.bool true)) (0, 0) _ ((Blk.new w 40 (cells.setIfInBounds 4 (.bool true))).alloc _) Tryz.underlying40 rfl (HS.out 4 (.bool true)) ?_)
    | ((with_reducible refine wpList_store_rowk rfl 40 _ _ rfl (w.heap.size + 1) (cells.setIfInBounds 4 (.bool true)) ?_ ?_ 40 _ (blk_n1 w _ 40 _) (HS.out 4 (.bool true)) ?_ HO.out ?_); rfl; rfl; exact HZ.out 4 (.bool true); intro w4 hk4 hs4 hbl4 hot4))
  have HB : Hid (Below w.heap.size w w4) := Lib.hid ((((Below.refl w.heap.size w).alloc (Nat.le_refl _) _).alloc (by rw [World.size_alloc]; exact Nat.le_succ _) _).trans (hbl4 w.heap.size (Nat.le_succ _)))
  refine bodyPost_ret (results_row_tmp2 rfl _ _ (w.heap.size + 1) _ _ _ rfl hk4 Tryz.underlying40 rfl (HS.out 4 (.bool true))) rfl ?_
  exact ⟨.inl ⟨_, _, _, HSO.out, rfl, HV.out.keep fun b hb hlt => ⟨.inl hb, HB.out.block b hlt⟩⟩, HB.out⟩
set_option maxHeartbeats 8000000 in
set_option maxRecDepth 100000 in
theorem field_5 (ok : Nat → Prop) (cells : Array Value) (e : List Ar.FV) (s : List UInt8) (w : World) (h : EvOf ok w cells e) (hs : s.length ≤ 1000000) : Calls Tryz.prog 57 #[.agg cells, .int .i64 5, .string (bstr s)] w fun r w' => FdA ok w.heap.size 5 s e r w' ∧ Below w.heap.size w w' := by
  have HS : Hid (∀ k c, (Tryz.prog.info? 40).map (·.size) = some (cells.setIfInBounds k c).size) := Lib.hid (fun k c => by rw [Array.size_setIfInBounds, size_event, h.size])
  have HS0 : Hid ((Tryz.prog.info? 40).map (·.size) = some cells.size) := Lib.hid (by rw [size_event, h.size])
  have HZ : Hid (∀ k c, zeroEv.size = (cells.setIfInBounds k c).size) := Lib.hid (fun k c => by rw [Array.size_setIfInBounds, h.size]; rfl)
  have HZ0 : Hid (zeroEv.size = cells.size) := Lib.hid (by rw [h.size]; rfl)
  have HO0 := Lib.hid h.one
  have HX := Lib.hid h
  have HSG := Lib.hid (fun W => sign_any s 61 W hs)
  rw [show (((61 : UInt8).toNat : Nat) : Int) = 61 from rfl] at HSG
  have HXF := Lib.hid (xfield_eq (i := 5) (s := s) rfl)
  clear h
  go_enter Tryz.func57, Tryz.ntmps57
  go_wp2_with fail
  refine (HSG.out _).mono ?_
  rintro r w1 ⟨hsg, rfl⟩
  rcases hsg with ⟨r1, hr1, rfl⟩ | ⟨hr1, rfl⟩
  · have HR1 := Lib.hid hr1
    have hrl := Ar.xsign_len hr1
    have HUQ := Lib.hid (fun W => runq_any r1 W (by omega))
    clear hr1
    generalize hRB : bstr r1 = RB at *
    go_wp2_with fail
    refine (HUQ.out _).mono ?_
    rintro r w5 ⟨hone, hb5⟩
    have HK5 := Lib.hid (Blk.below ((Blk.new w 40 cells).alloc _) hb5 (by rw [World.size_alloc, World.size_alloc]; omega))
    have HR5 := Lib.hid (Blk.below (blk_n1 w _ 40 _) hb5 (by rw [World.size_alloc, World.size_alloc]; omega))
    have HB5 : Hid (Below w.heap.size w w5) := Lib.hid ((((Below.refl w.heap.size w).alloc (Nat.le_refl _) _).alloc (by rw [World.size_alloc]; exact Nat.le_succ _) _).trans (hb5.mono (by rw [World.size_alloc, World.size_alloc]; omega)))
    have HE5 := Lib.hid (HX.out.toF HB5.out)
    obtain ⟨ci, hci, _⟩ := HX.out.cell 5 _ (List.getElem?_eq_getElem (by rw [HX.out.len]; omega))
    have hc5 := (HK5.out.cell 5).trans hci
    have hf5 := HK5.out.frozen 5
    rcases hone with ⟨x, t, hxt, rfl⟩ | ⟨hno, rfl⟩
    · have HSO : Hid (Ar.xfield 5 s = some (.txt x, t)) := Lib.hid (by rw [HXF.out, HR1.out]; show (Ar.unquote r1).map _ = _; rw [hxt]; rfl)
      clear hxt
      have HK6 := Lib.hid (HK5.out.set_ 5 (.string (bstr x)))
      have HR6 := Lib.hid (HR5.out.grown (grown_set w5 w.heap.size 5 (.string (bstr x))) (by simp))
      have HE6 : Hid (EvOf (okF ok w.heap.size) (w5.setCell ⟨w.heap.size, 5, none⟩ (.string (bstr x))) (cells.setIfInBounds 5 (.string (bstr x))) (e.set 5 (.txt x))) := Lib.hid ((HE5.out.setv (by omega) (Ar.xfield_fits HSO.out) rfl).others (fun k h1 h2 => Below.heap_setCell w5 ⟨w.heap.size, 5, none⟩ _ k h1))
      have HO6 := Lib.hid HE6.out.one
      have HB6 : Hid (Below w.heap.size w (w5.setCell ⟨w.heap.size, 5, none⟩ (.string (bstr x)))) := Lib.hid (HB5.out.setCell (Nat.le_refl _) _)
      go_wp2_with (first
        | (refine wpList_load_row rfl 40 _ rfl w.heap.size rfl 40 (cells.setIfInBounds 5 (.string (bstr x))) (0, 0) _ HK6.out Tryz.underlying40 rfl (HS.out 5 (.string (bstr x))) ?_)
        | ((with_reducible refine wpList_store_rowk rfl 40 _ _ rfl (w.heap.size + 1) (cells.setIfInBounds 5 (.string (bstr x))) ?_ ?_ 40 _ HR6.out (HS.out 5 (.string (bstr x))) ?_ HO6.out ?_); rfl; rfl; exact HZ.out 5 (.string (bstr x)); intro w7 hk7 hs7 hbl7 hot7))
      refine bodyPost_ret (results_row_tmp2 rfl _ _ (w.heap.size + 1) _ _ _ rfl hk7 Tryz.underlying40 rfl (HS.out 5 (.string (bstr x)))) rfl ?_
      exact ⟨.inl ⟨_, _, _, HSO.out, rfl, (HE6.out.others fun k _ h2 => hot7 k h2).toB⟩, HB6.out.trans (hbl7 w.heap.size (Nat.le_succ _))⟩
    · have HNO : Hid (Ar.xfield 5 s = none) := Lib.hid (by rw [HXF.out, HR1.out]; show (Ar.unquote r1).map _ = _; rw [hno]; rfl)
      clear hno
      have HK6 := Lib.hid (HK5.out.set_ 5 (.string ⟨#[]⟩))
      have HR6 := Lib.hid (HR5.out.grown (grown_set w5 w.heap.size 5 (.string ⟨#[]⟩)) (by simp))
      have HE6 : Hid (EvOf (okF ok w.heap.size) (w5.setCell ⟨w.heap.size, 5, none⟩ (.string ⟨#[]⟩)) (cells.setIfInBounds 5 (.string ⟨#[]⟩)) (e.set 5 (.txt []))) := Lib.hid ((HE5.out.setv (by omega) ⟨rfl, (show Ar.FV.Ok (.txt []) from trivial)⟩ rfl).others (fun k h1 h2 => Below.heap_setCell w5 ⟨w.heap.size, 5, none⟩ _ k h1))
      have HO6 := Lib.hid HE6.out.one
      have HB6 : Hid (Below w.heap.size w (w5.setCell ⟨w.heap.size, 5, none⟩ (.string ⟨#[]⟩))) := Lib.hid (HB5.out.setCell (Nat.le_refl _) _)
      go_wp2_with (first
        | (refine wpList_load_row rfl 40 _ rfl w.heap.size rfl 40 (cells.setIfInBounds 5 (.string ⟨#[]⟩)) (0, 0) _ HK6.out Tryz.underlying40 rfl (HS.out 5 (.string ⟨#[]⟩)) ?_)
        | ((with_reducible refine wpList_store_rowk rfl 40 _ _ rfl (w.heap.size + 1) (cells.setIfInBounds 5 (.string ⟨#[]⟩)) ?_ ?_ 40 _ HR6.out (HS.out 5 (.string ⟨#[]⟩)) ?_ HO6.out ?_); rfl; rfl; exact HZ.out 5 (.string ⟨#[]⟩); intro w7 hk7 hs7 hbl7 hot7))
      refine bodyPost_ret (results_row_tmp2 rfl _ _ (w.heap.size + 1) _ _ _ rfl hk7 Tryz.underlying40 rfl (HS.out 5 (.string ⟨#[]⟩))) rfl ?_
      exact ⟨.inr ⟨HNO.out, _, _, rfl, HE6.out.size, HO6.out⟩, HB6.out.trans (hbl7 w.heap.size (Nat.le_succ _))⟩
  · have HNO : Hid (Ar.xfield 5 s = none) := Lib.hid (by rw [HXF.out, hr1]; rfl)
    clear hr1
    go_wp2_with (first
      | (refine wpList_load_row rfl 40 _ rfl w.heap.size rfl 40 cells (0, 0) _ ((Blk.new w 40 cells).alloc _) Tryz.underlying40 rfl HS0.out ?_)
      | ((with_reducible refine wpList_store_rowk rfl 40 _ _ rfl (w.heap.size + 1) cells ?_ ?_ 40 _ (blk_n1 w _ 40 _) HS0.out ?_ HO0.out ?_); rfl; rfl; exact HZ0.out; intro w6 hk6 hs6 hbl6 hot6))
    have HB6 : Hid (Below w.heap.size w w6) := Lib.hid ((((Below.refl w.heap.size w).alloc (Nat.le_refl _) _).alloc (by rw [World.size_alloc]; exact Nat.le_succ _) _).trans (hbl6 w.heap.size (Nat.le_succ _)))
    refine bodyPost_ret (results_row_tmp2 rfl _ _ (w.heap.size + 1) _ _ _ rfl hk6 Tryz.underlying40 rfl HS0.out) rfl ?_
    exact ⟨.inr ⟨HNO.out, _, _, rfl, HX.out.size, HO0.out⟩, HB6.out⟩
set_option maxHeartbeats 8000000 in
set_option maxRecDepth 100000 in
theorem field_8 (ok : Nat → Prop) (cells : Array Value) (e : List Ar.FV) (s : List UInt8) (w : World) (h : EvOf ok w cells e) (hs : s.length ≤ 1000000) : Calls Tryz.prog 57 #[.agg cells, .int .i64 8, .string (bstr s)] w fun r w' => FdA ok w.heap.size 8 s e r w' ∧ Below w.heap.size w w' := by
  have HS : Hid (∀ k c, (Tryz.prog.info? 40).map (·.size) = some (cells.setIfInBounds k c).size) := Lib.hid (fun k c => by rw [Array.size_setIfInBounds, size_event, h.size])
  have HS0 : Hid ((Tryz.prog.info? 40).map (·.size) = some cells.size) := Lib.hid (by rw [size_event, h.size])
  have HZ : Hid (∀ k c, zeroEv.size = (cells.setIfInBounds k c).size) := Lib.hid (fun k c => by rw [Array.size_setIfInBounds, h.size]; rfl)
  have HZ0 : Hid (zeroEv.size = cells.size) := Lib.hid (by rw [h.size]; rfl)
  have HO0 := Lib.hid h.one
  have HX := Lib.hid h
  have HSG := Lib.hid (fun W => sign_any s 61 W hs)
  rw [show (((61 : UInt8).toNat : Nat) : Int) = 61 from rfl] at HSG
  have HXF := Lib.hid (xfield_eq (i := 8) (s := s) rfl)
  clear h
  go_enter Tryz.func57, Tryz.ntmps57
  go_wp2_with fail
  refine (HSG.out _).mono ?_
  rintro r w1 ⟨hsg, rfl⟩
  rcases hsg with ⟨r1, hr1, rfl⟩ | ⟨hr1, rfl⟩
  · have HR1 := Lib.hid hr1
    have hrl := Ar.xsign_len hr1
    have HUQ := Lib.hid (fun W => rreadints_any r1 W (by omega))
    clear hr1
    generalize hRB : bstr r1 = RB at *
    go_wp2_with fail
    refine (HUQ.out _).mono ?_
    rintro r w5 ⟨hone, hb5⟩
    have HK5 := Lib.hid (Blk.below ((Blk.new w 40 cells).alloc _) hb5 (by rw [World.size_alloc, World.size_alloc]; omega))
    have HR5 := Lib.hid (Blk.below (blk_n1 w _ 40 _) hb5 (by rw [World.size_alloc, World.size_alloc]; omega))
    have HB5 : Hid (Below w.heap.size w w5) := Lib.hid ((((Below.refl w.heap.size w).alloc (Nat.le_refl _) _).alloc (by rw [World.size_alloc]; exact Nat.le_succ _) _).trans (hb5.mono (by rw [World.size_alloc, World.size_alloc]; omega)))
    have HE5 := Lib.hid (HX.out.toF HB5.out)
    obtain ⟨ci, hci, _⟩ := HX.out.cell 8 _ (List.getElem?_eq_getElem (by rw [HX.out.len]; omega))
    have hc5 := (HK5.out.cell 8).trans hci
    have hf5 := HK5.out.frozen 8
    rcases hone with ⟨l, t, vv, hxt, rfl, how⟩ | ⟨hno, rfl⟩
    · obtain ⟨A, cap, rfl⟩ := own_any how
      have HCC : Hid (CellOf (okF ok w.heap.size) w5 (.slice A l.length cap) (.nums l)) := Lib.hid (SlcOf.keep (SlcOf.of_own how) (by decide) fun b hb _ => ⟨by rw [World.size_alloc, World.size_alloc] at hb; exact .inr hb, rfl⟩)
      have HSO : Hid (Ar.xfield 8 s = some (.nums l, t)) := Lib.hid (by rw [HXF.out, HR1.out]; show (Ar.xlist Ar.xnum r1).map _ = _; rw [hxt]; rfl)
      clear hxt
      have HK6 := Lib.hid (HK5.out.set_ 8 (.slice A l.length cap))
      have HR6 := Lib.hid (HR5.out.grown (grown_set w5 w.heap.size 8 (.slice A l.length cap)) (by simp))
      have HE6 : Hid (EvOf (okF ok w.heap.size) (w5.setCell ⟨w.heap.size, 8, none⟩ (.slice A l.length cap)) (cells.setIfInBounds 8 (.slice A l.length cap)) (e.set 8 (.nums l))) := Lib.hid ((HE5.out.setv (by omega) (Ar.xfield_fits HSO.out) HCC.out).others (fun k h1 h2 => Below.heap_setCell w5 ⟨w.heap.size, 8, none⟩ _ k h1))
      have HO6 := Lib.hid HE6.out.one
      have HB6 : Hid (Below w.heap.size w (w5.setCell ⟨w.heap.size, 8, none⟩ (.slice A l.length cap))) := Lib.hid (HB5.out.setCell (Nat.le_refl _) _)
      go_wp2_with (first
        | (refine wpList_load_row rfl 40 _ rfl w.heap.size rfl 40 (cells.setIfInBounds 8 (.slice A l.length cap)) (0, 0) _ HK6.out Tryz.underlying40 rfl (HS.out 8 (.slice A l.length cap)) ?_)
        | ((with_reducible refine wpList_store_rowk rfl 40 _ _ rfl (w.heap.size + 1) (cells.setIfInBounds 8 (.slice A l.length cap)) ?_ ?_ 40 _ HR6.out (HS.out 8 (.slice A l.length cap)) ?_ HO6.out ?_); rfl; rfl; exact HZ.out 8 (.slice A l.length cap); intro w7 hk7 hs7 hbl7 hot7))
      refine bodyPost_ret (results_row_tmp2 rfl _ _ (w.heap.size + 1) _ _ _ rfl hk7 Tryz.underlying40 rfl (HS.out 8 (.slice A l.length cap))) rfl ?_
      exact ⟨.inl ⟨_, _, _, HSO.out, rfl, (HE6.out.others fun k _ h2 => hot7 k h2).toB⟩, HB6.out.trans (hbl7 w.heap.size (Nat.le_succ _))⟩
    · have HCC : Hid (CellOf (okF ok w.heap.size) w5 (.slice none 0 0) (.nums [])) := Lib.hid ⟨none, 0, rfl, ⟨rfl, fun j v hj => by cases hj⟩, fun h => absurd h (Nat.lt_irrefl 0)⟩
      have HNO : Hid (Ar.xfield 8 s = none) := Lib.hid (by rw [HXF.out, HR1.out]; show (Ar.xlist Ar.xnum r1).map _ = _; rw [hno]; rfl)
      clear hno
      have HK6 := Lib.hid (HK5.out.set_ 8 (.slice none 0 0))
      have HR6 := Lib.hid (HR5.out.grown (grown_set w5 w.heap.size 8 (.slice none 0 0)) (by simp))
      have HE6 : Hid (EvOf (okF ok w.heap.size) (w5.setCell ⟨w.heap.size, 8, none⟩ (.slice none 0 0)) (cells.setIfInBounds 8 (.slice none 0 0)) (e.set 8 (.nums []))) := Lib.hid ((HE5.out.setv (by omega) ⟨rfl, (show Ar.FV.Ok (.nums []) from (by intro n hn; cases hn))⟩ HCC.out).others (fun k h1 h2 => Below.heap_setCell w5 ⟨w.heap.size, 8, none⟩ _ k h1))
      have HO6 := Lib.hid HE6.out.one
      have HB6 : Hid (Below w.heap.size w (w5.setCell ⟨w.heap.size, 8, none⟩ (.slice none 0 0))) := Lib.hid (HB5.out.setCell (Nat.le_refl _) _)
      go_wp2_with (first
        | (refine wpList_load_row rfl 40 _ rfl w.heap.size rfl 40 (cells.setIfInBounds 8 (.slice none 0 0)) (0, 0) _ HK6.out Tryz.underlying40 rfl (HS.out 8 (.slice none 0 0)) ?_)
        | ((with_reducible refine wpList_store_rowk rfl 40 _ _ rfl (w.heap.size + 1) (cells.setIfInBounds 8 (.slice none 0 0)) ?_ ?_ 40 _ HR6.out (HS.out 8 (.slice none 0 0)) ?_ HO6.out ?_); rfl; rfl; exact HZ.out 8 (.slice none 0 0); intro w7 hk7 hs7 hbl7 hot7))
      refine bodyPost_ret (results_row_tmp2 rfl _ _ (w.heap.size + 1) _ _ _ rfl hk7 Tryz.underlying40 rfl (HS.out 8 (.slice none 0 0))) rfl ?_
      exact ⟨.inr ⟨HNO.out, _, _, rfl, HE6.out.size, HO6.out⟩, HB6.out.trans (hbl7 w.heap.size (Nat.le_succ _))⟩
  · have HNO : Hid (Ar.xfield 8 s = none) := Lib.hid (by rw [HXF.out, hr1]; rfl)
    clear hr1
    go_wp2_with (first
      | (refine wpList_load_row rfl 40 _ rfl w.heap.size rfl 40 cells (0, 0) _ ((Blk.new w 40 cells).alloc _) Tryz.underlying40 rfl HS0.out ?_)
      | ((with_reducible refine wpList_store_rowk rfl 40 _ _ rfl (w.heap.size + 1) cells ?_ ?_ 40 _ (blk_n1 w _ 40 _) HS0.out ?_ HO0.out ?_); rfl; rfl; exact HZ0.out; intro w6 hk6 hs6 hbl6 hot6))
    have HB6 : Hid (Below w.heap.size w w6) := Lib.hid ((((Below.refl w.heap.size w).alloc (Nat.le_refl _) _).alloc (by rw [World.size_alloc]; exact Nat.le_succ _) _).trans (hbl6 w.heap.size (Nat.le_succ _)))
    refine bodyPost_ret (results_row_tmp2 rfl _ _ (w.heap.size + 1) _ _ _ rfl hk6 Tryz.underlying40 rfl HS0.out) rfl ?_
    exact ⟨.inr ⟨HNO.out, _, _, rfl, HX.out.size, HO0.out⟩, HB6.out⟩
set_option maxHeartbeats 8000000 in
set_option maxRecDepth 100000 in
theorem field_9 (ok : Nat → Prop) (cells : Array Value) (e : List Ar.FV) (s : List UInt8) (w : World) (h : EvOf ok w cells e) (hs : s.length ≤ 1000000) : Calls Tryz.prog 57 #[.agg cells, .int .i64 9, .string (bstr s)] w fun r w' => FdA ok w.heap.size 9 s e r w' ∧ Below w.heap.size w w' := by
  have HS : Hid (∀ k c, (Tryz.prog.info? 40).map (·.size) = some (cells.setIfInBounds k c).size) := Lib.hid (fun k c => by rw [Array.size_setIfInBounds, size_event, h.size])
  have HS0 : Hid ((Tryz.prog.info? 40).map (·.size) = some cells.size) := Lib.hid (by rw [size_event, h.size])
  have HZ : Hid (∀ k c, zeroEv.size = (cells.setIfInBounds k c).size) := Lib.hid (fun k c => by rw [Array.size_setIfInBounds, h.size]; rfl)
  have HZ0 : Hid (zeroEv.size = cells.size) := Lib.hid (by rw [h.size]; rfl)
  have HO0 := Lib.hid h.one
  have HX := Lib.hid h
  have HSG := Lib.hid (fun W => sign_any s 61 W hs)
  rw [show (((61 : UInt8).toNat : Nat) : Int) = 61 from rfl] at HSG
  have HXF := Lib.hid (xfield_eq (i := 9) (s := s) rfl)
  clear h
  go_enter Tryz.func57, Tryz.ntmps57
  go_wp2_with fail
  refine (HSG.out _).mono ?_
  rintro r w1 ⟨hsg, rfl⟩
  rcases hsg with ⟨r1, hr1, rfl⟩ | ⟨hr1, rfl⟩
  · have HR1 := Lib.hid hr1
    have hrl := Ar.xsign_len hr1
    have HUQ := Lib.hid (fun W => rreadints_any r1 W (by omega))
    clear hr1
    generalize hRB : bstr r1 = RB at *
    go_wp2_with fail
    refine (HUQ.out _).mono ?_
    rintro r w5 ⟨hone, hb5⟩
    have HK5 := Lib.hid (Blk.below ((Blk.new w 40 cells).alloc _) hb5 (by rw [World.size_alloc, World.size_alloc]; omega))
    have HR5 := Lib.hid (Blk.below (blk_n1 w _ 40 _) hb5 (by rw [World.size_alloc, World.size_alloc]; omega))
    have HB5 : Hid (Below w.heap.size w w5) := Lib.hid ((((Below.refl w.heap.size w).alloc (Nat.le_refl _) _).alloc (by rw [World.size_alloc]; exact Nat.le_succ _) _).trans (hb5.mono (by rw [World.size_alloc, World.size_alloc]; omega)))
    have HE5 := Lib.hid (HX.out.toF HB5.out)
    obtain ⟨ci, hci, _⟩ := HX.out.cell 9 _ (List.getElem?_eq_getElem (by rw [HX.out.len]; omega))
    have hc5 := (HK5.out.cell 9).trans hci
    have hf5 := HK5.out.frozen 9
    rcases hone with ⟨l, t, vv, hxt, rfl, how⟩ | ⟨hno, rfl⟩
    · obtain ⟨A, cap, rfl⟩ := own_any how
      have HCC : Hid (CellOf (okF ok w.heap.size) w5 (.slice A l.length cap) (.nums l)) := Lib.hid (SlcOf.keep (SlcOf.of_own how) (by decide) fun b hb _ => ⟨by rw [World.size_alloc, World.size_alloc] at hb; exact .inr hb, rfl⟩)
      have HSO : Hid (Ar.xfield 9 s = some (.nums l, t)) := Lib.hid (by rw [HXF.out, HR1.out]; show (Ar.xlist Ar.xnum r1).map _ = _; rw [hxt]; rfl)
      clear hxt
      have HK6 := Lib.hid (HK5.out.set_ 9 (.slice A l.length cap))
      have HR6 := Lib.hid (HR5.out.grown (grown_set w5 w.heap.size 9 (.slice A l.length cap)) (by simp))
      have HE6 : Hid (EvOf (okF ok w.heap.size) (w5.setCell ⟨w.heap.size, 9, none⟩ (.slice A l.length cap)) (cells.setIfInBounds 9 (.slice A l.length cap)) (e.set 9 (.nums l))) := Lib.hid ((HE5.out.setv (by omega) (Ar.xfield_fits HSO.out) HCC.out).others (fun k h1 h2 => Below.heap_setCell w5 ⟨w.heap.size, 9, none⟩ _ k h1))
      have HO6 := Lib.hid HE6.out.one
      have HB6 : Hid (Below w.heap.size w (w5.setCell ⟨w.heap.size, 9, none⟩ (.slice A l.length cap))) := Lib.hid (HB5.out.setCell (Nat.le_refl _) _)
      go_wp2_with (first
        | (refine wpList_load_row rfl 40 _ rfl w.heap.size rfl 40 (cells.setIfInBounds 9 (.slice A l.length cap)) (0, 0) _ HK6.out Tryz.underlying40 rfl (HS.out 9 (.slice A l.length cap)) ?_)
        | ((with_reducible refine wpList_store_rowk rfl 40 _ _ rfl (w.heap.size + 1) (cells.setIfInBounds 9 (.slice A l.length cap)) ?_ ?_ 40 _ HR6.out (HS.out 9 (.slice A l.length cap)) ?_ HO6.out ?_); rfl; rfl; exact HZ.out 9 (.slice A l.length cap); intro w7 hk7 hs7 hbl7 hot7))
      refine bodyPost_ret (results_row_tmp2 rfl _ _ (w.heap.size + 1) _ _ _ rfl hk7 Tryz.underlying40 rfl (HS.out 9 (.slice A l.length cap))) rfl ?_
      exact ⟨.inl ⟨_, _, _, HSO.out, rfl, (HE6.out.others fun k _ h2 => hot7 k h2).toB⟩, HB6.out.trans (hbl7 w.heap.size (Nat.le_succ _))⟩
    · have HCC : Hid (CellOf (okF ok w.heap.size) w5 (.slice none 0 0) (.nums [])) := Lib.hid ⟨none, 0, rfl, ⟨rfl, fun j v hj => by cases hj⟩, fun h => absurd h (Nat.lt_irrefl 0)⟩
      have HNO : Hid (Ar.xfield 9 s = none) := Lib.hid (by rw [HXF.out, HR1.out]; show (Ar.xlist Ar.xnum r1).map _ = _; rw [hno]; rfl)
      clear hno
      have HK6 := Lib.hid (HK5.out.set_ 9 (.slice none 0 0))
      have HR6 := Lib.hid (HR5.out.grown (grown_set w5 w.heap.size 9 (.slice none 0 0)) (by simp))
      have HE6 : Hid (EvOf (okF ok w.heap.size) (w5.setCell ⟨w.heap.size, 9, none⟩ (.slice none 0 0)) (cells.setIfInBounds 9 (.slice none 0 0)) (e.set 9 (.nums []))) := Lib.hid ((HE5.out.setv (by omega) ⟨rfl, (show Ar.FV.Ok (.nums []) from (by intro n hn; cases hn))⟩ HCC.out).others (fun k h1 h2 => Below.heap_setCell w5 ⟨w.heap.size, 9, none⟩ _ k h1))
      have HO6 := Lib.hid HE6.out.one
      have HB6 : Hid (Below w.heap.size w (w5.setCell ⟨w.heap.size, 9, none⟩ (.slice none 0 0))) := Lib.hid (HB5.out.setCell (Nat.le_refl _) _)
      go_wp2_with (first
        | (refine wpList_load_row rfl 40 _ rfl w.heap.size rfl 40 (cells.setIfInBounds 9 (.slice none 0 0)) (0, 0) _ HK6.out Tryz.underlying40 rfl (HS.out 9 (.slice none 0 0)) ?_)
        | ((with_reducible refine wpList_store_rowk rfl 40 _ _ rfl (w.heap.size + 1) (cells.setIfInBounds 9 (.slice none 0 0)) ?_ ?_ 40 _ HR6.out (HS.out 9 (.slice none 0 0)) ?_ HO6.out ?_); rfl; rfl; exact HZ.out 9 (.slice none 0 0); intro w7 hk7 hs7 hbl7 hot7))
      refine bodyPost_ret (results_row_tmp2 rfl _ _ (w.heap.size + 1) _ _ _ rfl hk7 Tryz.underlying40 rfl (HS.out 9 (.slice none 0 0))) rfl ?_
      exact ⟨.inr ⟨HNO.out, _, _, rfl, HE6.out.size, HO6.out⟩, HB6.out.trans (hbl7 w.heap.size (Nat.le_succ _))⟩
  · have HNO : Hid (Ar.xfield 9 s = none) := Lib.hid (by rw [HXF.out, hr1]; rfl)
    clear hr1
    go_wp2_with (first
      | (refine wpList_load_row rfl 40 _ rfl w.heap.size rfl 40 cells (0, 0) _ ((Blk.new w 40 cells).alloc _) Tryz.underlying40 rfl HS0.out ?_)
      | ((with_reducible refine wpList_store_rowk rfl 40 _ _ rfl (w.heap.size + 1) cells ?_ ?_ 40 _ (blk_n1 w _ 40 _) HS0.out ?_ HO0.out ?_); rfl; rfl; exact HZ0.out; intro w6 hk6 hs6 hbl6 hot6))
    have HB6 : Hid (Below w.heap.size w w6) := Lib.hid ((((Below.refl w.heap.size w).alloc (Nat.le_refl _) _).alloc (by rw [World.size_alloc]; exact Nat.le_succ _) _).trans (hbl6 w.heap.size (Nat.le_succ _)))
    refine bodyPost_ret (results_row_tmp2 rfl _ _ (w.heap.size + 1) _ _ _ rfl hk6 Tryz.underlying40 rfl HS0.out) rfl ?_
    exact ⟨.inr ⟨HNO.out, _, _, rfl, HX.out.size, HO0.out⟩, HB6.out⟩
set_option maxHeartbeats 8000000 in
set_option maxRecDepth 100000 in
theorem field_10 (ok : Nat → Prop) (cells : Array Value) (e : List Ar.FV) (s : List UInt8) (w : World) (h : EvOf ok w cells e) (hs : s.length ≤ 1000000) : Calls Tryz.prog 57 #[.agg cells, .int .i64 10, .string (bstr s)] w fun r w' => FdA ok w.heap.size 10 s e r w' ∧ Below w.heap.size w w' := by
  have HS : Hid (∀ k c, (Tryz.prog.info? 40).map (·.size) = some (cells.setIfInBounds k c).size) := Lib.hid (fun k c => by rw [Array.size_setIfInBounds, size_event, h.size])
  have HS0 : Hid ((Tryz.prog.info? 40).map (·.size) = some cells.size) := Lib.hid (by rw [size_event, h.size])
  have HZ : Hid (∀ k c, zeroEv.size = (cells.setIfInBounds k c).size) := Lib.hid (fun k c => by rw [Array.size_setIfInBounds, h.size]; rfl)
  have HZ0 : Hid (zeroEv.size = cells.size) := Lib.hid (by rw [h.size]; rfl)
  have HO0 := Lib.hid h.one
  have HX := Lib.hid h
  have HSG := Lib.hid (fun W => sign_any s 61 W hs)
  rw [show (((61 : UInt8).toNat : Nat) : Int) = 61 from rfl] at HSG
  have HXF := Lib.hid (xfield_eq (i := 10) (s := s) rfl)
  clear h
  go_enter Tryz.func57, Tryz.ntmps57
  go_wp2_with fail
  refine (HSG.out _).mono ?_
  rintro r w1 ⟨hsg, rfl⟩
  rcases hsg with ⟨r1, hr1, rfl⟩ | ⟨hr1, rfl⟩
  · have HR1 := Lib.hid hr1
    have hrl := Ar.xsign_len hr1
    have HUQ := Lib.hid (fun W => runq_any r1 W (by omega))
    clear hr1
    generalize hRB : bstr r1 = RB at *
    go_wp2_with fail
    refine (HUQ.out _).mono ?_
    rintro r w5 ⟨hone, hb5⟩
    have HK5 := Lib.hid (Blk.below ((Blk.new w 40 cells).alloc _) hb5 (by rw [World.size_alloc, World.size_alloc]; omega))
    have HR5 := Lib.hid (Blk.below (blk_n1 w _ 40 _) hb5 (by rw [World.size_alloc, World.size_alloc]; omega))
    have HB5 : Hid (Below w.heap.size w w5) := Lib.hid ((((Below.refl w.heap.size w).alloc (Nat.le_refl _) _).alloc (by rw [World.size_alloc]; exact Nat.le_succ _) _).trans (hb5.mono (by rw [World.size_alloc, World.size_alloc]; omega)))
    have HE5 := Lib.hid (HX.out.toF HB5.out)
    obtain ⟨ci, hci, _⟩ := HX.out.cell 10 _ (List.getElem?_eq_getElem (by rw [HX.out.len]; omega))
    have hc5 := (HK5.out.cell 10).trans hci
    have hf5 := HK5.out.frozen 10
    rcases hone with ⟨x, t, hxt, rfl⟩ | ⟨hno, rfl⟩
    · have HSO : Hid (Ar.xfield 10 s = some (.txt x, t)) := Lib.hid (by rw [HXF.out, HR1.out]; show (Ar.unquote r1).map _ = _; rw [hxt]; rfl)
      clear hxt
      have HK6 := Lib.hid (HK5.out.set_ 10 (.string (bstr x)))
      have HR6 := Lib.hid (HR5.out.grown (grown_set w5 w.heap.size 10 (.string (bstr x))) (by simp))
      have HE6 : Hid (EvOf (okF ok w.heap.size) (w5.setCell ⟨w.heap.size, 10, none⟩ (.string (bstr x))) (cells.setIfInBounds 10 (.string (bstr x))) (e.set 10 (.txt x))) := Lib.hid ((HE5.out.setv (by omega) (Ar.xfield_fits HSO.out) rfl).others (fun k h1 h2 => Below.heap_setCell w5 ⟨w.heap.size, 10, none⟩ _ k h1))
      have HO6 := Lib.hid HE6.out.one
      have HB6 : Hid (Below w.heap.size w (w5.setCell ⟨w.heap.size, 10, none⟩ (.string (bstr x)))) := Lib.hid (HB5.out.setCell (Nat.le_refl _) _)
      go_wp2_with (first
        | (refine wpList_load_row rfl 40 _ rfl w.heap.size rfl 40 (cells.setIfInBounds 10 (.string (bstr x))) (0, 0) _ HK6.out Tryz.underlying40 rfl (HS.out 10 (.string (bstr x))) ?_)
        | ((with_reducible refine wpList_store_rowk rfl 40 _ _ rfl (w.heap.size + 1) (cells.setIfInBounds 10 (.string (bstr x))) ?_ ?_ 40 _ HR6.out (HS.out 10 (.string (bstr x))) ?_ HO6.out ?_); rfl; rfl; exact HZ.out 10 (.string (bstr x)); intro w7 hk7 hs7 hbl7 hot7))
      refine bodyPost_ret (results_row_tmp2 rfl _ _ (w.heap.size + 1) _ _ _ rfl hk7 Tryz.underlying40 rfl (HS.out 10 (.string (bstr x)))) rfl ?_
      exact ⟨.inl ⟨_, _, _, HSO.out, rfl, (HE6.out.others fun k _ h2 => hot7 k h2).toB⟩, HB6.out.trans (hbl7 w.heap.size (Nat.le_succ _))⟩
    · have HNO : Hid (Ar.xfield 10 s = none) := Lib.hid (by rw [HXF.out, HR1.out]; show (Ar.unquote r1).map _ = _; rw [hno]; rfl)
      clear hno
      have HK6 := Lib.hid (HK5.out.set_ 10 (.string ⟨#[]⟩))
      have HR6 := Lib.hid (HR5.out.grown (grown_set w5 w.heap.size 10 (.string ⟨#[]⟩)) (by simp))
      have HE6 : Hid (EvOf (okF ok w.heap.size) (w5.setCell ⟨w.heap.size, 10, none⟩ (.string ⟨#[]⟩)) (cells.setIfInBounds 10 (.string ⟨#[]⟩)) (e.set 10 (.txt []))) := Lib.hid ((HE5.out.setv (by omega) ⟨rfl, (show Ar.FV.Ok (.txt []) from trivial)⟩ rfl).others (fun k h1 h2 => Below.heap_setCell w5 ⟨w.heap.size, 10, none⟩ _ k h1))
      have HO6 := Lib.hid HE6.out.one
      have HB6 : Hid (Below w.heap.size w (w5.setCell ⟨w.heap.size, 10, none⟩ (.string ⟨#[]⟩))) := Lib.hid (HB5.out.setCell (Nat.le_refl _) _)
      go_wp2_with (first
        | (refine wpList_load_row rfl 40 _ rfl w.heap.size rfl 40 (cells.setIfInBounds 10 (.string ⟨#[]⟩)) (0, 0) _ HK6.out Tryz.underlying40 rfl (HS.out 10 (.string ⟨#[]⟩)) ?_)
        | ((with_reducible refine wpList_store_rowk rfl 40 _ _ rfl (w.heap.size + 1) (cells.setIfInBounds 10 (.string ⟨#[]⟩)) ?_ ?_ 40 _ HR6.out (HS.out 10 (.string ⟨#[]⟩)) ?_ HO6.out ?_); rfl; rfl; exact HZ.out 10 (.string ⟨#[]⟩); intro w7 hk7 hs7 hbl7 hot7))
      refine bodyPost_ret (results_row_tmp2 rfl _ _ (w.heap.size + 1) _ _ _ rfl hk7 Tryz.underlying40 rfl (HS.out 10 (.string ⟨#[]⟩))) rfl ?_
      exact ⟨.inr ⟨HNO.out, _, _, rfl, HE6.out.size, HO6.out⟩, HB6.out.trans (hbl7 w.heap.size (Nat.le_succ _))⟩
  · have HNO : Hid (Ar.xfield 10 s = none) := Lib.hid (by rw [HXF.out, hr1]; rfl)
    clear hr1
    go_wp2_with (first
      | (refine wpList_load_row rfl 40 _ rfl w.heap.size rfl 40 cells (0, 0) _ ((Blk.new w 40 cells).alloc _) Tryz.underlying40 rfl HS0.out ?_)
      | ((with_reducible refine wpList_store_rowk rfl 40 _ _ rfl (w.heap.size + 1) cells ?_ ?_ 40 _ (blk_n1 w _ 40 _) HS0.out ?_ HO0.out ?_); rfl; rfl; exact HZ0.out; intro w6 hk6 hs6 hbl6 hot6))
    have HB6 : Hid (Below w.heap.size w w6) := Lib.hid ((((Below.refl w.heap.size w).alloc (Nat.le_refl _) _).alloc (by rw [World.size_alloc]; exact Nat.le_succ _) _).trans (hbl6 w.heap.size (Nat.le_succ _)))
    refine bodyPost_ret (results_row_tmp2 rfl _ _ (w.heap.size + 1) _ _ _ rfl hk6 Tryz.underlying40 rfl HS0.out) rfl ?_
    exact ⟨.inr ⟨HNO.out, _, _, rfl, HX.out.size, HO0.out⟩, HB6.out⟩
set_option maxHeartbeats 8000000 in
set_option maxRecDepth 100000 in
theorem field_13 (ok : Nat → Prop) (cells : Array Value) (e : List Ar.FV) (s : List UInt8) (w : World) (h : EvOf ok w cells e) (hs : s.length ≤ 1000000) : Calls Tryz.prog 57 #[.agg cells, .int .i64 13, .string (bstr s)] w fun r w' => FdA ok w.heap.size 13 s e r w' ∧ Below w.heap.size w w' := by
  have HS : Hid (∀ k c, (Tryz.prog.info? 40).map (·.size) = some (cells.setIfInBounds k c).size) := Lib.hid (fun k c => by rw [Array.size_setIfInBounds, size_event, h.size])
  have HZ : Hid (∀ k c, zeroEv.size = (cells.setIfInBounds k c).size) := Lib.hid (fun k c => by rw [Array.size_setIfInBounds, h.size]; rfl)
  have HX := Lib.hid h
  clear h
  have HSO : Hid (Ar.xfield 13 s = some (.flg true, s)) := Lib.hid (by unfold Ar.xfield; rfl)
  have HV : Hid (EvOf ok w (cells.setIfInBounds 13 (.bool true)) (e.set 13 (.flg true))) := Lib.hid (HX.out.setv (by omega) (Ar.xfield_fits HSO.out) rfl)
  have HO := Lib.hid HV.out.one
  obtain ⟨ci, hci, _⟩ := HX.out.cell 13 _ (List.getElem?_eq_getElem (by rw [HX.out.len]; omega))
  go_enter Tryz.func57, Tryz.ntmps57
  go_wp2_with (first
    | (refine wpList_load_row rfl 40 _ rfl w.heap.size rfl 40 (cells.setIfInBounds 13 (.bool true)) (0, 0) _ ((Blk.new w 40 (cells.setIfInBounds 13 (.bool true))).alloc _) Tryz.underlying40 rfl (HS.out 13 (.bool true)) ?_)
    | ((with_reducible refine wpList_store_rowk rfl 40 _ _ rfl (w.heap.size + 1) (cells.setIfInBounds 13 (.bool true)) ?_ ?_ 40 _ (blk_n1 w _ 40 _) (HS.out 13 (.bool true)) ?_ HO.out ?_); rfl; rfl; exact HZ.out 13 (.bool true); intro w4 hk4 hs4 hbl4 hot4))
  have HB : Hid (Below w.heap.size w w4) := Lib.hid ((((Below.refl w.heap.size w).alloc (Nat.le_refl _) _).alloc (by rw [World.size_alloc]; exact Nat.le_succ _) _).trans (hbl4 w.heap.size (Nat.le_succ _)))
  refine bodyPost_ret (results_row_tmp2 rfl _ _ (w.heap.size + 1) _ _ _ rfl hk4 Tryz.underlying40 rfl (HS.out 13 (.bool true))) rfl ?_
  exact ⟨.inl ⟨_, _, _, HSO.out, rfl, HV.out.keep fun b hb hlt => ⟨.inl hb, HB.out.block b hlt⟩⟩, HB.out⟩
set_option maxHeartbeats 8000000 in
set_option maxRecDepth 100000 in
theorem field_14 (ok : Nat → Prop) (cells : Array Value) (e : List Ar.FV) (s : List UInt8) (w : World) (h : EvOf ok w cells e) (hs : s.length ≤ 1000000) : Calls Tryz.prog 57 #[.agg cells, .int .i64 14, .string (bstr s)] w fun r w' => FdA ok w.heap.size 14 s e r w' ∧ Below w.heap.size w w' := by
  have HS : Hid (∀ k c, (Tryz.prog.info? 40).map (·.size) = some (cells.setIfInBounds k c).size) := Lib.hid (fun k c => by rw [Array.size_setIfInBounds, size_event, h.size])
  have HS0 : Hid ((Tryz.prog.info? 40).map (·.size) = some cells.size) := Lib.hid (by rw [size_event, h.size])
  have HZ : Hid (∀ k c, zeroEv.size = (cells.setIfInBounds k c).size) := Lib.hid (fun k c => by rw [Array.size_setIfInBounds, h.size]; rfl)
  have HZ0 : Hid (zeroEv.size = cells.size) := Lib.hid (by rw [h.size]; rfl)
  have HO0 := Lib.hid h.one
  have HX := Lib.hid h
  have HSG := Lib.hid (fun W => sign_any s 61 W hs)
  rw [show (((61 : UInt8).toNat : Nat) : Int) = 61 from rfl] at HSG
  have HXF := Lib.hid (xfield_eq (i := 14) (s := s) rfl)
  clear h
  go_enter Tryz.func57, Tryz.ntmps57
  go_wp2_with fail
  refine (HSG.out _).mono ?_
  rintro r w1 ⟨hsg, rfl⟩
  rcases hsg with ⟨r1, hr1, rfl⟩ | ⟨hr1, rfl⟩
  · have HR1 := Lib.hid hr1
    have hrl := Ar.xsign_len hr1
    have HUQ := Lib.hid (fun W => runq_any r1 W (by omega))
    clear hr1
    generalize hRB : bstr r1 = RB at *
    go_wp2_with fail
    refine (HUQ.out _).mono ?_
    rintro r w5 ⟨hone, hb5⟩
    have HK5 := Lib.hid (Blk.below ((Blk.new w 40 cells).alloc _) hb5 (by rw [World.size_alloc, World.size_alloc]; omega))
    have HR5 := Lib.hid (Blk.below (blk_n1 w _ 40 _) hb5 (by rw [World.size_alloc, World.size_alloc]; omega))
    have HB5 : Hid (Below w.heap.size w w5) := Lib.hid ((((Below.refl w.heap.size w).alloc (Nat.le_refl _) _).alloc (by rw [World.size_alloc]; exact Nat.le_succ _) _).trans (hb5.mono (by rw [World.size_alloc, World.size_alloc]; omega)))
    have HE5 := Lib.hid (HX.out.toF HB5.out)
    obtain ⟨ci, hci, _⟩ := HX.out.cell 14 _ (List.getElem?_eq_getElem (by rw [HX.out.len]; omega))
    have hc5 := (HK5.out.cell 14).trans hci
    have hf5 := HK5.out.frozen 14
    rcases hone with ⟨x, t, hxt, rfl⟩ | ⟨hno, rfl⟩
    · have HSO : Hid (Ar.xfield 14 s = some (.txt x, t)) := Lib.hid (by rw [HXF.out, HR1.out]; show (Ar.unquote r1).map _ = _; rw [hxt]; rfl)
      clear hxt
      have HK6 := Lib.hid (HK5.out.set_ 14 (.string (bstr x)))
      have HR6 := Lib.hid (HR5.out.grown (grown_set w5 w.heap.size 14 (.string (bstr x))) (by simp))
      have HE6 : Hid (EvOf (okF ok w.heap.size) (w5.setCell ⟨w.heap.size, 14, none⟩ (.string (bstr x))) (cells.setIfInBounds 14 (.string (bstr x))) (e.set 14 (.txt x))) := Lib.hid ((HE5.out.setv (by omega) (Ar.xfield_fits HSO.out) rfl).others (fun k h1 h2 => Below.heap_setCell w5 ⟨w.heap.size, 14, none⟩ _ k h1))
      have HO6 := Lib.hid HE6.out.one
      have HB6 : Hid (Below w.heap.size w (w5.setCell ⟨w.heap.size, 14, none⟩ (.string (bstr x)))) := Lib.hid (HB5.out.setCell (Nat.le_refl _) _)
      go_wp2_with (first
        | (refine wpList_load_row rfl 40 _ rfl w.heap.size rfl 40 (cells.setIfInBounds 14 (.string (bstr x))) (0, 0) _ HK6.out Tryz.underlying40 rfl (HS.out 14 (.string (bstr x))) ?_)
        | ((with_reducible refine wpList_store_rowk rfl 40 _ _ rfl (w.heap.size + 1) (cells.setIfInBounds 14 (.string (bstr x))) ?_ ?_ 40 _ HR6.out (HS.out 14 (.string (bstr x))) ?_ HO6.out ?_); rfl; rfl; exact HZ.out 14 (.string (bstr x)); intro w7 hk7 hs7 hbl7 hot7))
      refine bodyPost_ret (results_row_tmp2 rfl _ _ (w.heap.size + 1) _ _ _ rfl hk7 Tryz.underlying40 rfl (HS.out 14 (.string (bstr x)))) rfl ?_
      exact ⟨.inl ⟨_, _, _, HSO.out, rfl, (HE6.out.others fun k _ h2 => hot7 k h2).toB⟩, HB6.out.trans (hbl7 w.heap.size (Nat.le_succ _))⟩
    · have HNO : Hid (Ar.xfield 14 s = none) := Lib.hid (by rw [HXF.out, HR1.out]; show (Ar.unquote r1).map _ = _; rw [hno]; rfl)
      clear hno
      have HK6 := Lib.hid (HK5.out.set_ 14 (.string ⟨#[]⟩))
      have HR6 := Lib.hid (HR5.out.grown (grown_set w5 w.heap.size 14 (.string ⟨#[]⟩)) (by simp))
      have HE6 : Hid (EvOf (okF ok w.heap.size) (w5.setCell ⟨w.heap.size, 14, none⟩ (.string ⟨#[]⟩)) (cells.setIfInBounds 14 (.string ⟨#[]⟩)) (e.set 14 (.txt []))) := Lib.hid ((HE5.out.setv (by omega) ⟨rfl, (show Ar.FV.Ok (.txt []) from trivial)⟩ rfl).others (fun k h1 h2 => Below.heap_setCell w5 ⟨w.heap.size, 14, none⟩ _ k h1))
      have HO6 := Lib.hid HE6.out.one
      have HB6 : Hid (Below w.heap.size w (w5.setCell ⟨w.heap.size, 14, none⟩ (.string ⟨#[]⟩))) := Lib.hid (HB5.out.setCell (Nat.le_refl _) _)
      go_wp2_with (first
        | (refine wpList_load_row rfl 40 _ rfl w.heap.size rfl 40 (cells.setIfInBounds 14 (.string ⟨#[]⟩)) (0, 0) _ HK6.out Tryz.underlying40 rfl (HS.out 14 (.string ⟨#[]⟩)) ?_)
        | ((with_reducible refine wpList_store_rowk rfl 40 _ _ rfl (w.heap.size + 1) (cells.setIfInBounds 14 (.string ⟨#[]⟩)) ?_ ?_ 40 _ HR6.out (HS.out 14 (.string ⟨#[]⟩)) ?_ HO6.out ?_); rfl; rfl; exact HZ.out 14 (.string ⟨#[]⟩); intro w7 hk7 hs7 hbl7 hot7))
      refine bodyPost_ret (results_row_tmp2 rfl _ _ (w.heap.size + 1) _ _ _ rfl hk7 Tryz.underlying40 rfl (HS.out 14 (.string ⟨#[]⟩))) rfl ?_
      exact ⟨.inr ⟨HNO.out, _, _, rfl, HE6.out.size, HO6.out⟩, HB6.out.trans (hbl7 w.heap.size (Nat.le_succ _))⟩
  · have HNO : Hid (Ar.xfield 14 s = none) := Lib.hid (by rw [HXF.out, hr1]; rfl)
    clear hr1
    go_wp2_with (first
      | (refine wpList_load_row rfl 40 _ rfl w.heap.size rfl 40 cells (0, 0) _ ((Blk.new w 40 cells).alloc _) Tryz.underlying40 rfl HS0.out ?_)
      | ((with_reducible refine wpList_store_rowk rfl 40 _ _ rfl (w.heap.size + 1) cells ?_ ?_ 40 _ (blk_n1 w _ 40 _) HS0.out ?_ HO0.out ?_); rfl; rfl; exact HZ0.out; intro w6 hk6 hs6 hbl6 hot6))
    have HB6 : Hid (Below w.heap.size w w6) := Lib.hid ((((Below.refl w.heap.size w).alloc (Nat.le_refl _) _).alloc (by rw [World.size_alloc]; exact Nat.le_succ _) _).trans (hbl6 w.heap.size (Nat.le_succ _)))
    refine bodyPost_ret (results_row_tmp2 rfl _ _ (w.heap.size + 1) _ _ _ rfl hk6 Tryz.underlying40 rfl HS0.out) rfl ?_
    exact ⟨.inr ⟨HNO.out, _, _, rfl, HX.out.size, HO0.out⟩, HB6.out⟩
set_option maxHeartbeats 8000000 in
set_option maxRecDepth 100000 in
theorem field_15 (ok : Nat → Prop) (cells : Array Value) (e : List Ar.FV) (s : List UInt8) (w : World) (h : EvOf ok w cells e) (hs : s.length ≤ 1000000) : Calls Tryz.prog 57 #[.agg cells, .int .i64 15, .string (bstr s)] w fun r w' => FdA ok w.heap.size 15 s e r w' ∧ Below w.heap.size w w' := by
  have HS : Hid (∀ k c, (Tryz.prog.info? 40).map (·.size) = some (cells.setIfInBounds k c).size) := Lib.hid (fun k c => by rw [Array.size_setIfInBounds, size_event, h.size])
  have HS0 : Hid ((Tryz.prog.info? 40).map (·.size) = some cells.size) := Lib.hid (by rw [size_event, h.size])
  have HZ : Hid (∀ k c, zeroEv.size = (cells.setIfInBounds k c).size) := Lib.hid (fun k c => by rw [Array.size_setIfInBounds, h.size]; rfl)
  have HZ0 : Hid (zeroEv.size = cells.size) := Lib.hid (by rw [h.size]; rfl)
  have HO0 := Lib.hid h.one
  have HX := Lib.hid h
  have HSG := Lib.hid (fun W => sign_any s 61 W hs)
  rw [show (((61 : UInt8).toNat : Nat) : Int) = 61 from rfl] at HSG
  have HXF := Lib.hid (xfield_eq (i := 15) (s := s) rfl)
  clear h
  go_enter Tryz.func57, Tryz.ntmps57
  go_wp2_with fail
  refine (HSG.out _).mono ?_
  rintro r w1 ⟨hsg, rfl⟩
  rcases hsg with ⟨r1, hr1, rfl⟩ | ⟨hr1, rfl⟩
  · have HR1 := Lib.hid hr1
    have hrl := Ar.xsign_len hr1
    have HUQ := Lib.hid (fun W => rreadtexts_any r1 W (by omega))
    clear hr1
    generalize hRB : bstr r1 = RB at *
    go_wp2_with fail
    refine (HUQ.out _).mono ?_
    rintro r w5 ⟨hone, hb5⟩
    have HK5 := Lib.hid (Blk.below ((Blk.new w 40 cells).alloc _) hb5 (by rw [World.size_alloc, World.size_alloc]; omega))
    have HR5 := Lib.hid (Blk.below (blk_n1 w _ 40 _) hb5 (by rw [World.size_alloc, World.size_alloc]; omega))
    have HB5 : Hid (Below w.heap.size w w5) := Lib.hid ((((Below.refl w.heap.size w).alloc (Nat.le_refl _) _).alloc (by rw [World.size_alloc]; exact Nat.le_succ _) _).trans (hb5.mono (by rw [World.size_alloc, World.size_alloc]; omega)))
    have HE5 := Lib.hid (HX.out.toF HB5.out)
    obtain ⟨ci, hci, _⟩ := HX.out.cell 15 _ (List.getElem?_eq_getElem (by rw [HX.out.len]; omega))
    have hc5 := (HK5.out.cell 15).trans hci
    have hf5 := HK5.out.frozen 15
    rcases hone with ⟨l, t, vv, hxt, rfl, how⟩ | ⟨hno, rfl⟩
    · obtain ⟨A, cap, rfl⟩ := own_any how
      have HCC : Hid (CellOf (okF ok w.heap.size) w5 (.slice A l.length cap) (.txts l)) := Lib.hid (SlcOf.keep (SlcOf.of_own how) (by decide) fun b hb _ => ⟨by rw [World.size_alloc, World.size_alloc] at hb; exact .inr hb, rfl⟩)
      have HSO : Hid (Ar.xfield 15 s = some (.txts l, t)) := Lib.hid (by rw [HXF.out, HR1.out]; show (Ar.xlist Ar.unquote r1).map _ = _; rw [hxt]; rfl)
      clear hxt
      have HK6 := Lib.hid (HK5.out.set_ 15 (.slice A l.length cap))
      have HR6 := Lib.hid (HR5.out.grown (grown_set w5 w.heap.size 15 (.slice A l.length cap)) (by simp))
      have HE6 : Hid (EvOf (okF ok w.heap.size) (w5.setCell ⟨w.heap.size, 15, none⟩ (.slice A l.length cap)) (cells.setIfInBounds 15 (.slice A l.length cap)) (e.set 15 (.txts l))) := Lib.hid ((HE5.out.setv (by omega) (Ar.xfield_fits HSO.out) HCC.out).others (fun k h1 h2 => Below.heap_setCell w5 ⟨w.heap.size, 15, none⟩ _ k h1))
      have HO6 := Lib.hid HE6.out.one
      have HB6 : Hid (Below w.heap.size w (w5.setCell ⟨w.heap.size, 15, none⟩ (.slice A l.length cap))) := Lib.hid (HB5.out.setCell (Nat.le_refl _) _)
      go_wp2_with (first
        | (refine wpList_load_row rfl 40 _ rfl w.heap.size rfl 40 (cells.setIfInBounds 15 (.slice A l.length cap)) (0, 0) _ HK6.out Tryz.underlying40 rfl (HS.out 15 (.slice A l.length cap)) ?_)
        | ((with_reducible refine wpList_store_rowk rfl 40 _ _ rfl (w.heap.size + 1) (cells.setIfInBounds 15 (.slice A l.length cap)) ?_ ?_ 40 _ HR6.out (HS.out 15 (.slice A l.length cap)) ?_ HO6.out ?_); rfl; rfl; exact HZ.out 15 (.slice A l.length cap); intro w7 hk7 hs7 hbl7 hot7))
      refine bodyPost_ret (results_row_tmp2 rfl _ _ (w.heap.size + 1) _ _ _ rfl hk7 Tryz.underlying40 rfl (HS.out 15 (.slice A l.length cap))) rfl ?_
      exact ⟨.inl ⟨_, _, _, HSO.out, rfl, (HE6.out.others fun k _ h2 => hot7 k h2).toB⟩, HB6.out.trans (hbl7 w.heap.size (Nat.le_succ _))⟩
    · have HCC : Hid (CellOf (okF ok w.heap.size) w5 (.slice none 0 0) (.txts [])) := Lib.hid ⟨none, 0, rfl, ⟨rfl, fun j v hj => by cases hj⟩, fun h => absurd h (Nat.lt_irrefl 0)⟩
      have HNO : Hid (Ar.xfield 15 s = none) := Lib.hid (by rw [HXF.out, HR1.out]; show (Ar.xlist Ar.unquote r1).map _ = _; rw [hno]; rfl)
      clear hno
      have HK6 := Lib.hid (HK5.out.set_ 15 (.slice none 0 0))
      have HR6 := Lib.hid (HR5.out.grown (grown_set w5 w.heap.size 15 (.slice none 0 0)) (by simp))
      have HE6 : Hid (EvOf (okF ok w.heap.size) (w5.setCell ⟨w.heap.size, 15, none⟩ (.slice none 0 0)) (cells.setIfInBounds 15 (.slice none 0 0)) (e.set 15 (.txts []))) := Lib.hid ((HE5.out.setv (by omega) ⟨rfl, (show Ar.FV.Ok (.txts []) from trivial)⟩ HCC.out).others (fun k h1 h2 => Below.heap_setCell w5 ⟨w.heap.size, 15, none⟩ _ k h1))
      have HO6 := Lib.hid HE6.out.one
      have HB6 : Hid (Below w.heap.size w (w5.setCell ⟨w.heap.size, 15, none⟩ (.slice none 0 0))) := Lib.hid (HB5.out.setCell (Nat.le_refl _) _)
      go_wp2_with (first
        | (refine wpList_load_row rfl 40 _ rfl w.heap.size rfl 40 (cells.setIfInBounds 15 (.slice none 0 0)) (0, 0) _ HK6.out Tryz.underlying40 rfl (HS.out 15 (.slice none 0 0)) ?_)
        | ((with_reducible refine wpList_store_rowk rfl 40 _ _ rfl (w.heap.size + 1) (cells.setIfInBounds 15 (.slice none 0 0)) ?_ ?_ 40 _ HR6.out (HS.out 15 (.slice none 0 0)) ?_ HO6.out ?_); rfl; rfl; exact HZ.out 15 (.slice none 0 0); intro w7 hk7 hs7 hbl7 hot7))
      refine bodyPost_ret (results_row_tmp2 rfl _ _ (w.heap.size + 1) _ _ _ rfl hk7 Tryz.underlying40 rfl (HS.out 15 (.slice none 0 0))) rfl ?_
      exact ⟨.inr ⟨HNO.out, _, _, rfl, HE6.out.size, HO6.out⟩, HB6.out.trans (hbl7 w.heap.size (Nat.le_succ _))⟩
  · have HNO : Hid (Ar.xfield 15 s = none) := Lib.hid (by rw [HXF.out, hr1]; rfl)
    clear hr1
    go_wp2_with (first
      | (refine wpList_load_row rfl 40 _ rfl w.heap.size rfl 40 cells (0, 0) _ ((Blk.new w 40 cells).alloc _) Tryz.underlying40 rfl HS0.out ?_)
      | ((with_reducible refine wpList_store_rowk rfl 40 _ _ rfl (w.heap.size + 1) cells ?_ ?_ 40 _ (blk_n1 w _ 40 _) HS0.out ?_ HO0.out ?_); rfl; rfl; exact HZ0.out; intro w6 hk6 hs6 hbl6 hot6))
    have HB6 : Hid (Below w.heap.size w w6) := Lib.hid ((((Below.refl w.heap.size w).alloc (Nat.le_refl _) _).alloc (by rw [World.size_alloc]; exact Nat.le_succ _) _).trans (hbl6 w.heap.size (Nat.le_succ _)))
    refine bodyPost_ret (results_row_tmp2 rfl _ _ (w.heap.size + 1) _ _ _ rfl hk6 Tryz.underlying40 rfl HS0.out) rfl ?_
    exact ⟨.inr ⟨HNO.out, _, _, rfl, HX.out.size, HO0.out⟩, HB6.out⟩
set_option maxHeartbeats 8000000 in
set_option maxRecDepth 100000 in
theorem field_16 (ok : Nat → Prop) (cells : Array Value) (e : List Ar.FV) (s : List UInt8) (w : World) (h : EvOf ok w cells e) (hs : s.length ≤ 1000000) : Calls Tryz.prog 57 #[.agg cells, .int .i64 16, .string (bstr s)] w fun r w' => FdA ok w.heap.size 16 s e r w' ∧ Below w.heap.size w w' := by
  have HS : Hid (∀ k c, (Tryz.prog.info? 40).map (·.size) = some (cells.setIfInBounds k c).size) := Lib.hid (fun k c => by rw [Array.size_setIfInBounds, size_event, h.size])
  have HS0 : Hid ((Tryz.prog.info? 40).map (·.size) = some cells.size) := Lib.hid (by rw [size_event, h.size])
  have HZ : Hid (∀ k c, zeroEv.size = (cells.setIfInBounds k c).size) := Lib.hid (fun k c => by rw [Array.size_setIfInBounds, h.size]; rfl)
  have HZ0 : Hid (zeroEv.size = cells.size) := Lib.hid (by rw [h.size]; rfl)
  have HO0 := Lib.hid h.one
  have HX := Lib.hid h
  have HSG := Lib.hid (fun W => sign_any s 61 W hs)
  rw [show (((61 : UInt8).toNat : Nat) : Int) = 61 from rfl] at HSG
  have HXF := Lib.hid (xfield_eq (i := 16) (s := s) rfl)
  clear h
  go_enter Tryz.func57, Tryz.ntmps57
  go_wp2_with fail
  refine (HSG.out _).mono ?_
  rintro r w1 ⟨hsg, rfl⟩
  rcases hsg with ⟨r1, hr1, rfl⟩ | ⟨hr1, rfl⟩
  · have HR1 := Lib.hid hr1
    have hrl := Ar.xsign_len hr1
    have HUQ := Lib.hid (fun W => rreadtexts_any r1 W (by omega))
    clear hr1
    generalize hRB : bstr r1 = RB at *
    go_wp2_with fail
    refine (HUQ.out _).mono ?_
    rintro r w5 ⟨hone, hb5⟩
    have HK5 := Lib.hid (Blk.below ((Blk.new w 40 cells).alloc _) hb5 (by rw [World.size_alloc, World.size_alloc]; omega))
    have HR5 := Lib.hid (Blk.below (blk_n1 w _ 40 _) hb5 (by rw [World.size_alloc, World.size_alloc]; omega))
    have HB5 : Hid (Below w.heap.size w w5) := Lib.hid ((((Below.refl w.heap.size w).alloc (Nat.le_refl _) _).alloc (by rw [World.size_alloc]; exact Nat.le_succ _) _).trans (hb5.mono (by rw [World.size_alloc, World.size_alloc]; omega)))
    have HE5 := Lib.hid (HX.out.toF HB5.out)
    obtain ⟨ci, hci, _⟩ := HX.out.cell 16 _ (List.getElem?_eq_getElem (by rw [HX.out.len]; omega))
    have hc5 := (HK5.out.cell 16).trans hci
    have hf5 := HK5.out.frozen 16
    rcases hone with ⟨l, t, vv, hxt, rfl, how⟩ | ⟨hno, rfl⟩
    · obtain ⟨A, cap, rfl⟩ := own_any how
      have HCC : Hid (CellOf (okF ok w.heap.size) w5 (.slice A l.length cap) (.txts l)) := Lib.hid (SlcOf.keep (SlcOf.of_own how) (by decide) fun b hb _ => ⟨by rw [World.size_alloc, World.size_alloc] at hb; exact .inr hb, rfl⟩)
      have HSO : Hid (Ar.xfield 16 s = some (.txts l, t)) := Lib.hid (by rw [HXF.out, HR1.out]; show (Ar.xlist Ar.unquote r1).map _ = _; rw [hxt]; rfl)
      clear hxt
      have HK6 := Lib.hid (HK5.out.set_ 16 (.slice A l.length cap))
      have HR6 := Lib.hid (HR5.out.grown (grown_set w5 w.heap.size 16 (.slice A l.length cap)) (by simp))
      have HE6 : Hid (EvOf (okF ok w.heap.size) (w5.setCell ⟨w.heap.size, 16, none⟩ (.slice A l.length cap)) (cells.setIfInBounds 16 (.slice A l.length cap)) (e.set 16 (.txts l))) := Lib.hid ((HE5.out.setv (by omega) (Ar.xfield_fits HSO.out) HCC.out).others (fun k h1 h2 => Below.heap_setCell w5 ⟨w.heap.size, 16, none⟩ _ k h1))
      have HO6 := Lib.hid HE6.out.one
      have HB6 : Hid (Below w.heap.size w (w5.setCell ⟨w.heap.size, 16, none⟩ (.slice A l.length cap))) := Lib.hid (HB5.out.setCell (Nat.le_refl _) _)
      go_wp2_with (first
        | (refine wpList_load_row rfl 40 _ rfl w.heap.size rfl 40 (cells.setIfInBounds 16 (.slice A l.length cap)) (0, 0) _ HK6.out Tryz.underlying40 rfl (HS.out 16 (.slice A l.length cap)) ?_)
        | ((with_reducible refine wpList_store_rowk rfl 40 _ _ rfl (w.heap.size + 1) (cells.setIfInBounds 16 (.slice A l.length cap)) ?_ ?_ 40 _ HR6.out (HS.out 16 (.slice A l.length cap)) ?_ HO6.out ?_); rfl; rfl; exact HZ.out 16 (.slice A l.length cap); intro w7 hk7 hs7 hbl7 hot7))
      refine bodyPost_ret (results_row_tmp2 rfl _ _ (w.heap.size + 1) _ _ _ rfl hk7 Tryz.underlying40 rfl (HS.out 16 (.slice A l.length cap))) rfl ?_
      exact ⟨.inl ⟨_, _, _, HSO.out, rfl, (HE6.out.others fun k _ h2 => hot7 k h2).toB⟩, HB6.out.trans (hbl7 w.heap.size (Nat.le_succ _))⟩
    · have HCC : Hid (CellOf (okF ok w.heap.size) w5 (.slice none 0 0) (.txts [])) := Lib.hid ⟨none, 0, rfl, ⟨rfl, fun j v hj => by cases hj⟩, fun h => absurd h (Nat.lt_irrefl 0)⟩
      have HNO : Hid (Ar.xfield 16 s = none) := Lib.hid (by rw [HXF.out, HR1.out]; show (Ar.xlist Ar.unquote r1).map _ = _; rw [hno]; rfl)
      clear hno
      have HK6 := Lib.hid (HK5.out.set_ 16 (.slice none 0 0))
      have HR6 := Lib.hid (HR5.out.grown (grown_set w5 w.heap.size 16 (.slice none 0 0)) (by simp))
      have HE6 : Hid (EvOf (okF ok w.heap.size) (w5.setCell ⟨w.heap.size, 16, none⟩ (.slice none 0 0)) (cells.setIfInBounds 16 (.slice none 0 0)) (e.set 16 (.txts []))) := Lib.hid ((HE5.out.setv (by omega) ⟨rfl, (show Ar.FV.Ok (.txts []) from trivial)⟩ HCC.out).others (fun k h1 h2 => Below.heap_setCell w5 ⟨w.heap.size, 16, none⟩ _ k h1))
      have HO6 := Lib.hid HE6.out.one
      have HB6 : Hid (Below w.heap.size w (w5.setCell ⟨w.heap.size, 16, none⟩ (.slice none 0 0))) := Lib.hid (HB5.out.setCell (Nat.le_refl _) _)
      go_wp2_with (first
        | (refine wpList_load_row rfl 40 _ rfl w.heap.size rfl 40 (cells.setIfInBounds 16 (.slice none 0 0)) (0, 0) _ HK6.out Tryz.underlying40 rfl (HS.out 16 (.slice none 0 0)) ?_)
        | ((with_reducible refine wpList_store_rowk rfl 40 _ _ rfl (w.heap.size + 1) (cells.setIfInBounds 16 (.slice none 0 0)) ?_ ?_ 40 _ HR6.out (HS.out 16 (.slice none 0 0)) ?_ HO6.out ?_); rfl; rfl; exact HZ.out 16 (.slice none 0 0); intro w7 hk7 hs7 hbl7 hot7))
      refine bodyPost_ret (results_row_tmp2 rfl _ _ (w.heap.size + 1) _ _ _ rfl hk7 Tryz.underlying40 rfl (HS.out 16 (.slice none 0 0))) rfl ?_
      exact ⟨.inr ⟨HNO.out, _, _, rfl, HE6.out.size, HO6.out⟩, HB6.out.trans (hbl7 w.heap.size (Nat.le_succ _))⟩
  · have HNO : Hid (Ar.xfield 16 s = none) := Lib.hid (by rw [HXF.out, hr1]; rfl)
    clear hr1
    go_wp2_with (first
      | (refine wpList_load_row rfl 40 _ rfl w.heap.size rfl 40 cells (0, 0) _ ((Blk.new w 40 cells).alloc _) Tryz.underlying40 rfl HS0.out ?_)
      | ((with_reducible refine wpList_store_rowk rfl 40 _ _ rfl (w.heap.size + 1) cells ?_ ?_ 40 _ (blk_n1 w _ 40 _) HS0.out ?_ HO0.out ?_); rfl; rfl; exact HZ0.out; intro w6 hk6 hs6 hbl6 hot6))
    have HB6 : Hid (Below w.heap.size w w6) := Lib.hid ((((Below.refl w.heap.size w).alloc (Nat.le_refl _) _).alloc (by rw [World.size_alloc]; exact Nat.le_succ _) _).trans (hbl6 w.heap.size (Nat.le_succ _)))
    refine bodyPost_ret (results_row_tmp2 rfl _ _ (w.heap.size + 1) _ _ _ rfl hk6 Tryz.underlying40 rfl HS0.out) rfl ?_
    exact ⟨.inr ⟨HNO.out, _, _, rfl, HX.out.size, HO0.out⟩, HB6.out⟩
set_option maxHeartbeats 8000000 in
set_option maxRecDepth 100000 in
theorem field_17 (ok : Nat → Prop) (cells : Array Value) (e : List Ar.FV) (s : List UInt8) (w : World) (h : EvOf ok w cells e) (hs : s.length ≤ 1000000) : Calls Tryz.prog 57 #[.agg cells, .int .i64 17, .string (bstr s)] w fun r w' => FdA ok w.heap.size 17 s e r w' ∧ Below w.heap.size w w' := by
  have HS : Hid (∀ k c, (Tryz.prog.info? 40).map (·.size) = some (cells.setIfInBounds k c).size) := Lib.hid (fun k c => by rw [Array.size_setIfInBounds, size_event, h.size])
  have HS0 : Hid ((Tryz.prog.info? 40).map (·.size) = some cells.size) := Lib.hid (by rw [size_event, h.size])
  have HZ : Hid (∀ k c, zeroEv.size = (cells.setIfInBounds k c).size) := Lib.hid (fun k c => by rw [Array.size_setIfInBounds, h.size]; rfl)
  have HZ0 : Hid (zeroEv.size = cells.size) := Lib.hid (by rw [h.size]; rfl)
  have HO0 := Lib.hid h.one
  have HX := Lib.hid h
  have HSG := Lib.hid (fun W => sign_any s 61 W hs)
  rw [show (((61 : UInt8).toNat : Nat) : Int) = 61 from rfl] at HSG
  have HXF := Lib.hid (xfield_eq (i := 17) (s := s) rfl)
  clear h
  go_enter Tryz.func57, Tryz.ntmps57
  go_wp2_with fail
  refine (HSG.out _).mono ?_
  rintro r w1 ⟨hsg, rfl⟩
  rcases hsg with ⟨r1, hr1, rfl⟩ | ⟨hr1, rfl⟩
  · have HR1 := Lib.hid hr1
    have hrl := Ar.xsign_len hr1
    have HUQ := Lib.hid (fun W => rreadusers_any r1 W (by omega))
    clear hr1
    generalize hRB : bstr r1 = RB at *
    go_wp2_with fail
    refine (HUQ.out _).mono ?_
    rintro r w5 ⟨hone, hb5⟩
    have HK5 := Lib.hid (Blk.below ((Blk.new w 40 cells).alloc _) hb5 (by rw [World.size_alloc, World.size_alloc]; omega))
    have HR5 := Lib.hid (Blk.below (blk_n1 w _ 40 _) hb5 (by rw [World.size_alloc, World.size_alloc]; omega))
    have HB5 : Hid (Below w.heap.size w w5) := Lib.hid ((((Below.refl w.heap.size w).alloc (Nat.le_refl _) _).alloc (by rw [World.size_alloc]; exact Nat.le_succ _) _).trans (hb5.mono (by rw [World.size_alloc, World.size_alloc]; omega)))
    have HE5 := Lib.hid (HX.out.toF HB5.out)
    obtain ⟨ci, hci, _⟩ := HX.out.cell 17 _ (List.getElem?_eq_getElem (by rw [HX.out.len]; omega))
    have hc5 := (HK5.out.cell 17).trans hci
    have hf5 := HK5.out.frozen 17
    rcases hone with ⟨l, t, vv, hxt, rfl, how⟩ | ⟨hno, rfl⟩
    · obtain ⟨A, cap, rfl⟩ := own_any how
      have HCC : Hid (CellOf (okF ok w.heap.size) w5 (.slice A l.length cap) (.usrs l)) := Lib.hid (SlcOf.keep (SlcOf.of_own how) (by decide) fun b hb _ => ⟨by rw [World.size_alloc, World.size_alloc] at hb; exact .inr hb, rfl⟩)
      have HSO : Hid (Ar.xfield 17 s = some (.usrs l, t)) := Lib.hid (by rw [HXF.out, HR1.out]; show (Ar.xlist Ar.xusr r1).map _ = _; rw [hxt]; rfl)
      clear hxt
      have HK6 := Lib.hid (HK5.out.set_ 17 (.slice A l.length cap))
      have HR6 := Lib.hid (HR5.out.grown (grown_set w5 w.heap.size 17 (.slice A l.length cap)) (by simp))
      have HE6 : Hid (EvOf (okF ok w.heap.size) (w5.setCell ⟨w.heap.size, 17, none⟩ (.slice A l.length cap)) (cells.setIfInBounds 17 (.slice A l.length cap)) (e.set 17 (.usrs l))) := Lib.hid ((HE5.out.setv (by omega) (Ar.xfield_fits HSO.out) HCC.out).others (fun k h1 h2 => Below.heap_setCell w5 ⟨w.heap.size, 17, none⟩ _ k h1))
      have HO6 := Lib.hid HE6.out.one
      have HB6 : Hid (Below w.heap.size w (w5.setCell ⟨w.heap.size, 17, none⟩ (.slice A l.length cap))) := Lib.hid (HB5.out.setCell (Nat.le_refl _) _)
      go_wp2_with (first
        | (refine wpList_load_row rfl 40 _ rfl w.heap.size rfl 40 (cells.setIfInBounds 17 (.slice A l.length cap)) (0, 0) _ HK6.out Tryz.underlying40 rfl (HS.out 17 (.slice A l.length cap)) ?_)
        | ((with_reducible refine wpList_store_rowk rfl 40 _ _ rfl (w.heap.size + 1) (cells.setIfInBounds 17 (.slice A l.length cap)) ?_ ?_ 40 _ HR6.out (HS.out 17 (.slice A l.length cap)) ?_ HO6.out ?_); rfl; rfl; exact HZ.out 17 (.slice A l.length cap); intro w7 hk7 hs7 hbl7 hot7))
      refine bodyPost_ret (results_row_tmp2 rfl _ _ (w.heap.size + 1) _ _ _ rfl hk7 Tryz.underlying40 rfl (HS.out 17 (.slice A l.length cap))) rfl ?_
      exact ⟨.inl ⟨_, _, _, HSO.out, rfl, (HE6.out.others fun k _ h2 => hot7 k h2).toB⟩, HB6.out.trans (hbl7 w.heap.size (Nat.le_succ _))⟩
    · have HCC : Hid (CellOf (okF ok w.heap.size) w5 (.slice none 0 0) (.usrs [])) := Lib.hid ⟨none, 0, rfl, ⟨rfl, fun j v hj => by cases hj⟩, fun h => absurd h (Nat.lt_irrefl 0)⟩
      have HNO : Hid (Ar.xfield 17 s = none) := Lib.hid (by rw [HXF.out, HR1.out]; show (Ar.xlist Ar.xusr r1).map _ = _; rw [hno]; rfl)
      clear hno
      have HK6 := Lib.hid (HK5.out.set_ 17 (.slice none 0 0))
      have HR6 := Lib.hid (HR5.out.grown (grown_set w5 w.heap.size 17 (.slice none 0 0)) (by simp))
      have HE6 : Hid (EvOf (okF ok w.heap.size) (w5.setCell ⟨w.heap.size, 17, none⟩ (.slice none 0 0)) (cells.setIfInBounds 17 (.slice none 0 0)) (e.set 17 (.usrs []))) := Lib.hid ((HE5.out.setv (by omega) ⟨rfl, (show Ar.FV.Ok (.usrs []) from (by intro n hn; cases hn))⟩ HCC.out).others (fun k h1 h2 => Below.heap_setCell w5 ⟨w.heap.size, 17, none⟩ _ k h1))
      have HO6 := Lib.hid HE6.out.one
      have HB6 : Hid (Below w.heap.size w (w5.setCell ⟨w.heap.size, 17, none⟩ (.slice none 0 0))) := Lib.hid (HB5.out.setCell (Nat.le_refl _) _)
      go_wp2_with (first
        | (refine wpList_load_row rfl 40 _ rfl w.heap.size rfl 40 (cells.setIfInBounds 17 (.slice none 0 0)) (0, 0) _ HK6.out Tryz.underlying40 rfl (HS.out 17 (.slice none 0 0)) ?_)
        | ((with_reducible refine wpList_store_rowk rfl 40 _ _ rfl (w.heap.size + 1) (cells.setIfInBounds 17 (.slice none 0 0)) ?_ ?_ 40 _ HR6.out (HS.out 17 (.slice none 0 0)) ?_ HO6.out ?_); rfl; rfl; exact HZ.out 17 (.slice none 0 0); intro w7 hk7 hs7 hbl7 hot7))
      refine bodyPost_ret (results_row_tmp2 rfl _ _ (w.heap.size + 1) _ _ _ rfl hk7 Tryz.underlying40 rfl (HS.out 17 (.slice none 0 0))) rfl ?_
      exact ⟨.inr ⟨HNO.out, _, _, rfl, HE6.out.size, HO6.out⟩, HB6.out.trans (hbl7 w.heap.size (Nat.le_succ _))⟩
  · have HNO : Hid (Ar.xfield 17 s = none) := Lib.hid (by rw [HXF.out, hr1]; rfl)
    clear hr1
    go_wp2_with (first
      | (refine wpList_load_row rfl 40 _ rfl w.heap.size rfl 40 cells (0, 0) _ ((Blk.new w 40 cells).alloc _) Tryz.underlying40 rfl HS0.out ?_)
      | ((with_reducible refine wpList_store_rowk rfl 40 _ _ rfl (w.heap.size + 1) cells ?_ ?_ 40 _ (blk_n1 w _ 40 _) HS0.out ?_ HO0.out ?_); rfl; rfl; exact HZ0.out; intro w6 hk6 hs6 hbl6 hot6))
    have HB6 : Hid (Below w.heap.size w w6) := Lib.hid ((((Below.refl w.heap.size w).alloc (Nat.le_refl _) _).alloc (by rw [World.size_alloc]; exact Nat.le_succ _) _).trans (hbl6 w.heap.size (Nat.le_succ _)))
    refine bodyPost_ret (results_row_tmp2 rfl _ _ (w.heap.size + 1) _ _ _ rfl hk6 Tryz.underlying40 rfl HS0.out) rfl ?_
    exact ⟨.inr ⟨HNO.out, _, _, rfl, HX.out.size, HO0.out⟩, HB6.out⟩
set_option maxHeartbeats 8000000 in
set_option maxRecDepth 100000 in
theorem field_18 (ok : Nat → Prop) (cells : Array Value) (e : List Ar.FV) (s : List UInt8) (w : World) (h : EvOf ok w cells e) (hs : s.length ≤ 1000000) : Calls Tryz.prog 57 #[.agg cells, .int .i64 18, .string (bstr s)] w fun r w' => FdA ok w.heap.size 18 s e r w' ∧ Below w.heap.size w w' := by
  have HS : Hid (∀ k c, (Tryz.prog.info? 40).map (·.size) = some (cells.setIfInBounds k c).size) := Lib.hid (fun k c => by rw [Array.size_setIfInBounds, size_event, h.size])
  have HS0 : Hid ((Tryz.prog.info? 40).map (·.size) = some cells.size) := Lib.hid (by rw [size_event, h.size])
  have HZ : Hid (∀ k c, zeroEv.size = (cells.setIfInBounds k c).size) := Lib.hid (fun k c => by rw [Array.size_setIfInBounds, h.size]; rfl)
  have HZ0 : Hid (zeroEv.size = cells.size) := Lib.hid (by rw [h.size]; rfl)
  have HO0 := Lib.hid h.one
  have HX := Lib.hid h
  have HSG := Lib.hid (fun W => sign_any s 61 W hs)
  rw [show (((61 : UInt8).toNat : Nat) : Int) = 61 from rfl] at HSG
  have HXF := Lib.hid (xfield_eq (i := 18) (s := s) rfl)
  clear h
  go_enter Tryz.func57, Tryz.ntmps57
  go_wp2_with fail
  refine (HSG.out _).mono ?_
  rintro r w1 ⟨hsg, rfl⟩
  rcases hsg with ⟨r1, hr1, rfl⟩ | ⟨hr1, rfl⟩
  · have HR1 := Lib.hid hr1
    have hrl := Ar.xsign_len hr1
    have HUQ := Lib.hid (fun W => rreadkinds_any r1 W (by omega))
    clear hr1
    generalize hRB : bstr r1 = RB at *
    go_wp2_with fail
    refine (HUQ.out _).mono ?_
    rintro r w5 ⟨hone, hb5⟩
    have HK5 := Lib.hid (Blk.below ((Blk.new w 40 cells).alloc _) hb5 (by rw [World.size_alloc, World.size_alloc]; omega))
    have HR5 := Lib.hid (Blk.below (blk_n1 w _ 40 _) hb5 (by rw [World.size_alloc, World.size_alloc]; omega))
    have HB5 : Hid (Below w.heap.size w w5) := Lib.hid ((((Below.refl w.heap.size w).alloc (Nat.le_refl _) _).alloc (by rw [World.size_alloc]; exact Nat.le_succ _) _).trans (hb5.mono (by rw [World.size_alloc, World.size_alloc]; omega)))
    have HE5 := Lib.hid (HX.out.toF HB5.out)
    obtain ⟨ci, hci, _⟩ := HX.out.cell 18 _ (List.getElem?_eq_getElem (by rw [HX.out.len]; omega))
    have hc5 := (HK5.out.cell 18).trans hci
    have hf5 := HK5.out.frozen 18
    rcases hone with ⟨l, t, vv, hxt, rfl, how⟩ | ⟨hno, rfl⟩
    · obtain ⟨A, cap, rfl⟩ := own_any how
      have HCC : Hid (CellOf (okF ok w.heap.size) w5 (.slice A l.length cap) (.knds l)) := Lib.hid (SlcOf.keep (SlcOf.of_own how) (by decide) fun b hb _ => ⟨by rw [World.size_alloc, World.size_alloc] at hb; exact .inr hb, rfl⟩)
      have HSO : Hid (Ar.xfield 18 s = some (.knds l, t)) := Lib.hid (by rw [HXF.out, HR1.out]; show (Ar.xlist Ar.xknd r1).map _ = _; rw [hxt]; rfl)
      clear hxt
      have HK6 := Lib.hid (HK5.out.set_ 18 (.slice A l.length cap))
      have HR6 := Lib.hid (HR5.out.grown (grown_set w5 w.heap.size 18 (.slice A l.length cap)) (by simp))
      have HE6 : Hid (EvOf (okF ok w.heap.size) (w5.setCell ⟨w.heap.size, 18, none⟩ (.slice A l.length cap)) (cells.setIfInBounds 18 (.slice A l.length cap)) (e.set 18 (.knds l))) := Lib.hid ((HE5.out.setv (by omega) (Ar.xfield_fits HSO.out) HCC.out).others (fun k h1 h2 => Below.heap_setCell w5 ⟨w.heap.size, 18, none⟩ _ k h1))
      have HO6 := Lib.hid HE6.out.one
      have HB6 : Hid (Below w.heap.size w (w5.setCell ⟨w.heap.size, 18, none⟩ (.slice A l.length cap))) := Lib.hid (HB5.out.setCell (Nat.le_refl _) _)
      go_wp2_with (first
        | (refine wpList_load_row rfl 40 _ rfl w.heap.size rfl 40 (cells.setIfInBounds 18 (.slice A l.length cap)) (0, 0) _ HK6.out Tryz.underlying40 rfl (HS.out 18 (.slice A l.length cap)) ?_)
        | ((with_reducible refine wpList_store_rowk rfl 40 _ _ rfl (w.heap.size + 1) (cells.setIfInBounds 18 (.slice A l.length cap)) ?_ ?_ 40 _ HR6.out (HS.out 18 (.slice A l.length cap)) ?_ HO6.out ?_); rfl; rfl; exact HZ.out 18 (.slice A l.length cap); intro w7 hk7 hs7 hbl7 hot7))
      refine bodyPost_ret (results_row_tmp2 rfl _ _ (w.heap.size + 1) _ _ _ rfl hk7 Tryz.underlying40 rfl (HS.out 18 (.slice A l.length cap))) rfl ?_
      exact ⟨.inl ⟨_, _, _, HSO.out, rfl, (HE6.out.others fun k _ h2 => hot7 k h2).toB⟩, HB6.out.trans (hbl7 w.heap.size (Nat.le_succ _))⟩
    · have HCC : Hid (CellOf (okF ok w.heap.size) w5 (.slice none 0 0) (.knds [])) := Lib.hid ⟨none, 0, rfl, ⟨rfl, fun j v hj => by cases hj⟩, fun h => absurd h (Nat.lt_irrefl 0)⟩
      have HNO : Hid (Ar.xfield 18 s = none) := Lib.hid (by rw [HXF.out, HR1.out]; show (Ar.xlist Ar.xknd r1).map _ = _; rw [hno]; rfl)
      clear hno
      have HK6 := Lib.hid (HK5.out.set_ 18 (.slice none 0 0))
      have HR6 := Lib.hid (HR5.out.grown (grown_set w5 w.heap.size 18 (.slice none 0 0)) (by simp))
      have HE6 : Hid (EvOf (okF ok w.heap.size) (w5.setCell ⟨w.heap.size, 18, none⟩ (.slice none 0 0)) (cells.setIfInBounds 18 (.slice none 0 0)) (e.set 18 (.knds []))) := Lib.hid ((HE5.out.setv (by omega) ⟨rfl, (show Ar.FV.Ok (.knds []) from (by intro n hn; cases hn))⟩ HCC.out).others (fun k h1 h2 => Below.heap_setCell w5 ⟨w.heap.size, 18, none⟩ _ k h1))
      have HO6 := Lib.hid HE6.out.one
      have HB6 : Hid (Below w.heap.size w (w5.setCell ⟨w.heap.size, 18, none⟩ (.slice none 0 0))) := Lib.hid (HB5.out.setCell (Nat.le_refl _) _)
      go_wp2_with (first
        | (refine wpList_load_row rfl 40 _ rfl w.heap.size rfl 40 (cells.setIfInBounds 18 (.slice none 0 0)) (0, 0) _ HK6.out Tryz.underlying40 rfl (HS.out 18 (.slice none 0 0)) ?_)
        | ((with_reducible refine wpList_store_rowk rfl 40 _ _ rfl (w.heap.size + 1) (cells.setIfInBounds 18 (.slice none 0 0)) ?_ ?_ 40 _ HR6.out (HS.out 18 (.slice none 0 0)) ?_ HO6.out ?_); rfl; rfl; exact HZ.out 18 (.slice none 0 0); intro w7 hk7 hs7 hbl7 hot7))
      refine bodyPost_ret (results_row_tmp2 rfl _ _ (w.heap.size + 1) _ _ _ rfl hk7 Tryz.underlying40 rfl (HS.out 18 (.slice none 0 0))) rfl ?_
      exact ⟨.inr ⟨HNO.out, _, _, rfl, HE6.out.size, HO6.out⟩, HB6.out.trans (hbl7 w.heap.size (Nat.le_succ _))⟩
  · have HNO : Hid (Ar.xfield 18 s = none) := Lib.hid (by rw [HXF.out, hr1]; rfl)
    clear hr1
    go_wp2_with (first
      | (refine wpList_load_row rfl 40 _ rfl w.heap.size rfl 40 cells (0, 0) _ ((Blk.new w 40 cells).alloc _) Tryz.underlying40 rfl HS0.out ?_)
      | ((with_reducible refine wpList_store_rowk rfl 40 _ _ rfl (w.heap.size + 1) cells ?_ ?_ 40 _ (blk_n1 w _ 40 _) HS0.out ?_ HO0.out ?_); rfl; rfl; exact HZ0.out; intro w6 hk6 hs6 hbl6 hot6))
    have HB6 : Hid (Below w.heap.size w w6) := Lib.hid ((((Below.refl w.heap.size w).alloc (Nat.le_refl _) _).alloc (by rw [World.size_alloc]; exact Nat.le_succ _) _).trans (hbl6 w.heap.size (Nat.le_succ _)))
    refine bodyPost_ret (results_row_tmp2 rfl _ _ (w.heap.size + 1) _ _ _ rfl hk6 Tryz.underlying40 rfl HS0.out) rfl ?_
    exact ⟨.inr ⟨HNO.out, _, _, rfl, HX.out.size, HO0.out⟩, HB6.out⟩
set_option maxHeartbeats 8000000 in
set_option maxRecDepth 100000 in
theorem field_27 (ok : Nat → Prop) (cells : Array Value) (e : List Ar.FV) (s : List UInt8) (w : World) (h : EvOf ok w cells e) (hs : s.length ≤ 1000000) : Calls Tryz.prog 57 #[.agg cells, .int .i64 27, .string (bstr s)] w fun r w' => FdA ok w.heap.size 27 s e r w' ∧ Below w.heap.size w w' := by
  have HS : Hid (∀ k c, (Tryz.prog.info? 40).map (·.size) = some (cells.setIfInBounds k c).size) := Lib.hid (fun k c => by rw [Array.size_setIfInBounds, size_event, h.size])
  have HS0 : Hid ((Tryz.prog.info? 40).map (·.size) = some cells.size) := Lib.hid (by rw [size_event, h.size])
  have HZ : Hid (∀ k c, zeroEv.size = (cells.setIfInBounds k c).size) := Lib.hid (fun k c => by rw [Array.size_setIfInBounds, h.size]; rfl)
  have HZ0 : Hid (zeroEv.size = cells.size) := Lib.hid (by rw [h.size]; rfl)
  have HO0 := Lib.hid h.one
  have HX := Lib.hid h
  have HSG := Lib.hid (fun W => sign_any s 61 W hs)
  rw [show (((61 : UInt8).toNat : Nat) : Int) = 61 from rfl] at HSG
  have HXF := Lib.hid (xfield_eq (i := 27) (s := s) rfl)
  clear h
  go_enter Tryz.func57, Tryz.ntmps57
  go_wp2_with fail
  refine (HSG.out _).mono ?_
  rintro r w1 ⟨hsg, rfl⟩
  rcases hsg with ⟨r1, hr1, rfl⟩ | ⟨hr1, rfl⟩
  · have HR1 := Lib.hid hr1
    have hrl := Ar.xsign_len hr1
    have HUQ := Lib.hid (fun W => runq_any r1 W (by omega))
    clear hr1
    generalize hRB : bstr r1 = RB at *
    go_wp2_with fail
    refine (HUQ.out _).mono ?_
    rintro r w5 ⟨hone, hb5⟩
    have HK5 := Lib.hid (Blk.below ((Blk.new w 40 cells).alloc _) hb5 (by rw [World.size_alloc, World.size_alloc]; omega))
    have HR5 := Lib.hid (Blk.below (blk_n1 w _ 40 _) hb5 (by rw [World.size_alloc, World.size_alloc]; omega))
    have HB5 : Hid (Below w.heap.size w w5) := Lib.hid ((((Below.refl w.heap.size w).alloc (Nat.le_refl _) _).alloc (by rw [World.size_alloc]; exact Nat.le_succ _) _).trans (hb5.mono (by rw [World.size_alloc, World.size_alloc]; omega)))
    have HE5 := Lib.hid (HX.out.toF HB5.out)
    obtain ⟨ci, hci, _⟩ := HX.out.cell 27 _ (List.getElem?_eq_getElem (by rw [HX.out.len]; omega))
    have hc5 := (HK5.out.cell 27).trans hci
    have hf5 := HK5.out.frozen 27
    rcases hone with ⟨x, t, hxt, rfl⟩ | ⟨hno, rfl⟩
    · have HSO : Hid (Ar.xfield 27 s = some (.txt x, t)) := Lib.hid (by rw [HXF.out, HR1.out]; show (Ar.unquote r1).map _ = _; rw [hxt]; rfl)
      clear hxt
      have HK6 := Lib.hid (HK5.out.set_ 27 (.string (bstr x)))
      have HR6 := Lib.hid (HR5.out.grown (grown_set w5 w.heap.size 27 (.string (bstr x))) (by simp))
      have HE6 : Hid (EvOf (okF ok w.heap.size) (w5.setCell ⟨w.heap.size, 27, none⟩ (.string (bstr x))) (cells.setIfInBounds 27 (.string (bstr x))) (e.set 27 (.txt x))) := Lib.hid ((HE5.out.setv (by omega) (Ar.xfield_fits HSO.out) rfl).others (fun k h1 h2 => Below.heap_setCell w5 ⟨w.heap.size, 27, none⟩ _ k h1))
      have HO6 := Lib.hid HE6.out.one
      have HB6 : Hid (Below w.heap.size w (w5.setCell ⟨w.heap.size, 27, none⟩ (.string (bstr x)))) := Lib.hid (HB5.out.setCell (Nat.le_refl _) _)
      go_wp2_with (first
        | (refine wpList_load_row rfl 40 _ rfl w.heap.size rfl 40 (cells.setIfInBounds 27 (.string (bstr x))) (0, 0) _ HK6.out Tryz.underlying40 rfl (HS.out 27 (.string (bstr x))) ?_)
        | ((with_reducible refine wpList_store_rowk rfl 40 _ _ rfl (w.heap.size + 1) (cells.setIfInBounds 27 (.string (bstr x))) ?_ ?_ 40 _ HR6.out (HS.out 27 (.string (bstr x))) ?_ HO6.out ?_); rfl; rfl; exact HZ.out 27 (.string (bstr x)); intro w7 hk7 hs7 hbl7 hot7))
      refine bodyPost_ret (results_row_tmp2 rfl _ _ (w.heap.size + 1) _ _ _ rfl hk7 Tryz.underlying40 rfl (HS.out 27 (.string (bstr x)))) rfl ?_
      exact ⟨.inl ⟨_, _, _, HSO.out, rfl, (HE6.out.others fun k _ h2 => hot7 k h2).toB⟩, HB6.out.trans (hbl7 w.heap.size (Nat.le_succ _))⟩
    · have HNO : Hid (Ar.xfield 27 s = none) := Lib.hid (by rw [HXF.out, HR1.out]; show (Ar.unquote r1).map _ = _; rw [hno]; rfl)
      clear hno
      have HK6 := Lib.hid (HK5.out.set_ 27 (.string ⟨#[]⟩))
      have HR6 := Lib.hid (HR5.out.grown (grown_set w5 w.heap.size 27 (.string ⟨#[]⟩)) (by simp))
      have HE6 : Hid (EvOf (okF ok w.heap.size) (w5.setCell ⟨w.heap.size, 27, none⟩ (.string ⟨#[]⟩)) (cells.setIfInBounds 27 (.string ⟨#[]⟩)) (e.set 27 (.txt []))) := Lib.hid ((HE5.out.setv (by omega) ⟨rfl, (show Ar.FV.Ok (.txt []) from trivial)⟩ rfl).others (fun k h1 h2 => Below.heap_setCell w5 ⟨w.heap.size, 27, none⟩ _ k h1))
      have HO6 := Lib.hid HE6.out.one
      have HB6 : Hid (Below w.heap.size w (w5.setCell ⟨w.heap.size, 27, none⟩ (.string ⟨#[]⟩))) := Lib.hid (HB5.out.setCell (Nat.le_refl _) _)
      go_wp2_with (first
        | (refine wpList_load_row rfl 40 _ rfl w.heap.size rfl 40 (cells.setIfInBounds 27 (.string ⟨#[]⟩)) (0, 0) _ HK6.out Tryz.underlying40 rfl (HS.out 27 (.string ⟨#[]⟩)) ?_)
        | ((with_reducible refine wpList_store_rowk rfl 40 _ _ rfl (w.heap.size + 1) (cells.setIfInBounds 27 (.string ⟨#[]⟩)) ?_ ?_ 40 _ HR6.out (HS.out 27 (.string ⟨#[]⟩)) ?_ HO6.out ?_); rfl; rfl; exact HZ.out 27 (.string ⟨#[]⟩); intro w7 hk7 hs7 hbl7 hot7))
      refine bodyPost_ret (results_row_tmp2 rfl _ _ (w.heap.size + 1) _ _ _ rfl hk7 Tryz.underlying40 rfl (HS.out 27 (.string ⟨#[]⟩))) rfl ?_
      exact ⟨.inr ⟨HNO.out, _, _, rfl, HE6.out.size, HO6.out⟩, HB6.out.trans (hbl7 w.heap.size (Nat.le_succ _))⟩
  · have HNO : Hid (Ar.xfield 27 s = none) := Lib.hid (by rw [HXF.out, hr1]; rfl)
    clear hr1
    go_wp2_with (first
      | (refine wpList_load_row rfl 40 _ rfl w.heap.size rfl 40 cells (0, 0) _ ((Blk.new w 40 cells).alloc _) Tryz.underlying40 rfl HS0.out ?_)
      | ((with_reducible refine wpList_store_rowk rfl 40 _ _ rfl (w.heap.size + 1) cells ?_ ?_ 40 _ (blk_n1 w _ 40 _) HS0.out ?_ HO0.out ?_); rfl; rfl; exact HZ0.out; intro w6 hk6 hs6 hbl6 hot6))
    have HB6 : Hid (Below w.heap.size w w6) := Lib.hid ((((Below.refl w.heap.size w).alloc (Nat.le_refl _) _).alloc (by rw [World.size_alloc]; exact Nat.le_succ _) _).trans (hbl6 w.heap.size (Nat.le_succ _)))
    refine bodyPost_ret (results_row_tmp2 rfl _ _ (w.heap.size + 1) _ _ _ rfl hk6 Tryz.underlying40 rfl HS0.out) rfl ?_
    exact ⟨.inr ⟨HNO.out, _, _, rfl, HX.out.size, HO0.out⟩, HB6.out⟩
end Go.Proofs.YteadlcncnhbmjaaGreatDoor
/- The walks of the reference's field, numbers. Written by gencx5.py. -/
namespace Go.Proofs.YteadlcncnhbmjaaGreatDoor
open Go.RowKit Go.Lib
set_option linter.unusedVariables false
set_option linter.unusedSimpArgs false
set_option maxHeartbeats 8000000 in
set_option maxRecDepth 100000 in
theorem field_0 (ok : Nat → Prop) (cells : Array Value) (e : List Ar.FV) (s : List UInt8) (w : World) (h : EvOf ok w cells e) (hs : s.length ≤ 1000000) : Calls Tryz.prog 57 #[.agg cells, .int .i64 0, .string (bstr s)] w fun r w' => FdA ok w.heap.size 0 s e r w' ∧ Below w.heap.size w w' := by
  have HS : Hid (∀ k c, (Tryz.prog.info? 40).map (·.size) = some (cells.setIfInBounds k c).size) := Lib.hid (fun k c => by rw [Array.size_setIfInBounds, size_event, h.size])
  have HS0 : Hid ((Tryz.prog.info? 40).map (·.size) = some cells.size) := Lib.hid (by rw [size_event, h.size])
  have HZ : Hid (∀ k c, zeroEv.size = (cells.setIfInBounds k c).size) := Lib.hid (fun k c => by rw [Array.size_setIfInBounds, h.size]; rfl)
  have HZ0 : Hid (zeroEv.size = cells.size) := Lib.hid (by rw [h.size]; rfl)
  have HO0 := Lib.hid h.one
  have HX := Lib.hid h
  have HSG := Lib.hid (fun W => sign_any s 61 W hs)
  rw [show (((61 : UInt8).toNat : Nat) : Int) = 61 from rfl] at HSG
  have HXF := Lib.hid (xfield_eq (i := 0) (s := s) rfl)
  clear h
  go_enter Tryz.func57, Tryz.ntmps57
  go_wp2_with fail
  refine (HSG.out _).mono ?_
  rintro r w1 ⟨hsg, rfl⟩
  rcases hsg with ⟨r1, hr1, rfl⟩ | ⟨hr1, rfl⟩
  · have HR1 := Lib.hid hr1
    have hrl := Ar.xsign_len hr1
    have HUQ := Lib.hid (fun W => rnumber_any (bstr r1) W (by rw [bstr_size]; omega))
    rw [show (bstr r1).data.toList = r1 from rfl] at HUQ
    clear hr1
    generalize hRB : bstr r1 = RB at *
    go_wp2_with fail
    refine (HUQ.out _).mono ?_
    rintro r w5 ⟨hone, hb5⟩
    have HK5 := Lib.hid (Blk.below ((Blk.new w 40 cells).alloc _) hb5 (by rw [World.size_alloc, World.size_alloc]; omega))
    have HR5 := Lib.hid (Blk.below (blk_n1 w _ 40 _) hb5 (by rw [World.size_alloc, World.size_alloc]; omega))
    have HB5 : Hid (Below w.heap.size w w5) := Lib.hid ((((Below.refl w.heap.size w).alloc (Nat.le_refl _) _).alloc (by rw [World.size_alloc]; exact Nat.le_succ _) _).trans (hb5.mono (by rw [World.size_alloc, World.size_alloc]; omega)))
    have HE5 := Lib.hid (HX.out.toF HB5.out)
    have HL5 := Lib.hid HR5.out.lt
    rcases hone with ⟨n, t, hxt, rfl⟩ | ⟨hno, rfl⟩
    · have HSO : Hid (Ar.xfield 0 s = some (.num n, t)) := Lib.hid (by rw [HXF.out, HR1.out]; show (Ar.xnum r1).map _ = _; rw [hxt]; rfl)
      have hin : Ar.inInt n := Ar.xnum_range hxt
      clear hxt
      have HFG := Lib.hid (figset_any (okF ok w.heap.size) cells e n w5 0 0 (by simp) HE5.out hin)
      clear hin
      go_wp2_with (refine wpList_load_row rfl 40 _ rfl w.heap.size rfl 40 cells (0, 0) _ HK5.out Tryz.underlying40 rfl HS0.out ?_)
      refine HFG.out.mono ?_
      rintro r w6 ⟨⟨cells', rfl, he6⟩, hb6⟩
      have HE6 := Lib.hid he6
      have HS6 : Hid ((Tryz.prog.info? 40).map (·.size) = some cells'.size) := Lib.hid (by rw [size_event, HE6.out.size])
      have HC6 : Hid (cells.size = cells'.size) := Lib.hid (by rw [HX.out.size, HE6.out.size])
      have HZ6 : Hid (zeroEv.size = cells'.size) := Lib.hid (by rw [HE6.out.size]; rfl)
      have HO6 := Lib.hid HE6.out.one
      have HK6 := Lib.hid (HK5.out.below hb6 (by have := HL5.out; omega))
      have HR6 := Lib.hid (HR5.out.below hb6 HL5.out)
      have HB6 : Hid (Below w.heap.size w w6) := Lib.hid (HB5.out.trans (hb6.mono (by have := HL5.out; omega)))
      clear he6
      go_wp2_with (first
        | ((with_reducible refine wpList_store_rowk rfl 40 _ _ rfl w.heap.size cells' ?_ ?_ 40 _ HK6.out HS6.out ?_ HO6.out ?_); rfl; rfl; exact HC6.out; intro w8 hk8 hs8 hbl8 hot8
           have HK8 := Lib.hid hk8
           have HR8 : Hid (Blk w8 (w.heap.size + 1) 40 _) := Lib.hid ((hot8 (w.heap.size + 1) (by omega)).trans HR6.out)
           have HB8 : Hid (Below w.heap.size w w8) := Lib.hid (HB6.out.trans (hbl8 w.heap.size (Nat.le_refl _)))
           have HOT8 := Lib.hid hot8
           clear hk8 hot8 hbl8)
        | (refine wpList_load_row rfl 40 _ rfl w.heap.size rfl 40 cells' (0, 0) _ HK8.out Tryz.underlying40 rfl HS6.out ?_)
        | ((with_reducible refine wpList_store_rowk rfl 40 _ _ rfl (w.heap.size + 1) cells' ?_ ?_ 40 _ HR8.out HS6.out ?_ HO6.out ?_); rfl; rfl; exact HZ6.out; intro w9 hk9 hs9 hbl9 hot9))
      refine bodyPost_ret (results_row_tmp2 rfl _ _ (w.heap.size + 1) _ _ _ rfl hk9 Tryz.underlying40 rfl HS6.out) rfl ?_
      exact ⟨.inl ⟨_, _, _, HSO.out, rfl, ((HE6.out.others fun k h1 _ => HOT8.out k h1).others fun k _ h2 => hot9 k h2).toB⟩, HB8.out.trans (hbl9 w.heap.size (Nat.le_succ _))⟩
    · have HNO : Hid (Ar.xfield 0 s = none) := Lib.hid (by rw [HXF.out, HR1.out]; show (Ar.xnum r1).map _ = _; rw [hno]; rfl)
      clear hno
      have hin : Ar.inInt 0 := by unfold Ar.inInt; omega
      have HFG := Lib.hid (figset_any (okF ok w.heap.size) cells e 0 w5 0 0 (by simp) HE5.out hin)
      clear hin
      go_wp2_with (refine wpList_load_row rfl 40 _ rfl w.heap.size rfl 40 cells (0, 0) _ HK5.out Tryz.underlying40 rfl HS0.out ?_)
      refine HFG.out.mono ?_
      rintro r w6 ⟨⟨cells', rfl, he6⟩, hb6⟩
      have HE6 := Lib.hid he6
      have HS6 : Hid ((Tryz.prog.info? 40).map (·.size) = some cells'.size) := Lib.hid (by rw [size_event, HE6.out.size])
      have HC6 : Hid (cells.size = cells'.size) := Lib.hid (by rw [HX.out.size, HE6.out.size])
      have HZ6 : Hid (zeroEv.size = cells'.size) := Lib.hid (by rw [HE6.out.size]; rfl)
      have HO6 := Lib.hid HE6.out.one
      have HK6 := Lib.hid (HK5.out.below hb6 (by have := HL5.out; omega))
      have HR6 := Lib.hid (HR5.out.below hb6 HL5.out)
      have HB6 : Hid (Below w.heap.size w w6) := Lib.hid (HB5.out.trans (hb6.mono (by have := HL5.out; omega)))
      clear he6
      go_wp2_with (first
        | ((with_reducible refine wpList_store_rowk rfl 40 _ _ rfl w.heap.size cells' ?_ ?_ 40 _ HK6.out HS6.out ?_ HO6.out ?_); rfl; rfl; exact HC6.out; intro w8 hk8 hs8 hbl8 hot8
           have HK8 := Lib.hid hk8
           have HR8 : Hid (Blk w8 (w.heap.size + 1) 40 _) := Lib.hid ((hot8 (w.heap.size + 1) (by omega)).trans HR6.out)
           have HB8 : Hid (Below w.heap.size w w8) := Lib.hid (HB6.out.trans (hbl8 w.heap.size (Nat.le_refl _)))
           have HOT8 := Lib.hid hot8
           clear hk8 hot8 hbl8)
        | (refine wpList_load_row rfl 40 _ rfl w.heap.size rfl 40 cells' (0, 0) _ HK8.out Tryz.underlying40 rfl HS6.out ?_)
        | ((with_reducible refine wpList_store_rowk rfl 40 _ _ rfl (w.heap.size + 1) cells' ?_ ?_ 40 _ HR8.out HS6.out ?_ HO6.out ?_); rfl; rfl; exact HZ6.out; intro w9 hk9 hs9 hbl9 hot9))
      refine bodyPost_ret (results_row_tmp2 rfl _ _ (w.heap.size + 1) _ _ _ rfl hk9 Tryz.underlying40 rfl HS6.out) rfl ?_
      exact ⟨.inr ⟨HNO.out, _, _, rfl, HE6.out.size, HO6.out⟩, HB8.out.trans (hbl9 w.heap.size (Nat.le_succ _))⟩
  · have HNO : Hid (Ar.xfield 0 s = none) := Lib.hid (by rw [HXF.out, hr1]; rfl)
    clear hr1
    go_wp2_with (first
      | (refine wpList_load_row rfl 40 _ rfl w.heap.size rfl 40 cells (0, 0) _ ((Blk.new w 40 cells).alloc _) Tryz.underlying40 rfl HS0.out ?_)
      | ((with_reducible refine wpList_store_rowk rfl 40 _ _ rfl (w.heap.size + 1) cells ?_ ?_ 40 _ (blk_n1 w _ 40 _) HS0.out ?_ HO0.out ?_); rfl; rfl; exact HZ0.out; intro w6 hk6 hs6 hbl6 hot6))
    have HB6 : Hid (Below w.heap.size w w6) := Lib.hid ((((Below.refl w.heap.size w).alloc (Nat.le_refl _) _).alloc (by rw [World.size_alloc]; exact Nat.le_succ _) _).trans (hbl6 w.heap.size (Nat.le_succ _)))
    refine bodyPost_ret (results_row_tmp2 rfl _ _ (w.heap.size + 1) _ _ _ rfl hk6 Tryz.underlying40 rfl HS0.out) rfl ?_
    exact ⟨.inr ⟨HNO.out, _, _, rfl, HX.out.size, HO0.out⟩, HB6.out⟩
set_option maxHeartbeats 8000000 in
set_option maxRecDepth 100000 in
theorem field_3 (ok : Nat → Prop) (cells : Array Value) (e : List Ar.FV) (s : List UInt8) (w : World) (h : EvOf ok w cells e) (hs : s.length ≤ 1000000) : Calls Tryz.prog 57 #[.agg cells, .int .i64 3, .string (bstr s)] w fun r w' => FdA ok w.heap.size 3 s e r w' ∧ Below w.heap.size w w' := by
  have HS : Hid (∀ k c, (Tryz.prog.info? 40).map (·.size) = some (cells.setIfInBounds k c).size) := Lib.hid (fun k c => by rw [Array.size_setIfInBounds, size_event, h.size])
  have HS0 : Hid ((Tryz.prog.info? 40).map (·.size) = some cells.size) := Lib.hid (by rw [size_event, h.size])
  have HZ : Hid (∀ k c, zeroEv.size = (cells.setIfInBounds k c).size) := Lib.hid (fun k c => by rw [Array.size_setIfInBounds, h.size]; rfl)
  have HZ0 : Hid (zeroEv.size = cells.size) := Lib.hid (by rw [h.size]; rfl)
  have HO0 := Lib.hid h.one
  have HX := Lib.hid h
  have HSG := Lib.hid (fun W => sign_any s 61 W hs)
  rw [show (((61 : UInt8).toNat : Nat) : Int) = 61 from rfl] at HSG
  have HXF := Lib.hid (xfield_eq (i := 3) (s := s) rfl)
  clear h
  go_enter Tryz.func57, Tryz.ntmps57
  go_wp2_with fail
  refine (HSG.out _).mono ?_
  rintro r w1 ⟨hsg, rfl⟩
  rcases hsg with ⟨r1, hr1, rfl⟩ | ⟨hr1, rfl⟩
  · have HR1 := Lib.hid hr1
    have hrl := Ar.xsign_len hr1
    have HUQ := Lib.hid (fun W => rnumber_any (bstr r1) W (by rw [bstr_size]; omega))
    rw [show (bstr r1).data.toList = r1 from rfl] at HUQ
    clear hr1
    generalize hRB : bstr r1 = RB at *
    go_wp2_with fail
    refine (HUQ.out _).mono ?_
    rintro r w5 ⟨hone, hb5⟩
    have HK5 := Lib.hid (Blk.below ((Blk.new w 40 cells).alloc _) hb5 (by rw [World.size_alloc, World.size_alloc]; omega))
    have HR5 := Lib.hid (Blk.below (blk_n1 w _ 40 _) hb5 (by rw [World.size_alloc, World.size_alloc]; omega))
    have HB5 : Hid (Below w.heap.size w w5) := Lib.hid ((((Below.refl w.heap.size w).alloc (Nat.le_refl _) _).alloc (by rw [World.size_alloc]; exact Nat.le_succ _) _).trans (hb5.mono (by rw [World.size_alloc, World.size_alloc]; omega)))
    have HE5 := Lib.hid (HX.out.toF HB5.out)
    have HL5 := Lib.hid HR5.out.lt
    rcases hone with ⟨n, t, hxt, rfl⟩ | ⟨hno, rfl⟩
    · have HSO : Hid (Ar.xfield 3 s = some (.num n, t)) := Lib.hid (by rw [HXF.out, HR1.out]; show (Ar.xnum r1).map _ = _; rw [hxt]; rfl)
      have hin : Ar.inInt n := Ar.xnum_range hxt
      clear hxt
      have HFG := Lib.hid (figset_any (okF ok w.heap.size) cells e n w5 3 3 (by simp) HE5.out hin)
      clear hin
      go_wp2_with (refine wpList_load_row rfl 40 _ rfl w.heap.size rfl 40 cells (0, 0) _ HK5.out Tryz.underlying40 rfl HS0.out ?_)
      refine HFG.out.mono ?_
      rintro r w6 ⟨⟨cells', rfl, he6⟩, hb6⟩
      have HE6 := Lib.hid he6
      have HS6 : Hid ((Tryz.prog.info? 40).map (·.size) = some cells'.size) := Lib.hid (by rw [size_event, HE6.out.size])
      have HC6 : Hid (cells.size = cells'.size) := Lib.hid (by rw [HX.out.size, HE6.out.size])
      have HZ6 : Hid (zeroEv.size = cells'.size) := Lib.hid (by rw [HE6.out.size]; rfl)
      have HO6 := Lib.hid HE6.out.one
      have HK6 := Lib.hid (HK5.out.below hb6 (by have := HL5.out; omega))
      have HR6 := Lib.hid (HR5.out.below hb6 HL5.out)
      have HB6 : Hid (Below w.heap.size w w6) := Lib.hid (HB5.out.trans (hb6.mono (by have := HL5.out; omega)))
      clear he6
      go_wp2_with (first
        | ((with_reducible refine wpList_store_rowk rfl 40 _ _ rfl w.heap.size cells' ?_ ?_ 40 _ HK6.out HS6.out ?_ HO6.out ?_); rfl; rfl; exact HC6.out; intro w8 hk8 hs8 hbl8 hot8
           have HK8 := Lib.hid hk8
           have HR8 : Hid (Blk w8 (w.heap.size + 1) 40 _) := Lib.hid ((hot8 (w.heap.size + 1) (by omega)).trans HR6.out)
           have HB8 : Hid (Below w.heap.size w w8) := Lib.hid (HB6.out.trans (hbl8 w.heap.size (Nat.le_refl _)))
           have HOT8 := Lib.hid hot8
           clear hk8 hot8 hbl8)
        | (refine wpList_load_row rfl 40 _ rfl w.heap.size rfl 40 cells' (0, 0) _ HK8.out Tryz.underlying40 rfl HS6.out ?_)
        | ((with_reducible refine wpList_store_rowk rfl 40 _ _ rfl (w.heap.size + 1) cells' ?_ ?_ 40 _ HR8.out HS6.out ?_ HO6.out ?_); rfl; rfl; exact HZ6.out; intro w9 hk9 hs9 hbl9 hot9))
      refine bodyPost_ret (results_row_tmp2 rfl _ _ (w.heap.size + 1) _ _ _ rfl hk9 Tryz.underlying40 rfl HS6.out) rfl ?_
      exact ⟨.inl ⟨_, _, _, HSO.out, rfl, ((HE6.out.others fun k h1 _ => HOT8.out k h1).others fun k _ h2 => hot9 k h2).toB⟩, HB8.out.trans (hbl9 w.heap.size (Nat.le_succ _))⟩
    · have HNO : Hid (Ar.xfield 3 s = none) := Lib.hid (by rw [HXF.out, HR1.out]; show (Ar.xnum r1).map _ = _; rw [hno]; rfl)
      clear hno
      have hin : Ar.inInt 0 := by unfold Ar.inInt; omega
      have HFG := Lib.hid (figset_any (okF ok w.heap.size) cells e 0 w5 3 3 (by simp) HE5.out hin)
      clear hin
      go_wp2_with (refine wpList_load_row rfl 40 _ rfl w.heap.size rfl 40 cells (0, 0) _ HK5.out Tryz.underlying40 rfl HS0.out ?_)
      refine HFG.out.mono ?_
      rintro r w6 ⟨⟨cells', rfl, he6⟩, hb6⟩
      have HE6 := Lib.hid he6
      have HS6 : Hid ((Tryz.prog.info? 40).map (·.size) = some cells'.size) := Lib.hid (by rw [size_event, HE6.out.size])
      have HC6 : Hid (cells.size = cells'.size) := Lib.hid (by rw [HX.out.size, HE6.out.size])
      have HZ6 : Hid (zeroEv.size = cells'.size) := Lib.hid (by rw [HE6.out.size]; rfl)
      have HO6 := Lib.hid HE6.out.one
      have HK6 := Lib.hid (HK5.out.below hb6 (by have := HL5.out; omega))
      have HR6 := Lib.hid (HR5.out.below hb6 HL5.out)
      have HB6 : Hid (Below w.heap.size w w6) := Lib.hid (HB5.out.trans (hb6.mono (by have := HL5.out; omega)))
      clear he6
      go_wp2_with (first
        | ((with_reducible refine wpList_store_rowk rfl 40 _ _ rfl w.heap.size cells' ?_ ?_ 40 _ HK6.out HS6.out ?_ HO6.out ?_); rfl; rfl; exact HC6.out; intro w8 hk8 hs8 hbl8 hot8
           have HK8 := Lib.hid hk8
           have HR8 : Hid (Blk w8 (w.heap.size + 1) 40 _) := Lib.hid ((hot8 (w.heap.size + 1) (by omega)).trans HR6.out)
           have HB8 : Hid (Below w.heap.size w w8) := Lib.hid (HB6.out.trans (hbl8 w.heap.size (Nat.le_refl _)))
           have HOT8 := Lib.hid hot8
           clear hk8 hot8 hbl8)
        | (refine wpList_load_row rfl 40 _ rfl w.heap.size rfl 40 cells' (0, 0) _ HK8.out Tryz.underlying40 rfl HS6.out ?_)
        | ((with_reducible refine wpList_store_rowk rfl 40 _ _ rfl (w.heap.size + 1) cells' ?_ ?_ 40 _ HR8.out HS6.out ?_ HO6.out ?_); rfl; rfl; exact HZ6.out; intro w9 hk9 hs9 hbl9 hot9))
      refine bodyPost_ret (results_row_tmp2 rfl _ _ (w.heap.size + 1) _ _ _ rfl hk9 Tryz.underlying40 rfl HS6.out) rfl ?_
      exact ⟨.inr ⟨HNO.out, _, _, rfl, HE6.out.size, HO6.out⟩, HB8.out.trans (hbl9 w.heap.size (Nat.le_succ _))⟩
  · have HNO : Hid (Ar.xfield 3 s = none) := Lib.hid (by rw [HXF.out, hr1]; rfl)
    clear hr1
    go_wp2_with (first
      | (refine wpList_load_row rfl 40 _ rfl w.heap.size rfl 40 cells (0, 0) _ ((Blk.new w 40 cells).alloc _) Tryz.underlying40 rfl HS0.out ?_)
      | ((with_reducible refine wpList_store_rowk rfl 40 _ _ rfl (w.heap.size + 1) cells ?_ ?_ 40 _ (blk_n1 w _ 40 _) HS0.out ?_ HO0.out ?_); rfl; rfl; exact HZ0.out; intro w6 hk6 hs6 hbl6 hot6))
    have HB6 : Hid (Below w.heap.size w w6) := Lib.hid ((((Below.refl w.heap.size w).alloc (Nat.le_refl _) _).alloc (by rw [World.size_alloc]; exact Nat.le_succ _) _).trans (hbl6 w.heap.size (Nat.le_succ _)))
    refine bodyPost_ret (results_row_tmp2 rfl _ _ (w.heap.size + 1) _ _ _ rfl hk6 Tryz.underlying40 rfl HS0.out) rfl ?_
    exact ⟨.inr ⟨HNO.out, _, _, rfl, HX.out.size, HO0.out⟩, HB6.out⟩
set_option maxHeartbeats 8000000 in
set_option maxRecDepth 100000 in
theorem field_6 (ok : Nat → Prop) (cells : Array Value) (e : List Ar.FV) (s : List UInt8) (w : World) (h : EvOf ok w cells e) (hs : s.length ≤ 1000000) : Calls Tryz.prog 57 #[.agg cells, .int .i64 6, .string (bstr s)] w fun r w' => FdA ok w.heap.size 6 s e r w' ∧ Below w.heap.size w w' := by
  have HS : Hid (∀ k c, (Tryz.prog.info? 40).map (·.size) = some (cells.setIfInBounds k c).size) := Lib.hid (fun k c => by rw [Array.size_setIfInBounds, size_event, h.size])
  have HS0 : Hid ((Tryz.prog.info? 40).map (·.size) = some cells.size) := Lib.hid (by rw [size_event, h.size])
  have HZ : Hid (∀ k c, zeroEv.size = (cells.setIfInBounds k c).size) := Lib.hid (fun k c => by rw [Array.size_setIfInBounds, h.size]; rfl)
  have HZ0 : Hid (zeroEv.size = cells.size) := Lib.hid (by rw [h.size]; rfl)
  have HO0 := Lib.hid h.one
  have HX := Lib.hid h
  have HSG := Lib.hid (fun W => sign_any s 61 W hs)
  rw [show (((61 : UInt8).toNat : Nat) : Int) = 61 from rfl] at HSG
  have HXF := Lib.hid (xfield_eq (i := 6) (s := s) rfl)
  clear h
  go_enter Tryz.func57, Tryz.ntmps57
  go_wp2_with fail
  refine (HSG.out _).mono ?_
  rintro r w1 ⟨hsg, rfl⟩
  rcases hsg with ⟨r1, hr1, rfl⟩ | ⟨hr1, rfl⟩
  · have HR1 := Lib.hid hr1
    have hrl := Ar.xsign_len hr1
    have HUQ := Lib.hid (fun W => rnumber_any (bstr r1) W (by rw [bstr_size]; omega))
    rw [show (bstr r1).data.toList = r1 from rfl] at HUQ
    clear hr1
    generalize hRB : bstr r1 = RB at *
    go_wp2_with fail
    refine (HUQ.out _).mono ?_
    rintro r w5 ⟨hone, hb5⟩
    have HK5 := Lib.hid (Blk.below ((Blk.new w 40 cells).alloc _) hb5 (by rw [World.size_alloc, World.size_alloc]; omega))
    have HR5 := Lib.hid (Blk.below (blk_n1 w _ 40 _) hb5 (by rw [World.size_alloc, World.size_alloc]; omega))
    have HB5 : Hid (Below w.heap.size w w5) := Lib.hid ((((Below.refl w.heap.size w).alloc (Nat.le_refl _) _).alloc (by rw [World.size_alloc]; exact Nat.le_succ _) _).trans (hb5.mono (by rw [World.size_alloc, World.size_alloc]; omega)))
    have HE5 := Lib.hid (HX.out.toF HB5.out)
    have HL5 := Lib.hid HR5.out.lt
    rcases hone with ⟨n, t, hxt, rfl⟩ | ⟨hno, rfl⟩
    · have HSO : Hid (Ar.xfield 6 s = some (.num n, t)) := Lib.hid (by rw [HXF.out, HR1.out]; show (Ar.xnum r1).map _ = _; rw [hxt]; rfl)
      have hin : Ar.inInt n := Ar.xnum_range hxt
      clear hxt
      have HFG := Lib.hid (figset_any (okF ok w.heap.size) cells e n w5 6 6 (by simp) HE5.out hin)
      clear hin
      go_wp2_with (refine wpList_load_row rfl 40 _ rfl w.heap.size rfl 40 cells (0, 0) _ HK5.out Tryz.underlying40 rfl HS0.out ?_)
      refine HFG.out.mono ?_
      rintro r w6 ⟨⟨cells', rfl, he6⟩, hb6⟩
      have HE6 := Lib.hid he6
      have HS6 : Hid ((Tryz.prog.info? 40).map (·.size) = some cells'.size) := Lib.hid (by rw [size_event, HE6.out.size])
      have HC6 : Hid (cells.size = cells'.size) := Lib.hid (by rw [HX.out.size, HE6.out.size])
      have HZ6 : Hid (zeroEv.size = cells'.size) := Lib.hid (by rw [HE6.out.size]; rfl)
      have HO6 := Lib.hid HE6.out.one
      have HK6 := Lib.hid (HK5.out.below hb6 (by have := HL5.out; omega))
      have HR6 := Lib.hid (HR5.out.below hb6 HL5.out)
      have HB6 : Hid (Below w.heap.size w w6) := Lib.hid (HB5.out.trans (hb6.mono (by have := HL5.out; omega)))
      clear he6
      go_wp2_with (first
        | ((with_reducible refine wpList_store_rowk rfl 40 _ _ rfl w.heap.size cells' ?_ ?_ 40 _ HK6.out HS6.out ?_ HO6.out ?_); rfl; rfl; exact HC6.out; intro w8 hk8 hs8 hbl8 hot8
           have HK8 := Lib.hid hk8
           have HR8 : Hid (Blk w8 (w.heap.size + 1) 40 _) := Lib.hid ((hot8 (w.heap.size + 1) (by omega)).trans HR6.out)
           have HB8 : Hid (Below w.heap.size w w8) := Lib.hid (HB6.out.trans (hbl8 w.heap.size (Nat.le_refl _)))
           have HOT8 := Lib.hid hot8
           clear hk8 hot8 hbl8)
        | (refine wpList_load_row rfl 40 _ rfl w.heap.size rfl 40 cells' (0, 0) _ HK8.out Tryz.underlying40 rfl HS6.out ?_)
        | ((with_reducible refine wpList_store_rowk rfl 40 _ _ rfl (w.heap.size + 1) cells' ?_ ?_ 40 _ HR8.out HS6.out ?_ HO6.out ?_); rfl; rfl; exact HZ6.out; intro w9 hk9 hs9 hbl9 hot9))
      refine bodyPost_ret (results_row_tmp2 rfl _ _ (w.heap.size + 1) _ _ _ rfl hk9 Tryz.underlying40 rfl HS6.out) rfl ?_
      exact ⟨.inl ⟨_, _, _, HSO.out, rfl, ((HE6.out.others fun k h1 _ => HOT8.out k h1).others fun k _ h2 => hot9 k h2).toB⟩, HB8.out.trans (hbl9 w.heap.size (Nat.le_succ _))⟩
    · have HNO : Hid (Ar.xfield 6 s = none) := Lib.hid (by rw [HXF.out, HR1.out]; show (Ar.xnum r1).map _ = _; rw [hno]; rfl)
      clear hno
      have hin : Ar.inInt 0 := by unfold Ar.inInt; omega
      have HFG := Lib.hid (figset_any (okF ok w.heap.size) cells e 0 w5 6 6 (by simp) HE5.out hin)
      clear hin
      go_wp2_with (refine wpList_load_row rfl 40 _ rfl w.heap.size rfl 40 cells (0, 0) _ HK5.out Tryz.underlying40 rfl HS0.out ?_)
      refine HFG.out.mono ?_
      rintro r w6 ⟨⟨cells', rfl, he6⟩, hb6⟩
      have HE6 := Lib.hid he6
      have HS6 : Hid ((Tryz.prog.info? 40).map (·.size) = some cells'.size) := Lib.hid (by rw [size_event, HE6.out.size])
      have HC6 : Hid (cells.size = cells'.size) := Lib.hid (by rw [HX.out.size, HE6.out.size])
      have HZ6 : Hid (zeroEv.size = cells'.size) := Lib.hid (by rw [HE6.out.size]; rfl)
      have HO6 := Lib.hid HE6.out.one
      have HK6 := Lib.hid (HK5.out.below hb6 (by have := HL5.out; omega))
      have HR6 := Lib.hid (HR5.out.below hb6 HL5.out)
      have HB6 : Hid (Below w.heap.size w w6) := Lib.hid (HB5.out.trans (hb6.mono (by have := HL5.out; omega)))
      clear he6
      go_wp2_with (first
        | ((with_reducible refine wpList_store_rowk rfl 40 _ _ rfl w.heap.size cells' ?_ ?_ 40 _ HK6.out HS6.out ?_ HO6.out ?_); rfl; rfl; exact HC6.out; intro w8 hk8 hs8 hbl8 hot8
           have HK8 := Lib.hid hk8
           have HR8 : Hid (Blk w8 (w.heap.size + 1) 40 _) := Lib.hid ((hot8 (w.heap.size + 1) (by omega)).trans HR6.out)
           have HB8 : Hid (Below w.heap.size w w8) := Lib.hid (HB6.out.trans (hbl8 w.heap.size (Nat.le_refl _)))
           have HOT8 := Lib.hid hot8
           clear hk8 hot8 hbl8)
        | (refine wpList_load_row rfl 40 _ rfl w.heap.size rfl 40 cells' (0, 0) _ HK8.out Tryz.underlying40 rfl HS6.out ?_)
        | ((with_reducible refine wpList_store_rowk rfl 40 _ _ rfl (w.heap.size + 1) cells' ?_ ?_ 40 _ HR8.out HS6.out ?_ HO6.out ?_); rfl; rfl; exact HZ6.out; intro w9 hk9 hs9 hbl9 hot9))
      refine bodyPost_ret (results_row_tmp2 rfl _ _ (w.heap.size + 1) _ _ _ rfl hk9 Tryz.underlying40 rfl HS6.out) rfl ?_
      exact ⟨.inr ⟨HNO.out, _, _, rfl, HE6.out.size, HO6.out⟩, HB8.out.trans (hbl9 w.heap.size (Nat.le_succ _))⟩
  · have HNO : Hid (Ar.xfield 6 s = none) := Lib.hid (by rw [HXF.out, hr1]; rfl)
    clear hr1
    go_wp2_with (first
      | (refine wpList_load_row rfl 40 _ rfl w.heap.size rfl 40 cells (0, 0) _ ((Blk.new w 40 cells).alloc _) Tryz.underlying40 rfl HS0.out ?_)
      | ((with_reducible refine wpList_store_rowk rfl 40 _ _ rfl (w.heap.size + 1) cells ?_ ?_ 40 _ (blk_n1 w _ 40 _) HS0.out ?_ HO0.out ?_); rfl; rfl; exact HZ0.out; intro w6 hk6 hs6 hbl6 hot6))
    have HB6 : Hid (Below w.heap.size w w6) := Lib.hid ((((Below.refl w.heap.size w).alloc (Nat.le_refl _) _).alloc (by rw [World.size_alloc]; exact Nat.le_succ _) _).trans (hbl6 w.heap.size (Nat.le_succ _)))
    refine bodyPost_ret (results_row_tmp2 rfl _ _ (w.heap.size + 1) _ _ _ rfl hk6 Tryz.underlying40 rfl HS0.out) rfl ?_
    exact ⟨.inr ⟨HNO.out, _, _, rfl, HX.out.size, HO0.out⟩, HB6.out⟩
set_option maxHeartbeats 8000000 in
set_option maxRecDepth 100000 in
theorem field_7 (ok : Nat → Prop) (cells : Array Value) (e : List Ar.FV) (s : List UInt8) (w : World) (h : EvOf ok w cells e) (hs : s.length ≤ 1000000) : Calls Tryz.prog 57 #[.agg cells, .int .i64 7, .string (bstr s)] w fun r w' => FdA ok w.heap.size 7 s e r w' ∧ Below w.heap.size w w' := by
  have HS : Hid (∀ k c, (Tryz.prog.info? 40).map (·.size) = some (cells.setIfInBounds k c).size) := Lib.hid (fun k c => by rw [Array.size_setIfInBounds, size_event, h.size])
  have HS0 : Hid ((Tryz.prog.info? 40).map (·.size) = some cells.size) := Lib.hid (by rw [size_event, h.size])
  have HZ : Hid (∀ k c, zeroEv.size = (cells.setIfInBounds k c).size) := Lib.hid (fun k c => by rw [Array.size_setIfInBounds, h.size]; rfl)
  have HZ0 : Hid (zeroEv.size = cells.size) := Lib.hid (by rw [h.size]; rfl)
  have HO0 := Lib.hid h.one
  have HX := Lib.hid h
  have HSG := Lib.hid (fun W => sign_any s 61 W hs)
  rw [show (((61 : UInt8).toNat : Nat) : Int) = 61 from rfl] at HSG
  have HXF := Lib.hid (xfield_eq (i := 7) (s := s) rfl)
  clear h
  go_enter Tryz.func57, Tryz.ntmps57
  go_wp2_with fail
  refine (HSG.out _).mono ?_
  rintro r w1 ⟨hsg, rfl⟩
  rcases hsg with ⟨r1, hr1, rfl⟩ | ⟨hr1, rfl⟩
  · have HR1 := Lib.hid hr1
    have hrl := Ar.xsign_len hr1
    have HUQ := Lib.hid (fun W => rnumber_any (bstr r1) W (by rw [bstr_size]; omega))
    rw [show (bstr r1).data.toList = r1 from rfl] at HUQ
    clear hr1
    generalize hRB : bstr r1 = RB at *
    go_wp2_with fail
    refine (HUQ.out _).mono ?_
    rintro r w5 ⟨hone, hb5⟩
    have HK5 := Lib.hid (Blk.below ((Blk.new w 40 cells).alloc _) hb5 (by rw [World.size_alloc, World.size_alloc]; omega))
    have HR5 := Lib.hid (Blk.below (blk_n1 w _ 40 _) hb5 (by rw [World.size_alloc, World.size_alloc]; omega))
    have HB5 : Hid (Below w.heap.size w w5) := Lib.hid ((((Below.refl w.heap.size w).alloc (Nat.le_refl _) _).alloc (by rw [World.size_alloc]; exact Nat.le_succ _) _).trans (hb5.mono (by rw [World.size_alloc, World.size_alloc]; omega)))
    have HE5 := Lib.hid (HX.out.toF HB5.out)
    have HL5 := Lib.hid HR5.out.lt
    rcases hone with ⟨n, t, hxt, rfl⟩ | ⟨hno, rfl⟩
    · have HSO : Hid (Ar.xfield 7 s = some (.num n, t)) := Lib.hid (by rw [HXF.out, HR1.out]; show (Ar.xnum r1).map _ = _; rw [hxt]; rfl)
      have hin : Ar.inInt n := Ar.xnum_range hxt
      clear hxt
      have HFG := Lib.hid (figset_any (okF ok w.heap.size) cells e n w5 7 7 (by simp) HE5.out hin)
      clear hin
      go_wp2_with (refine wpList_load_row rfl 40 _ rfl w.heap.size rfl 40 cells (0, 0) _ HK5.out Tryz.underlying40 rfl HS0.out ?_)
      refine HFG.out.mono ?_
      rintro r w6 ⟨⟨cells', rfl, he6⟩, hb6⟩
      have HE6 := Lib.hid he6
      have HS6 : Hid ((Tryz.prog.info? 40).map (·.size) = some cells'.size) := Lib.hid (by rw [size_event, HE6.out.size])
      have HC6 : Hid (cells.size = cells'.size) := Lib.hid (by rw [HX.out.size, HE6.out.size])
      have HZ6 : Hid (zeroEv.size = cells'.size) := Lib.hid (by rw [HE6.out.size]; rfl)
      have HO6 := Lib.hid HE6.out.one
      have HK6 := Lib.hid (HK5.out.below hb6 (by have := HL5.out; omega))
      have HR6 := Lib.hid (HR5.out.below hb6 HL5.out)
      have HB6 : Hid (Below w.heap.size w w6) := Lib.hid (HB5.out.trans (hb6.mono (by have := HL5.out; omega)))
      clear he6
      go_wp2_with (first
        | ((with_reducible refine wpList_store_rowk rfl 40 _ _ rfl w.heap.size cells' ?_ ?_ 40 _ HK6.out HS6.out ?_ HO6.out ?_); rfl; rfl; exact HC6.out; intro w8 hk8 hs8 hbl8 hot8
           have HK8 := Lib.hid hk8
           have HR8 : Hid (Blk w8 (w.heap.size + 1) 40 _) := Lib.hid ((hot8 (w.heap.size + 1) (by omega)).trans HR6.out)
           have HB8 : Hid (Below w.heap.size w w8) := Lib.hid (HB6.out.trans (hbl8 w.heap.size (Nat.le_refl _)))
           have HOT8 := Lib.hid hot8
           clear hk8 hot8 hbl8)
        | (refine wpList_load_row rfl 40 _ rfl w.heap.size rfl 40 cells' (0, 0) _ HK8.out Tryz.underlying40 rfl HS6.out ?_)
        | ((with_reducible refine wpList_store_rowk rfl 40 _ _ rfl (w.heap.size + 1) cells' ?_ ?_ 40 _ HR8.out HS6.out ?_ HO6.out ?_); rfl; rfl; exact HZ6.out; intro w9 hk9 hs9 hbl9 hot9))
      refine bodyPost_ret (results_row_tmp2 rfl _ _ (w.heap.size + 1) _ _ _ rfl hk9 Tryz.underlying40 rfl HS6.out) rfl ?_
      exact ⟨.inl ⟨_, _, _, HSO.out, rfl, ((HE6.out.others fun k h1 _ => HOT8.out k h1).others fun k _ h2 => hot9 k h2).toB⟩, HB8.out.trans (hbl9 w.heap.size (Nat.le_succ _))⟩
    · have HNO : Hid (Ar.xfield 7 s = none) := Lib.hid (by rw [HXF.out, HR1.out]; show (Ar.xnum r1).map _ = _; rw [hno]; rfl)
      clear hno
      have hin : Ar.inInt 0 := by unfold Ar.inInt; omega
      have HFG := Lib.hid (figset_any (okF ok w.heap.size) cells e 0 w5 7 7 (by simp) HE5.out hin)
      clear hin
      go_wp2_with (refine wpList_load_row rfl 40 _ rfl w.heap.size rfl 40 cells (0, 0) _ HK5.out Tryz.underlying40 rfl HS0.out ?_)
      refine HFG.out.mono ?_
      rintro r w6 ⟨⟨cells', rfl, he6⟩, hb6⟩
      have HE6 := Lib.hid he6
      have HS6 : Hid ((Tryz.prog.info? 40).map (·.size) = some cells'.size) := Lib.hid (by rw [size_event, HE6.out.size])
      have HC6 : Hid (cells.size = cells'.size) := Lib.hid (by rw [HX.out.size, HE6.out.size])
      have HZ6 : Hid (zeroEv.size = cells'.size) := Lib.hid (by rw [HE6.out.size]; rfl)
      have HO6 := Lib.hid HE6.out.one
      have HK6 := Lib.hid (HK5.out.below hb6 (by have := HL5.out; omega))
      have HR6 := Lib.hid (HR5.out.below hb6 HL5.out)
      have HB6 : Hid (Below w.heap.size w w6) := Lib.hid (HB5.out.trans (hb6.mono (by have := HL5.out; omega)))
      clear he6
      go_wp2_with (first
        | ((with_reducible refine wpList_store_rowk rfl 40 _ _ rfl w.heap.size cells' ?_ ?_ 40 _ HK6.out HS6.out ?_ HO6.out ?_); rfl; rfl; exact HC6.out; intro w8 hk8 hs8 hbl8 hot8
           have HK8 := Lib.hid hk8
           have HR8 : Hid (Blk w8 (w.heap.size + 1) 40 _) := Lib.hid ((hot8 (w.heap.size + 1) (by omega)).trans HR6.out)
           have HB8 : Hid (Below w.heap.size w w8) := Lib.hid (HB6.out.trans (hbl8 w.heap.size (Nat.le_refl _)))
           have HOT8 := Lib.hid hot8
           clear hk8 hot8 hbl8)
        | (refine wpList_load_row rfl 40 _ rfl w.heap.size rfl 40 cells' (0, 0) _ HK8.out Tryz.underlying40 rfl HS6.out ?_)
        | ((with_reducible refine wpList_store_rowk rfl 40 _ _ rfl (w.heap.size + 1) cells' ?_ ?_ 40 _ HR8.out HS6.out ?_ HO6.out ?_); rfl; rfl; exact HZ6.out; intro w9 hk9 hs9 hbl9 hot9))
      refine bodyPost_ret (results_row_tmp2 rfl _ _ (w.heap.size + 1) _ _ _ rfl hk9 Tryz.underlying40 rfl HS6.out) rfl ?_
      exact ⟨.inr ⟨HNO.out, _, _, rfl, HE6.out.size, HO6.out⟩, HB8.out.trans (hbl9 w.heap.size (Nat.le_succ _))⟩
  · have HNO : Hid (Ar.xfield 7 s = none) := Lib.hid (by rw [HXF.out, hr1]; rfl)
    clear hr1
    go_wp2_with (first
      | (refine wpList_load_row rfl 40 _ rfl w.heap.size rfl 40 cells (0, 0) _ ((Blk.new w 40 cells).alloc _) Tryz.underlying40 rfl HS0.out ?_)
      | ((with_reducible refine wpList_store_rowk rfl 40 _ _ rfl (w.heap.size + 1) cells ?_ ?_ 40 _ (blk_n1 w _ 40 _) HS0.out ?_ HO0.out ?_); rfl; rfl; exact HZ0.out; intro w6 hk6 hs6 hbl6 hot6))
    have HB6 : Hid (Below w.heap.size w w6) := Lib.hid ((((Below.refl w.heap.size w).alloc (Nat.le_refl _) _).alloc (by rw [World.size_alloc]; exact Nat.le_succ _) _).trans (hbl6 w.heap.size (Nat.le_succ _)))
    refine bodyPost_ret (results_row_tmp2 rfl _ _ (w.heap.size + 1) _ _ _ rfl hk6 Tryz.underlying40 rfl HS0.out) rfl ?_
    exact ⟨.inr ⟨HNO.out, _, _, rfl, HX.out.size, HO0.out⟩, HB6.out⟩
set_option maxHeartbeats 8000000 in
set_option maxRecDepth 100000 in
theorem field_11 (ok : Nat → Prop) (cells : Array Value) (e : List Ar.FV) (s : List UInt8) (w : World) (h : EvOf ok w cells e) (hs : s.length ≤ 1000000) : Calls Tryz.prog 57 #[.agg cells, .int .i64 11, .string (bstr s)] w fun r w' => FdA ok w.heap.size 11 s e r w' ∧ Below w.heap.size w w' := by
  have HS : Hid (∀ k c, (Tryz.prog.info? 40).map (·.size) = some (cells.setIfInBounds k c).size) := Lib.hid (fun k c => by rw [Array.size_setIfInBounds, size_event, h.size])
  have HS0 : Hid ((Tryz.prog.info? 40).map (·.size) = some cells.size) := Lib.hid (by rw [size_event, h.size])
  have HZ : Hid (∀ k c, zeroEv.size = (cells.setIfInBounds k c).size) := Lib.hid (fun k c => by rw [Array.size_setIfInBounds, h.size]; rfl)
  have HZ0 : Hid (zeroEv.size = cells.size) := Lib.hid (by rw [h.size]; rfl)
  have HO0 := Lib.hid h.one
  have HX := Lib.hid h
  have HSG := Lib.hid (fun W => sign_any s 61 W hs)
  rw [show (((61 : UInt8).toNat : Nat) : Int) = 61 from rfl] at HSG
  have HXF := Lib.hid (xfield_eq (i := 11) (s := s) rfl)
  clear h
  go_enter Tryz.func57, Tryz.ntmps57
  go_wp2_with fail
  refine (HSG.out _).mono ?_
  rintro r w1 ⟨hsg, rfl⟩
  rcases hsg with ⟨r1, hr1, rfl⟩ | ⟨hr1, rfl⟩
  · have HR1 := Lib.hid hr1
    have hrl := Ar.xsign_len hr1
    have HUQ := Lib.hid (fun W => rnumber_any (bstr r1) W (by rw [bstr_size]; omega))
    rw [show (bstr r1).data.toList = r1 from rfl] at HUQ
    clear hr1
    generalize hRB : bstr r1 = RB at *
    go_wp2_with fail
    refine (HUQ.out _).mono ?_
    rintro r w5 ⟨hone, hb5⟩
    have HK5 := Lib.hid (Blk.below ((Blk.new w 40 cells).alloc _) hb5 (by rw [World.size_alloc, World.size_alloc]; omega))
    have HR5 := Lib.hid (Blk.below (blk_n1 w _ 40 _) hb5 (by rw [World.size_alloc, World.size_alloc]; omega))
    have HB5 : Hid (Below w.heap.size w w5) := Lib.hid ((((Below.refl w.heap.size w).alloc (Nat.le_refl _) _).alloc (by rw [World.size_alloc]; exact Nat.le_succ _) _).trans (hb5.mono (by rw [World.size_alloc, World.size_alloc]; omega)))
    have HE5 := Lib.hid (HX.out.toF HB5.out)
    have HL5 := Lib.hid HR5.out.lt
    rcases hone with ⟨n, t, hxt, rfl⟩ | ⟨hno, rfl⟩
    · have HSO : Hid (Ar.xfield 11 s = some (.num n, t)) := Lib.hid (by rw [HXF.out, HR1.out]; show (Ar.xnum r1).map _ = _; rw [hxt]; rfl)
      have hin : Ar.inInt n := Ar.xnum_range hxt
      clear hxt
      have HFG := Lib.hid (figset_any (okF ok w.heap.size) cells e n w5 11 11 (by simp) HE5.out hin)
      clear hin
      go_wp2_with (refine wpList_load_row rfl 40 _ rfl w.heap.size rfl 40 cells (0, 0) _ HK5.out Tryz.underlying40 rfl HS0.out ?_)
      refine HFG.out.mono ?_
      rintro r w6 ⟨⟨cells', rfl, he6⟩, hb6⟩
      have HE6 := Lib.hid he6
      have HS6 : Hid ((Tryz.prog.info? 40).map (·.size) = some cells'.size) := Lib.hid (by rw [size_event, HE6.out.size])
      have HC6 : Hid (cells.size = cells'.size) := Lib.hid (by rw [HX.out.size, HE6.out.size])
      have HZ6 : Hid (zeroEv.size = cells'.size) := Lib.hid (by rw [HE6.out.size]; rfl)
      have HO6 := Lib.hid HE6.out.one
      have HK6 := Lib.hid (HK5.out.below hb6 (by have := HL5.out; omega))
      have HR6 := Lib.hid (HR5.out.below hb6 HL5.out)
      have HB6 : Hid (Below w.heap.size w w6) := Lib.hid (HB5.out.trans (hb6.mono (by have := HL5.out; omega)))
      clear he6
      go_wp2_with (first
        | ((with_reducible refine wpList_store_rowk rfl 40 _ _ rfl w.heap.size cells' ?_ ?_ 40 _ HK6.out HS6.out ?_ HO6.out ?_); rfl; rfl; exact HC6.out; intro w8 hk8 hs8 hbl8 hot8
           have HK8 := Lib.hid hk8
           have HR8 : Hid (Blk w8 (w.heap.size + 1) 40 _) := Lib.hid ((hot8 (w.heap.size + 1) (by omega)).trans HR6.out)
           have HB8 : Hid (Below w.heap.size w w8) := Lib.hid (HB6.out.trans (hbl8 w.heap.size (Nat.le_refl _)))
           have HOT8 := Lib.hid hot8
           clear hk8 hot8 hbl8)
        | (refine wpList_load_row rfl 40 _ rfl w.heap.size rfl 40 cells' (0, 0) _ HK8.out Tryz.underlying40 rfl HS6.out ?_)
        | ((with_reducible refine wpList_store_rowk rfl 40 _ _ rfl (w.heap.size + 1) cells' ?_ ?_ 40 _ HR8.out HS6.out ?_ HO6.out ?_); rfl; rfl; exact HZ6.out; intro w9 hk9 hs9 hbl9 hot9))
      refine bodyPost_ret (results_row_tmp2 rfl _ _ (w.heap.size + 1) _ _ _ rfl hk9 Tryz.underlying40 rfl HS6.out) rfl ?_
      exact ⟨.inl ⟨_, _, _, HSO.out, rfl, ((HE6.out.others fun k h1 _ => HOT8.out k h1).others fun k _ h2 => hot9 k h2).toB⟩, HB8.out.trans (hbl9 w.heap.size (Nat.le_succ _))⟩
    · have HNO : Hid (Ar.xfield 11 s = none) := Lib.hid (by rw [HXF.out, HR1.out]; show (Ar.xnum r1).map _ = _; rw [hno]; rfl)
      clear hno
      have hin : Ar.inInt 0 := by unfold Ar.inInt; omega
      have HFG := Lib.hid (figset_any (okF ok w.heap.size) cells e 0 w5 11 11 (by simp) HE5.out hin)
      clear hin
      go_wp2_with (refine wpList_load_row rfl 40 _ rfl w.heap.size rfl 40 cells (0, 0) _ HK5.out Tryz.underlying40 rfl HS0.out ?_)
      refine HFG.out.mono ?_
      rintro r w6 ⟨⟨cells', rfl, he6⟩, hb6⟩
      have HE6 := Lib.hid he6
      have HS6 : Hid ((Tryz.prog.info? 40).map (·.size) = some cells'.size) := Lib.hid (by rw [size_event, HE6.out.size])
      have HC6 : Hid (cells.size = cells'.size) := Lib.hid (by rw [HX.out.size, HE6.out.size])
      have HZ6 : Hid (zeroEv.size = cells'.size) := Lib.hid (by rw [HE6.out.size]; rfl)
      have HO6 := Lib.hid HE6.out.one
      have HK6 := Lib.hid (HK5.out.below hb6 (by have := HL5.out; omega))
      have HR6 := Lib.hid (HR5.out.below hb6 HL5.out)
      have HB6 : Hid (Below w.heap.size w w6) := Lib.hid (HB5.out.trans (hb6.mono (by have := HL5.out; omega)))
      clear he6
      go_wp2_with (first
        | ((with_reducible refine wpList_store_rowk rfl 40 _ _ rfl w.heap.size cells' ?_ ?_ 40 _ HK6.out HS6.out ?_ HO6.out ?_); rfl; rfl; exact HC6.out; intro w8 hk8 hs8 hbl8 hot8
           have HK8 := Lib.hid hk8
           have HR8 : Hid (Blk w8 (w.heap.size + 1) 40 _) := Lib.hid ((hot8 (w.heap.size + 1) (by omega)).trans HR6.out)
           have HB8 : Hid (Below w.heap.size w w8) := Lib.hid (HB6.out.trans (hbl8 w.heap.size (Nat.le_refl _)))
           have HOT8 := Lib.hid hot8
           clear hk8 hot8 hbl8)
        | (refine wpList_load_row rfl 40 _ rfl w.heap.size rfl 40 cells' (0, 0) _ HK8.out Tryz.underlying40 rfl HS6.out ?_)
        | ((with_reducible refine wpList_store_rowk rfl 40 _ _ rfl (w.heap.size + 1) cells' ?_ ?_ 40 _ HR8.out HS6.out ?_ HO6.out ?_); rfl; rfl; exact HZ6.out; intro w9 hk9 hs9 hbl9 hot9))
      refine bodyPost_ret (results_row_tmp2 rfl _ _ (w.heap.size + 1) _ _ _ rfl hk9 Tryz.underlying40 rfl HS6.out) rfl ?_
      exact ⟨.inr ⟨HNO.out, _, _, rfl, HE6.out.size, HO6.out⟩, HB8.out.trans (hbl9 w.heap.size (Nat.le_succ _))⟩
  · have HNO : Hid (Ar.xfield 11 s = none) := Lib.hid (by rw [HXF.out, hr1]; rfl)
    clear hr1
    go_wp2_with (first
      | (refine wpList_load_row rfl 40 _ rfl w.heap.size rfl 40 cells (0, 0) _ ((Blk.new w 40 cells).alloc _) Tryz.underlying40 rfl HS0.out ?_)
      | ((with_reducible refine wpList_store_rowk rfl 40 _ _ rfl (w.heap.size + 1) cells ?_ ?_ 40 _ (blk_n1 w _ 40 _) HS0.out ?_ HO0.out ?_); rfl; rfl; exact HZ0.out; intro w6 hk6 hs6 hbl6 hot6))
    have HB6 : Hid (Below w.heap.size w w6) := Lib.hid ((((Below.refl w.heap.size w).alloc (Nat.le_refl _) _).alloc (by rw [World.size_alloc]; exact Nat.le_succ _) _).trans (hbl6 w.heap.size (Nat.le_succ _)))
    refine bodyPost_ret (results_row_tmp2 rfl _ _ (w.heap.size + 1) _ _ _ rfl hk6 Tryz.underlying40 rfl HS0.out) rfl ?_
    exact ⟨.inr ⟨HNO.out, _, _, rfl, HX.out.size, HO0.out⟩, HB6.out⟩
set_option maxHeartbeats 8000000 in
set_option maxRecDepth 100000 in
theorem field_12 (ok : Nat → Prop) (cells : Array Value) (e : List Ar.FV) (s : List UInt8) (w : World) (h : EvOf ok w cells e) (hs : s.length ≤ 1000000) : Calls Tryz.prog 57 #[.agg cells, .int .i64 12, .string (bstr s)] w fun r w' => FdA ok w.heap.size 12 s e r w' ∧ Below w.heap.size w w' := by
  have HS : Hid (∀ k c, (Tryz.prog.info? 40).map (·.size) = some (cells.setIfInBounds k c).size) := Lib.hid (fun k c => by rw [Array.size_setIfInBounds, size_event, h.size])
  have HS0 : Hid ((Tryz.prog.info? 40).map (·.size) = some cells.size) := Lib.hid (by rw [size_event, h.size])
  have HZ : Hid (∀ k c, zeroEv.size = (cells.setIfInBounds k c).size) := Lib.hid (fun k c => by rw [Array.size_setIfInBounds, h.size]; rfl)
  have HZ0 : Hid (zeroEv.size = cells.size) := Lib.hid (by rw [h.size]; rfl)
  have HO0 := Lib.hid h.one
  have HX := Lib.hid h
  have HSG := Lib.hid (fun W => sign_any s 61 W hs)
  rw [show (((61 : UInt8).toNat : Nat) : Int) = 61 from rfl] at HSG
  have HXF := Lib.hid (xfield_eq (i := 12) (s := s) rfl)
  clear h
  go_enter Tryz.func57, Tryz.ntmps57
  go_wp2_with fail
  refine (HSG.out _).mono ?_
  rintro r w1 ⟨hsg, rfl⟩
  rcases hsg with ⟨r1, hr1, rfl⟩ | ⟨hr1, rfl⟩
  · have HR1 := Lib.hid hr1
    have hrl := Ar.xsign_len hr1
    have HUQ := Lib.hid (fun W => rnumber_any (bstr r1) W (by rw [bstr_size]; omega))
    rw [show (bstr r1).data.toList = r1 from rfl] at HUQ
    clear hr1
    generalize hRB : bstr r1 = RB at *
    go_wp2_with fail
    refine (HUQ.out _).mono ?_
    rintro r w5 ⟨hone, hb5⟩
    have HK5 := Lib.hid (Blk.below ((Blk.new w 40 cells).alloc _) hb5 (by rw [World.size_alloc, World.size_alloc]; omega))
    have HR5 := Lib.hid (Blk.below (blk_n1 w _ 40 _) hb5 (by rw [World.size_alloc, World.size_alloc]; omega))
    have HB5 : Hid (Below w.heap.size w w5) := Lib.hid ((((Below.refl w.heap.size w).alloc (Nat.le_refl _) _).alloc (by rw [World.size_alloc]; exact Nat.le_succ _) _).trans (hb5.mono (by rw [World.size_alloc, World.size_alloc]; omega)))
    have HE5 := Lib.hid (HX.out.toF HB5.out)
    have HL5 := Lib.hid HR5.out.lt
    rcases hone with ⟨n, t, hxt, rfl⟩ | ⟨hno, rfl⟩
    · have HSO : Hid (Ar.xfield 12 s = some (.num n, t)) := Lib.hid (by rw [HXF.out, HR1.out]; show (Ar.xnum r1).map _ = _; rw [hxt]; rfl)
      have hin : Ar.inInt n := Ar.xnum_range hxt
      clear hxt
      have HFG := Lib.hid (figset_any (okF ok w.heap.size) cells e n w5 12 12 (by simp) HE5.out hin)
      clear hin
      go_wp2_with (refine wpList_load_row rfl 40 _ rfl w.heap.size rfl 40 cells (0, 0) _ HK5.out Tryz.underlying40 rfl HS0.out ?_)
      refine HFG.out.mono ?_
      rintro r w6 ⟨⟨cells', rfl, he6⟩, hb6⟩
      have HE6 := Lib.hid he6
      have HS6 : Hid ((Tryz.prog.info? 40).map (·.size) = some cells'.size) := Lib.hid (by rw [size_event, HE6.out.size])
      have HC6 : Hid (cells.size = cells'.size) := Lib.hid (by rw [HX.out.size, HE6.out.size])
      have HZ6 : Hid (zeroEv.size = cells'.size) := Lib.hid (by rw [HE6.out.size]; rfl)
      have HO6 := Lib.hid HE6.out.one
      have HK6 := Lib.hid (HK5.out.below hb6 (by have := HL5.out; omega))
      have HR6 := Lib.hid (HR5.out.below hb6 HL5.out)
      have HB6 : Hid (Below w.heap.size w w6) := Lib.hid (HB5.out.trans (hb6.mono (by have := HL5.out; omega)))
      clear he6
      go_wp2_with (first
        | ((with_reducible refine wpList_store_rowk rfl 40 _ _ rfl w.heap.size cells' ?_ ?_ 40 _ HK6.out HS6.out ?_ HO6.out ?_); rfl; rfl; exact HC6.out; intro w8 hk8 hs8 hbl8 hot8
           have HK8 := Lib.hid hk8
           have HR8 : Hid (Blk w8 (w.heap.size + 1) 40 _) := Lib.hid ((hot8 (w.heap.size + 1) (by omega)).trans HR6.out)
           have HB8 : Hid (Below w.heap.size w w8) := Lib.hid (HB6.out.trans (hbl8 w.heap.size (Nat.le_refl _)))
           have HOT8 := Lib.hid hot8
           clear hk8 hot8 hbl8)
        | (refine wpList_load_row rfl 40 _ rfl w.heap.size rfl 40 cells' (0, 0) _ HK8.out Tryz.underlying40 rfl HS6.out ?_)
        | ((with_reducible refine wpList_store_rowk rfl 40 _ _ rfl (w.heap.size + 1) cells' ?_ ?_ 40 _ HR8.out HS6.out ?_ HO6.out ?_); rfl; rfl; exact HZ6.out; intro w9 hk9 hs9 hbl9 hot9))
      refine bodyPost_ret (results_row_tmp2 rfl _ _ (w.heap.size + 1) _ _ _ rfl hk9 Tryz.underlying40 rfl HS6.out) rfl ?_
      exact ⟨.inl ⟨_, _, _, HSO.out, rfl, ((HE6.out.others fun k h1 _ => HOT8.out k h1).others fun k _ h2 => hot9 k h2).toB⟩, HB8.out.trans (hbl9 w.heap.size (Nat.le_succ _))⟩
    · have HNO : Hid (Ar.xfield 12 s = none) := Lib.hid (by rw [HXF.out, HR1.out]; show (Ar.xnum r1).map _ = _; rw [hno]; rfl)
      clear hno
      have hin : Ar.inInt 0 := by unfold Ar.inInt; omega
      have HFG := Lib.hid (figset_any (okF ok w.heap.size) cells e 0 w5 12 12 (by simp) HE5.out hin)
      clear hin
      go_wp2_with (refine wpList_load_row rfl 40 _ rfl w.heap.size rfl 40 cells (0, 0) _ HK5.out Tryz.underlying40 rfl HS0.out ?_)
      refine HFG.out.mono ?_
      rintro r w6 ⟨⟨cells', rfl, he6⟩, hb6⟩
      have HE6 := Lib.hid he6
      have HS6 : Hid ((Tryz.prog.info? 40).map (·.size) = some cells'.size) := Lib.hid (by rw [size_event, HE6.out.size])
      have HC6 : Hid (cells.size = cells'.size) := Lib.hid (by rw [HX.out.size, HE6.out.size])
      have HZ6 : Hid (zeroEv.size = cells'.size) := Lib.hid (by rw [HE6.out.size]; rfl)
      have HO6 := Lib.hid HE6.out.one
      have HK6 := Lib.hid (HK5.out.below hb6 (by have := HL5.out; omega))
      have HR6 := Lib.hid (HR5.out.below hb6 HL5.out)
      have HB6 : Hid (Below w.heap.size w w6) := Lib.hid (HB5.out.trans (hb6.mono (by have := HL5.out; omega)))
      clear he6
      go_wp2_with (first
        | ((with_reducible refine wpList_store_rowk rfl 40 _ _ rfl w.heap.size cells' ?_ ?_ 40 _ HK6.out HS6.out ?_ HO6.out ?_); rfl; rfl; exact HC6.out; intro w8 hk8 hs8 hbl8 hot8
           have HK8 := Lib.hid hk8
           have HR8 : Hid (Blk w8 (w.heap.size + 1) 40 _) := Lib.hid ((hot8 (w.heap.size + 1) (by omega)).trans HR6.out)
           have HB8 : Hid (Below w.heap.size w w8) := Lib.hid (HB6.out.trans (hbl8 w.heap.size (Nat.le_refl _)))
           have HOT8 := Lib.hid hot8
           clear hk8 hot8 hbl8)
        | (refine wpList_load_row rfl 40 _ rfl w.heap.size rfl 40 cells' (0, 0) _ HK8.out Tryz.underlying40 rfl HS6.out ?_)
        | ((with_reducible refine wpList_store_rowk rfl 40 _ _ rfl (w.heap.size + 1) cells' ?_ ?_ 40 _ HR8.out HS6.out ?_ HO6.out ?_); rfl; rfl; exact HZ6.out; intro w9 hk9 hs9 hbl9 hot9))
      refine bodyPost_ret (results_row_tmp2 rfl _ _ (w.heap.size + 1) _ _ _ rfl hk9 Tryz.underlying40 rfl HS6.out) rfl ?_
      exact ⟨.inr ⟨HNO.out, _, _, rfl, HE6.out.size, HO6.out⟩, HB8.out.trans (hbl9 w.heap.size (Nat.le_succ _))⟩
  · have HNO : Hid (Ar.xfield 12 s = none) := Lib.hid (by rw [HXF.out, hr1]; rfl)
    clear hr1
    go_wp2_with (first
      | (refine wpList_load_row rfl 40 _ rfl w.heap.size rfl 40 cells (0, 0) _ ((Blk.new w 40 cells).alloc _) Tryz.underlying40 rfl HS0.out ?_)
      | ((with_reducible refine wpList_store_rowk rfl 40 _ _ rfl (w.heap.size + 1) cells ?_ ?_ 40 _ (blk_n1 w _ 40 _) HS0.out ?_ HO0.out ?_); rfl; rfl; exact HZ0.out; intro w6 hk6 hs6 hbl6 hot6))
    have HB6 : Hid (Below w.heap.size w w6) := Lib.hid ((((Below.refl w.heap.size w).alloc (Nat.le_refl _) _).alloc (by rw [World.size_alloc]; exact Nat.le_succ _) _).trans (hbl6 w.heap.size (Nat.le_succ _)))
    refine bodyPost_ret (results_row_tmp2 rfl _ _ (w.heap.size + 1) _ _ _ rfl hk6 Tryz.underlying40 rfl HS0.out) rfl ?_
    exact ⟨.inr ⟨HNO.out, _, _, rfl, HX.out.size, HO0.out⟩, HB6.out⟩
set_option maxHeartbeats 8000000 in
set_option maxRecDepth 100000 in
theorem field_19 (ok : Nat → Prop) (cells : Array Value) (e : List Ar.FV) (s : List UInt8) (w : World) (h : EvOf ok w cells e) (hs : s.length ≤ 1000000) : Calls Tryz.prog 57 #[.agg cells, .int .i64 19, .string (bstr s)] w fun r w' => FdA ok w.heap.size 19 s e r w' ∧ Below w.heap.size w w' := by
  have HS : Hid (∀ k c, (Tryz.prog.info? 40).map (·.size) = some (cells.setIfInBounds k c).size) := Lib.hid (fun k c => by rw [Array.size_setIfInBounds, size_event, h.size])
  have HS0 : Hid ((Tryz.prog.info? 40).map (·.size) = some cells.size) := Lib.hid (by rw [size_event, h.size])
  have HZ : Hid (∀ k c, zeroEv.size = (cells.setIfInBounds k c).size) := Lib.hid (fun k c => by rw [Array.size_setIfInBounds, h.size]; rfl)
  have HZ0 : Hid (zeroEv.size = cells.size) := Lib.hid (by rw [h.size]; rfl)
  have HO0 := Lib.hid h.one
  have HX := Lib.hid h
  have HSG := Lib.hid (fun W => sign_any s 61 W hs)
  rw [show (((61 : UInt8).toNat : Nat) : Int) = 61 from rfl] at HSG
  have HXF := Lib.hid (xfield_eq (i := 19) (s := s) rfl)
  clear h
  go_enter Tryz.func57, Tryz.ntmps57
  go_wp2_with fail
  refine (HSG.out _).mono ?_
  rintro r w1 ⟨hsg, rfl⟩
  rcases hsg with ⟨r1, hr1, rfl⟩ | ⟨hr1, rfl⟩
  · have HR1 := Lib.hid hr1
    have hrl := Ar.xsign_len hr1
    have HUQ := Lib.hid (fun W => rnumber_any (bstr r1) W (by rw [bstr_size]; omega))
    rw [show (bstr r1).data.toList = r1 from rfl] at HUQ
    clear hr1
    generalize hRB : bstr r1 = RB at *
    go_wp2_with fail
    refine (HUQ.out _).mono ?_
    rintro r w5 ⟨hone, hb5⟩
    have HK5 := Lib.hid (Blk.below ((Blk.new w 40 cells).alloc _) hb5 (by rw [World.size_alloc, World.size_alloc]; omega))
    have HR5 := Lib.hid (Blk.below (blk_n1 w _ 40 _) hb5 (by rw [World.size_alloc, World.size_alloc]; omega))
    have HB5 : Hid (Below w.heap.size w w5) := Lib.hid ((((Below.refl w.heap.size w).alloc (Nat.le_refl _) _).alloc (by rw [World.size_alloc]; exact Nat.le_succ _) _).trans (hb5.mono (by rw [World.size_alloc, World.size_alloc]; omega)))
    have HE5 := Lib.hid (HX.out.toF HB5.out)
    have HL5 := Lib.hid HR5.out.lt
    rcases hone with ⟨n, t, hxt, rfl⟩ | ⟨hno, rfl⟩
    · have HSO : Hid (Ar.xfield 19 s = some (.num n, t)) := Lib.hid (by rw [HXF.out, HR1.out]; show (Ar.xnum r1).map _ = _; rw [hxt]; rfl)
      have hin : Ar.inInt n := Ar.xnum_range hxt
      clear hxt
      have HFG := Lib.hid (figset_any (okF ok w.heap.size) cells e n w5 19 19 (by simp) HE5.out hin)
      clear hin
      go_wp2_with (refine wpList_load_row rfl 40 _ rfl w.heap.size rfl 40 cells (0, 0) _ HK5.out Tryz.underlying40 rfl HS0.out ?_)
      refine HFG.out.mono ?_
      rintro r w6 ⟨⟨cells', rfl, he6⟩, hb6⟩
      have HE6 := Lib.hid he6
      have HS6 : Hid ((Tryz.prog.info? 40).map (·.size) = some cells'.size) := Lib.hid (by rw [size_event, HE6.out.size])
      have HC6 : Hid (cells.size = cells'.size) := Lib.hid (by rw [HX.out.size, HE6.out.size])
      have HZ6 : Hid (zeroEv.size = cells'.size) := Lib.hid (by rw [HE6.out.size]; rfl)
      have HO6 := Lib.hid HE6.out.one
      have HK6 := Lib.hid (HK5.out.below hb6 (by have := HL5.out; omega))
      have HR6 := Lib.hid (HR5.out.below hb6 HL5.out)
      have HB6 : Hid (Below w.heap.size w w6) := Lib.hid (HB5.out.trans (hb6.mono (by have := HL5.out; omega)))
      clear he6
      go_wp2_with (first
        | ((with_reducible refine wpList_store_rowk rfl 40 _ _ rfl w.heap.size cells' ?_ ?_ 40 _ HK6.out HS6.out ?_ HO6.out ?_); rfl; rfl; exact HC6.out; intro w8 hk8 hs8 hbl8 hot8
           have HK8 := Lib.hid hk8
           have HR8 : Hid (Blk w8 (w.heap.size + 1) 40 _) := Lib.hid ((hot8 (w.heap.size + 1) (by omega)).trans HR6.out)
           have HB8 : Hid (Below w.heap.size w w8) := Lib.hid (HB6.out.trans (hbl8 w.heap.size (Nat.le_refl _)))
           have HOT8 := Lib.hid hot8
           clear hk8 hot8 hbl8)
        | (refine wpList_load_row rfl 40 _ rfl w.heap.size rfl 40 cells' (0, 0) _ HK8.out Tryz.underlying40 rfl HS6.out ?_)
        | ((with_reducible refine wpList_store_rowk rfl 40 _ _ rfl (w.heap.size + 1) cells' ?_ ?_ 40 _ HR8.out HS6.out ?_ HO6.out ?_); rfl; rfl; exact HZ6.out; intro w9 hk9 hs9 hbl9 hot9))
      refine bodyPost_ret (results_row_tmp2 rfl _ _ (w.heap.size + 1) _ _ _ rfl hk9 Tryz.underlying40 rfl HS6.out) rfl ?_
      exact ⟨.inl ⟨_, _, _, HSO.out, rfl, ((HE6.out.others fun k h1 _ => HOT8.out k h1).others fun k _ h2 => hot9 k h2).toB⟩, HB8.out.trans (hbl9 w.heap.size (Nat.le_succ _))⟩
    · have HNO : Hid (Ar.xfield 19 s = none) := Lib.hid (by rw [HXF.out, HR1.out]; show (Ar.xnum r1).map _ = _; rw [hno]; rfl)
      clear hno
      have hin : Ar.inInt 0 := by unfold Ar.inInt; omega
      have HFG := Lib.hid (figset_any (okF ok w.heap.size) cells e 0 w5 19 19 (by simp) HE5.out hin)
      clear hin
      go_wp2_with (refine wpList_load_row rfl 40 _ rfl w.heap.size rfl 40 cells (0, 0) _ HK5.out Tryz.underlying40 rfl HS0.out ?_)
      refine HFG.out.mono ?_
      rintro r w6 ⟨⟨cells', rfl, he6⟩, hb6⟩
      have HE6 := Lib.hid he6
      have HS6 : Hid ((Tryz.prog.info? 40).map (·.size) = some cells'.size) := Lib.hid (by rw [size_event, HE6.out.size])
      have HC6 : Hid (cells.size = cells'.size) := Lib.hid (by rw [HX.out.size, HE6.out.size])
      have HZ6 : Hid (zeroEv.size = cells'.size) := Lib.hid (by rw [HE6.out.size]; rfl)
      have HO6 := Lib.hid HE6.out.one
      have HK6 := Lib.hid (HK5.out.below hb6 (by have := HL5.out; omega))
      have HR6 := Lib.hid (HR5.out.below hb6 HL5.out)
      have HB6 : Hid (Below w.heap.size w w6) := Lib.hid (HB5.out.trans (hb6.mono (by have := HL5.out; omega)))
      clear he6
      go_wp2_with (first
        | ((with_reducible refine wpList_store_rowk rfl 40 _ _ rfl w.heap.size cells' ?_ ?_ 40 _ HK6.out HS6.out ?_ HO6.out ?_); rfl; rfl; exact HC6.out; intro w8 hk8 hs8 hbl8 hot8
           have HK8 := Lib.hid hk8
           have HR8 : Hid (Blk w8 (w.heap.size + 1) 40 _) := Lib.hid ((hot8 (w.heap.size + 1) (by omega)).trans HR6.out)
           have HB8 : Hid (Below w.heap.size w w8) := Lib.hid (HB6.out.trans (hbl8 w.heap.size (Nat.le_refl _)))
           have HOT8 := Lib.hid hot8
           clear hk8 hot8 hbl8)
        | (refine wpList_load_row rfl 40 _ rfl w.heap.size rfl 40 cells' (0, 0) _ HK8.out Tryz.underlying40 rfl HS6.out ?_)
        | ((with_reducible refine wpList_store_rowk rfl 40 _ _ rfl (w.heap.size + 1) cells' ?_ ?_ 40 _ HR8.out HS6.out ?_ HO6.out ?_); rfl; rfl; exact HZ6.out; intro w9 hk9 hs9 hbl9 hot9))
      refine bodyPost_ret (results_row_tmp2 rfl _ _ (w.heap.size + 1) _ _ _ rfl hk9 Tryz.underlying40 rfl HS6.out) rfl ?_
      exact ⟨.inr ⟨HNO.out, _, _, rfl, HE6.out.size, HO6.out⟩, HB8.out.trans (hbl9 w.heap.size (Nat.le_succ _))⟩
  · have HNO : Hid (Ar.xfield 19 s = none) := Lib.hid (by rw [HXF.out, hr1]; rfl)
    clear hr1
    go_wp2_with (first
      | (refine wpList_load_row rfl 40 _ rfl w.heap.size rfl 40 cells (0, 0) _ ((Blk.new w 40 cells).alloc _) Tryz.underlying40 rfl HS0.out ?_)
      | ((with_reducible refine wpList_store_rowk rfl 40 _ _ rfl (w.heap.size + 1) cells ?_ ?_ 40 _ (blk_n1 w _ 40 _) HS0.out ?_ HO0.out ?_); rfl; rfl; exact HZ0.out; intro w6 hk6 hs6 hbl6 hot6))
    have HB6 : Hid (Below w.heap.size w w6) := Lib.hid ((((Below.refl w.heap.size w).alloc (Nat.le_refl _) _).alloc (by rw [World.size_alloc]; exact Nat.le_succ _) _).trans (hbl6 w.heap.size (Nat.le_succ _)))
    refine bodyPost_ret (results_row_tmp2 rfl _ _ (w.heap.size + 1) _ _ _ rfl hk6 Tryz.underlying40 rfl HS0.out) rfl ?_
    exact ⟨.inr ⟨HNO.out, _, _, rfl, HX.out.size, HO0.out⟩, HB6.out⟩
set_option maxHeartbeats 8000000 in
set_option maxRecDepth 100000 in
theorem field_20 (ok : Nat → Prop) (cells : Array Value) (e : List Ar.FV) (s : List UInt8) (w : World) (h : EvOf ok w cells e) (hs : s.length ≤ 1000000) : Calls Tryz.prog 57 #[.agg cells, .int .i64 20, .string (bstr s)] w fun r w' => FdA ok w.heap.size 20 s e r w' ∧ Below w.heap.size w w' := by
  have HS : Hid (∀ k c, (Tryz.prog.info? 40).map (·.size) = some (cells.setIfInBounds k c).size) := Lib.hid (fun k c => by rw [Array.size_setIfInBounds, size_event, h.size])
  have HS0 : Hid ((Tryz.prog.info? 40).map (·.size) = some cells.size) := Lib.hid (by rw [size_event, h.size])
  have HZ : Hid (∀ k c, zeroEv.size = (cells.setIfInBounds k c).size) := Lib.hid (fun k c => by rw [Array.size_setIfInBounds, h.size]; rfl)
  have HZ0 : Hid (zeroEv.size = cells.size) := Lib.hid (by rw [h.size]; rfl)
  have HO0 := Lib.hid h.one
  have HX := Lib.hid h
  have HSG := Lib.hid (fun W => sign_any s 61 W hs)
  rw [show (((61 : UInt8).toNat : Nat) : Int) = 61 from rfl] at HSG
  have HXF := Lib.hid (xfield_eq (i := 20) (s := s) rfl)
  clear h
  go_enter Tryz.func57, Tryz.ntmps57
  go_wp2_with fail
  refine (HSG.out _).mono ?_
  rintro r w1 ⟨hsg, rfl⟩
  rcases hsg with ⟨r1, hr1, rfl⟩ | ⟨hr1, rfl⟩
  · have HR1 := Lib.hid hr1
    have hrl := Ar.xsign_len hr1
    have HUQ := Lib.hid (fun W => rnumber_any (bstr r1) W (by rw [bstr_size]; omega))
    rw [show (bstr r1).data.toList = r1 from rfl] at HUQ
    clear hr1
    generalize hRB : bstr r1 = RB at *
    go_wp2_with fail
    refine (HUQ.out _).mono ?_
    rintro r w5 ⟨hone, hb5⟩
    have HK5 := Lib.hid (Blk.below ((Blk.new w 40 cells).alloc _) hb5 (by rw [World.size_alloc, World.size_alloc]; omega))
    have HR5 := Lib.hid (Blk.below (blk_n1 w _ 40 _) hb5 (by rw [World.size_alloc, World.size_alloc]; omega))
    have HB5 : Hid (Below w.heap.size w w5) := Lib.hid ((((Below.refl w.heap.size w).alloc (Nat.le_refl _) _).alloc (by rw [World.size_alloc]; exact Nat.le_succ _) _).trans (hb5.mono (by rw [World.size_alloc, World.size_alloc]; omega)))
    have HE5 := Lib.hid (HX.out.toF HB5.out)
    have HL5 := Lib.hid HR5.out.lt
    rcases hone with ⟨n, t, hxt, rfl⟩ | ⟨hno, rfl⟩
    · have HSO : Hid (Ar.xfield 20 s = some (.num n, t)) := Lib.hid (by rw [HXF.out, HR1.out]; show (Ar.xnum r1).map _ = _; rw [hxt]; rfl)
      have hin : Ar.inInt n := Ar.xnum_range hxt
      clear hxt
      have HFG := Lib.hid (figset_any (okF ok w.heap.size) cells e n w5 20 20 (by simp) HE5.out hin)
      clear hin
      go_wp2_with (refine wpList_load_row rfl 40 _ rfl w.heap.size rfl 40 cells (0, 0) _ HK5.out Tryz.underlying40 rfl HS0.out ?_)
      refine HFG.out.mono ?_
      rintro r w6 ⟨⟨cells', rfl, he6⟩, hb6⟩
      have HE6 := Lib.hid he6
      have HS6 : Hid ((Tryz.prog.info? 40).map (·.size) = some cells'.size) := Lib.hid (by rw [size_event, HE6.out.size])
      have HC6 : Hid (cells.size = cells'.size) := Lib.hid (by rw [HX.out.size, HE6.out.size])
      have HZ6 : Hid (zeroEv.size = cells'.size) := Lib.hid (by rw [HE6.out.size]; rfl)
      have HO6 := Lib.hid HE6.out.one
      have HK6 := Lib.hid (HK5.out.below hb6 (by have := HL5.out; omega))
      have HR6 := Lib.hid (HR5.out.below hb6 HL5.out)
      have HB6 : Hid (Below w.heap.size w w6) := Lib.hid (HB5.out.trans (hb6.mono (by have := HL5.out; omega)))
      clear he6
      go_wp2_with (first
        | ((with_reducible refine wpList_store_rowk rfl 40 _ _ rfl w.heap.size cells' ?_ ?_ 40 _ HK6.out HS6.out ?_ HO6.out ?_); rfl; rfl; exact HC6.out; intro w8 hk8 hs8 hbl8 hot8
           have HK8 := Lib.hid hk8
           have HR8 : Hid (Blk w8 (w.heap.size + 1) 40 _) := Lib.hid ((hot8 (w.heap.size + 1) (by omega)).trans HR6.out)
           have HB8 : Hid (Below w.heap.size w w8) := Lib.hid (HB6.out.trans (hbl8 w.heap.size (Nat.le_refl _)))
           have HOT8 := Lib.hid hot8
           clear hk8 hot8 hbl8)
        | (refine wpList_load_row rfl 40 _ rfl w.heap.size rfl 40 cells' (0, 0) _ HK8.out Tryz.underlying40 rfl HS6.out ?_)
        | ((with_reducible refine wpList_store_rowk rfl 40 _ _ rfl (w.heap.size + 1) cells' ?_ ?_ 40 _ HR8.out HS6.out ?_ HO6.out ?_); rfl; rfl; exact HZ6.out; intro w9 hk9 hs9 hbl9 hot9))
      refine bodyPost_ret (results_row_tmp2 rfl _ _ (w.heap.size + 1) _ _ _ rfl hk9 Tryz.underlying40 rfl HS6.out) rfl ?_
      exact ⟨.inl ⟨_, _, _, HSO.out, rfl, ((HE6.out.others fun k h1 _ => HOT8.out k h1).others fun k _ h2 => hot9 k h2).toB⟩, HB8.out.trans (hbl9 w.heap.size (Nat.le_succ _))⟩
    · have HNO : Hid (Ar.xfield 20 s = none) := Lib.hid (by rw [HXF.out, HR1.out]; show (Ar.xnum r1).map _ = _; rw [hno]; rfl)
      clear hno
      have hin : Ar.inInt 0 := by unfold Ar.inInt; omega
      have HFG := Lib.hid (figset_any (okF ok w.heap.size) cells e 0 w5 20 20 (by simp) HE5.out hin)
      clear hin
      go_wp2_with (refine wpList_load_row rfl 40 _ rfl w.heap.size rfl 40 cells (0, 0) _ HK5.out Tryz.underlying40 rfl HS0.out ?_)
      refine HFG.out.mono ?_
      rintro r w6 ⟨⟨cells', rfl, he6⟩, hb6⟩
      have HE6 := Lib.hid he6
      have HS6 : Hid ((Tryz.prog.info? 40).map (·.size) = some cells'.size) := Lib.hid (by rw [size_event, HE6.out.size])
      have HC6 : Hid (cells.size = cells'.size) := Lib.hid (by rw [HX.out.size, HE6.out.size])
      have HZ6 : Hid (zeroEv.size = cells'.size) := Lib.hid (by rw [HE6.out.size]; rfl)
      have HO6 := Lib.hid HE6.out.one
      have HK6 := Lib.hid (HK5.out.below hb6 (by have := HL5.out; omega))
      have HR6 := Lib.hid (HR5.out.below hb6 HL5.out)
      have HB6 : Hid (Below w.heap.size w w6) := Lib.hid (HB5.out.trans (hb6.mono (by have := HL5.out; omega)))
      clear he6
      go_wp2_with (first
        | ((with_reducible refine wpList_store_rowk rfl 40 _ _ rfl w.heap.size cells' ?_ ?_ 40 _ HK6.out HS6.out ?_ HO6.out ?_); rfl; rfl; exact HC6.out; intro w8 hk8 hs8 hbl8 hot8
           have HK8 := Lib.hid hk8
           have HR8 : Hid (Blk w8 (w.heap.size + 1) 40 _) := Lib.hid ((hot8 (w.heap.size + 1) (by omega)).trans HR6.out)
           have HB8 : Hid (Below w.heap.size w w8) := Lib.hid (HB6.out.trans (hbl8 w.heap.size (Nat.le_refl _)))
           have HOT8 := Lib.hid hot8
           clear hk8 hot8 hbl8)
        | (refine wpList_load_row rfl 40 _ rfl w.heap.size rfl 40 cells' (0, 0) _ HK8.out Tryz.underlying40 rfl HS6.out ?_)
        | ((with_reducible refine wpList_store_rowk rfl 40 _ _ rfl (w.heap.size + 1) cells' ?_ ?_ 40 _ HR8.out HS6.out ?_ HO6.out ?_); rfl; rfl; exact HZ6.out; intro w9 hk9 hs9 hbl9 hot9))
      refine bodyPost_ret (results_row_tmp2 rfl _ _ (w.heap.size + 1) _ _ _ rfl hk9 Tryz.underlying40 rfl HS6.out) rfl ?_
      exact ⟨.inr ⟨HNO.out, _, _, rfl, HE6.out.size, HO6.out⟩, HB8.out.trans (hbl9 w.heap.size (Nat.le_succ _))⟩
  · have HNO : Hid (Ar.xfield 20 s = none) := Lib.hid (by rw [HXF.out, hr1]; rfl)
    clear hr1
    go_wp2_with (first
      | (refine wpList_load_row rfl 40 _ rfl w.heap.size rfl 40 cells (0, 0) _ ((Blk.new w 40 cells).alloc _) Tryz.underlying40 rfl HS0.out ?_)
      | ((with_reducible refine wpList_store_rowk rfl 40 _ _ rfl (w.heap.size + 1) cells ?_ ?_ 40 _ (blk_n1 w _ 40 _) HS0.out ?_ HO0.out ?_); rfl; rfl; exact HZ0.out; intro w6 hk6 hs6 hbl6 hot6))
    have HB6 : Hid (Below w.heap.size w w6) := Lib.hid ((((Below.refl w.heap.size w).alloc (Nat.le_refl _) _).alloc (by rw [World.size_alloc]; exact Nat.le_succ _) _).trans (hbl6 w.heap.size (Nat.le_succ _)))
    refine bodyPost_ret (results_row_tmp2 rfl _ _ (w.heap.size + 1) _ _ _ rfl hk6 Tryz.underlying40 rfl HS0.out) rfl ?_
    exact ⟨.inr ⟨HNO.out, _, _, rfl, HX.out.size, HO0.out⟩, HB6.out⟩
end Go.Proofs.YteadlcncnhbmjaaGreatDoor
/- The walks of the reference's field, numbers. Written by gencx5.py. -/
namespace Go.Proofs.YteadlcncnhbmjaaGreatDoor
open Go.RowKit Go.Lib
set_option linter.unusedVariables false
set_option linter.unusedSimpArgs false
set_option maxHeartbeats 8000000 in
set_option maxRecDepth 100000 in
theorem field_21 (ok : Nat → Prop) (cells : Array Value) (e : List Ar.FV) (s : List UInt8) (w : World) (h : EvOf ok w cells e) (hs : s.length ≤ 1000000) : Calls Tryz.prog 57 #[.agg cells, .int .i64 21, .string (bstr s)] w fun r w' => FdA ok w.heap.size 21 s e r w' ∧ Below w.heap.size w w' := by
  have HS : Hid (∀ k c, (Tryz.prog.info? 40).map (·.size) = some (cells.setIfInBounds k c).size) := Lib.hid (fun k c => by rw [Array.size_setIfInBounds, size_event, h.size])
  have HS0 : Hid ((Tryz.prog.info? 40).map (·.size) = some cells.size) := Lib.hid (by rw [size_event, h.size])
  have HZ : Hid (∀ k c, zeroEv.size = (cells.setIfInBounds k c).size) := Lib.hid (fun k c => by rw [Array.size_setIfInBounds, h.size]; rfl)
  have HZ0 : Hid (zeroEv.size = cells.size) := Lib.hid (by rw [h.size]; rfl)
  have HO0 := Lib.hid h.one
  have HX := Lib.hid h
  have HSG := Lib.hid (fun W => sign_any s 61 W hs)
  rw [show (((61 : UInt8).toNat : Nat) : Int) = 61 from rfl] at HSG
  have HXF := Lib.hid (xfield_eq (i := 21) (s := s) rfl)
  clear h
  go_enter Tryz.func57, Tryz.ntmps57
  go_wp2_with fail
  refine (HSG.out _).mono ?_
  rintro r w1 ⟨hsg, rfl⟩
  rcases hsg with ⟨r1, hr1, rfl⟩ | ⟨hr1, rfl⟩
  · have HR1 := Lib.hid hr1
    have hrl := Ar.xsign_len hr1
    have HUQ := Lib.hid (fun W => rnumber_any (bstr r1) W (by rw [bstr_size]; omega))
    rw [show (bstr r1).data.toList = r1 from rfl] at HUQ
    clear hr1
    generalize hRB : bstr r1 = RB at *
    go_wp2_with fail
    refine (HUQ.out _).mono ?_
    rintro r w5 ⟨hone, hb5⟩
    have HK5 := Lib.hid (Blk.below ((Blk.new w 40 cells).alloc _) hb5 (by rw [World.size_alloc, World.size_alloc]; omega))
    have HR5 := Lib.hid (Blk.below (blk_n1 w _ 40 _) hb5 (by rw [World.size_alloc, World.size_alloc]; omega))
    have HB5 : Hid (Below w.heap.size w w5) := Lib.hid ((((Below.refl w.heap.size w).alloc (Nat.le_refl _) _).alloc (by rw [World.size_alloc]; exact Nat.le_succ _) _).trans (hb5.mono (by rw [World.size_alloc, World.size_alloc]; omega)))
    have HE5 := Lib.hid (HX.out.toF HB5.out)
    have HL5 := Lib.hid HR5.out.lt
    rcases hone with ⟨n, t, hxt, rfl⟩ | ⟨hno, rfl⟩
    · have HSO : Hid (Ar.xfield 21 s = some (.num n, t)) := Lib.hid (by rw [HXF.out, HR1.out]; show (Ar.xnum r1).map _ = _; rw [hxt]; rfl)
      have hin : Ar.inInt n := Ar.xnum_range hxt
      clear hxt
      have HFG := Lib.hid (figset_any (okF ok w.heap.size) cells e n w5 21 21 (by simp) HE5.out hin)
      clear hin
      go_wp2_with (refine wpList_load_row rfl 40 _ rfl w.heap.size rfl 40 cells (0, 0) _ HK5.out Tryz.underlying40 rfl HS0.out ?_)
      refine HFG.out.mono ?_
      rintro r w6 ⟨⟨cells', rfl, he6⟩, hb6⟩
      have HE6 := Lib.hid he6
      have HS6 : Hid ((Tryz.prog.info? 40).map (·.size) = some cells'.size) := Lib.hid (by rw [size_event, HE6.out.size])
      have HC6 : Hid (cells.size = cells'.size) := Lib.hid (by rw [HX.out.size, HE6.out.size])
      have HZ6 : Hid (zeroEv.size = cells'.size) := Lib.hid (by rw [HE6.out.size]; rfl)
      have HO6 := Lib.hid HE6.out.one
      have HK6 := Lib.hid (HK5.out.below hb6 (by have := HL5.out; omega))
      have HR6 := Lib.hid (HR5.out.below hb6 HL5.out)
      have HB6 : Hid (Below w.heap.size w w6) := Lib.hid (HB5.out.trans (hb6.mono (by have := HL5.out; omega)))
      clear he6
      go_wp2_with (first
        | ((with_reducible refine wpList_store_rowk rfl 40 _ _ rfl w.heap.size cells' ?_ ?_ 40 _ HK6.out HS6.out ?_ HO6.out ?_); rfl; rfl; exact HC6.out; intro w8 hk8 hs8 hbl8 hot8
           have HK8 := Lib.hid hk8
           have HR8 : Hid (Blk w8 (w.heap.size + 1) 40 _) := Lib.hid ((hot8 (w.heap.size + 1) (by omega)).trans HR6.out)
           have HB8 : Hid (Below w.heap.size w w8) := Lib.hid (HB6.out.trans (hbl8 w.heap.size (Nat.le_refl _)))
           have HOT8 := Lib.hid hot8
           clear hk8 hot8 hbl8)
        | (refine wpList_load_row rfl 40 _ rfl w.heap.size rfl 40 cells' (0, 0) _ HK8.out Tryz.underlying40 rfl HS6.out ?_)
        | ((with_reducible refine wpList_store_rowk rfl 40 _ _ rfl (w.heap.size + 1) cells' ?_ ?_ 40 _ HR8.out HS6.out ?_ HO6.out ?_); rfl; rfl; exact HZ6.out; intro w9 hk9 hs9 hbl9 hot9))
      refine bodyPost_ret (results_row_tmp2 rfl _ _ (w.heap.size + 1) _ _ _ rfl hk9 Tryz.underlying40 rfl HS6.out) rfl ?_
      exact ⟨.inl ⟨_, _, _, HSO.out, rfl, ((HE6.out.others fun k h1 _ => HOT8.out k h1).others fun k _ h2 => hot9 k h2).toB⟩, HB8.out.trans (hbl9 w.heap.size (Nat.le_succ _))⟩
    · have HNO : Hid (Ar.xfield 21 s = none) := Lib.hid (by rw [HXF.out, HR1.out]; show (Ar.xnum r1).map _ = _; rw [hno]; rfl)
      clear hno
      have hin : Ar.inInt 0 := by unfold Ar.inInt; omega
      have HFG := Lib.hid (figset_any (okF ok w.heap.size) cells e 0 w5 21 21 (by simp) HE5.out hin)
      clear hin
      go_wp2_with (refine wpList_load_row rfl 40 _ rfl w.heap.size rfl 40 cells (0, 0) _ HK5.out Tryz.underlying40 rfl HS0.out ?_)
      refine HFG.out.mono ?_
      rintro r w6 ⟨⟨cells', rfl, he6⟩, hb6⟩
      have HE6 := Lib.hid he6
      have HS6 : Hid ((Tryz.prog.info? 40).map (·.size) = some cells'.size) := Lib.hid (by rw [size_event, HE6.out.size])
      have HC6 : Hid (cells.size = cells'.size) := Lib.hid (by rw [HX.out.size, HE6.out.size])
      have HZ6 : Hid (zeroEv.size = cells'.size) := Lib.hid (by rw [HE6.out.size]; rfl)
      have HO6 := Lib.hid HE6.out.one
      have HK6 := Lib.hid (HK5.out.below hb6 (by have := HL5.out; omega))
      have HR6 := Lib.hid (HR5.out.below hb6 HL5.out)
      have HB6 : Hid (Below w.heap.size w w6) := Lib.hid (HB5.out.trans (hb6.mono (by have := HL5.out; omega)))
      clear he6
      go_wp2_with (first
        | ((with_reducible refine wpList_store_rowk rfl 40 _ _ rfl w.heap.size cells' ?_ ?_ 40 _ HK6.out HS6.out ?_ HO6.out ?_); rfl; rfl; exact HC6.out; intro w8 hk8 hs8 hbl8 hot8
           have HK8 := Lib.hid hk8
           have HR8 : Hid (Blk w8 (w.heap.size + 1) 40 _) := Lib.hid ((hot8 (w.heap.size + 1) (by omega)).trans HR6.out)
           have HB8 : Hid (Below w.heap.size w w8) := Lib.hid (HB6.out.trans (hbl8 w.heap.size (Nat.le_refl _)))
           have HOT8 := Lib.hid hot8
           clear hk8 hot8 hbl8)
        | (refine wpList_load_row rfl 40 _ rfl w.heap.size rfl 40 cells' (0, 0) _ HK8.out Tryz.underlying40 rfl HS6.out ?_)
        | ((with_reducible refine wpList_store_rowk rfl 40 _ _ rfl (w.heap.size + 1) cells' ?_ ?_ 40 _ HR8.out HS6.out ?_ HO6.out ?_); rfl; rfl; exact HZ6.out; intro w9 hk9 hs9 hbl9 hot9))
      refine bodyPost_ret (results_row_tmp2 rfl _ _ (w.heap.size + 1) _ _ _ rfl hk9 Tryz.underlying40 rfl HS6.out) rfl ?_
      exact ⟨.inr ⟨HNO.out, _, _, rfl, HE6.out.size, HO6.out⟩, HB8.out.trans (hbl9 w.heap.size (Nat.le_succ _))⟩
  · have HNO : Hid (Ar.xfield 21 s = none) := Lib.hid (by rw [HXF.out, hr1]; rfl)
    clear hr1
    go_wp2_with (first
      | (refine wpList_load_row rfl 40 _ rfl w.heap.size rfl 40 cells (0, 0) _ ((Blk.new w 40 cells).alloc _) Tryz.underlying40 rfl HS0.out ?_)
      | ((with_reducible refine wpList_store_rowk rfl 40 _ _ rfl (w.heap.size + 1) cells ?_ ?_ 40 _ (blk_n1 w _ 40 _) HS0.out ?_ HO0.out ?_); rfl; rfl; exact HZ0.out; intro w6 hk6 hs6 hbl6 hot6))
    have HB6 : Hid (Below w.heap.size w w6) := Lib.hid ((((Below.refl w.heap.size w).alloc (Nat.le_refl _) _).alloc (by rw [World.size_alloc]; exact Nat.le_succ _) _).trans (hbl6 w.heap.size (Nat.le_succ _)))
    refine bodyPost_ret (results_row_tmp2 rfl _ _ (w.heap.size + 1) _ _ _ rfl hk6 Tryz.underlying40 rfl HS0.out) rfl ?_
    exact ⟨.inr ⟨HNO.out, _, _, rfl, HX.out.size, HO0.out⟩, HB6.out⟩
set_option maxHeartbeats 8000000 in
set_option maxRecDepth 100000 in
theorem field_22 (ok : Nat → Prop) (cells : Array Value) (e : List Ar.FV) (s : List UInt8) (w : World) (h : EvOf ok w cells e) (hs : s.length ≤ 1000000) : Calls Tryz.prog 57 #[.agg cells, .int .i64 22, .string (bstr s)] w fun r w' => FdA ok w.heap.size 22 s e r w' ∧ Below w.heap.size w w' := by
  have HS : Hid (∀ k c, (Tryz.prog.info? 40).map (·.size) = some (cells.setIfInBounds k c).size) := Lib.hid (fun k c => by rw [Array.size_setIfInBounds, size_event, h.size])
  have HS0 : Hid ((Tryz.prog.info? 40).map (·.size) = some cells.size) := Lib.hid (by rw [size_event, h.size])
  have HZ : Hid (∀ k c, zeroEv.size = (cells.setIfInBounds k c).size) := Lib.hid (fun k c => by rw [Array.size_setIfInBounds, h.size]; rfl)
  have HZ0 : Hid (zeroEv.size = cells.size) := Lib.hid (by rw [h.size]; rfl)
  have HO0 := Lib.hid h.one
  have HX := Lib.hid h
  have HSG := Lib.hid (fun W => sign_any s 61 W hs)
  rw [show (((61 : UInt8).toNat : Nat) : Int) = 61 from rfl] at HSG
  have HXF := Lib.hid (xfield_eq (i := 22) (s := s) rfl)
  clear h
  go_enter Tryz.func57, Tryz.ntmps57
  go_wp2_with fail
  refine (HSG.out _).mono ?_
  rintro r w1 ⟨hsg, rfl⟩
  rcases hsg with ⟨r1, hr1, rfl⟩ | ⟨hr1, rfl⟩
  · have HR1 := Lib.hid hr1
    have hrl := Ar.xsign_len hr1
    have HUQ := Lib.hid (fun W => rnumber_any (bstr r1) W (by rw [bstr_size]; omega))
    rw [show (bstr r1).data.toList = r1 from rfl] at HUQ
    clear hr1
    generalize hRB : bstr r1 = RB at *
    go_wp2_with fail
    refine (HUQ.out _).mono ?_
    rintro r w5 ⟨hone, hb5⟩
    have HK5 := Lib.hid (Blk.below ((Blk.new w 40 cells).alloc _) hb5 (by rw [World.size_alloc, World.size_alloc]; omega))
    have HR5 := Lib.hid (Blk.below (blk_n1 w _ 40 _) hb5 (by rw [World.size_alloc, World.size_alloc]; omega))
    have HB5 : Hid (Below w.heap.size w w5) := Lib.hid ((((Below.refl w.heap.size w).alloc (Nat.le_refl _) _).alloc (by rw [World.size_alloc]; exact Nat.le_succ _) _).trans (hb5.mono (by rw [World.size_alloc, World.size_alloc]; omega)))
    have HE5 := Lib.hid (HX.out.toF HB5.out)
    have HL5 := Lib.hid HR5.out.lt
    rcases hone with ⟨n, t, hxt, rfl⟩ | ⟨hno, rfl⟩
    · have HSO : Hid (Ar.xfield 22 s = some (.num n, t)) := Lib.hid (by rw [HXF.out, HR1.out]; show (Ar.xnum r1).map _ = _; rw [hxt]; rfl)
      have hin : Ar.inInt n := Ar.xnum_range hxt
      clear hxt
      have HFG := Lib.hid (figset_any (okF ok w.heap.size) cells e n w5 22 22 (by simp) HE5.out hin)
      clear hin
      go_wp2_with (refine wpList_load_row rfl 40 _ rfl w.heap.size rfl 40 cells (0, 0) _ HK5.out Tryz.underlying40 rfl HS0.out ?_)
      refine HFG.out.mono ?_
      rintro r w6 ⟨⟨cells', rfl, he6⟩, hb6⟩
      have HE6 := Lib.hid he6
      have HS6 : Hid ((Tryz.prog.info? 40).map (·.size) = some cells'.size) := Lib.hid (by rw [size_event, HE6.out.size])
      have HC6 : Hid (cells.size = cells'.size) := Lib.hid (by rw [HX.out.size, HE6.out.size])
      have HZ6 : Hid (zeroEv.size = cells'.size) := Lib.hid (by rw [HE6.out.size]; rfl)
      have HO6 := Lib.hid HE6.out.one
      have HK6 := Lib.hid (HK5.out.below hb6 (by have := HL5.out; omega))
      have HR6 := Lib.hid (HR5.out.below hb6 HL5.out)
      have HB6 : Hid (Below w.heap.size w w6) := Lib.hid (HB5.out.trans (hb6.mono (by have := HL5.out; omega)))
      clear he6
      go_wp2_with (first
        | ((with_reducible refine wpList_store_rowk rfl 40 _ _ rfl w.heap.size cells' ?_ ?_ 40 _ HK6.out HS6.out ?_ HO6.out ?_); rfl; rfl; exact HC6.out; intro w8 hk8 hs8 hbl8 hot8
           have HK8 := Lib.hid hk8
           have HR8 : Hid (Blk w8 (w.heap.size + 1) 40 _) := Lib.hid ((hot8 (w.heap.size + 1) (by omega)).trans HR6.out)
           have HB8 : Hid (Below w.heap.size w w8) := Lib.hid (HB6.out.trans (hbl8 w.heap.size (Nat.le_refl _)))
           have HOT8 := Lib.hid hot8
           clear hk8 hot8 hbl8)
        | (refine wpList_load_row rfl 40 _ rfl w.heap.size rfl 40 cells' (0, 0) _ HK8.out Tryz.underlying40 rfl HS6.out ?_)
        | ((with_reducible refine wpList_store_rowk rfl 40 _ _ rfl (w.heap.size + 1) cells' ?_ ?_ 40 _ HR8.out HS6.out ?_ HO6.out ?_); rfl; rfl; exact HZ6.out; intro w9 hk9 hs9 hbl9 hot9))
      refine bodyPost_ret (results_row_tmp2 rfl _ _ (w.heap.size + 1) _ _ _ rfl hk9 Tryz.underlying40 rfl HS6.out) rfl ?_
      exact ⟨.inl ⟨_, _, _, HSO.out, rfl, ((HE6.out.others fun k h1 _ => HOT8.out k h1).others fun k _ h2 => hot9 k h2).toB⟩, HB8.out.trans (hbl9 w.heap.size (Nat.le_succ _))⟩
    · have HNO : Hid (Ar.xfield 22 s = none) := Lib.hid (by rw [HXF.out, HR1.out]; show (Ar.xnum r1).map _ = _; rw [hno]; rfl)
      clear hno
      have hin : Ar.inInt 0 := by unfold Ar.inInt; omega
      have HFG := Lib.hid (figset_any (okF ok w.heap.size) cells e 0 w5 22 22 (by simp) HE5.out hin)
      clear hin
      go_wp2_with (refine wpList_load_row rfl 40 _ rfl w.heap.size rfl 40 cells (0, 0) _ HK5.out Tryz.underlying40 rfl HS0.out ?_)
      refine HFG.out.mono ?_
      rintro r w6 ⟨⟨cells', rfl, he6⟩, hb6⟩
      have HE6 := Lib.hid he6
      have HS6 : Hid ((Tryz.prog.info? 40).map (·.size) = some cells'.size) := Lib.hid (by rw [size_event, HE6.out.size])
      have HC6 : Hid (cells.size = cells'.size) := Lib.hid (by rw [HX.out.size, HE6.out.size])
      have HZ6 : Hid (zeroEv.size = cells'.size) := Lib.hid (by rw [HE6.out.size]; rfl)
      have HO6 := Lib.hid HE6.out.one
      have HK6 := Lib.hid (HK5.out.below hb6 (by have := HL5.out; omega))
      have HR6 := Lib.hid (HR5.out.below hb6 HL5.out)
      have HB6 : Hid (Below w.heap.size w w6) := Lib.hid (HB5.out.trans (hb6.mono (by have := HL5.out; omega)))
      clear he6
      go_wp2_with (first
        | ((with_reducible refine wpList_store_rowk rfl 40 _ _ rfl w.heap.size cells' ?_ ?_ 40 _ HK6.out HS6.out ?_ HO6.out ?_); rfl; rfl; exact HC6.out; intro w8 hk8 hs8 hbl8 hot8
           have HK8 := Lib.hid hk8
           have HR8 : Hid (Blk w8 (w.heap.size + 1) 40 _) := Lib.hid ((hot8 (w.heap.size + 1) (by omega)).trans HR6.out)
           have HB8 : Hid (Below w.heap.size w w8) := Lib.hid (HB6.out.trans (hbl8 w.heap.size (Nat.le_refl _)))
           have HOT8 := Lib.hid hot8
           clear hk8 hot8 hbl8)
        | (refine wpList_load_row rfl 40 _ rfl w.heap.size rfl 40 cells' (0, 0) _ HK8.out Tryz.underlying40 rfl HS6.out ?_)
        | ((with_reducible refine wpList_store_rowk rfl 40 _ _ rfl (w.heap.size + 1) cells' ?_ ?_ 40 _ HR8.out HS6.out ?_ HO6.out ?_); rfl; rfl; exact HZ6.out; intro w9 hk9 hs9 hbl9 hot9))
      refine bodyPost_ret (results_row_tmp2 rfl _ _ (w.heap.size + 1) _ _ _ rfl hk9 Tryz.underlying40 rfl HS6.out) rfl ?_
      exact ⟨.inr ⟨HNO.out, _, _, rfl, HE6.out.size, HO6.out⟩, HB8.out.trans (hbl9 w.heap.size (Nat.le_succ _))⟩
  · have HNO : Hid (Ar.xfield 22 s = none) := Lib.hid (by rw [HXF.out, hr1]; rfl)
    clear hr1
    go_wp2_with (first
      | (refine wpList_load_row rfl 40 _ rfl w.heap.size rfl 40 cells (0, 0) _ ((Blk.new w 40 cells).alloc _) Tryz.underlying40 rfl HS0.out ?_)
      | ((with_reducible refine wpList_store_rowk rfl 40 _ _ rfl (w.heap.size + 1) cells ?_ ?_ 40 _ (blk_n1 w _ 40 _) HS0.out ?_ HO0.out ?_); rfl; rfl; exact HZ0.out; intro w6 hk6 hs6 hbl6 hot6))
    have HB6 : Hid (Below w.heap.size w w6) := Lib.hid ((((Below.refl w.heap.size w).alloc (Nat.le_refl _) _).alloc (by rw [World.size_alloc]; exact Nat.le_succ _) _).trans (hbl6 w.heap.size (Nat.le_succ _)))
    refine bodyPost_ret (results_row_tmp2 rfl _ _ (w.heap.size + 1) _ _ _ rfl hk6 Tryz.underlying40 rfl HS0.out) rfl ?_
    exact ⟨.inr ⟨HNO.out, _, _, rfl, HX.out.size, HO0.out⟩, HB6.out⟩
set_option maxHeartbeats 8000000 in
set_option maxRecDepth 100000 in
theorem field_23 (ok : Nat → Prop) (cells : Array Value) (e : List Ar.FV) (s : List UInt8) (w : World) (h : EvOf ok w cells e) (hs : s.length ≤ 1000000) : Calls Tryz.prog 57 #[.agg cells, .int .i64 23, .string (bstr s)] w fun r w' => FdA ok w.heap.size 23 s e r w' ∧ Below w.heap.size w w' := by
  have HS : Hid (∀ k c, (Tryz.prog.info? 40).map (·.size) = some (cells.setIfInBounds k c).size) := Lib.hid (fun k c => by rw [Array.size_setIfInBounds, size_event, h.size])
  have HS0 : Hid ((Tryz.prog.info? 40).map (·.size) = some cells.size) := Lib.hid (by rw [size_event, h.size])
  have HZ : Hid (∀ k c, zeroEv.size = (cells.setIfInBounds k c).size) := Lib.hid (fun k c => by rw [Array.size_setIfInBounds, h.size]; rfl)
  have HZ0 : Hid (zeroEv.size = cells.size) := Lib.hid (by rw [h.size]; rfl)
  have HO0 := Lib.hid h.one
  have HX := Lib.hid h
  have HSG := Lib.hid (fun W => sign_any s 61 W hs)
  rw [show (((61 : UInt8).toNat : Nat) : Int) = 61 from rfl] at HSG
  have HXF := Lib.hid (xfield_eq (i := 23) (s := s) rfl)
  clear h
  go_enter Tryz.func57, Tryz.ntmps57
  go_wp2_with fail
  refine (HSG.out _).mono ?_
  rintro r w1 ⟨hsg, rfl⟩
  rcases hsg with ⟨r1, hr1, rfl⟩ | ⟨hr1, rfl⟩
  · have HR1 := Lib.hid hr1
    have hrl := Ar.xsign_len hr1
    have HUQ := Lib.hid (fun W => rnumber_any (bstr r1) W (by rw [bstr_size]; omega))
    rw [show (bstr r1).data.toList = r1 from rfl] at HUQ
    clear hr1
    generalize hRB : bstr r1 = RB at *
    go_wp2_with fail
    refine (HUQ.out _).mono ?_
    rintro r w5 ⟨hone, hb5⟩
    have HK5 := Lib.hid (Blk.below ((Blk.new w 40 cells).alloc _) hb5 (by rw [World.size_alloc, World.size_alloc]; omega))
    have HR5 := Lib.hid (Blk.below (blk_n1 w _ 40 _) hb5 (by rw [World.size_alloc, World.size_alloc]; omega))
    have HB5 : Hid (Below w.heap.size w w5) := Lib.hid ((((Below.refl w.heap.size w).alloc (Nat.le_refl _) _).alloc (by rw [World.size_alloc]; exact Nat.le_succ _) _).trans (hb5.mono (by rw [World.size_alloc, World.size_alloc]; omega)))
    have HE5 := Lib.hid (HX.out.toF HB5.out)
    have HL5 := Lib.hid HR5.out.lt
    rcases hone with ⟨n, t, hxt, rfl⟩ | ⟨hno, rfl⟩
    · have HSO : Hid (Ar.xfield 23 s = some (.num n, t)) := Lib.hid (by rw [HXF.out, HR1.out]; show (Ar.xnum r1).map _ = _; rw [hxt]; rfl)
      have hin : Ar.inInt n := Ar.xnum_range hxt
      clear hxt
      have HFG := Lib.hid (figset_any (okF ok w.heap.size) cells e n w5 23 23 (by simp) HE5.out hin)
      clear hin
      go_wp2_with (refine wpList_load_row rfl 40 _ rfl w.heap.size rfl 40 cells (0, 0) _ HK5.out Tryz.underlying40 rfl HS0.out ?_)
      refine HFG.out.mono ?_
      rintro r w6 ⟨⟨cells', rfl, he6⟩, hb6⟩
      have HE6 := Lib.hid he6
      have HS6 : Hid ((Tryz.prog.info? 40).map (·.size) = some cells'.size) := Lib.hid (by rw [size_event, HE6.out.size])
      have HC6 : Hid (cells.size = cells'.size) := Lib.hid (by rw [HX.out.size, HE6.out.size])
      have HZ6 : Hid (zeroEv.size = cells'.size) := Lib.hid (by rw [HE6.out.size]; rfl)
      have HO6 := Lib.hid HE6.out.one
      have HK6 := Lib.hid (HK5.out.below hb6 (by have := HL5.out; omega))
      have HR6 := Lib.hid (HR5.out.below hb6 HL5.out)
      have HB6 : Hid (Below w.heap.size w w6) := Lib.hid (HB5.out.trans (hb6.mono (by have := HL5.out; omega)))
      clear he6
      go_wp2_with (first
        | ((with_reducible refine wpList_store_rowk rfl 40 _ _ rfl w.heap.size cells' ?_ ?_ 40 _ HK6.out HS6.out ?_ HO6.out ?_); rfl; rfl; exact HC6.out; intro w8 hk8 hs8 hbl8 hot8
           have HK8 := Lib.hid hk8
           have HR8 : Hid (Blk w8 (w.heap.size + 1) 40 _) := Lib.hid ((hot8 (w.heap.size + 1) (by omega)).trans HR6.out)
           have HB8 : Hid (Below w.heap.size w w8) := Lib.hid (HB6.out.trans (hbl8 w.heap.size (Nat.le_refl _)))
           have HOT8 := Lib.hid hot8
           clear hk8 hot8 hbl8)
        | (refine wpList_load_row rfl 40 _ rfl w.heap.size rfl 40 cells' (0, 0) _ HK8.out Tryz.underlying40 rfl HS6.out ?_)
        | ((with_reducible refine wpList_store_rowk rfl 40 _ _ rfl (w.heap.size + 1) cells' ?_ ?_ 40 _ HR8.out HS6.out ?_ HO6.out ?_); rfl; rfl; exact HZ6.out; intro w9 hk9 hs9 hbl9 hot9))
      refine bodyPost_ret (results_row_tmp2 rfl _ _ (w.heap.size + 1) _ _ _ rfl hk9 Tryz.underlying40 rfl HS6.out) rfl ?_
      exact ⟨.inl ⟨_, _, _, HSO.out, rfl, ((HE6.out.others fun k h1 _ => HOT8.out k h1).others fun k _ h2 => hot9 k h2).toB⟩, HB8.out.trans (hbl9 w.heap.size (Nat.le_succ _))⟩
    · have HNO : Hid (Ar.xfield 23 s = none) := Lib.hid (by rw [HXF.out, HR1.out]; show (Ar.xnum r1).map _ = _; rw [hno]; rfl)
      clear hno
      have hin : Ar.inInt 0 := by unfold Ar.inInt; omega
      have HFG := Lib.hid (figset_any (okF ok w.heap.size) cells e 0 w5 23 23 (by simp) HE5.out hin)
      clear hin
      go_wp2_with (refine wpList_load_row rfl 40 _ rfl w.heap.size rfl 40 cells (0, 0) _ HK5.out Tryz.underlying40 rfl HS0.out ?_)
      refine HFG.out.mono ?_
      rintro r w6 ⟨⟨cells', rfl, he6⟩, hb6⟩
      have HE6 := Lib.hid he6
      have HS6 : Hid ((Tryz.prog.info? 40).map (·.size) = some cells'.size) := Lib.hid (by rw [size_event, HE6.out.size])
      have HC6 : Hid (cells.size = cells'.size) := Lib.hid (by rw [HX.out.size, HE6.out.size])
      have HZ6 : Hid (zeroEv.size = cells'.size) := Lib.hid (by rw [HE6.out.size]; rfl)
      have HO6 := Lib.hid HE6.out.one
      have HK6 := Lib.hid (HK5.out.below hb6 (by have := HL5.out; omega))
      have HR6 := Lib.hid (HR5.out.below hb6 HL5.out)
      have HB6 : Hid (Below w.heap.size w w6) := Lib.hid (HB5.out.trans (hb6.mono (by have := HL5.out; omega)))
      clear he6
      go_wp2_with (first
        | ((with_reducible refine wpList_store_rowk rfl 40 _ _ rfl w.heap.size cells' ?_ ?_ 40 _ HK6.out HS6.out ?_ HO6.out ?_); rfl; rfl; exact HC6.out; intro w8 hk8 hs8 hbl8 hot8
           have HK8 := Lib.hid hk8
           have HR8 : Hid (Blk w8 (w.heap.size + 1) 40 _) := Lib.hid ((hot8 (w.heap.size + 1) (by omega)).trans HR6.out)
           have HB8 : Hid (Below w.heap.size w w8) := Lib.hid (HB6.out.trans (hbl8 w.heap.size (Nat.le_refl _)))
           have HOT8 := Lib.hid hot8
           clear hk8 hot8 hbl8)
        | (refine wpList_load_row rfl 40 _ rfl w.heap.size rfl 40 cells' (0, 0) _ HK8.out Tryz.underlying40 rfl HS6.out ?_)
        | ((with_reducible refine wpList_store_rowk rfl 40 _ _ rfl (w.heap.size + 1) cells' ?_ ?_ 40 _ HR8.out HS6.out ?_ HO6.out ?_); rfl; rfl; exact HZ6.out; intro w9 hk9 hs9 hbl9 hot9))
      refine bodyPost_ret (results_row_tmp2 rfl _ _ (w.heap.size + 1) _ _ _ rfl hk9 Tryz.underlying40 rfl HS6.out) rfl ?_
      exact ⟨.inr ⟨HNO.out, _, _, rfl, HE6.out.size, HO6.out⟩, HB8.out.trans (hbl9 w.heap.size (Nat.le_succ _))⟩
  · have HNO : Hid (Ar.xfield 23 s = none) := Lib.hid (by rw [HXF.out, hr1]; rfl)
    clear hr1
    go_wp2_with (first
      | (refine wpList_load_row rfl 40 _ rfl w.heap.size rfl 40 cells (0, 0) _ ((Blk.new w 40 cells).alloc _) Tryz.underlying40 rfl HS0.out ?_)
      | ((with_reducible refine wpList_store_rowk rfl 40 _ _ rfl (w.heap.size + 1) cells ?_ ?_ 40 _ (blk_n1 w _ 40 _) HS0.out ?_ HO0.out ?_); rfl; rfl; exact HZ0.out; intro w6 hk6 hs6 hbl6 hot6))
    have HB6 : Hid (Below w.heap.size w w6) := Lib.hid ((((Below.refl w.heap.size w).alloc (Nat.le_refl _) _).alloc (by rw [World.size_alloc]; exact Nat.le_succ _) _).trans (hbl6 w.heap.size (Nat.le_succ _)))
    refine bodyPost_ret (results_row_tmp2 rfl _ _ (w.heap.size + 1) _ _ _ rfl hk6 Tryz.underlying40 rfl HS0.out) rfl ?_
    exact ⟨.inr ⟨HNO.out, _, _, rfl, HX.out.size, HO0.out⟩, HB6.out⟩
set_option maxHeartbeats 8000000 in
set_option maxRecDepth 100000 in
theorem field_24 (ok : Nat → Prop) (cells : Array Value) (e : List Ar.FV) (s : List UInt8) (w : World) (h : EvOf ok w cells e) (hs : s.length ≤ 1000000) : Calls Tryz.prog 57 #[.agg cells, .int .i64 24, .string (bstr s)] w fun r w' => FdA ok w.heap.size 24 s e r w' ∧ Below w.heap.size w w' := by
  have HS : Hid (∀ k c, (Tryz.prog.info? 40).map (·.size) = some (cells.setIfInBounds k c).size) := Lib.hid (fun k c => by rw [Array.size_setIfInBounds, size_event, h.size])
  have HS0 : Hid ((Tryz.prog.info? 40).map (·.size) = some cells.size) := Lib.hid (by rw [size_event, h.size])
  have HZ : Hid (∀ k c, zeroEv.size = (cells.setIfInBounds k c).size) := Lib.hid (fun k c => by rw [Array.size_setIfInBounds, h.size]; rfl)
  have HZ0 : Hid (zeroEv.size = cells.size) := Lib.hid (by rw [h.size]; rfl)
  have HO0 := Lib.hid h.one
  have HX := Lib.hid h
  have HSG := Lib.hid (fun W => sign_any s 61 W hs)
  rw [show (((61 : UInt8).toNat : Nat) : Int) = 61 from rfl] at HSG
  have HXF := Lib.hid (xfield_eq (i := 24) (s := s) rfl)
  clear h
  go_enter Tryz.func57, Tryz.ntmps57
  go_wp2_with fail
  refine (HSG.out _).mono ?_
  rintro r w1 ⟨hsg, rfl⟩
  rcases hsg with ⟨r1, hr1, rfl⟩ | ⟨hr1, rfl⟩
  · have HR1 := Lib.hid hr1
    have hrl := Ar.xsign_len hr1
    have HUQ := Lib.hid (fun W => rnumber_any (bstr r1) W (by rw [bstr_size]; omega))
    rw [show (bstr r1).data.toList = r1 from rfl] at HUQ
    clear hr1
    generalize hRB : bstr r1 = RB at *
    go_wp2_with fail
    refine (HUQ.out _).mono ?_
    rintro r w5 ⟨hone, hb5⟩
    have HK5 := Lib.hid (Blk.below ((Blk.new w 40 cells).alloc _) hb5 (by rw [World.size_alloc, World.size_alloc]; omega))
    have HR5 := Lib.hid (Blk.below (blk_n1 w _ 40 _) hb5 (by rw [World.size_alloc, World.size_alloc]; omega))
    have HB5 : Hid (Below w.heap.size w w5) := Lib.hid ((((Below.refl w.heap.size w).alloc (Nat.le_refl _) _).alloc (by rw [World.size_alloc]; exact Nat.le_succ _) _).trans (hb5.mono (by rw [World.size_alloc, World.size_alloc]; omega)))
    have HE5 := Lib.hid (HX.out.toF HB5.out)
    have HL5 := Lib.hid HR5.out.lt
    rcases hone with ⟨n, t, hxt, rfl⟩ | ⟨hno, rfl⟩
    · have HSO : Hid (Ar.xfield 24 s = some (.num n, t)) := Lib.hid (by rw [HXF.out, HR1.out]; show (Ar.xnum r1).map _ = _; rw [hxt]; rfl)
      have hin : Ar.inInt n := Ar.xnum_range hxt
      clear hxt
      have HFG := Lib.hid (figset_any (okF ok w.heap.size) cells e n w5 24 24 (by simp) HE5.out hin)
      clear hin
      go_wp2_with (refine wpList_load_row rfl 40 _ rfl w.heap.size rfl 40 cells (0, 0) _ HK5.out Tryz.underlying40 rfl HS0.out ?_)
      refine HFG.out.mono ?_
      rintro r w6 ⟨⟨cells', rfl, he6⟩, hb6⟩
      have HE6 := Lib.hid he6
      have HS6 : Hid ((Tryz.prog.info? 40).map (·.size) = some cells'.size) := Lib.hid (by rw [size_event, HE6.out.size])
      have HC6 : Hid (cells.size = cells'.size) := Lib.hid (by rw [HX.out.size, HE6.out.size])
      have HZ6 : Hid (zeroEv.size = cells'.size) := Lib.hid (by rw [HE6.out.size]; rfl)
      have HO6 := Lib.hid HE6.out.one
      have HK6 := Lib.hid (HK5.out.below hb6 (by have := HL5.out; omega))
      have HR6 := Lib.hid (HR5.out.below hb6 HL5.out)
      have HB6 : Hid (Below w.heap.size w w6) := Lib.hid (HB5.out.trans (hb6.mono (by have := HL5.out; omega)))
      clear he6
      go_wp2_with (first
        | ((with_reducible refine wpList_store_rowk rfl 40 _ _ rfl w.heap.size cells' ?_ ?_ 40 _ HK6.out HS6.out ?_ HO6.out ?_); rfl; rfl; exact HC6.out; intro w8 hk8 hs8 hbl8 hot8
           have HK8 := Lib.hid hk8
           have HR8 : Hid (Blk w8 (w.heap.size + 1) 40 _) := Lib.hid ((hot8 (w.heap.size + 1) (by omega)).trans HR6.out)
           have HB8 : Hid (Below w.heap.size w w8) := Lib.hid (HB6.out.trans (hbl8 w.heap.size (Nat.le_refl _)))
           have HOT8 := Lib.hid hot8
           clear hk8 hot8 hbl8)
        | (refine wpList_load_row rfl 40 _ rfl w.heap.size rfl 40 cells' (0, 0) _ HK8.out Tryz.underlying40 rfl HS6.out ?_)
        | ((with_reducible refine wpList_store_rowk rfl 40 _ _ rfl (w.heap.size + 1) cells' ?_ ?_ 40 _ HR8.out HS6.out ?_ HO6.out ?_); rfl; rfl; exact HZ6.out; intro w9 hk9 hs9 hbl9 hot9))
      refine bodyPost_ret (results_row_tmp2 rfl _ _ (w.heap.size + 1) _ _ _ rfl hk9 Tryz.underlying40 rfl HS6.out) rfl ?_
      exact ⟨.inl ⟨_, _, _, HSO.out, rfl, ((HE6.out.others fun k h1 _ => HOT8.out k h1).others fun k _ h2 => hot9 k h2).toB⟩, HB8.out.trans (hbl9 w.heap.size (Nat.le_succ _))⟩
    · have HNO : Hid (Ar.xfield 24 s = none) := Lib.hid (by rw [HXF.out, HR1.out]; show (Ar.xnum r1).map _ = _; rw [hno]; rfl)
      clear hno
      have hin : Ar.inInt 0 := by unfold Ar.inInt; omega
      have HFG := Lib.hid (figset_any (okF ok w.heap.size) cells e 0 w5 24 24 (by simp) HE5.out hin)
      clear hin
      go_wp2_with (refine wpList_load_row rfl 40 _ rfl w.heap.size rfl 40 cells (0, 0) _ HK5.out Tryz.underlying40 rfl HS0.out ?_)
      refine HFG.out.mono ?_
      rintro r w6 ⟨⟨cells', rfl, he6⟩, hb6⟩
      have HE6 := Lib.hid he6
      have HS6 : Hid ((Tryz.prog.info? 40).map (·.size) = some cells'.size) := Lib.hid (by rw [size_event, HE6.out.size])
      have HC6 : Hid (cells.size = cells'.size) := Lib.hid (by rw [HX.out.size, HE6.out.size])
      have HZ6 : Hid (zeroEv.size = cells'.size) := Lib.hid (by rw [HE6.out.size]; rfl)
      have HO6 := Lib.hid HE6.out.one
      have HK6 := Lib.hid (HK5.out.below hb6 (by have := HL5.out; omega))
      have HR6 := Lib.hid (HR5.out.below hb6 HL5.out)
      have HB6 : Hid (Below w.heap.size w w6) := Lib.hid (HB5.out.trans (hb6.mono (by have := HL5.out; omega)))
      clear he6
      go_wp2_with (first
        | ((with_reducible refine wpList_store_rowk rfl 40 _ _ rfl w.heap.size cells' ?_ ?_ 40 _ HK6.out HS6.out ?_ HO6.out ?_); rfl; rfl; exact HC6.out; intro w8 hk8 hs8 hbl8 hot8
           have HK8 := Lib.hid hk8
           have HR8 : Hid (Blk w8 (w.heap.size + 1) 40 _) := Lib.hid ((hot8 (w.heap.size + 1) (by omega)).trans HR6.out)
           have HB8 : Hid (Below w.heap.size w w8) := Lib.hid (HB6.out.trans (hbl8 w.heap.size (Nat.le_refl _)))
           have HOT8 := Lib.hid hot8
           clear hk8 hot8 hbl8)
        | (refine wpList_load_row rfl 40 _ rfl w.heap.size rfl 40 cells' (0, 0) _ HK8.out Tryz.underlying40 rfl HS6.out ?_)
        | ((with_reducible refine wpList_store_rowk rfl 40 _ _ rfl (w.heap.size + 1) cells' ?_ ?_ 40 _ HR8.out HS6.out ?_ HO6.out ?_); rfl; rfl; exact HZ6.out; intro w9 hk9 hs9 hbl9 hot9))
      refine bodyPost_ret (results_row_tmp2 rfl _ _ (w.heap.size + 1) _ _ _ rfl hk9 Tryz.underlying40 rfl HS6.out) rfl ?_
      exact ⟨.inr ⟨HNO.out, _, _, rfl, HE6.out.size, HO6.out⟩, HB8.out.trans (hbl9 w.heap.size (Nat.le_succ _))⟩
  · have HNO : Hid (Ar.xfield 24 s = none) := Lib.hid (by rw [HXF.out, hr1]; rfl)
    clear hr1
    go_wp2_with (first
      | (refine wpList_load_row rfl 40 _ rfl w.heap.size rfl 40 cells (0, 0) _ ((Blk.new w 40 cells).alloc _) Tryz.underlying40 rfl HS0.out ?_)
      | ((with_reducible refine wpList_store_rowk rfl 40 _ _ rfl (w.heap.size + 1) cells ?_ ?_ 40 _ (blk_n1 w _ 40 _) HS0.out ?_ HO0.out ?_); rfl; rfl; exact HZ0.out; intro w6 hk6 hs6 hbl6 hot6))
    have HB6 : Hid (Below w.heap.size w w6) := Lib.hid ((((Below.refl w.heap.size w).alloc (Nat.le_refl _) _).alloc (by rw [World.size_alloc]; exact Nat.le_succ _) _).trans (hbl6 w.heap.size (Nat.le_succ _)))
    refine bodyPost_ret (results_row_tmp2 rfl _ _ (w.heap.size + 1) _ _ _ rfl hk6 Tryz.underlying40 rfl HS0.out) rfl ?_
    exact ⟨.inr ⟨HNO.out, _, _, rfl, HX.out.size, HO0.out⟩, HB6.out⟩
set_option maxHeartbeats 8000000 in
set_option maxRecDepth 100000 in
theorem field_25 (ok : Nat → Prop) (cells : Array Value) (e : List Ar.FV) (s : List UInt8) (w : World) (h : EvOf ok w cells e) (hs : s.length ≤ 1000000) : Calls Tryz.prog 57 #[.agg cells, .int .i64 25, .string (bstr s)] w fun r w' => FdA ok w.heap.size 25 s e r w' ∧ Below w.heap.size w w' := by
  have HS : Hid (∀ k c, (Tryz.prog.info? 40).map (·.size) = some (cells.setIfInBounds k c).size) := Lib.hid (fun k c => by rw [Array.size_setIfInBounds, size_event, h.size])
  have HS0 : Hid ((Tryz.prog.info? 40).map (·.size) = some cells.size) := Lib.hid (by rw [size_event, h.size])
  have HZ : Hid (∀ k c, zeroEv.size = (cells.setIfInBounds k c).size) := Lib.hid (fun k c => by rw [Array.size_setIfInBounds, h.size]; rfl)
  have HZ0 : Hid (zeroEv.size = cells.size) := Lib.hid (by rw [h.size]; rfl)
  have HO0 := Lib.hid h.one
  have HX := Lib.hid h
  have HSG := Lib.hid (fun W => sign_any s 61 W hs)
  rw [show (((61 : UInt8).toNat : Nat) : Int) = 61 from rfl] at HSG
  have HXF := Lib.hid (xfield_eq (i := 25) (s := s) rfl)
  clear h
  go_enter Tryz.func57, Tryz.ntmps57
  go_wp2_with fail
  refine (HSG.out _).mono ?_
  rintro r w1 ⟨hsg, rfl⟩
  rcases hsg with ⟨r1, hr1, rfl⟩ | ⟨hr1, rfl⟩
  · have HR1 := Lib.hid hr1
    have hrl := Ar.xsign_len hr1
    have HUQ := Lib.hid (fun W => rnumber_any (bstr r1) W (by rw [bstr_size]; omega))
    rw [show (bstr r1).data.toList = r1 from rfl] at HUQ
    clear hr1
    generalize hRB : bstr r1 = RB at *
    go_wp2_with fail
    refine (HUQ.out _).mono ?_
    rintro r w5 ⟨hone, hb5⟩
    have HK5 := Lib.hid (Blk.below ((Blk.new w 40 cells).alloc _) hb5 (by rw [World.size_alloc, World.size_alloc]; omega))
    have HR5 := Lib.hid (Blk.below (blk_n1 w _ 40 _) hb5 (by rw [World.size_alloc, World.size_alloc]; omega))
    have HB5 : Hid (Below w.heap.size w w5) := Lib.hid ((((Below.refl w.heap.size w).alloc (Nat.le_refl _) _).alloc (by rw [World.size_alloc]; exact Nat.le_succ _) _).trans (hb5.mono (by rw [World.size_alloc, World.size_alloc]; omega)))
    have HE5 := Lib.hid (HX.out.toF HB5.out)
    have HL5 := Lib.hid HR5.out.lt
    rcases hone with ⟨n, t, hxt, rfl⟩ | ⟨hno, rfl⟩
    · have HSO : Hid (Ar.xfield 25 s = some (.num n, t)) := Lib.hid (by rw [HXF.out, HR1.out]; show (Ar.xnum r1).map _ = _; rw [hxt]; rfl)
      have hin : Ar.inInt n := Ar.xnum_range hxt
      clear hxt
      have HFG := Lib.hid (figset_any (okF ok w.heap.size) cells e n w5 25 25 (by simp) HE5.out hin)
      clear hin
      go_wp2_with (refine wpList_load_row rfl 40 _ rfl w.heap.size rfl 40 cells (0, 0) _ HK5.out Tryz.underlying40 rfl HS0.out ?_)
      refine HFG.out.mono ?_
      rintro r w6 ⟨⟨cells', rfl, he6⟩, hb6⟩
      have HE6 := Lib.hid he6
      have HS6 : Hid ((Tryz.prog.info? 40).map (·.size) = some cells'.size) := Lib.hid (by rw [size_event, HE6.out.size])
      have HC6 : Hid (cells.size = cells'.size) := Lib.hid (by rw [HX.out.size, HE6.out.size])
      have HZ6 : Hid (zeroEv.size = cells'.size) := Lib.hid (by rw [HE6.out.size]; rfl)
      have HO6 := Lib.hid HE6.out.one
      have HK6 := Lib.hid (HK5.out.below hb6 (by have := HL5.out; omega))
      have HR6 := Lib.hid (HR5.out.below hb6 HL5.out)
      have HB6 : Hid (Below w.heap.size w w6) := Lib.hid (HB5.out.trans (hb6.mono (by have := HL5.out; omega)))
      clear he6
      go_wp2_with (first
        | ((with_reducible refine wpList_store_rowk rfl 40 _ _ rfl w.heap.size cells' ?_ ?_ 40 _ HK6.out HS6.out ?_ HO6.out ?_); rfl; rfl; exact HC6.out; intro w8 hk8 hs8 hbl8 hot8
           have HK8 := Lib.hid hk8
           have HR8 : Hid (Blk w8 (w.heap.size + 1) 40 _) := Lib.hid ((hot8 (w.heap.size + 1) (by omega)).trans HR6.out)
           have HB8 : Hid (Below w.heap.size w w8) := Lib.hid (HB6.out.trans (hbl8 w.heap.size (Nat.le_refl _)))
           have HOT8 := Lib.hid hot8
           clear hk8 hot8 hbl8)
        | (refine wpList_load_row rfl 40 _ rfl w.heap.size rfl 40 cells' (0, 0) _ HK8.out Tryz.underlying40 rfl HS6.out ?_)
        | ((with_reducible refine wpList_store_rowk rfl 40 _ _ rfl (w.heap.size + 1) cells' ?_ ?_ 40 _ HR8.out HS6.out ?_ HO6.out ?_); rfl; rfl; exact HZ6.out; intro w9 hk9 hs9 hbl9 hot9))
      refine bodyPost_ret (results_row_tmp2 rfl _ _ (w.heap.size + 1) _ _ _ rfl hk9 Tryz.underlying40 rfl HS6.out) rfl ?_
      exact ⟨.inl ⟨_, _, _, HSO.out, rfl, ((HE6.out.others fun k h1 _ => HOT8.out k h1).others fun k _ h2 => hot9 k h2).toB⟩, HB8.out.trans (hbl9 w.heap.size (Nat.le_succ _))⟩
    · have HNO : Hid (Ar.xfield 25 s = none) := Lib.hid (by rw [HXF.out, HR1.out]; show (Ar.xnum r1).map _ = _; rw [hno]; rfl)
      clear hno
      have hin : Ar.inInt 0 := by unfold Ar.inInt; omega
      have HFG := Lib.hid (figset_any (okF ok w.heap.size) cells e 0 w5 25 25 (by simp) HE5.out hin)
      clear hin
      go_wp2_with (refine wpList_load_row rfl 40 _ rfl w.heap.size rfl 40 cells (0, 0) _ HK5.out Tryz.underlying40 rfl HS0.out ?_)
      refine HFG.out.mono ?_
      rintro r w6 ⟨⟨cells', rfl, he6⟩, hb6⟩
      have HE6 := Lib.hid he6
      have HS6 : Hid ((Tryz.prog.info? 40).map (·.size) = some cells'.size) := Lib.hid (by rw [size_event, HE6.out.size])
      have HC6 : Hid (cells.size = cells'.size) := Lib.hid (by rw [HX.out.size, HE6.out.size])
      have HZ6 : Hid (zeroEv.size = cells'.size) := Lib.hid (by rw [HE6.out.size]; rfl)
      have HO6 := Lib.hid HE6.out.one
      have HK6 := Lib.hid (HK5.out.below hb6 (by have := HL5.out; omega))
      have HR6 := Lib.hid (HR5.out.below hb6 HL5.out)
      have HB6 : Hid (Below w.heap.size w w6) := Lib.hid (HB5.out.trans (hb6.mono (by have := HL5.out; omega)))
      clear he6
      go_wp2_with (first
        | ((with_reducible refine wpList_store_rowk rfl 40 _ _ rfl w.heap.size cells' ?_ ?_ 40 _ HK6.out HS6.out ?_ HO6.out ?_); rfl; rfl; exact HC6.out; intro w8 hk8 hs8 hbl8 hot8
           have HK8 := Lib.hid hk8
           have HR8 : Hid (Blk w8 (w.heap.size + 1) 40 _) := Lib.hid ((hot8 (w.heap.size + 1) (by omega)).trans HR6.out)
           have HB8 : Hid (Below w.heap.size w w8) := Lib.hid (HB6.out.trans (hbl8 w.heap.size (Nat.le_refl _)))
           have HOT8 := Lib.hid hot8
           clear hk8 hot8 hbl8)
        | (refine wpList_load_row rfl 40 _ rfl w.heap.size rfl 40 cells' (0, 0) _ HK8.out Tryz.underlying40 rfl HS6.out ?_)
        | ((with_reducible refine wpList_store_rowk rfl 40 _ _ rfl (w.heap.size + 1) cells' ?_ ?_ 40 _ HR8.out HS6.out ?_ HO6.out ?_); rfl; rfl; exact HZ6.out; intro w9 hk9 hs9 hbl9 hot9))
      refine bodyPost_ret (results_row_tmp2 rfl _ _ (w.heap.size + 1) _ _ _ rfl hk9 Tryz.underlying40 rfl HS6.out) rfl ?_
      exact ⟨.inr ⟨HNO.out, _, _, rfl, HE6.out.size, HO6.out⟩, HB8.out.trans (hbl9 w.heap.size (Nat.le_succ _))⟩
  · have HNO : Hid (Ar.xfield 25 s = none) := Lib.hid (by rw [HXF.out, hr1]; rfl)
    clear hr1
    go_wp2_with (first
      | (refine wpList_load_row rfl 40 _ rfl w.heap.size rfl 40 cells (0, 0) _ ((Blk.new w 40 cells).alloc _) Tryz.underlying40 rfl HS0.out ?_)
      | ((with_reducible refine wpList_store_rowk rfl 40 _ _ rfl (w.heap.size + 1) cells ?_ ?_ 40 _ (blk_n1 w _ 40 _) HS0.out ?_ HO0.out ?_); rfl; rfl; exact HZ0.out; intro w6 hk6 hs6 hbl6 hot6))
    have HB6 : Hid (Below w.heap.size w w6) := Lib.hid ((((Below.refl w.heap.size w).alloc (Nat.le_refl _) _).alloc (by rw [World.size_alloc]; exact Nat.le_succ _) _).trans (hbl6 w.heap.size (Nat.le_succ _)))
    refine bodyPost_ret (results_row_tmp2 rfl _ _ (w.heap.size + 1) _ _ _ rfl hk6 Tryz.underlying40 rfl HS0.out) rfl ?_
    exact ⟨.inr ⟨HNO.out, _, _, rfl, HX.out.size, HO0.out⟩, HB6.out⟩
set_option maxHeartbeats 8000000 in
set_option maxRecDepth 100000 in
theorem field_26 (ok : Nat → Prop) (cells : Array Value) (e : List Ar.FV) (s : List UInt8) (w : World) (h : EvOf ok w cells e) (hs : s.length ≤ 1000000) : Calls Tryz.prog 57 #[.agg cells, .int .i64 26, .string (bstr s)] w fun r w' => FdA ok w.heap.size 26 s e r w' ∧ Below w.heap.size w w' := by
  have HS : Hid (∀ k c, (Tryz.prog.info? 40).map (·.size) = some (cells.setIfInBounds k c).size) := Lib.hid (fun k c => by rw [Array.size_setIfInBounds, size_event, h.size])
  have HS0 : Hid ((Tryz.prog.info? 40).map (·.size) = some cells.size) := Lib.hid (by rw [size_event, h.size])
  have HZ : Hid (∀ k c, zeroEv.size = (cells.setIfInBounds k c).size) := Lib.hid (fun k c => by rw [Array.size_setIfInBounds, h.size]; rfl)
  have HZ0 : Hid (zeroEv.size = cells.size) := Lib.hid (by rw [h.size]; rfl)
  have HO0 := Lib.hid h.one
  have HX := Lib.hid h
  have HSG := Lib.hid (fun W => sign_any s 61 W hs)
  rw [show (((61 : UInt8).toNat : Nat) : Int) = 61 from rfl] at HSG
  have HXF := Lib.hid (xfield_eq (i := 26) (s := s) rfl)
  clear h
  go_enter Tryz.func57, Tryz.ntmps57
  go_wp2_with fail
  refine (HSG.out _).mono ?_
  rintro r w1 ⟨hsg, rfl⟩
  rcases hsg with ⟨r1, hr1, rfl⟩ | ⟨hr1, rfl⟩
  · have HR1 := Lib.hid hr1
    have hrl := Ar.xsign_len hr1
    have HUQ := Lib.hid (fun W => rnumber_any (bstr r1) W (by rw [bstr_size]; omega))
    rw [show (bstr r1).data.toList = r1 from rfl] at HUQ
    clear hr1
    generalize hRB : bstr r1 = RB at *
    go_wp2_with fail
    refine (HUQ.out _).mono ?_
    rintro r w5 ⟨hone, hb5⟩
    have HK5 := Lib.hid (Blk.below ((Blk.new w 40 cells).alloc _) hb5 (by rw [World.size_alloc, World.size_alloc]; omega))
    have HR5 := Lib.hid (Blk.below (blk_n1 w _ 40 _) hb5 (by rw [World.size_alloc, World.size_alloc]; omega))
    have HB5 : Hid (Below w.heap.size w w5) := Lib.hid ((((Below.refl w.heap.size w).alloc (Nat.le_refl _) _).alloc (by rw [World.size_alloc]; exact Nat.le_succ _) _).trans (hb5.mono (by rw [World.size_alloc, World.size_alloc]; omega)))
    have HE5 := Lib.hid (HX.out.toF HB5.out)
    have HL5 := Lib.hid HR5.out.lt
    rcases hone with ⟨n, t, hxt, rfl⟩ | ⟨hno, rfl⟩
    · have HSO : Hid (Ar.xfield 26 s = some (.num n, t)) := Lib.hid (by rw [HXF.out, HR1.out]; show (Ar.xnum r1).map _ = _; rw [hxt]; rfl)
      have hin : Ar.inInt n := Ar.xnum_range hxt
      clear hxt
      have HFG := Lib.hid (figset_any (okF ok w.heap.size) cells e n w5 26 26 (by simp) HE5.out hin)
      clear hin
      go_wp2_with (refine wpList_load_row rfl 40 _ rfl w.heap.size rfl 40 cells (0, 0) _ HK5.out Tryz.underlying40 rfl HS0.out ?_)
      refine HFG.out.mono ?_
      rintro r w6 ⟨⟨cells', rfl, he6⟩, hb6⟩
      have HE6 := Lib.hid he6
      have HS6 : Hid ((Tryz.prog.info? 40).map (·.size) = some cells'.size) := Lib.hid (by rw [size_event, HE6.out.size])
      have HC6 : Hid (cells.size = cells'.size) := Lib.hid (by rw [HX.out.size, HE6.out.size])
      have HZ6 : Hid (zeroEv.size = cells'.size) := Lib.hid (by rw [HE6.out.size]; rfl)
      have HO6 := Lib.hid HE6.out.one
      have HK6 := Lib.hid (HK5.out.below hb6 (by have := HL5.out; omega))
      have HR6 := Lib.hid (HR5.out.below hb6 HL5.out)
      have HB6 : Hid (Below w.heap.size w w6) := Lib.hid (HB5.out.trans (hb6.mono (by have := HL5.out; omega)))
      clear he6
      go_wp2_with (first
        | ((with_reducible refine wpList_store_rowk rfl 40 _ _ rfl w.heap.size cells' ?_ ?_ 40 _ HK6.out HS6.out ?_ HO6.out ?_); rfl; rfl; exact HC6.out; intro w8 hk8 hs8 hbl8 hot8
           have HK8 := Lib.hid hk8
           have HR8 : Hid (Blk w8 (w.heap.size + 1) 40 _) := Lib.hid ((hot8 (w.heap.size + 1) (by omega)).trans HR6.out)
           have HB8 : Hid (Below w.heap.size w w8) := Lib.hid (HB6.out.trans (hbl8 w.heap.size (Nat.le_refl _)))
           have HOT8 := Lib.hid hot8
           clear hk8 hot8 hbl8)
        | (refine wpList_load_row rfl 40 _ rfl w.heap.size rfl 40 cells' (0, 0) _ HK8.out Tryz.underlying40 rfl HS6.out ?_)
        | ((with_reducible refine wpList_store_rowk rfl 40 _ _ rfl (w.heap.size + 1) cells' ?_ ?_ 40 _ HR8.out HS6.out ?_ HO6.out ?_); rfl; rfl; exact HZ6.out; intro w9 hk9 hs9 hbl9 hot9))
      refine bodyPost_ret (results_row_tmp2 rfl _ _ (w.heap.size + 1) _ _ _ rfl hk9 Tryz.underlying40 rfl HS6.out) rfl ?_
      exact ⟨.inl ⟨_, _, _, HSO.out, rfl, ((HE6.out.others fun k h1 _ => HOT8.out k h1).others fun k _ h2 => hot9 k h2).toB⟩, HB8.out.trans (hbl9 w.heap.size (Nat.le_succ _))⟩
    · have HNO : Hid (Ar.xfield 26 s = none) := Lib.hid (by rw [HXF.out, HR1.out]; show (Ar.xnum r1).map _ = _; rw [hno]; rfl)
      clear hno
      have hin : Ar.inInt 0 := by unfold Ar.inInt; omega
      have HFG := Lib.hid (figset_any (okF ok w.heap.size) cells e 0 w5 26 26 (by simp) HE5.out hin)
      clear hin
      go_wp2_with (refine wpList_load_row rfl 40 _ rfl w.heap.size rfl 40 cells (0, 0) _ HK5.out Tryz.underlying40 rfl HS0.out ?_)
      refine HFG.out.mono ?_
      rintro r w6 ⟨⟨cells', rfl, he6⟩, hb6⟩
      have HE6 := Lib.hid he6
      have HS6 : Hid ((Tryz.prog.info? 40).map (·.size) = some cells'.size) := Lib.hid (by rw [size_event, HE6.out.size])
      have HC6 : Hid (cells.size = cells'.size) := Lib.hid (by rw [HX.out.size, HE6.out.size])
      have HZ6 : Hid (zeroEv.size = cells'.size) := Lib.hid (by rw [HE6.out.size]; rfl)
      have HO6 := Lib.hid HE6.out.one
      have HK6 := Lib.hid (HK5.out.below hb6 (by have := HL5.out; omega))
      have HR6 := Lib.hid (HR5.out.below hb6 HL5.out)
      have HB6 : Hid (Below w.heap.size w w6) := Lib.hid (HB5.out.trans (hb6.mono (by have := HL5.out; omega)))
      clear he6
      go_wp2_with (first
        | ((with_reducible refine wpList_store_rowk rfl 40 _ _ rfl w.heap.size cells' ?_ ?_ 40 _ HK6.out HS6.out ?_ HO6.out ?_); rfl; rfl; exact HC6.out; intro w8 hk8 hs8 hbl8 hot8
           have HK8 := Lib.hid hk8
           have HR8 : Hid (Blk w8 (w.heap.size + 1) 40 _) := Lib.hid ((hot8 (w.heap.size + 1) (by omega)).trans HR6.out)
           have HB8 : Hid (Below w.heap.size w w8) := Lib.hid (HB6.out.trans (hbl8 w.heap.size (Nat.le_refl _)))
           have HOT8 := Lib.hid hot8
           clear hk8 hot8 hbl8)
        | (refine wpList_load_row rfl 40 _ rfl w.heap.size rfl 40 cells' (0, 0) _ HK8.out Tryz.underlying40 rfl HS6.out ?_)
        | ((with_reducible refine wpList_store_rowk rfl 40 _ _ rfl (w.heap.size + 1) cells' ?_ ?_ 40 _ HR8.out HS6.out ?_ HO6.out ?_); rfl; rfl; exact HZ6.out; intro w9 hk9 hs9 hbl9 hot9))
      refine bodyPost_ret (results_row_tmp2 rfl _ _ (w.heap.size + 1) _ _ _ rfl hk9 Tryz.underlying40 rfl HS6.out) rfl ?_
      exact ⟨.inr ⟨HNO.out, _, _, rfl, HE6.out.size, HO6.out⟩, HB8.out.trans (hbl9 w.heap.size (Nat.le_succ _))⟩
  · have HNO : Hid (Ar.xfield 26 s = none) := Lib.hid (by rw [HXF.out, hr1]; rfl)
    clear hr1
    go_wp2_with (first
      | (refine wpList_load_row rfl 40 _ rfl w.heap.size rfl 40 cells (0, 0) _ ((Blk.new w 40 cells).alloc _) Tryz.underlying40 rfl HS0.out ?_)
      | ((with_reducible refine wpList_store_rowk rfl 40 _ _ rfl (w.heap.size + 1) cells ?_ ?_ 40 _ (blk_n1 w _ 40 _) HS0.out ?_ HO0.out ?_); rfl; rfl; exact HZ0.out; intro w6 hk6 hs6 hbl6 hot6))
    have HB6 : Hid (Below w.heap.size w w6) := Lib.hid ((((Below.refl w.heap.size w).alloc (Nat.le_refl _) _).alloc (by rw [World.size_alloc]; exact Nat.le_succ _) _).trans (hbl6 w.heap.size (Nat.le_succ _)))
    refine bodyPost_ret (results_row_tmp2 rfl _ _ (w.heap.size + 1) _ _ _ rfl hk6 Tryz.underlying40 rfl HS0.out) rfl ?_
    exact ⟨.inr ⟨HNO.out, _, _, rfl, HX.out.size, HO0.out⟩, HB6.out⟩
set_option maxHeartbeats 8000000 in
set_option maxRecDepth 100000 in
theorem field_28 (ok : Nat → Prop) (cells : Array Value) (e : List Ar.FV) (s : List UInt8) (w : World) (h : EvOf ok w cells e) (hs : s.length ≤ 1000000) : Calls Tryz.prog 57 #[.agg cells, .int .i64 28, .string (bstr s)] w fun r w' => FdA ok w.heap.size 28 s e r w' ∧ Below w.heap.size w w' := by
  have HS : Hid (∀ k c, (Tryz.prog.info? 40).map (·.size) = some (cells.setIfInBounds k c).size) := Lib.hid (fun k c => by rw [Array.size_setIfInBounds, size_event, h.size])
  have HS0 : Hid ((Tryz.prog.info? 40).map (·.size) = some cells.size) := Lib.hid (by rw [size_event, h.size])
  have HZ : Hid (∀ k c, zeroEv.size = (cells.setIfInBounds k c).size) := Lib.hid (fun k c => by rw [Array.size_setIfInBounds, h.size]; rfl)
  have HZ0 : Hid (zeroEv.size = cells.size) := Lib.hid (by rw [h.size]; rfl)
  have HO0 := Lib.hid h.one
  have HX := Lib.hid h
  have HSG := Lib.hid (fun W => sign_any s 61 W hs)
  rw [show (((61 : UInt8).toNat : Nat) : Int) = 61 from rfl] at HSG
  have HXF := Lib.hid (xfield_eq (i := 28) (s := s) rfl)
  clear h
  go_enter Tryz.func57, Tryz.ntmps57
  go_wp2_with fail
  refine (HSG.out _).mono ?_
  rintro r w1 ⟨hsg, rfl⟩
  rcases hsg with ⟨r1, hr1, rfl⟩ | ⟨hr1, rfl⟩
  · have HR1 := Lib.hid hr1
    have hrl := Ar.xsign_len hr1
    have HUQ := Lib.hid (fun W => rnumber_any (bstr r1) W (by rw [bstr_size]; omega))
    rw [show (bstr r1).data.toList = r1 from rfl] at HUQ
    clear hr1
    generalize hRB : bstr r1 = RB at *
    go_wp2_with fail
    refine (HUQ.out _).mono ?_
    rintro r w5 ⟨hone, hb5⟩
    have HK5 := Lib.hid (Blk.below ((Blk.new w 40 cells).alloc _) hb5 (by rw [World.size_alloc, World.size_alloc]; omega))
    have HR5 := Lib.hid (Blk.below (blk_n1 w _ 40 _) hb5 (by rw [World.size_alloc, World.size_alloc]; omega))
    have HB5 : Hid (Below w.heap.size w w5) := Lib.hid ((((Below.refl w.heap.size w).alloc (Nat.le_refl _) _).alloc (by rw [World.size_alloc]; exact Nat.le_succ _) _).trans (hb5.mono (by rw [World.size_alloc, World.size_alloc]; omega)))
    have HE5 := Lib.hid (HX.out.toF HB5.out)
    have HL5 := Lib.hid HR5.out.lt
    rcases hone with ⟨n, t, hxt, rfl⟩ | ⟨hno, rfl⟩
    · have HSO : Hid (Ar.xfield 28 s = some (.num n, t)) := Lib.hid (by rw [HXF.out, HR1.out]; show (Ar.xnum r1).map _ = _; rw [hxt]; rfl)
      have hin : Ar.inInt n := Ar.xnum_range hxt
      clear hxt
      have HFG := Lib.hid (figset_any (okF ok w.heap.size) cells e n w5 28 28 (by simp) HE5.out hin)
      clear hin
      go_wp2_with (refine wpList_load_row rfl 40 _ rfl w.heap.size rfl 40 cells (0, 0) _ HK5.out Tryz.underlying40 rfl HS0.out ?_)
      refine HFG.out.mono ?_
      rintro r w6 ⟨⟨cells', rfl, he6⟩, hb6⟩
      have HE6 := Lib.hid he6
      have HS6 : Hid ((Tryz.prog.info? 40).map (·.size) = some cells'.size) := Lib.hid (by rw [size_event, HE6.out.size])
      have HC6 : Hid (cells.size = cells'.size) := Lib.hid (by rw [HX.out.size, HE6.out.size])
      have HZ6 : Hid (zeroEv.size = cells'.size) := Lib.hid (by rw [HE6.out.size]; rfl)
      have HO6 := Lib.hid HE6.out.one
      have HK6 := Lib.hid (HK5.out.below hb6 (by have := HL5.out; omega))
      have HR6 := Lib.hid (HR5.out.below hb6 HL5.out)
      have HB6 : Hid (Below w.heap.size w w6) := Lib.hid (HB5.out.trans (hb6.mono (by have := HL5.out; omega)))
      clear he6
      go_wp2_with (first
        | ((with_reducible refine wpList_store_rowk rfl 40 _ _ rfl w.heap.size cells' ?_ ?_ 40 _ HK6.out HS6.out ?_ HO6.out ?_); rfl; rfl; exact HC6.out; intro w8 hk8 hs8 hbl8 hot8
           have HK8 := Lib.hid hk8
           have HR8 : Hid (Blk w8 (w.heap.size + 1) 40 _) := Lib.hid ((hot8 (w.heap.size + 1) (by omega)).trans HR6.out)
           have HB8 : Hid (Below w.heap.size w w8) := Lib.hid (HB6.out.trans (hbl8 w.heap.size (Nat.le_refl _)))
           have HOT8 := Lib.hid hot8
           clear hk8 hot8 hbl8)
        | (refine wpList_load_row rfl 40 _ rfl w.heap.size rfl 40 cells' (0, 0) _ HK8.out Tryz.underlying40 rfl HS6.out ?_)
        | ((with_reducible refine wpList_store_rowk rfl 40 _ _ rfl (w.heap.size + 1) cells' ?_ ?_ 40 _ HR8.out HS6.out ?_ HO6.out ?_); rfl; rfl; exact HZ6.out; intro w9 hk9 hs9 hbl9 hot9))
      refine bodyPost_ret (results_row_tmp2 rfl _ _ (w.heap.size + 1) _ _ _ rfl hk9 Tryz.underlying40 rfl HS6.out) rfl ?_
      exact ⟨.inl ⟨_, _, _, HSO.out, rfl, ((HE6.out.others fun k h1 _ => HOT8.out k h1).others fun k _ h2 => hot9 k h2).toB⟩, HB8.out.trans (hbl9 w.heap.size (Nat.le_succ _))⟩
    · have HNO : Hid (Ar.xfield 28 s = none) := Lib.hid (by rw [HXF.out, HR1.out]; show (Ar.xnum r1).map _ = _; rw [hno]; rfl)
      clear hno
      have hin : Ar.inInt 0 := by unfold Ar.inInt; omega
      have HFG := Lib.hid (figset_any (okF ok w.heap.size) cells e 0 w5 28 28 (by simp) HE5.out hin)
      clear hin
      go_wp2_with (refine wpList_load_row rfl 40 _ rfl w.heap.size rfl 40 cells (0, 0) _ HK5.out Tryz.underlying40 rfl HS0.out ?_)
      refine HFG.out.mono ?_
      rintro r w6 ⟨⟨cells', rfl, he6⟩, hb6⟩
      have HE6 := Lib.hid he6
      have HS6 : Hid ((Tryz.prog.info? 40).map (·.size) = some cells'.size) := Lib.hid (by rw [size_event, HE6.out.size])
      have HC6 : Hid (cells.size = cells'.size) := Lib.hid (by rw [HX.out.size, HE6.out.size])
      have HZ6 : Hid (zeroEv.size = cells'.size) := Lib.hid (by rw [HE6.out.size]; rfl)
      have HO6 := Lib.hid HE6.out.one
      have HK6 := Lib.hid (HK5.out.below hb6 (by have := HL5.out; omega))
      have HR6 := Lib.hid (HR5.out.below hb6 HL5.out)
      have HB6 : Hid (Below w.heap.size w w6) := Lib.hid (HB5.out.trans (hb6.mono (by have := HL5.out; omega)))
      clear he6
      go_wp2_with (first
        | ((with_reducible refine wpList_store_rowk rfl 40 _ _ rfl w.heap.size cells' ?_ ?_ 40 _ HK6.out HS6.out ?_ HO6.out ?_); rfl; rfl; exact HC6.out; intro w8 hk8 hs8 hbl8 hot8
           have HK8 := Lib.hid hk8
           have HR8 : Hid (Blk w8 (w.heap.size + 1) 40 _) := Lib.hid ((hot8 (w.heap.size + 1) (by omega)).trans HR6.out)
           have HB8 : Hid (Below w.heap.size w w8) := Lib.hid (HB6.out.trans (hbl8 w.heap.size (Nat.le_refl _)))
           have HOT8 := Lib.hid hot8
           clear hk8 hot8 hbl8)
        | (refine wpList_load_row rfl 40 _ rfl w.heap.size rfl 40 cells' (0, 0) _ HK8.out Tryz.underlying40 rfl HS6.out ?_)
        | ((with_reducible refine wpList_store_rowk rfl 40 _ _ rfl (w.heap.size + 1) cells' ?_ ?_ 40 _ HR8.out HS6.out ?_ HO6.out ?_); rfl; rfl; exact HZ6.out; intro w9 hk9 hs9 hbl9 hot9))
      refine bodyPost_ret (results_row_tmp2 rfl _ _ (w.heap.size + 1) _ _ _ rfl hk9 Tryz.underlying40 rfl HS6.out) rfl ?_
      exact ⟨.inr ⟨HNO.out, _, _, rfl, HE6.out.size, HO6.out⟩, HB8.out.trans (hbl9 w.heap.size (Nat.le_succ _))⟩
  · have HNO : Hid (Ar.xfield 28 s = none) := Lib.hid (by rw [HXF.out, hr1]; rfl)
    clear hr1
    go_wp2_with (first
      | (refine wpList_load_row rfl 40 _ rfl w.heap.size rfl 40 cells (0, 0) _ ((Blk.new w 40 cells).alloc _) Tryz.underlying40 rfl HS0.out ?_)
      | ((with_reducible refine wpList_store_rowk rfl 40 _ _ rfl (w.heap.size + 1) cells ?_ ?_ 40 _ (blk_n1 w _ 40 _) HS0.out ?_ HO0.out ?_); rfl; rfl; exact HZ0.out; intro w6 hk6 hs6 hbl6 hot6))
    have HB6 : Hid (Below w.heap.size w w6) := Lib.hid ((((Below.refl w.heap.size w).alloc (Nat.le_refl _) _).alloc (by rw [World.size_alloc]; exact Nat.le_succ _) _).trans (hbl6 w.heap.size (Nat.le_succ _)))
    refine bodyPost_ret (results_row_tmp2 rfl _ _ (w.heap.size + 1) _ _ _ rfl hk6 Tryz.underlying40 rfl HS0.out) rfl ?_
    exact ⟨.inr ⟨HNO.out, _, _, rfl, HX.out.size, HO0.out⟩, HB6.out⟩
end Go.Proofs.YteadlcncnhbmjaaGreatDoor
/- The walks of the reference's field, numbers. Written by gencx5.py. -/
namespace Go.Proofs.YteadlcncnhbmjaaGreatDoor
open Go.RowKit Go.Lib
set_option linter.unusedVariables false
set_option linter.unusedSimpArgs false
theorem field_any (i : Nat) (hi : i < 29) (ok : Nat → Prop) (cells : Array Value) (e : List Ar.FV) (s : List UInt8) (w : World) (h : EvOf ok w cells e) (hs : s.length ≤ 1000000) : Calls Tryz.prog 57 #[.agg cells, .int .i64 i, .string (bstr s)] w fun r w' => FdA ok w.heap.size i s e r w' ∧ Below w.heap.size w w' := by
  match i, hi with
  | 0, _ => exact field_0 ok cells e s w h hs
  | 1, _ => exact field_1 ok cells e s w h hs
  | 2, _ => exact field_2 ok cells e s w h hs
  | 3, _ => exact field_3 ok cells e s w h hs
  | 4, _ => exact field_4 ok cells e s w h hs
  | 5, _ => exact field_5 ok cells e s w h hs
  | 6, _ => exact field_6 ok cells e s w h hs
  | 7, _ => exact field_7 ok cells e s w h hs
  | 8, _ => exact field_8 ok cells e s w h hs
  | 9, _ => exact field_9 ok cells e s w h hs
  | 10, _ => exact field_10 ok cells e s w h hs
  | 11, _ => exact field_11 ok cells e s w h hs
  | 12, _ => exact field_12 ok cells e s w h hs
  | 13, _ => exact field_13 ok cells e s w h hs
  | 14, _ => exact field_14 ok cells e s w h hs
  | 15, _ => exact field_15 ok cells e s w h hs
  | 16, _ => exact field_16 ok cells e s w h hs
  | 17, _ => exact field_17 ok cells e s w h hs
  | 18, _ => exact field_18 ok cells e s w h hs
  | 19, _ => exact field_19 ok cells e s w h hs
  | 20, _ => exact field_20 ok cells e s w h hs
  | 21, _ => exact field_21 ok cells e s w h hs
  | 22, _ => exact field_22 ok cells e s w h hs
  | 23, _ => exact field_23 ok cells e s w h hs
  | 24, _ => exact field_24 ok cells e s w h hs
  | 25, _ => exact field_25 ok cells e s w h hs
  | 26, _ => exact field_26 ok cells e s w h hs
  | 27, _ => exact field_27 ok cells e s w h hs
  | 28, _ => exact field_28 ok cells e s w h hs
  | n + 29, hi => omega
end Go.Proofs.YteadlcncnhbmjaaGreatDoor
/- What the reference's reader reads is small. Plain lists. -/
namespace Ar
theorem xnum_inv {s t : Str} {n : Int} (h : xnum s = some (n, t)) : s = itoa n ++ t := by
  unfold xnum at h
  cases hr : rint (s.takeWhile numch) with
  | none => rw [hr] at h; cases h
  | some m =>
    rw [hr] at h
    injection h with h
    injection h with h1 h2
    rw [← h1, ← h2, ← (rint_some hr).1, List.takeWhile_append_dropWhile]
theorem xsign_inv {c : UInt8} {s t : Str} (h : xsign c s = some t) : s = c :: t := by
  cases s with
  | nil => cases h
  | cons d r =>
    change (if d = c then some r else none) = some t at h
    split at h
    · rename_i e; injection h with h; rw [h, e]
    · cases h
theorem xusr_inv {s t : Str} {x : Str × Int} (h : xusr s = some (x, t)) : s = usrT x ++ t := by
  unfold xusr at h
  cases h1 : unquote s with
  | none => rw [h1] at h; cases h
  | some p =>
    rw [h1] at h
    simp only [Option.bind_some] at h
    cases h2 : xsign 58 p.2 with
    | none => rw [h2] at h; cases h
    | some r =>
      rw [h2] at h
      simp only [Option.bind_some] at h
      cases h3 : xnum r with
      | none => rw [h3] at h; cases h
      | some n =>
        rw [h3] at h
        injection h with h
        injection h with h4 h5
        rw [← h4, ← h5, unquote_inv h1, xsign_inv h2, xnum_inv h3]
        unfold usrT
        simp
theorem xknd_inv {s t : Str} {x : Int × Int} (h : xknd s = some (x, t)) : s = kndT x ++ t := by
  unfold xknd at h
  cases h1 : xnum s with
  | none => rw [h1] at h; cases h
  | some p =>
    rw [h1] at h
    simp only [Option.bind_some] at h
    cases h2 : xsign 58 p.2 with
    | none => rw [h2] at h; cases h
    | some r =>
      rw [h2] at h
      simp only [Option.bind_some] at h
      cases h3 : xnum r with
      | none => rw [h3] at h; cases h
      | some n =>
        rw [h3] at h
        injection h with h
        injection h with h4 h5
        rw [← h4, ← h5, xnum_inv h1, xsign_inv h2, xnum_inv h3]
        unfold kndT
        simp
/-- a list that is read: written again, it is what has been eaten -/
theorem xlistF_inv {α : Type} {one : Str → Option (α × Str)} {tx : α → Str} (h1 : ∀ s x t, one s = some (x, t) → s = tx x ++ t) :
    ∀ (n : Nat) (s t : Str) (l : List α), xlistF one n s = some (l, t) → s = join [44] (l.map tx) ++ t ∧ l ≠ [] ∧ l.length ≤ s.length + 1 ∧ ∀ x ∈ l, (tx x).length ≤ s.length
  | 0, s, t, l, h => by cases h
  | n + 1, s, t, l, h => by
    unfold xlistF at h
    cases ho : one s with
    | none => rw [ho] at h; cases h
    | some p =>
      rw [ho] at h
      simp only [Option.bind_some] at h
      have hp := h1 s p.1 p.2 ho
      have hpl : s.length = (tx p.1).length + p.2.length := by rw [hp, List.length_append]
      split at h
      · injection h with h
        injection h with h2 h3
        rw [← h2, ← h3]
        refine ⟨hp, by simp, by simp, fun x hx => ?_⟩
        rw [List.mem_singleton.1 hx]
        omega
      · rename_i r hr
        have hs := xsign_inv hr
        have hsl : p.2.length = r.length + 1 := by rw [hs]; rfl
        cases hq : xlistF one n r with
        | none => rw [hq] at h; cases h
        | some q =>
          rw [hq] at h
          injection h with h
          injection h with h2 h3
          obtain ⟨i1, i2, i3, i4⟩ := xlistF_inv h1 n r q.2 q.1 hq
          rw [← h2, ← h3]
          refine ⟨?_, by simp, by rw [List.length_cons]; omega, fun x hx => ?_⟩
          · cases hql : q.1 with
            | nil => exact absurd hql i2
            | cons y l =>
              rw [hql] at i1
              have hp2 := hp
              rw [hs, i1] at hp2
              rw [hp2]
              simp [List.map_cons, join, List.append_assoc]
          · rcases List.mem_cons.1 hx with rfl | hx
            · omega
            · have := i4 x hx; omega
theorem quote_longer (s : Str) : s.length ≤ (quote s).length := by
  have : ∀ l : Str, l.length ≤ (l.flatMap esc).length := by
    intro l
    induction l with
    | nil => exact Nat.le_refl _
    | cons c l ih =>
      rw [List.flatMap_cons, List.length_append, List.length_cons]
      have := (esc_len c).1
      omega
  have := this s
  show s.length ≤ (34 :: (s.flatMap esc ++ [34])).length
  rw [List.length_cons, List.length_append]
  omega
theorem usrT_longer (p : Str × Int) : p.1.length ≤ (usrT p).length := by
  have := quote_longer p.1
  unfold usrT
  rw [List.length_append]
  omega
theorem xreadK_fine {k : FK} {s t : Str} {v : FV} (n : Nat) (hs : s.length ≤ n) (hn : n ≤ 100000) (h : xreadK k s = some (v, t)) : v.Fine n := by
  have hok := (xreadK_fits k h).2
  have key : ∀ T : Str, ∀ u : Str, s = T ++ u → T.length ≤ n := fun T u e => by rw [e, List.length_append] at hs; omega
  cases k with
  | flg => injection h with h; injection h with h1 h2; rw [← h1]; exact ⟨⟨trivial, Nat.zero_le _, trivial⟩, Nat.zero_le _⟩
  | num =>
    have h : (xnum s).map _ = _ := h
    cases hx : xnum s with
    | none => rw [hx] at h; cases h
    | some p =>
      rw [hx] at h; injection h with h; injection h with h1 h2; rw [← h1] at hok ⊢
      have hl := key _ _ (xnum_inv hx)
      have ht : (FV.num p.1).text.length ≤ n + 4 := by
        show (if p.1 = 0 then [] else itoa p.1).length ≤ _
        split
        · exact Nat.zero_le _
        · omega
      exact ⟨⟨hok, by omega, trivial⟩, ht⟩
  | txt =>
    have h : (unquote s).map _ = _ := h
    cases hx : unquote s with
    | none => rw [hx] at h; cases h
    | some p =>
      rw [hx] at h; injection h with h; injection h with h1 h2; rw [← h1] at hok ⊢
      have hl := key _ _ (unquote_inv hx)
      have hq := quote_longer p.1
      have ht : (FV.txt p.1).text.length ≤ n + 4 := by
        show (if p.1 = [] then [] else quote p.1).length ≤ _
        split
        · exact Nat.zero_le _
        · omega
      exact ⟨⟨hok, by omega, by show p.1.length ≤ _; omega⟩, ht⟩
  | nums =>
    have h : (xlist xnum s).map _ = _ := h
    cases hx : xlist xnum s with
    | none => rw [hx] at h; cases h
    | some p =>
      rw [hx] at h; injection h with h; injection h with h1 h2; rw [← h1] at hok ⊢
      obtain ⟨i1, _, i3, i4⟩ := xlistF_inv (tx := itoa) (fun _ _ _ h => xnum_inv h) _ _ _ _ hx
      have hl := key _ _ i1
      have ht : (FV.nums p.1).text.length ≤ n + 4 := by show (join [44] (p.1.map itoa)).length ≤ _; omega
      exact ⟨⟨hok, by omega, by show p.1.length ≤ _; omega⟩, ht⟩
  | txts =>
    have h : (xlist unquote s).map _ = _ := h
    cases hx : xlist unquote s with
    | none => rw [hx] at h; cases h
    | some p =>
      rw [hx] at h; injection h with h; injection h with h1 h2; rw [← h1] at hok ⊢
      obtain ⟨i1, _, i3, i4⟩ := xlistF_inv (tx := quote) (fun _ _ _ h => unquote_inv h) _ _ _ _ hx
      have hl := key _ _ i1
      have ht : (FV.txts p.1).text.length ≤ n + 4 := by show (join [44] (p.1.map quote)).length ≤ _; omega
      exact ⟨⟨hok, by omega, ⟨by show p.1.length ≤ _; omega, fun x hx => by have := i4 x hx; have := quote_longer x; omega⟩⟩, ht⟩
  | usrs =>
    have h : (xlist xusr s).map _ = _ := h
    cases hx : xlist xusr s with
    | none => rw [hx] at h; cases h
    | some p =>
      rw [hx] at h; injection h with h; injection h with h1 h2; rw [← h1] at hok ⊢
      obtain ⟨i1, _, i3, i4⟩ := xlistF_inv (tx := usrT) (fun _ _ _ h => xusr_inv h) _ _ _ _ hx
      have hl := key _ _ i1
      have ht : (FV.usrs p.1).text.length ≤ n + 4 := by show (join [44] (p.1.map usrT)).length ≤ _; omega
      exact ⟨⟨hok, by omega, ⟨by show p.1.length ≤ _; omega, fun x hx => by have := i4 x hx; have := usrT_longer x; omega⟩⟩, ht⟩
  | knds =>
    have h : (xlist xknd s).map _ = _ := h
    cases hx : xlist xknd s with
    | none => rw [hx] at h; cases h
    | some p =>
      rw [hx] at h; injection h with h; injection h with h1 h2; rw [← h1] at hok ⊢
      obtain ⟨i1, _, i3, i4⟩ := xlistF_inv (tx := kndT) (fun _ _ _ h => xknd_inv h) _ _ _ _ hx
      have hl := key _ _ i1
      have ht : (FV.knds p.1).text.length ≤ n + 4 := by show (join [44] (p.1.map kndT)).length ≤ _; omega
      exact ⟨⟨hok, by omega, by show p.1.length ≤ _; omega⟩, ht⟩
theorem xfield_fine {i : Nat} {s t : Str} {v : FV} (n : Nat) (hs : s.length ≤ n) (hn : n ≤ 100000) (h : xfield i s = some (v, t)) : v.Fine n := by
  unfold xfield at h
  split at h
  · exact xreadK_fine n hs hn h
  · cases hx : xsign 61 s with
    | none => rw [hx] at h; cases h
    | some r =>
      rw [hx] at h
      simp only [Option.bind_some] at h
      have := xsign_len hx
      exact xreadK_fine n (by omega) hn h
theorem xreadK_rest {k : FK} {s t : Str} {v : FV} (h : xreadK k s = some (v, t)) : t.length ≤ s.length := by
  have key : ∀ T u : Str, s = T ++ u → u.length ≤ s.length := fun T u e => by rw [e, List.length_append]; omega
  cases k with
  | flg => injection h with h; injection h with h1 h2; rw [h2]; exact Nat.le_refl _
  | num =>
    have h : (xnum s).map _ = _ := h
    cases hx : xnum s with
    | none => rw [hx] at h; cases h
    | some p => rw [hx] at h; injection h with h; injection h with h1 h2; rw [← h2]; exact key _ _ (xnum_inv hx)
  | txt =>
    have h : (unquote s).map _ = _ := h
    cases hx : unquote s with
    | none => rw [hx] at h; cases h
    | some p => rw [hx] at h; injection h with h; injection h with h1 h2; rw [← h2]; exact key _ _ (unquote_inv hx)
  | nums =>
    have h : (xlist xnum s).map _ = _ := h
    cases hx : xlist xnum s with
    | none => rw [hx] at h; cases h
    | some p => rw [hx] at h; injection h with h; injection h with h1 h2; rw [← h2]; exact key _ _ (xlistF_inv (tx := itoa) (fun _ _ _ h => xnum_inv h) _ _ _ _ hx).1
  | txts =>
    have h : (xlist unquote s).map _ = _ := h
    cases hx : xlist unquote s with
    | none => rw [hx] at h; cases h
    | some p => rw [hx] at h; injection h with h; injection h with h1 h2; rw [← h2]; exact key _ _ (xlistF_inv (tx := quote) (fun _ _ _ h => unquote_inv h) _ _ _ _ hx).1
  | usrs =>
    have h : (xlist xusr s).map _ = _ := h
    cases hx : xlist xusr s with
    | none => rw [hx] at h; cases h
    | some p => rw [hx] at h; injection h with h; injection h with h1 h2; rw [← h2]; exact key _ _ (xlistF_inv (tx := usrT) (fun _ _ _ h => xusr_inv h) _ _ _ _ hx).1
  | knds =>
    have h : (xlist xknd s).map _ = _ := h
    cases hx : xlist xknd s with
    | none => rw [hx] at h; cases h
    | some p => rw [hx] at h; injection h with h; injection h with h1 h2; rw [← h2]; exact key _ _ (xlistF_inv (tx := kndT) (fun _ _ _ h => xknd_inv h) _ _ _ _ hx).1
theorem xfield_rest {i : Nat} {s t : Str} {v : FV} (h : xfield i s = some (v, t)) : t.length ≤ s.length := by
  unfold xfield at h
  split at h
  · exact xreadK_rest h
  · cases hx : xsign 61 s with
    | none => rw [hx] at h; cases h
    | some r =>
      rw [hx] at h
      simp only [Option.bind_some] at h
      have := xsign_len hx
      have := xreadK_rest h
      omega
theorem xname_some {s t : Str} {i : Nat} (h : xname s = some (i, t)) : i < 29 ∧ t.length ≤ s.length := by
  unfold xname at h
  cases hx : NK.findIdx? (fun p => decide (p.1 = s.takeWhile nmch)) with
  | none => rw [hx] at h; cases h
  | some j =>
    rw [hx] at h
    injection h with h
    injection h with h1 h2
    rw [← h1, ← h2]
    exact ⟨(List.findIdx?_eq_some_iff_getElem.1 hx).1, (List.dropWhile_sublist _).length_le⟩
/-! the loop, step by step -/
theorem xloopF_end {m : Nat} {e : List FV} : xloopF (m + 1) e [] = some e := by unfold xloopF; rw [if_pos rfl]
theorem xloopF_n {m : Nat} {e : List FV} {s : Str} (hs : s ≠ []) (h : xname s = none) : xloopF (m + 1) e s = none := by unfold xloopF; rw [if_neg hs, h]
theorem xloopF_f {m i : Nat} {e : List FV} {s t : Str} (hs : s ≠ []) (h : xname s = some (i, t)) (h2 : xfield i t = none) : xloopF (m + 1) e s = none := by unfold xloopF; rw [if_neg hs, h]; show (match xfield i t with | none => none | some q => _) = _; rw [h2]
theorem xloopF_b {m i : Nat} {e : List FV} {s t : Str} {v : FV} (hs : s ≠ []) (h : xname s = some (i, t)) (h2 : xfield i t = some (v, [])) : xloopF (m + 1) e s = some (e.set i v) := by unfold xloopF; rw [if_neg hs, h]; show (match xfield i t with | none => none | some q => _) = _; rw [h2]; rfl
theorem xloopF_s {m i : Nat} {e : List FV} {s t q : Str} {v : FV} (hs : s ≠ []) (h : xname s = some (i, t)) (h2 : xfield i t = some (v, q)) (hq : q ≠ []) (h3 : xsign 32 q = none) : xloopF (m + 1) e s = none := by
  unfold xloopF; rw [if_neg hs, h]; show (match xfield i t with | none => none | some q => _) = _; rw [h2]; show (if q = [] then _ else _) = _; rw [if_neg hq]; show (match xsign 32 q with | none => none | some r => _) = _; rw [h3]
theorem xloopF_m {m i : Nat} {e : List FV} {s t q r : Str} {v : FV} (hs : s ≠ []) (h : xname s = some (i, t)) (h2 : xfield i t = some (v, q)) (hq : q ≠ []) (h3 : xsign 32 q = some r) : xloopF (m + 1) e s = xloopF m (e.set i v) r := by
  rw [xloopF, if_neg hs, h]; show (match xfield i t with | none => none | some q => _) = _; rw [h2]; show (if q = [] then _ else _) = _; rw [if_neg hq]; show (match xsign 32 q with | none => none | some r => _) = _; rw [h3]
end Ar
