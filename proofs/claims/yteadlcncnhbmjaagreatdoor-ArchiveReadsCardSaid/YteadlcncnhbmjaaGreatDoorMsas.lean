/- The texts Ap1, Ap2, At2, Ar1, Ar2 of this proof, one behind the other. -/
import Derived.Test.YteadlcncnhbmjaaGreatDoorMsar
import Derived.Test.YteadlcncnhbmjaaGreatDoorMsao
import Derived.Test.YteadlcncnhbmjaaGreatDoorMsan
set_option linter.unusedSimpArgs false
set_option maxHeartbeats 16000000
set_option maxRecDepth 100000
set_option linter.unusedVariables false
namespace Go.Proofs.YteadlcncnhbmjaaGreatDoor
open Go.RowKit Go.Lib
def DRow (w : World) (g : Nat) (x y : List (List UInt8)) (i j : Nat) : Prop :=
 ∃ rc, Blk w g 3 rc ∧ rc.size = y.length + 1 ∧ ∀ j', j ≤ j' → j' ≤ y.length → rc[j']? = some (.int .i64 (Ar.disA x y i j' : Nat))
def DTab (w : World) (D : Nat) (x y : List (List UInt8)) (k : Nat) : Prop :=
 ∃ cur, Blk w D 29 cur ∧ cur.size = x.length + 1 ∧ ∀ i, k ≤ i → i ≤ x.length → ∃ g, cur[i]? = some (.slice (some ⟨g, 0, none⟩) (y.length + 1) (y.length + 1)) ∧ D < g ∧ DRow w g x y i 0
theorem DRow.at {w : World} {g : Nat} {x y : List (List UInt8)} {i j : Nat} (h : DRow w g x y i j) {j' : Nat} (h1 : j ≤ j') (h2 : j' ≤ y.length) : w.cell? ⟨g, j', none⟩ = some (.int .i64 (Ar.disA x y i j' : Nat)) := by
 obtain ⟨rc, hb, hs, hv⟩ := h;rw [hb.cell];exact hv j' h1 h2
theorem DRow.any {w : World} {g : Nat} {x y : List (List UInt8)} {i j : Nat} (h : DRow w g x y i j) {j' : Nat} (h2 : j' ≤ y.length) : ∃ v, w.cell? ⟨g, j', none⟩ = some v := by
 obtain ⟨rc, hb, hs, hv⟩ := h;rw [hb.cell];exact ⟨_, Array.getElem?_eq_getElem (by omega)⟩
theorem DRow.frozen {w : World} {g : Nat} {x y : List (List UInt8)} {i j : Nat} (h : DRow w g x y i j) (j' : Nat) : w.frozen? ⟨g, j', none⟩ = false := by
 obtain ⟨rc, hb, hs, hv⟩ := h;exact hb.frozen j'
theorem DRow.lt {w : World} {g : Nat} {x y : List (List UInt8)} {i j : Nat} (h : DRow w g x y i j) : g < w.heap.size := by
 obtain ⟨rc, hb, _⟩ := h;exact hb.lt
theorem DRow.grown {w w' : World} {g : Nat} {x y : List (List UInt8)} {i j : Nat} {row : Option Nat} (h : DRow w g x y i j) (hg : w.grownBy w' row) (hne : some g ≠ row) : DRow w' g x y i j := by
 obtain ⟨rc, hb, hs, hv⟩ := h;exact ⟨rc, hb.grown hg hne, hs, hv⟩
theorem DRow.set {w : World} {g : Nat} {x y : List (List UInt8)} {i j : Nat} (h : DRow w g x y i (j + 1)) (hj : j ≤ y.length) {n : Int} (hn : n = (Ar.disA x y i j : Nat)) : DRow (w.setCell ⟨g, j, none⟩ (.int .i64 n)) g x y i j := by
 obtain ⟨rc, hb, hs, hv⟩ := h;refine ⟨rc.setIfInBounds j (.int .i64 n), hb.set_ j _, by rw [Array.size_setIfInBounds]; exact hs, fun j' h1 h2 => ?_⟩;rw [Array.getElem?_setIfInBounds];by_cases e : j = j'
 ·subst e;rw [if_pos rfl, if_pos (by omega), hn]
 ·rw [if_neg e];exact hv j' (by omega) h2
theorem DTab.grown {w w' : World} {D : Nat} {x y : List (List UInt8)} {k : Nat} {row : Option Nat} (h : DTab w D x y k) (hg : w.grownBy w' row) (hne : ∀ g, row = some g → g ≠ D ∧ ∀ i, k ≤ i → i ≤ x.length → ∀ g', w.cell? ⟨D, i, none⟩ = some (.slice (some ⟨g', 0, none⟩) (y.length + 1) (y.length + 1)) → g' ≠ g) : DTab w' D x y k := by
 obtain ⟨cur, hb, hs, hv⟩ := h;refine ⟨cur, hb.grown hg (fun e => (hne _ e.symm).1 rfl), hs, fun i h1 h2 => ?_⟩;obtain ⟨g, hc, hlt, hr⟩ := hv i h1 h2;exact ⟨g, hc, hlt, hr.grown hg (fun e => (hne _ e.symm).2 i h1 h2 g (by rw [hb.cell]; exact hc) rfl)⟩
theorem DTab.below {w w' : World} {D : Nat} {x y : List (List UInt8)} {k : Nat} (h : DTab w D x y k) (hb : Below w.heap.size w w') : DTab w' D x y k := h.grown (Bo hb none) (fun g e => by cases e)
theorem DTab.at {w : World} {D : Nat} {x y : List (List UInt8)} {k : Nat} (h : DTab w D x y k) {i : Nat} (h1 : k ≤ i) (h2 : i ≤ x.length) : ∃ g, w.cell? ⟨D, i, none⟩ = some (.slice (some ⟨g, 0, none⟩) (y.length + 1) (y.length + 1)) ∧ D < g ∧ DRow w g x y i 0 := by
 obtain ⟨cur, hb, hs, hv⟩ := h;obtain ⟨g, hc, hr⟩ := hv i h1 h2;exact ⟨g, by rw [hb.cell]; exact hc, hr⟩
theorem DTab.any {w : World} {D : Nat} {x y : List (List UInt8)} {k : Nat} (h : DTab w D x y k) {i : Nat} (h2 : i ≤ x.length) : ∃ v, w.cell? ⟨D, i, none⟩ = some v := by
 obtain ⟨cur, hb, hs, hv⟩ := h;rw [hb.cell];exact ⟨_, Array.getElem?_eq_getElem (by omega)⟩
theorem DTab.frozen {w : World} {D : Nat} {x y : List (List UInt8)} {k : Nat} (h : DTab w D x y k) (i : Nat) : w.frozen? ⟨D, i, none⟩ = false := by
 obtain ⟨cur, hb, hs, hv⟩ := h;exact hb.frozen i
theorem DTab.lt {w : World} {D : Nat} {x y : List (List UInt8)} {k : Nat} (h : DTab w D x y k) : D < w.heap.size := by
 obtain ⟨cur, hb, _⟩ := h;exact hb.lt
theorem DTab.put {w : World} {D : Nat} {x y : List (List UInt8)} {i g : Nat} (h : DTab w D x y (i + 1)) (hi : i ≤ x.length) (hg : D < g) (hw : w.cell? ⟨D, i, none⟩ = some (.slice (some ⟨g, 0, none⟩) (y.length + 1) (y.length + 1))) (hr : DRow w g x y i 0) : DTab w D x y i := by
 obtain ⟨cur, hb, hs, hv⟩ := h;refine ⟨cur, hb, hs, fun j h1 h2 => ?_⟩;by_cases e : j = i
 ·subst e;exact ⟨g, by rw [← hb.cell]; exact hw, hg, hr⟩
 ·exact hv j (by omega) h2
theorem DTab.setD {w : World} {D : Nat} {x y : List (List UInt8)} {i : Nat} (h : DTab w D x y (i + 1)) (v : Value) : DTab (w.setCell ⟨D, i, none⟩ v) D x y (i + 1) := by
 obtain ⟨cur, hb, hs, hv⟩ := h;refine ⟨cur.setIfInBounds i v, hb.set_ i v, by rw [Array.size_setIfInBounds]; exact hs, fun j h1 h2 => ?_⟩;obtain ⟨g, hc, hlt, hr⟩ := hv j h1 h2;refine ⟨g, ?_, hlt, hr.grown (Az w D i v) (by intro e; injection e with e; omega)⟩;rw [Array.getElem?_setIfInBounds, if_neg (by omega)];exact hc
theorem DRow.drewN {w : World} {g : Nat} {x y : List (List UInt8)} {i j : Nat} (h : DRow w g x y i j) (n : Nat) : DRow (w.drewN n) g x y i j := h
theorem Hc {w w' : World} {row : Option Nat} (h : w.grownBy w' row) (n : Nat) : w.grownBy (w'.drewN n) row := ⟨h.os, h.tape, h.output, h.size, h.block⟩
theorem PR (a b : Nat) (ha : a ≤ 4000) (hb : b ≤ 4000) : wrap64 (1 + min (a : Int) (b : Int)) = ((1 + min a b : Nat) : Int) := by
 unfold wrap64;omega
theorem NH : (Tryz.prog.info? 29).map (fun i => (i.zero, i.size, i.bytes)) = some (some (.slice none 0 0), 1, 24) := by kernel_rfl
theorem Jc (A B : Option Addr) (ca cb : Nat) (x y : List (List UInt8)) (w : World) (hx : Rd w A x.length (strL x)) (hy : Rd w B y.length (strL y)) (hxl : x.length ≤ 2000) (hyl : y.length ≤ 2000) :
  Calls Tryz.prog 87 #[.slice A x.length ca, .slice B y.length cb] w fun e w' => e = .returned (.slice (some ⟨w.heap.size, 0, none⟩) (x.length + 1) (x.length + 1)) ∧ DTab w' w.heap.size x y 0 ∧ Below w.heap.size w w' := by
 have HX := hid hx;have HY := hid hy;clear hx hy;have hmk1 : ∀ W : World, (Instr.makeSlice 134 (.int .i64 ((x.length : Int) + 1)) (.int .i64 ((x.length : Int) + 1))).run Tryz.prog W = .ok (.slice (some ⟨W.heap.size, 0, none⟩) (x.length + 1) (x.length + 1)) (W.alloc (.cells (madeCells #[.slice none 0 0] (x.length + 1)) 29)) := fun W => by
  obtain ⟨iI, hi, hz0, hz1, hz2⟩ := Cf NH;have h := run_make (P := Tryz.prog) W 134 29 iI (.slice none 0 0) Tryz.underlying134 hi hz0 .i64 .i64 ((x.length : Int) + 1) ((x.length : Int) + 1) (by omega) (by omega) (by rw [hz2]; omega) (by omega);rw [show ((x.length : Int) + 1).toNat = x.length + 1 from by omega, hz1, Nat.mul_one] at h;exact h
 have hmk2 : ∀ W : World, (Instr.makeSlice 29 (.int .i64 ((y.length : Int) + 1)) (.int .i64 ((y.length : Int) + 1))).run Tryz.prog W = .ok (.slice (some ⟨W.heap.size, 0, none⟩) (y.length + 1) (y.length + 1)) (W.alloc (.cells (madeCells #[.int .i64 0] (y.length + 1)) 3)) := fun W => by
  obtain ⟨iI, hi, hz0, hz1, hz2⟩ := Cf KC;have h := run_make (P := Tryz.prog) W 29 3 iI (.int .i64 0) Tryz.underlying29 hi hz0 .i64 .i64 ((y.length : Int) + 1) ((y.length : Int) + 1) (by omega) (by omega) (by rw [hz2]; omega) (by omega);rw [show ((y.length : Int) + 1).toNat = y.length + 1 from by omega, hz1, Nat.mul_one] at h;exact h
 have HT0 : Hid (DTab (w.alloc (.cells (madeCells #[.slice none 0 0] (x.length + 1)) 29)) w.heap.size x y (x.length + 1)) := hid ⟨_, Blk.new _ _ _, size_madeCells _ _, fun i h1 h2 => by omega⟩;have HB0 := hid ((Below.refl w.heap.size w).alloc (Nat.le_refl _) (.cells (madeCells #[.slice none 0 0] (x.length + 1)) 29));go_enter Tryz.func87, Tryz.ntmps87;go_wp2_with fail
 go_loopw [6] (fun ix wr => ∃ k : Nat, k ≤ x.length + 1 ∧ ix = .int .i64 ((k : Int) - 1) ∧ DTab wr w.heap.size x y k ∧ Below w.heap.size w wr) (fun ix _ => (RowKit.intOf ix + 1).toNat)
 case atStart => exact ⟨x.length + 1, by omega, by go_num, HT0.out, HB0.out⟩
 case round =>
  obtain ⟨k, hk, hix, ht, hb⟩ := hrel;have HT := hid ht;have HB := hid hb;have hbs := hb.size;have hDlt := ht.lt;clear ht hb;rcases k with _ | i
  ·rw [show ((0 : Nat) : Int) - 1 = -1 from rfl] at hix;subst hix;clear hmk1 hmk2;go_wp2_with fail;go_ret;exact ⟨rfl, HT.out, HB.out⟩
  ·rw [show ((i + 1 : Nat) : Int) - 1 = (i : Int) from by omega] at hix;subst hix;obtain ⟨c0, hc0⟩ := HT.out.any (i := i) (by omega);have hf0 := HT.out.frozen i;go_wp2_with fail;have HDG : Hid (w.heap.size < wr.heap.size) := hid hDlt;have hbA : Below wr.heap.size (wr.setCell ⟨w.heap.size, i, none⟩ (Value.slice (some ⟨wr.heap.size, 0, none⟩) (y.length + 1) (y.length + 1))) ((wr.setCell ⟨w.heap.size, i, none⟩ (Value.slice (some ⟨wr.heap.size, 0, none⟩) (y.length + 1) (y.length + 1))).alloc (.cells (madeCells #[.int .i64 0] (y.length + 1)) 3)) := by
    have := (Below.refl (wr.setCell ⟨w.heap.size, i, none⟩ (Value.slice (some ⟨wr.heap.size, 0, none⟩) (y.length + 1) (y.length + 1))).heap.size (wr.setCell ⟨w.heap.size, i, none⟩ (Value.slice (some ⟨wr.heap.size, 0, none⟩) (y.length + 1) (y.length + 1)))).alloc (Nat.le_refl _) (.cells (madeCells #[.int .i64 0] (y.length + 1)) 3);rwa [World.size_setCell] at this
   have hcells : ∀ i', i' ≠ i → ((wr.setCell ⟨w.heap.size, i, none⟩ (Value.slice (some ⟨wr.heap.size, 0, none⟩) (y.length + 1) (y.length + 1))).alloc (.cells (madeCells #[.int .i64 0] (y.length + 1)) 3)).cell? ⟨w.heap.size, i', none⟩ = wr.cell? ⟨w.heap.size, i', none⟩ := fun i' hi => by
    rw [hbA.cell hDlt, World.cell?_setCell_other _ _ _ _ (by intro e; injection e with e1 e2; exact hi e2.symm)]
   have HT1 : Hid (DTab ((wr.setCell ⟨w.heap.size, i, none⟩ (Value.slice (some ⟨wr.heap.size, 0, none⟩) (y.length + 1) (y.length + 1))).alloc (.cells (madeCells #[.int .i64 0] (y.length + 1)) 3)) w.heap.size x y (i + 1)) := hid (((HT.out).setD (Value.slice (some ⟨wr.heap.size, 0, none⟩) (y.length + 1) (y.length + 1))).below (by rw [World.size_setCell]; exact hbA));have HDI : Hid (((wr.setCell ⟨w.heap.size, i, none⟩ (Value.slice (some ⟨wr.heap.size, 0, none⟩) (y.length + 1) (y.length + 1))).alloc (.cells (madeCells #[.int .i64 0] (y.length + 1)) 3)).cell? ⟨w.heap.size, i, none⟩ = some (Value.slice (some ⟨wr.heap.size, 0, none⟩) (y.length + 1) (y.length + 1))) := hid (by rw [hbA.cell hDlt]; exact World.cell?_setCell_same _ _ _ hc0)
   have HNE : Hid (∀ i', i + 1 ≤ i' → i' ≤ x.length → ∀ g', ((wr.setCell ⟨w.heap.size, i, none⟩ (Value.slice (some ⟨wr.heap.size, 0, none⟩) (y.length + 1) (y.length + 1))).alloc (.cells (madeCells #[.int .i64 0] (y.length + 1)) 3)).cell? ⟨w.heap.size, i', none⟩ = some (.slice (some ⟨g', 0, none⟩) (y.length + 1) (y.length + 1)) → g' ≠ wr.heap.size) := hid (fun i' h1 h2 g' hc => by
    rw [hcells i' (by omega)] at hc;obtain ⟨g3, hc3, _, hr3⟩ := HT.out.at h1 h2;rw [hc3] at hc;injection hc with hc;injection hc with hc;injection hc with hc;injection hc with hc;have := hr3.lt
    omega)
   have HR0 : Hid (DRow ((wr.setCell ⟨w.heap.size, i, none⟩ (Value.slice (some ⟨wr.heap.size, 0, none⟩) (y.length + 1) (y.length + 1))).alloc (.cells (madeCells #[.int .i64 0] (y.length + 1)) 3)) wr.heap.size x y i (y.length + 1)) := hid (by
    have hb := Blk.new (wr.setCell ⟨w.heap.size, i, none⟩ (Value.slice (some ⟨wr.heap.size, 0, none⟩) (y.length + 1) (y.length + 1))) 3 (madeCells #[.int .i64 0] (y.length + 1));rw [World.size_setCell] at hb
    exact ⟨_, hb, size_madeCells _ _, fun j' h1 h2 => by omega⟩)
   have HBW : Hid (Below w.heap.size w ((wr.setCell ⟨w.heap.size, i, none⟩ (Value.slice (some ⟨wr.heap.size, 0, none⟩) (y.length + 1) (y.length + 1))).alloc (.cells (madeCells #[.int .i64 0] (y.length + 1)) 3))) := hid (by
    have h1 := HB.out.grown (Az wr w.heap.size i (Value.slice (some ⟨wr.heap.size, 0, none⟩) (y.length + 1) (y.length + 1))) hbs (fun g e => by injection e with e; omega)
    exact h1.alloc (by rw [World.size_setCell]; exact hbs) _)
   have hsz : ((wr.setCell ⟨w.heap.size, i, none⟩ (Value.slice (some ⟨wr.heap.size, 0, none⟩) (y.length + 1) (y.length + 1))).alloc (.cells (madeCells #[.int .i64 0] (y.length + 1)) 3)).heap.size = wr.heap.size + 1 := by rw [World.size_alloc, World.size_setCell]
   clear hcells hbA HT HB hbs hDlt hc0 hf0;generalize ((wr.setCell ⟨w.heap.size, i, none⟩ (Value.slice (some ⟨wr.heap.size, 0, none⟩) (y.length + 1) (y.length + 1))).alloc (.cells (madeCells #[.int .i64 0] (y.length + 1)) 3)) = w2 at *;generalize wr.heap.size = g at *;clear wr
   go_loopw [7] (fun jx x2 => ∃ j0 : Nat, j0 ≤ y.length + 1 ∧ jx = .int .i64 ((j0 : Int) - 1) ∧ DRow x2 g x y i j0 ∧ w2.grownBy x2 (some g)) (fun jx _ => (RowKit.intOf jx + 1).toNat)
   case atStart => exact ⟨y.length + 1, by omega, by go_num, HR0.out, ⟨rfl, rfl, rfl, Nat.le_refl _, fun _ _ _ => rfl⟩⟩
   case round =>
    obtain ⟨j0, hj, hjx, hrw, hg⟩ := hrel;have HRW := hid hrw;have HG := hid hg;have hgs := hg.size;have hDi : wr.cell? ⟨w.heap.size, i, none⟩ = some (Value.slice (some ⟨g, 0, none⟩) (y.length + 1) (y.length + 1)) := hg.cell HDI.out (by have := HDG.out; intro e; injection e with e; exact absurd e (Nat.ne_of_lt this));clear hrw hg;rcases j0 with _ | j
    ·rw [show ((0 : Nat) : Int) - 1 = -1 from rfl] at hjx;subst hjx;have HT2 : Hid (DTab wr w.heap.size x y i) := hid ((HT1.out.grown HG.out (fun g' e => by injection e with e; subst e; exact ⟨by have := HDG.out; omega, HNE.out⟩)).put (by omega) HDG.out hDi HRW.out);have HB2 : Hid (Below w.heap.size w wr) := hid (HBW.out.grown HG.out HBW.out.size (fun g' e => by injection e with e; have := HDG.out; omega));go_wp2_with fail
     go_roundw
     case rel => exact ⟨i, by omega, by go_num, HT2.out, HB2.out⟩
     case measure => simp [RowKit.intOf] <;> omega
    ·rw [show ((j + 1 : Nat) : Int) - 1 = (j : Int) from by omega] at hjx;subst hjx;obtain ⟨cv, hcv⟩ := HRW.out.any (j' := j) (by omega);have hfv := HRW.out.frozen j;by_cases hin : i = x.length
     ·subst hin;go_wp2_with fail
      go_roundw
      case rel => exact ⟨j, by omega, by go_num, HRW.out.set (by omega) (by rw [Ar.R4]; omega), World.grownBy.trans HG.out (Az _ _ _ _)⟩
      case measure => simp [RowKit.intOf] <;> omega
     ·by_cases hjm : j = y.length
      ·subst hjm;go_wp2_with fail
       go_roundw
       case rel => exact ⟨y.length, by omega, by go_num, HRW.out.set (by omega) (by rw [Ar.RL]; omega), World.grownBy.trans HG.out (Az _ _ _ _)⟩
       case measure => simp [RowKit.intOf] <;> omega
      ·obtain ⟨g1, hd1, hg1, hr1⟩ := HT1.out.at (i := i + 1) (by omega) (by omega);have hne1 := HNE.out (i + 1) (by omega) (by omega) g1 hd1;have hd1w := HG.out.cell hd1 (by have := HDG.out; intro e; injection e with e; exact absurd e (Nat.ne_of_lt this));have hr1w := hr1.grown HG.out (by intro e; injection e with e; exact hne1 e);have hv1 := hr1w.at (j' := j) (Nat.zero_le _) (by omega);have hv2 := hr1w.at (j' := j + 1) (Nat.zero_le _) (by omega);have hv3 := HRW.out.at (j' := j + 1) (Nat.le_refl _) (by omega);have hBWR : Below w.heap.size w wr := HBW.out.grown HG.out HBW.out.size (fun g' e => by injection e with e; have := HDG.out; omega);obtain ⟨ba, oa, a, rfl, hxa, hca⟩ := (HX.out.below hBWR).str_at (k := i) (by omega);obtain ⟨bb, ob, b, rfl, hyb, hcb⟩ := (HY.out.below hBWR).str_at (k := j) (by omega);have HXA := hid hxa;have HYB := hid hyb;have hsb := CO a b;clear hxa hyb hBWR hr1 hr1w hd1 hne1;by_cases hab : a = b
       ·have h1 : ((bstr a).toList == (bstr b).toList) = true := by rw [hsb, hab]; exact beq_self_eq_true _
        have HE := hid (Ar.QW HXA.out HYB.out hab);clear hsb hab;generalize bstr a = sa at *;generalize bstr b = sb at *;go_wp2_with fail
        go_quiet (fail)
        go_wp2_with fail
        go_region
        all_goals
         go_wp2_with fail
         go_roundw
         case rel => exact ⟨j, by omega, by go_num, (HRW.out.drewN _).set (by omega) (by rw [HE.out]), World.grownBy.trans (Hc HG.out _) (Az _ _ _ _)⟩
         case measure => simp [RowKit.intOf] <;> omega
       ·have h1 : ((bstr a).toList == (bstr b).toList) = false := by rw [hsb]; simpa using hab
        have HE := hid (Ar.Ru HXA.out HYB.out hab);clear hsb hab;generalize bstr a = sa at *;generalize bstr b = sb at *;go_wp2_with fail
        go_quiet (fail)
        go_wp2_with fail
        go_region
        all_goals
         go_wp2_with fail
         go_roundw
         case rel => exact ⟨j, by omega, by go_num, (HRW.out.drewN _).set (by omega) (by rw [HE.out]; exact PR _ _ (Nat.le_trans (Ar.Hu x y (i + 1) j) (by omega)) (Nat.le_trans (Ar.Hu x y i (j + 1)) (by omega))), World.grownBy.trans (Hc HG.out _) (Az _ _ _ _)⟩
         case measure => simp [RowKit.intOf] <;> omega
def sgn (c : UInt8) (s : List UInt8) : List UInt8 := c :: 32 :: s
theorem QP (c : UInt8) (s : List UInt8) : (⟨#[c]⟩ : ByteArray) ++ (⟨#[32]⟩ : ByteArray) ++ bstr s = bstr (sgn c s) := Bg (by simp [bstr, sgn])
theorem Rd.low {w w' : World} {A : Option Addr} {n B : Nat} {vs : List Value} (h : Rd w A n vs) (hb : Below B w w') (hl : ∀ a, A = some a → a.block < B) : Rd w' A n vs :=
 ⟨h.1, fun j v hj => by
  obtain ⟨g, o, e, hc⟩ := h.2 j v hj;refine ⟨g, o, e, ?_⟩;rw [← hc]
  exact World.cell?_of_block (hb.block g (hl _ e))⟩
theorem EP (v : Value) (us : List (List UInt8)) (c : UInt8) (A : Option Addr) (ca : Nat) (l : List (List UInt8)) (base : Nat) (w : World) (ho : OwnS base w v us) (hr : Rd w A l.length (strL l)) (hbs : base ≤ w.heap.size)
  (hl : ∀ a, A = some a → a.block < base) (h1 : us.length + l.length ≤ 1000000) (hx1 : ∀ x ∈ l, x.length ≤ 1000000) :
  Calls Tryz.prog 86 #[v, .string ⟨#[c]⟩, .slice A l.length ca] w fun e w' => ∃ v', e = .returned v' ∧ OwnS base w' v' (us ++ l.map (sgn c)) ∧ Below base w w' := by
 obtain ⟨A0, cap0, rfl⟩ := Ax ho;have HR := hid hr;have HO := hid ho;have HL := hid hl;have HX1 := hid hx1;have hcs : ((⟨#[c]⟩ : ByteArray) ++ (⟨#[32]⟩ : ByteArray)).size = 2 := rfl;clear hr ho hl hx1;go_enter Tryz.func86, Tryz.ntmps86;go_wp2_with fail
 go_loopw [0, 11] (fun out ix wr => ∃ k : Nat, k ≤ l.length ∧ ix = .int .i64 k ∧ OwnS base wr out (us ++ (l.take k).map (sgn c)) ∧ Below base w wr) (fun _ ix _ => l.length - (RowKit.intOf ix).toNat)
 case atStart => exact ⟨0, by omega, rfl, by simpa using HO.out, Below.refl _ _⟩
 case round =>
  obtain ⟨k, hk, rfl, ho, hb⟩ := hrel;have HO2 := hid ho;have HB := hid hb;have hws := hb.size;clear ho hb;by_cases hlt : k < l.length
  ·obtain ⟨ba, oa, x, rfl, hx, hc0⟩ := (HR.out.low HB.out HL.out).str_at hlt;have HXK := hid hx;have HS := hid (QP c x);have HLEN : Hid ((us ++ (l.take k).map (sgn c)).length = us.length + k) := hid (by rw [List.length_append, List.length_map, List.length_take]; omega);have hXs : (bstr x).size ≤ 1000000 := by rw [Ab]; exact HX1.out x (List.mem_of_getElem? hx)
   clear hx;generalize bstr x = X at *;go_wp2_with (at_builtin; refine Bt CD rfl _ _ rfl wr [.string ((⟨#[c]⟩ : ByteArray) ++ (⟨#[32]⟩ : ByteArray) ++ X)] 1 rfl (by rw [HS.out]; exact Bx [sgn c x]) u0 (us.length + k) (strL (us ++ (l.take k).map (sgn c))) base rfl (by have := HO2.out; unfold OwnS at this; rw [HLEN.out] at this; exact this) rfl (by omega) (by omega) ?_; intro v4 w4 ho4 hg4 hb4)
   go_roundw
   case rel =>
    refine ⟨k + 1, by omega, by go_num, ?_, hb4 w HB.out⟩;unfold OwnS;rw [AZ HXK.out, ← List.append_assoc, List.length_append, HLEN.out, AJ];rw [HS.out] at ho4;exact ho4
   case measure => simp [RowKit.intOf]; omega
  ·obtain rfl : k = l.length := by omega
   have HOE : Hid (OwnS base wr u0 (us ++ l.map (sgn c))) := hid (by have := HO2.out; rwa [List.take_length] at this);go_wp2_with fail;go_ret;exact ⟨_, rfl, HOE.out, HB.out⟩
theorem CQ {w : World} {base n size g i : Nat} {e : TypeId} {v u : Value} {xs : List Value} (h : w.ownsRow base e size v n xs) (hg : g < base) : (w.setCell ⟨g, i, none⟩ u).ownsRow base e size v n xs := by
 obtain ⟨h1, h2⟩ := h;refine ⟨h1, ?_⟩;rcases h2 with h2 | ⟨k, cap, cur, hv, hk, hh, hn, hcap, hsz, ht⟩
 ·exact .inl h2
 ·exact .inr ⟨k, cap, cur, hv, hk, (heap_setCell_other _ _ _ _ (show k ≠ g by omega)).trans hh, hn, hcap, hsz, ht⟩
def Bv (n : Nat) : List (List UInt8) := (Ar.flush n).map Ar.Ed.enc
theorem No {n : Nat} (h : 0 < n) : Bv n = [Ar.Ed.enc (.keep n)] := by unfold Bv Ar.flush; rw [if_neg (by omega)]; rfl
theorem Km (n : Nat) : (⟨#[61, 32]⟩ : ByteArray) ++ bstr (Ar.itoa n) = bstr (Ar.Ed.enc (.keep n)) := Bg (by simp [bstr, Ar.Ed.enc])
theorem Eu (bk bo base B : Nat) (v : Value) (us : List (List UInt8)) (n : Nat) (w : World) (hk : Blk w bk 3 #[.int .i64 n]) (hob : Blk w bo 30 #[v]) (ho : OwnS base w v us)
  (hBk : B ≤ bk) (hBo : B ≤ bo) (hkb : bk < base) (hbb : bo < base) (hne : bk ≠ bo) (hn : n ≤ 1000000) (hu : us.length ≤ 1000000) (hbase : base ≤ w.heap.size) :
  Calls Tryz.prog 88 #[.pointer (some ⟨bk, 0, none⟩), .pointer (some ⟨bo, 0, none⟩)] w fun e w' => e = .returned (.tuple #[]) ∧ Blk w' bk 3 #[.int .i64 0] ∧ (∃ v', Blk w' bo 30 #[v'] ∧ OwnS base w' v' (us ++ Bv n)) ∧ Below B w w' := by
 obtain ⟨A0, cap0, rfl⟩ := Ax ho;have HK := hid hk;have HOB := hid hob;have HO := hid ho;have hck := hk.cell 0;have hco := hob.cell 0;have hfk := hk.frozen 0;have hfo := hob.frozen 0;rw [show (#[Value.int .i64 n] : Array Value)[0]? = some (.int .i64 n) from rfl] at hck;rw [show (#[Value.slice A0 us.length cap0] : Array Value)[0]? = some (.slice A0 us.length cap0) from rfl] at hco;clear hk hob ho;rcases Nat.eq_zero_or_pos n with h0 | h0
 ·subst h0;have HE : Hid (us ++ Bv 0 = us) := hid (by simp [Bv, Ar.flush]);go_enter Tryz.func88, Tryz.ntmps88;go_wp2_with fail
  go_end0
  exact ⟨rfl, HK.out.set_ 0 _, ⟨_, HOB.out.grown (Az _ _ _ _) (by intro e; injection e with e; omega), by rw [HE.out]; exact CQ HO.out hkb⟩, (Below.refl B w).grown (Az _ _ _ _) (by omega) (fun g e => by injection e with e; omega)⟩
 ·have HF := hid (No h0);have HT := hid (fun W => Bp n W ⟨by omega, by omega⟩);have HS := hid (Km n);have hTl : (bstr (Ar.itoa n)).size ≤ 100 := by rw [Ab]; have := Cc (n : Int) ⟨by omega, by omega⟩; omega
  have hS := Km n;have hlen9 : ¬ 9223372036854775807 < 2 + (bstr (Ar.itoa n)).size := by omega
  clear HS;go_enter Tryz.func88, Tryz.ntmps88;go_wp2_with fail
  go_region_law (first
   | (go_simp; go_at_call 89; refine (HT.out _).mono ?_; rintro e wA ⟨rfl, hbA⟩; have HOA := HOB.out.drew.below hbA HOB.out.lt; have HKA := HK.out.drew.below hbA HK.out.lt; have hcoA := HOA.cell 0; rw [show (#[Value.slice A0 us.length cap0] : Array Value)[0]? = some (.slice A0 us.length cap0) from rfl] at hcoA; have hfoA := HOA.frozen 0; have hcoB := (HOA.alloc (.cells #[.string (bstr (Ar.Ed.enc (.keep n)))] 9)).cell 0; rw [show (#[Value.slice A0 us.length cap0] : Array Value)[0]? = some (.slice A0 us.length cap0) from rfl] at hcoB; have hsA : w.heap.size ≤ wA.heap.size := hbA.size; have hBA := (Below.refl B w).drew.trans (hbA.mono (by show B ≤ w.heap.size; omega)); have HWA := AQ (HO.out.drew) hbA (Nat.le_refl _))
   | (refine JD rfl _ _ rfl _ (.slice A0 us.length cap0) us [Ar.Ed.enc (.keep n)] base rfl (some ⟨wA.heap.size, 0, none⟩) 1 rfl (HWA.alloc _) (Rd.litS wA [Ar.Ed.enc (.keep n)]) (by simp; omega) (by simp; omega) ?_; intro v2 w2 ho2 hg2 hb2; obtain ⟨A2, cap2, rfl⟩ := Ax ho2; have hno : ∀ b, b < base → some b ≠ (Value.slice A0 us.length cap0).ownBlock := (fun b hb e => by have := (HO.out.lt b e.symm).1; omega); have HO2 := (HOA.alloc (.cells #[.string (bstr (Ar.Ed.enc (.keep n)))] 9)).grown hg2 (hno bo hbb); have HK2 := (HKA.alloc (.cells #[.string (bstr (Ar.Ed.enc (.keep n)))] 9)).grown hg2 (hno bk hkb); have hco2 := HO2.cell 0; rw [show (#[Value.slice A0 us.length cap0] : Array Value)[0]? = some (.slice A0 us.length cap0) from rfl] at hco2; have hfo2 := HO2.frozen 0; have hck2 := HK2.cell 0; rw [show (#[Value.int .i64 n] : Array Value)[0]? = some (.int .i64 n) from rfl] at hck2; have hfk2 := HK2.frozen 0))
  all_goals
   have HB2 : Hid (Below B w w2) := hid ((hBA.alloc (by omega) (.cells #[.string (bstr (Ar.Ed.enc (.keep n)))] 9)).grown hg2 (by rw [World.size_alloc]; omega) (fun g e => by have := (HO.out.lt g e).1; omega));have HS2 : Hid (B ≤ w2.heap.size) := hid (by have := HO2.lt; omega);have HW2 : Hid (OwnS base w2 (.slice A2 (us.length + 1) cap2) (us ++ [Ar.Ed.enc (.keep n)])) := hid (by have h := ho2; rw [show (Value.slice A2 (us ++ [Ar.Ed.enc (.keep n)]).length cap2) = .slice A2 (us.length + 1) cap2 from by rw [List.length_append]; rfl] at h; exact h);clear hg2 hb2 ho2 hno hbA hBA hS hTl hlen9 hco hck hfk hfo HOA HKA HWA hcoA hfoA hcoB;go_wp2_with fail
   go_end0
   exact ⟨rfl, (HK2.grown (Az _ _ _ _) (by intro e; injection e with e; omega)).set_ 0 _, ⟨_, (HO2.set_ 0 _).grown (Az _ _ _ _) (by intro e; injection e with e; omega), by rw [HF.out]; exact CQ (CQ HW2.out hbb) hkb⟩, (HB2.out.grown (Az _ _ _ _) HS2.out (fun g e => by injection e with e; omega)).grown (Az _ _ _ _) (by rw [World.size_setCell]; exact HS2.out) (fun g e => by injection e with e; omega)⟩
def rowC (x : Int × Int × Int × Bool) : List Value := [.int .i64 x.1, .int .i64 x.2.1, .int .i64 x.2.2.1, .bool x.2.2.2]
def entC (x : Int × List UInt8 × Int) : List Value := [.int .i64 x.1, .string (bstr x.2.1), .int .i64 x.2.2]
def recC (x : List UInt8 × Int × Int × Int) : List Value := [.string (bstr x.1), .int .i64 x.2.1, .int .i64 x.2.2.1, .int .i64 x.2.2.2]
def typC (x : List UInt8 × Int) : List Value := [.string (bstr x.1), .int .i64 x.2]
theorem Rd.el_at {α : Type} {el : α → List Value} {sz : Nat} (hsz : ∀ x, (el x).length = sz) {w : World} {A : Option Addr} {xs : List α} (h : Rd w A (xs.length * sz) (xs.flatMap el)) (h0 : 0 < sz) {k : Nat} (hk : k < xs.length) :
  ∃ b off x, A = some ⟨b, off, none⟩ ∧ xs[k]? = some x ∧ ∀ j v, (el x)[j]? = some v → w.cell? ⟨b, off + k * sz + j, none⟩ = some v := by
 have hx := List.getElem?_eq_getElem hk;obtain ⟨v0, hv0⟩ : ∃ v, (el xs[k])[0]? = some v := by
  rw [List.getElem?_eq_getElem (by rw [hsz]; exact h0)];exact ⟨_, rfl⟩
 have h00 := Ee el sz hsz xs k 0 xs[k] h0 hx;obtain ⟨b, off, e, _⟩ := h.2 _ _ (h00.trans hv0);refine ⟨b, off, xs[k], e, hx, fun j v hv => ?_⟩;have hj : j < sz := by have := (List.getElem?_eq_some_iff.1 hv).1; rwa [hsz] at this
 obtain ⟨b', off', e', hc⟩ := h.2 _ _ ((Ee el sz hsz xs k j xs[k] hj hx).trans hv);rw [e] at e';injection e' with e';injection e' with e1 e2 e3;subst e1 e2;rw [Nat.add_assoc];exact hc
theorem Nb (vo : Value) (us : List (List UInt8)) (base : Nat) (A : Option Addr) (cap : Nat) (xs : List (Int × Int × Int × Bool)) (w : World) (ho : OwnS base w vo us) (hbs : base ≤ w.heap.size) (hR : Rd w A (xs.length * 4) (xs.flatMap rowC)) (hlo : 0 < xs.length → ∀ a, A = some a → a.block < base) (hx : ∀ x ∈ xs, Ar.inInt x.1 ∧ Ar.inInt x.2.1 ∧ Ar.inInt x.2.2.1) (hl : us.length + xs.length ≤ 1000000) :
  Calls Tryz.prog 64 #[vo, .slice A xs.length cap, .func (.func 65) #[] #[]] w fun e w' => (∃ v', e = .returned v' ∧ OwnS base w' v' (us ++ xs.map Ar.AK)) ∧ Below base w w' := by
 obtain ⟨A0, cap0, rfl⟩ := Ax ho;have HO := hid ho;have HR := hid hR;have HX := hid hx;have HLO := hid hlo;clear ho hR hx hlo;go_enter Tryz.func64, Tryz.ntmps64;go_wp2_with fail
 go_loopw [0, 11] (fun out ix wr => ∃ k : Nat, k ≤ xs.length ∧ ix = .int .i64 k ∧ OwnS base wr out (us ++ (xs.take k).map Ar.AK) ∧ Below base w wr) (fun _ ix _ => xs.length - (RowKit.intOf ix).toNat)
 case atStart => exact ⟨0, by omega, rfl, by simpa using HO.out, Below.refl _ _⟩
 case round =>
  obtain ⟨k, hk, rfl, ho, hb⟩ := hrel;have HO := hid ho;have HB := hid hb;have hws := hb.size;clear ho hb;by_cases hlt : k < xs.length
  ·obtain ⟨ba, oa, x, rfl, hx, hcs⟩ := Rd.el_at (el := rowC) (sz := 4) (fun _ => rfl) (HR.out.low HB.out (HLO.out (by omega))) (by decide) hlt;have hc0 := hcs 0 _ rfl;have hc1 := hcs 1 _ rfl;have hc2 := hcs 2 _ rfl;have hc3 := hcs 3 _ rfl;rw [Nat.add_zero] at hc0;have HXK := hid hx;have HXO := hid (HX.out x (List.mem_of_getElem? hx));have HLEN : Hid ((us ++ (xs.take k).map Ar.AK).length = us.length + k) := hid (by rw [List.length_append, List.length_map, List.length_take]; omega);clear hx hcs;go_wp2_with fail;refine (Hk x.1 x.2.1 x.2.2.1 x.2.2.2 _ HXO.out.1 HXO.out.2.1 HXO.out.2.2).mono ?_;rintro e w2 ⟨rfl, hb2⟩;have HB2 := hid ((HB.out.alloc (Nat.le_trans hbs hws) (.cells #[.int .i64 x.1, .int .i64 x.2.1, .int .i64 x.2.2.1, .bool x.2.2.2] 114)).trans (hb2.mono (by rw [World.size_alloc]; omega)));have hbs2 := HB2.out.size;have HO2 : Hid (OwnS base w2 u0 (us ++ (xs.take k).map Ar.AK)) := hid (AQ (HO.out.alloc _) hb2 (Nat.le_refl _));clear hb2;go_wp2_with (at_builtin; refine Bt CD rfl _ _ rfl w2 (strL [Ar.AK x]) 1 rfl (Bx [Ar.AK x]) u0 (us.length + k) (strL (us ++ (xs.take k).map Ar.AK)) base rfl (by have := HO2.out; unfold OwnS at this; rw [HLEN.out] at this; exact this) rfl (by omega) (by omega) ?_; intro v4 w4 ho4 hg4 hb4)
   go_roundw
   case rel =>
    refine ⟨k + 1, by omega, by go_num, ?_, hb4 w HB2.out⟩;unfold OwnS;rw [AZ HXK.out, ← List.append_assoc, List.length_append, HLEN.out, AJ];exact ho4
   case measure => simp [RowKit.intOf]; omega
  ·obtain rfl : k = xs.length := by omega
   have HOE : Hid (OwnS base wr u0 (us ++ xs.map Ar.AK)) := hid (by have := HO.out; rwa [List.take_length] at this);go_wp2_with fail;go_ret;exact ⟨⟨_, rfl, HOE.out⟩, HB.out⟩
theorem G8 (vo : Value) (us : List (List UInt8)) (base : Nat) (A : Option Addr) (cap : Nat) (xs : List (Int × List UInt8 × Int)) (w : World) (ho : OwnS base w vo us) (hbs : base ≤ w.heap.size) (hR : Rd w A (xs.length * 3) (xs.flatMap entC)) (hlo : 0 < xs.length → ∀ a, A = some a → a.block < base) (hx : ∀ x ∈ xs, Ar.inInt x.1 ∧ x.2.1.length ≤ 1000000 ∧ Ar.inInt x.2.2) (hl : us.length + xs.length ≤ 1000000) :
  Calls Tryz.prog 68 #[vo, .slice A xs.length cap, .func (.func 69) #[] #[]] w fun e w' => (∃ v', e = .returned v' ∧ OwnS base w' v' (us ++ xs.map Ar.Aw)) ∧ Below base w w' := by
 obtain ⟨A0, cap0, rfl⟩ := Ax ho;have HO := hid ho;have HR := hid hR;have HX := hid hx;have HLO := hid hlo;clear ho hR hx hlo;go_enter Tryz.func68, Tryz.ntmps68;go_wp2_with fail
 go_loopw [0, 11] (fun out ix wr => ∃ k : Nat, k ≤ xs.length ∧ ix = .int .i64 k ∧ OwnS base wr out (us ++ (xs.take k).map Ar.Aw) ∧ Below base w wr) (fun _ ix _ => xs.length - (RowKit.intOf ix).toNat)
 case atStart => exact ⟨0, by omega, rfl, by simpa using HO.out, Below.refl _ _⟩
 case round =>
  obtain ⟨k, hk, rfl, ho, hb⟩ := hrel;have HO := hid ho;have HB := hid hb;have hws := hb.size;clear ho hb;by_cases hlt : k < xs.length
  ·obtain ⟨ba, oa, x, rfl, hx, hcs⟩ := Rd.el_at (el := entC) (sz := 3) (fun _ => rfl) (HR.out.low HB.out (HLO.out (by omega))) (by decide) hlt;have hc0 := hcs 0 _ rfl;have hc1 := hcs 1 _ rfl;have hc2 := hcs 2 _ rfl;rw [Nat.add_zero] at hc0;have HXK := hid hx;have HXO := hid (HX.out x (List.mem_of_getElem? hx));have HLEN : Hid ((us ++ (xs.take k).map Ar.Aw).length = us.length + k) := hid (by rw [List.length_append, List.length_map, List.length_take]; omega);clear hx hcs;go_wp2_with fail;refine (FO x.1 x.2.1 x.2.2 _ HXO.out.1 HXO.out.2.1 HXO.out.2.2).mono ?_;rintro e w2 ⟨rfl, hb2⟩;have HB2 := hid ((HB.out.alloc (Nat.le_trans hbs hws) (.cells #[.int .i64 x.1, .string (bstr x.2.1), .int .i64 x.2.2] 103)).trans (hb2.mono (by rw [World.size_alloc]; omega)));have hbs2 := HB2.out.size;have HO2 : Hid (OwnS base w2 u0 (us ++ (xs.take k).map Ar.Aw)) := hid (AQ (HO.out.alloc _) hb2 (Nat.le_refl _));clear hb2;go_wp2_with (at_builtin; refine Bt CD rfl _ _ rfl w2 (strL [Ar.Aw x]) 1 rfl (Bx [Ar.Aw x]) u0 (us.length + k) (strL (us ++ (xs.take k).map Ar.Aw)) base rfl (by have := HO2.out; unfold OwnS at this; rw [HLEN.out] at this; exact this) rfl (by omega) (by omega) ?_; intro v4 w4 ho4 hg4 hb4)
   go_roundw
   case rel =>
    refine ⟨k + 1, by omega, by go_num, ?_, hb4 w HB2.out⟩;unfold OwnS;rw [AZ HXK.out, ← List.append_assoc, List.length_append, HLEN.out, AJ];exact ho4
   case measure => simp [RowKit.intOf]; omega
  ·obtain rfl : k = xs.length := by omega
   have HOE : Hid (OwnS base wr u0 (us ++ xs.map Ar.Aw)) := hid (by have := HO.out; rwa [List.take_length] at this);go_wp2_with fail;go_ret;exact ⟨⟨_, rfl, HOE.out⟩, HB.out⟩
theorem FY (vo : Value) (us : List (List UInt8)) (base : Nat) (A : Option Addr) (cap : Nat) (xs : List (List UInt8 × Int × Int × Int)) (w : World) (ho : OwnS base w vo us) (hbs : base ≤ w.heap.size) (hR : Rd w A (xs.length * 4) (xs.flatMap recC)) (hlo : 0 < xs.length → ∀ a, A = some a → a.block < base) (hx : ∀ x ∈ xs, x.1.length ≤ 1000000 ∧ Ar.inInt x.2.1 ∧ Ar.inInt x.2.2.1 ∧ Ar.inInt x.2.2.2) (hl : us.length + xs.length ≤ 1000000) :
  Calls Tryz.prog 70 #[vo, .slice A xs.length cap, .func (.func 71) #[] #[]] w fun e w' => (∃ v', e = .returned v' ∧ OwnS base w' v' (us ++ xs.map Ar.Am)) ∧ Below base w w' := by
 obtain ⟨A0, cap0, rfl⟩ := Ax ho;have HO := hid ho;have HR := hid hR;have HX := hid hx;have HLO := hid hlo;clear ho hR hx hlo;go_enter Tryz.func70, Tryz.ntmps70;go_wp2_with fail
 go_loopw [0, 11] (fun out ix wr => ∃ k : Nat, k ≤ xs.length ∧ ix = .int .i64 k ∧ OwnS base wr out (us ++ (xs.take k).map Ar.Am) ∧ Below base w wr) (fun _ ix _ => xs.length - (RowKit.intOf ix).toNat)
 case atStart => exact ⟨0, by omega, rfl, by simpa using HO.out, Below.refl _ _⟩
 case round =>
  obtain ⟨k, hk, rfl, ho, hb⟩ := hrel;have HO := hid ho;have HB := hid hb;have hws := hb.size;clear ho hb;by_cases hlt : k < xs.length
  ·obtain ⟨ba, oa, x, rfl, hx, hcs⟩ := Rd.el_at (el := recC) (sz := 4) (fun _ => rfl) (HR.out.low HB.out (HLO.out (by omega))) (by decide) hlt;have hc0 := hcs 0 _ rfl;have hc1 := hcs 1 _ rfl;have hc2 := hcs 2 _ rfl;have hc3 := hcs 3 _ rfl;rw [Nat.add_zero] at hc0;have HXK := hid hx;have HXO := hid (HX.out x (List.mem_of_getElem? hx));have HLEN : Hid ((us ++ (xs.take k).map Ar.Am).length = us.length + k) := hid (by rw [List.length_append, List.length_map, List.length_take]; omega);clear hx hcs;go_wp2_with fail;refine (EZ x.1 x.2.1 x.2.2.1 x.2.2.2 _ HXO.out.1 HXO.out.2.1 HXO.out.2.2.1 HXO.out.2.2.2).mono ?_;rintro e w2 ⟨rfl, hb2⟩;have HB2 := hid ((HB.out.alloc (Nat.le_trans hbs hws) (.cells #[.string (bstr x.1), .int .i64 x.2.1, .int .i64 x.2.2.1, .int .i64 x.2.2.2] 105)).trans (hb2.mono (by rw [World.size_alloc]; omega)));have hbs2 := HB2.out.size;have HO2 : Hid (OwnS base w2 u0 (us ++ (xs.take k).map Ar.Am)) := hid (AQ (HO.out.alloc _) hb2 (Nat.le_refl _));clear hb2;go_wp2_with (at_builtin; refine Bt CD rfl _ _ rfl w2 (strL [Ar.Am x]) 1 rfl (Bx [Ar.Am x]) u0 (us.length + k) (strL (us ++ (xs.take k).map Ar.Am)) base rfl (by have := HO2.out; unfold OwnS at this; rw [HLEN.out] at this; exact this) rfl (by omega) (by omega) ?_; intro v4 w4 ho4 hg4 hb4)
   go_roundw
   case rel =>
    refine ⟨k + 1, by omega, by go_num, ?_, hb4 w HB2.out⟩;unfold OwnS;rw [AZ HXK.out, ← List.append_assoc, List.length_append, HLEN.out, AJ];exact ho4
   case measure => simp [RowKit.intOf]; omega
  ·obtain rfl : k = xs.length := by omega
   have HOE : Hid (OwnS base wr u0 (us ++ xs.map Ar.Am)) := hid (by have := HO.out; rwa [List.take_length] at this);go_wp2_with fail;go_ret;exact ⟨⟨_, rfl, HOE.out⟩, HB.out⟩
theorem Gl (vo : Value) (us : List (List UInt8)) (base : Nat) (A : Option Addr) (cap : Nat) (xs : List (List UInt8 × Int)) (w : World) (ho : OwnS base w vo us) (hbs : base ≤ w.heap.size) (hR : Rd w A (xs.length * 2) (xs.flatMap typC)) (hlo : 0 < xs.length → ∀ a, A = some a → a.block < base) (hx : ∀ x ∈ xs, x.1.length ≤ 1000000 ∧ Ar.inInt x.2) (hl : us.length + xs.length ≤ 1000000) :
  Calls Tryz.prog 72 #[vo, .slice A xs.length cap, .func (.func 73) #[] #[]] w fun e w' => (∃ v', e = .returned v' ∧ OwnS base w' v' (us ++ xs.map Ar.Ap)) ∧ Below base w w' := by
 obtain ⟨A0, cap0, rfl⟩ := Ax ho;have HO := hid ho;have HR := hid hR;have HX := hid hx;have HLO := hid hlo;clear ho hR hx hlo;go_enter Tryz.func72, Tryz.ntmps72;go_wp2_with fail
 go_loopw [0, 11] (fun out ix wr => ∃ k : Nat, k ≤ xs.length ∧ ix = .int .i64 k ∧ OwnS base wr out (us ++ (xs.take k).map Ar.Ap) ∧ Below base w wr) (fun _ ix _ => xs.length - (RowKit.intOf ix).toNat)
 case atStart => exact ⟨0, by omega, rfl, by simpa using HO.out, Below.refl _ _⟩
 case round =>
  obtain ⟨k, hk, rfl, ho, hb⟩ := hrel;have HO := hid ho;have HB := hid hb;have hws := hb.size;clear ho hb;by_cases hlt : k < xs.length
  ·obtain ⟨ba, oa, x, rfl, hx, hcs⟩ := Rd.el_at (el := typC) (sz := 2) (fun _ => rfl) (HR.out.low HB.out (HLO.out (by omega))) (by decide) hlt;have hc0 := hcs 0 _ rfl;have hc1 := hcs 1 _ rfl;rw [Nat.add_zero] at hc0;have HXK := hid hx;have HXO := hid (HX.out x (List.mem_of_getElem? hx));have HLEN : Hid ((us ++ (xs.take k).map Ar.Ap).length = us.length + k) := hid (by rw [List.length_append, List.length_map, List.length_take]; omega);clear hx hcs;go_wp2_with fail;refine (Fg x.1 x.2 _ HXO.out.1 HXO.out.2).mono ?_;rintro e w2 ⟨rfl, hb2⟩;have HB2 := hid ((HB.out.alloc (Nat.le_trans hbs hws) (.cells #[.string (bstr x.1), .int .i64 x.2] 107)).trans (hb2.mono (by rw [World.size_alloc]; omega)));have hbs2 := HB2.out.size;have HO2 : Hid (OwnS base w2 u0 (us ++ (xs.take k).map Ar.Ap)) := hid (AQ (HO.out.alloc _) hb2 (Nat.le_refl _));clear hb2;go_wp2_with (at_builtin; refine Bt CD rfl _ _ rfl w2 (strL [Ar.Ap x]) 1 rfl (Bx [Ar.Ap x]) u0 (us.length + k) (strL (us ++ (xs.take k).map Ar.Ap)) base rfl (by have := HO2.out; unfold OwnS at this; rw [HLEN.out] at this; exact this) rfl (by omega) (by omega) ?_; intro v4 w4 ho4 hg4 hb4)
   go_roundw
   case rel =>
    refine ⟨k + 1, by omega, by go_num, ?_, hb4 w HB2.out⟩;unfold OwnS;rw [AZ HXK.out, ← List.append_assoc, List.length_append, HLEN.out, AJ];exact ho4
   case measure => simp [RowKit.intOf]; omega
  ·obtain rfl : k = xs.length := by omega
   have HOE : Hid (OwnS base wr u0 (us ++ xs.map Ar.Ap)) := hid (by have := HO.out; rwa [List.take_length] at this);go_wp2_with fail;go_ret;exact ⟨⟨_, rfl, HOE.out⟩, HB.out⟩
def Where (w : World) (v v' : Value) : Prop := v'.ownBlock = v.ownBlock ∨ v'.ownBlock = some w.heap.size
section
variable {ops : Array Oper} {rest : List Oper} {o : Oper} {a : Act} {Q : Exit → Act → World → Prop} {K : Act → World → Prop} {T e : TypeId} {size bytes : Nat} {E : Prop}
theorem OV (hT : RowT T e size bytes) (ty : TypeId) (w : World) (v : Value) (n : Nat) (xs ys : List Value) (base : Nat) (hown : w.ownsRow base e size v n xs) (g m c : Nat) (hl : ys.length = m * size) (h1 : ∀ u ∈ ys, u.oneCell' = true)
  (hr : ∀ j u, ys[j]? = some u → w.cell? ⟨g, j, none⟩ = some u) (hbase : base ≤ w.heap.size) (hlen : n + m ≤ 100000000000) :
  ∃ v' w', (Builtin.append_ #[T, T] ty #[v, .slice (some ⟨g, 0, none⟩) m c]).run Tryz.prog w = .ok v' w' ∧ w'.ownsRow base e size v' (n + m) (xs ++ ys) ∧ w.grownBy w' v.ownBlock ∧ (∀ w0, Below base w0 w → Below base w0 w') ∧ Where w v v' := by
 obtain ⟨v', w', hrun, h2, h3, h4⟩ := Io hT ty w v n xs ys base hown g m c hl h1 hr hbase hlen;refine ⟨v', w', hrun, h2, h3, h4, ?_⟩;obtain ⟨z, hi, hz⟩ := hT.info;obtain ⟨i, hu, zu0, zu1, zu2⟩ := Cf hi;have hrr : ∀ j u, ys[j]? = some u → w.cell? ((⟨g, 0, none⟩ : Addr).add j) = some u := fun j u hu => by rw [show (⟨g, 0, none⟩ : Addr).add j = ⟨g, j, none⟩ from by rw [Addr.add_mid g 0 j, Nat.zero_add]]; exact hr j u hu
 have hbs : (n + m) * bytes ≤ 140737488355328 := by
  have := Nat.mul_le_mul hlen hT.small;omega
 subst zu1;rcases hown.2 with ⟨rfl, rfl⟩ | ⟨g', cap, cur, rfl, hbg, hg, hnc, hcm, hcs, htake⟩
 ·by_cases hm : m = 0
  ·have hy : ys = [] := List.eq_nil_of_length_eq_zero (by rw [hl, hm, Nat.zero_mul]);subst hm hy;have hr0 : (Builtin.append_ #[T, T] ty #[.slice none 0 0, .slice (some ⟨g, 0, none⟩) 0 c]).run Tryz.prog w = .ok (.slice none 0 0) w := by
    simp [Builtin.append_, run_underlying hT.und, Go.sizeOf, typeInfo, hu, Builtin.lenOf, Builtin.firstCells, loadCells, loadCellsFrom]
   rw [hr0] at hrun;injection hrun with e1 e2;rw [← e1];exact .inl rfl
  ·have hr0 := run_append_nil (P := Tryz.prog) w T ty e i z hT.und hu zu0 ⟨g, 0, none⟩ m c ys hl hrr (by omega) (by omega) (by rw [zu2]; rw [Nat.zero_add] at hbs; omega);rw [hr0] at hrun;injection hrun with e1 e2;rw [← e1];exact .inr rfl
 ·by_cases hroom : n + m ≤ cap
  ·have hfit : n * i.size + ys.length ≤ cur.size := by rw [hl, hcs, ← Nat.add_mul]; exact Nat.mul_le_mul_right _ hroom
   have hr0 := run_append_room (P := Tryz.prog) w T ty e i hT.und hu g' n cap cur hg ⟨g, 0, none⟩ m c ys hl hrr h1 hroom hfit;rw [hr0] at hrun;injection hrun with e1 e2;rw [← e1];exact .inl rfl
  ·have hr0 := run_append_grow (P := Tryz.prog) w T ty e i z hT.und hu zu0 ⟨g', 0, none⟩ n cap xs hown.1 (hown.cells (g := g') rfl) ⟨g, 0, none⟩ m c ys hl hrr (by omega) (by omega) (growslice_fits (by omega) (by rw [zu2]; exact hbs));rw [hr0] at hrun;injection hrun with e1 e2;rw [← e1];exact .inr rfl
theorem DD (hT : RowT T e size bytes) (hgd : o.guard = none) (s x : Operand) (ho : o.op = .call { callee := .builtin .append, args := #[s, x], argTypes := #[T, T] })
  (w : World) (v : Value) (n : Nat) (xs ys : List Value) (base : Nat) (hs : a.eval s = v) (hown : w.ownsRow base e size v n xs) (g m c : Nat) (hx : a.eval x = .slice (some ⟨g, 0, none⟩) m c) (hl : ys.length = m * size) (h1 : ∀ u ∈ ys, u.oneCell' = true)
  (hr : ∀ j u, ys[j]? = some u → w.cell? ⟨g, j, none⟩ = some u) (hbase : base ≤ w.heap.size) (hlen : n + m ≤ 100000000000)
  (h : ∀ v' w', w'.ownsRow base e size v' (n + m) (xs ++ ys) → w.grownBy w' v.ownBlock → (∀ w0, Below base w0 w → Below base w0 w') → Where w v v' → K (a.put o.dst v') w') : if Region.wanted o (yielded ops a.tmps) = true then o.wp Tryz.prog a w K Q else E := by
 have hw : Region.wanted o (yielded ops a.tmps) = true := by simp [Region.wanted, hgd]
 rw [if_pos hw];obtain ⟨v', w', hrun, h2, h3, h4, h5⟩ := OV hT o.type w v n xs ys base hown g m c hl h1 hr hbase hlen;unfold Oper.wp execOp;simp only [ho, resolve, invoke, builtin, Sem.run_bind, Sem.run_pure, Result.andThen_ok, List.map_toArray, List.map_cons, List.map_nil, hs, hx, hrun];exact h v' w' h2 h3 h4 h5
end
theorem Py : (Tryz.prog.info? 114).map (fun i => (i.zero, i.size, i.bytes)) = some (some (.agg #[.int .i64 0, .int .i64 0, .int .i64 0, .bool false]), 4, 32) := by kernel_rfl
theorem Qb : RowT 49 114 4 32 := ⟨Tryz.underlying49, ⟨_, Py, rfl⟩, by decide, by decide⟩
structure RB (W0 w : World) (g n : Nat) (r : Ar.RS) (cs : Array Value) : Prop where
 lt : g < W0.heap.size
 g3 : 3 ≤ g
 rd : RdS w W0.heap.size r
 room : Blk w g 55 cs
 grow : W0.grownBy w (some g)
 len : r.1.length ≤ n
theorem RB.call {W0 w w' : World} {g n : Nat} {r r' : Ar.RS} {cs : Array Value} (h : RB W0 w g n r cs) (hr : RdS w' W0.heap.size r') (hg : w.grownBy w' (some W0.heap.size)) (hl : r'.1.length ≤ r.1.length) : RB W0 w' g n r' cs :=
 ⟨h.lt, h.g3, hr, h.room.grown hg (by intro e; injection e with e; have := h.lt; omega), ⟨hg.os.trans h.grow.os, hg.tape.trans h.grow.tape, hg.output.trans h.grow.output, Nat.le_trans h.grow.size hg.size, fun k hk hne => (hg.block k (Nat.lt_of_lt_of_le hk h.grow.size) (by intro e; injection e with e; omega)).trans (h.grow.block k hk hne)⟩, Nat.le_trans hl h.len⟩
theorem RB.set {W0 w : World} {g n : Nat} {r : Ar.RS} {cs : Array Value} (h : RB W0 w g n r cs) (i : Nat) (v : Value) : RB W0 (w.setCell ⟨g, i, none⟩ v) g n r (cs.setIfInBounds i v) :=
 ⟨h.lt, h.g3, h.rd.keep (Az _ _ _ _) (by intro e; injection e with e; have := h.lt; omega), h.room.set_ i v, ⟨h.grow.os, h.grow.tape, h.grow.output, by rw [World.size_setCell]; exact h.grow.size, fun k hk hne => ((Az w g i v).block k (Nat.lt_of_lt_of_le hk h.grow.size) hne).trans (h.grow.block k hk hne)⟩, h.len⟩
theorem RB.below {W0 w w' : World} {g n : Nat} {r : Ar.RS} {cs : Array Value} (h : RB W0 w g n r cs) (hb : Below w.heap.size w w') : RB W0 w' g n r cs :=
 ⟨h.lt, h.g3, h.rd.below hb, h.room.below hb h.room.lt, ⟨hb.os.trans h.grow.os, hb.tape.trans h.grow.tape, hb.output.trans h.grow.output, Nat.le_trans h.grow.size hb.size, fun k hk hne => (hb.block k (Nat.lt_of_lt_of_le hk h.grow.size)).trans (h.grow.block k hk hne)⟩, h.len⟩
theorem RB.ready {W0 w : World} {g n : Nat} {r : Ar.RS} {cs : Array Value} (h : RB W0 w g n r cs) (hR : Ready W0) : Ready w := hR.grown h.grow (fun q e => by injection e with e; have := h.g3; omega)
theorem RB.start {w : World} {g : Nat} {s : ByteArray} {cs : Array Value} (hg : Blk w g 55 cs) (h3 : 3 ≤ g) : RB w (w.alloc (.cells #[.string s, .bool false] 87)) g s.size (s.data.toList, false) cs where
 lt := hg.lt
 g3 := h3
 rd := by
  have h := Blk.new w 87 #[.string s, .bool false];show Blk _ _ _ #[.string (bstr s.data.toList), .bool false];rw [M1];exact h
 room := hg.alloc _
 grow := World.grownBy_alloc w _ _
 len := by rw [AI]; exact Nat.le_refl _
def hdX (s : List UInt8) : List UInt8 × Ar.RS := Ar.rtext (Ar.eat Ar.headW (s, false))
def hdZ (s : List UInt8) (n : Int) : Int × Ar.RS := if (Ar.has Ar.nextW (hdX s).2).1 = true then Ar.rnum (Ar.has Ar.nextW (hdX s).2).2 else (n, (Ar.has Ar.nextW (hdX s).2).2)
def hdOk (s : List UInt8) (n : Int) : Bool := decide ((hdZ s n).2.2 = false ∧ Ar.As (hdX s).1 (hdZ s n).1 = s)
theorem JZ (s : ByteArray) (g : Nat) (id : ByteArray) (vE vR vW vH vS : Value) (n : Int) (vC vT : Value) (w : World) (hs : s.size ≤ 100000) (hRd : Ready w) (hg : Blk w g 55 #[.string id, vE, vR, vW, vH, vS, .int .i64 n, vC, vT]) (hg3 : 3 ≤ g) (hn : Ar.inInt n) :
  Calls Tryz.prog 76 #[.string s, .pointer (some ⟨g, 0, none⟩)] w fun e w' => e = .returned (.bool (hdOk s.data.toList n)) ∧ Blk w' g 55 #[.string (bstr (hdX s.data.toList).1), vE, vR, vW, vH, vS, .int .i64 (hdZ s.data.toList n).1, vC, vT] ∧ w.grownBy w' (some g) := by
 have HRY := hid hRd;have HB1 := hid (RB.start (s := s) hg hg3);have hle := HB1.out.len;have hhd := Ar.Bn Ar.headW (s.data.toList, false);have htx := Ar.BY (Ar.eat Ar.headW (s.data.toList, false));have hha := (Ar.Dl Ar.nextW (hdX s.data.toList).2).1;have hnu := Ar.Bd (Ar.has Ar.nextW (hdX s.data.toList).2).2;have hid1 : (hdX s.data.toList).1.length ≤ 100000 := by
  have : (Ar.rtext (Ar.eat Ar.headW (s.data.toList, false))).1.length ≤ (Ar.eat Ar.headW (s.data.toList, false)).1.length := Ar.rtext_b.good _;have h2 : (hdX s.data.toList).1.length ≤ (Ar.eat Ar.headW (s.data.toList, false)).1.length := this;have h3 : s.data.toList.length ≤ s.size := hle;have h4 : (Ar.eat Ar.headW (s.data.toList, false)).1.length ≤ s.data.toList.length := hhd;omega
 have HEAT := hid (BK w.heap.size ⟨#[114, 111, 111, 109, 32]⟩ _ _ HB1.out.rd (by omega));have HS := hid hs;clear hg hRd;go_enter Tryz.func76, Tryz.ntmps76;go_wp2_with fail;refine HEAT.out.mono ?_;rintro e w2 ⟨rfl, hr2, hg2⟩;have HB2 := hid (HB1.out.call hr2 hg2 hhd);have hl2 := HB2.out.len;clear hr2 hg2;go_wp2_with fail;refine (Dp w.heap.size _ _ HB2.out.rd (by omega)).mono ?_;rintro e w3 ⟨rfl, hr3, hg3'⟩;have HB3 := hid (HB2.out.call hr3 hg3' htx);clear hr3 hg3';have hf3 := HB3.out.room.frozen 0;have hc3 := HB3.out.room.cell 0;rw [show (#[.string id, vE, vR, vW, vH, vS, .int .i64 n, vC, vT] : Array Value)[0]? = some (.string id) from rfl] at hc3;have HB4 := hid (HB3.out.set 0 (.string (bstr (hdX s.data.toList).1)));rw [show (#[.string id, vE, vR, vW, vH, vS, .int .i64 n, vC, vT] : Array Value).setIfInBounds 0 (.string (bstr (hdX s.data.toList).1)) = #[.string (bstr (hdX s.data.toList).1), vE, vR, vW, vH, vS, .int .i64 n, vC, vT] from rfl] at HB4;change Hid (RB w (w3.setCell ⟨g, 0, none⟩ (.string (bstr (hdX s.data.toList).1))) g s.size (hdX s.data.toList).2 _) at HB4;rw [show (Ar.rtext (Ar.eat (⟨#[114, 111, 111, 109, 32]⟩ : ByteArray).data.toList (s.data.toList, false))).1 = (hdX s.data.toList).1 from rfl];go_wp2_with fail;refine (FG w.heap.size _ _ _ HB4.out.rd (by have := HB4.out.len; omega)).mono ?_;rintro e w5 ⟨rfl, hr5, hg5⟩;rw [show (⟨#[32, 110, 101, 120, 116, 61]⟩ : ByteArray).data.toList = Ar.nextW from rfl] at hr5 ⊢;have HB5 := hid (HB4.out.call hr5 hg5 hha);clear hr5 hg5 hf3 hc3;by_cases hh : (Ar.has Ar.nextW (hdX s.data.toList).2).1 = true
 ·have hz : hdZ s.data.toList n = Ar.rnum (Ar.has Ar.nextW (hdX s.data.toList).2).2 := if_pos hh;have HZR : Hid (Ar.inInt (hdZ s.data.toList n).1) := hid (by rw [hz]; exact Ar.rnum_b.good _);rw [hh];go_wp2_with fail;refine (Be w.heap.size _ _ HB5.out.rd (by have := HB5.out.len; omega) (HB5.out.ready HRY.out)).mono ?_;rintro e w6 ⟨rfl, hr6, hg6⟩;have HB6 := hid (HB5.out.call hr6 hg6 hnu);clear hr6 hg6;rw [← hz] at HB6 ⊢;have hf6 := HB6.out.room.frozen 6;have hc6 := HB6.out.room.cell 6;rw [show (#[.string (bstr (hdX s.data.toList).1), vE, vR, vW, vH, vS, .int .i64 n, vC, vT] : Array Value)[6]? = some (.int .i64 n) from rfl] at hc6;have HB7 := hid (HB6.out.set 6 (.int .i64 (hdZ s.data.toList n).1));rw [show (#[.string (bstr (hdX s.data.toList).1), vE, vR, vW, vH, vS, .int .i64 n, vC, vT] : Array Value).setIfInBounds 6 (.int .i64 (hdZ s.data.toList n).1) = #[.string (bstr (hdX s.data.toList).1), vE, vR, vW, vH, vS, .int .i64 (hdZ s.data.toList n).1, vC, vT] from rfl] at HB7;generalize hw7 : w6.setCell ⟨g, 6, none⟩ (.int .i64 (hdZ s.data.toList n).1) = w7 at *;clear hh hz;have hb6 := HB7.out.rd.c1;have HK6 := hid HB7.out.room;have HQ := hid (fun W => ED (hdX s.data.toList).1 vE vR vW vH vS (hdZ s.data.toList n).1 vC vT W (by omega) HZR.out);have hcmp : ((bstr (Ar.As (hdX s.data.toList).1 (hdZ s.data.toList n).1)).toList == s.toList) = (Ar.As (hdX s.data.toList).1 (hdZ s.data.toList n).1 == s.data.toList) := by rw [Lib.toList_data s]; exact Ay _ _
  have HEX : Hid (∀ W, Below w7.heap.size w7 W → Blk W g 55 #[.string (bstr (hdX s.data.toList).1), vE, vR, vW, vH, vS, .int .i64 (hdZ s.data.toList n).1, vC, vT] ∧ w.grownBy W (some g)) := hid (fun W hW => ⟨(HB7.out.below hW).room, (HB7.out.below hW).grow⟩);by_cases hbad : (hdZ s.data.toList n).2.2 = true
  ·have HO : Hid (hdOk s.data.toList n = false) := hid (by unfold hdOk; rw [hbad]; exact decide_eq_false (fun h => by cases h.1));rw [hbad] at hb6;clear hcmp hbad;go_wp2_with fail;go_ret;exact ⟨AL HO.out.symm, HEX.out _ (Below.refl _ _)⟩
  ·have hbad' : (hdZ s.data.toList n).2.2 = false := by simpa using hbad
   have HO : Hid (hdOk s.data.toList n = (Ar.As (hdX s.data.toList).1 (hdZ s.data.toList n).1 == s.data.toList)) := hid (by
    unfold hdOk;rw [hbad'];by_cases he : Ar.As (hdX s.data.toList).1 (hdZ s.data.toList n).1 = s.data.toList
    ·rw [decide_eq_true ⟨rfl, he⟩, he, beq_self_eq_true]
    ·rw [decide_eq_false (fun h => he h.2)]
     exact (beq_eq_false_iff_ne.2 he).symm)
   rw [hbad'] at hb6;clear hbad hbad';generalize Ar.As (hdX s.data.toList).1 (hdZ s.data.toList n).1 = H at *;go_wp2_with (refine B0 (by rfl) 55 _ rfl g rfl 55 #[.string (bstr (hdX s.data.toList).1), vE, vR, vW, vH, vS, .int .i64 (hdZ s.data.toList n).1, vC, vT] (0, 0) _ (by rfl) HK6.out Tryz.underlying55 (by kernel_rfl) ?_);refine (HQ.out _).mono ?_;rintro e w9 ⟨rfl, hb9⟩;have HEX9 := hid (HEX.out _ hb9);clear hb9
   cases hcv : (H == s.data.toList) with
   | true =>
    rw [hcv] at hcmp HO;generalize bstr H = SH at *;go_wp2_with fail;go_ret;exact ⟨AL HO.out.symm, HEX9.out⟩
   | false =>
    rw [hcv] at hcmp HO;generalize bstr H = SH at *;go_wp2_with fail;go_ret;exact ⟨AL HO.out.symm, HEX9.out⟩
 ·have hh' : (Ar.has Ar.nextW (hdX s.data.toList).2).1 = false := by simpa using hh
  have hz : hdZ s.data.toList n = (n, (Ar.has Ar.nextW (hdX s.data.toList).2).2) := if_neg hh;have HZR : Hid (Ar.inInt (hdZ s.data.toList n).1) := hid (by rw [hz]; exact hn);have HB7 : Hid (RB w w5 g s.size (hdZ s.data.toList n).2 #[.string (bstr (hdX s.data.toList).1), vE, vR, vW, vH, vS, .int .i64 (hdZ s.data.toList n).1, vC, vT]) := hid (by rw [hz]; exact HB5.out);rw [hh'];clear hh hh' hz;have hb6 := HB7.out.rd.c1;have HK6 := hid HB7.out.room;have HQ := hid (fun W => ED (hdX s.data.toList).1 vE vR vW vH vS (hdZ s.data.toList n).1 vC vT W (by omega) HZR.out);have hcmp : ((bstr (Ar.As (hdX s.data.toList).1 (hdZ s.data.toList n).1)).toList == s.toList) = (Ar.As (hdX s.data.toList).1 (hdZ s.data.toList n).1 == s.data.toList) := by rw [Lib.toList_data s]; exact Ay _ _
  have HEX : Hid (∀ W, Below w5.heap.size w5 W → Blk W g 55 #[.string (bstr (hdX s.data.toList).1), vE, vR, vW, vH, vS, .int .i64 (hdZ s.data.toList n).1, vC, vT] ∧ w.grownBy W (some g)) := hid (fun W hW => ⟨(HB7.out.below hW).room, (HB7.out.below hW).grow⟩);by_cases hbad : (hdZ s.data.toList n).2.2 = true
  ·have HO : Hid (hdOk s.data.toList n = false) := hid (by unfold hdOk; rw [hbad]; exact decide_eq_false (fun h => by cases h.1));rw [hbad] at hb6;clear hcmp hbad;go_wp2_with fail;go_ret;exact ⟨AL HO.out.symm, HEX.out _ (Below.refl _ _)⟩
  ·have hbad' : (hdZ s.data.toList n).2.2 = false := by simpa using hbad
   have HO : Hid (hdOk s.data.toList n = (Ar.As (hdX s.data.toList).1 (hdZ s.data.toList n).1 == s.data.toList)) := hid (by
    unfold hdOk;rw [hbad'];by_cases he : Ar.As (hdX s.data.toList).1 (hdZ s.data.toList n).1 = s.data.toList
    ·rw [decide_eq_true ⟨rfl, he⟩, he, beq_self_eq_true]
    ·rw [decide_eq_false (fun h => he h.2)]
     exact (beq_eq_false_iff_ne.2 he).symm)
   rw [hbad'] at hb6;clear hbad hbad';generalize Ar.As (hdX s.data.toList).1 (hdZ s.data.toList n).1 = H at *;go_wp2_with (refine B0 (by rfl) 55 _ rfl g rfl 55 #[.string (bstr (hdX s.data.toList).1), vE, vR, vW, vH, vS, .int .i64 (hdZ s.data.toList n).1, vC, vT] (0, 0) _ (by rfl) HK6.out Tryz.underlying55 (by kernel_rfl) ?_);refine (HQ.out _).mono ?_;rintro e w9 ⟨rfl, hb9⟩;have HEX9 := hid (HEX.out _ hb9);clear hb9
   cases hcv : (H == s.data.toList) with
   | true =>
    rw [hcv] at hcmp HO;generalize bstr H = SH at *;go_wp2_with fail;go_ret;exact ⟨AL HO.out.symm, HEX9.out⟩
   | false =>
    rw [hcv] at hcmp HO;generalize bstr H = SH at *;go_wp2_with fail;go_ret;exact ⟨AL HO.out.symm, HEX9.out⟩
theorem RB.out {W0 w : World} {g n : Nat} {r : Ar.RS} {cs : Array Value} (h : RB W0 w g n r cs) (b i : Nat) (v : Value) (hb : W0.heap.size < b) : RB W0 (w.setCell ⟨b, i, none⟩ v) g n r cs :=
 ⟨h.lt, h.g3, h.rd.keep (Az _ _ _ _) (by intro e; injection e with e; omega), h.room.far (show g ≠ b by have := h.lt; omega) v, ⟨h.grow.os, h.grow.tape, h.grow.output, by rw [World.size_setCell]; exact h.grow.size, fun k hk hne => ((Az w b i v).block k (Nat.lt_of_lt_of_le hk h.grow.size) (by intro e; injection e with e; omega)).trans (h.grow.block k hk hne)⟩, h.len⟩
theorem JY (w : World) (t : TypeId) (ys : List Value) (j : Nat) (u : Value) (h : ys[j]? = some u) : (w.alloc (.cells ys.toArray t)).cell? ⟨w.heap.size, j, none⟩ = some u := by
 rw [(Blk.new w t ys.toArray).cell j, List.getElem?_toArray];exact h
structure Ch (w w' : World) (g : Nat) (row : Option Nat) : Prop where
 os : w'.os = w.os
 tape : w'.tape = w.tape
 output : w'.output = w.output
 size : w.heap.size ≤ w'.heap.size
 block : ∀ k, k < w.heap.size → k ≠ g → some k ≠ row → w'.heap[k]? = w.heap[k]?
theorem Ch.of_grown {w w' : World} {g : Nat} {row : Option Nat} (h : w.grownBy w' (some g)) : Ch w w' g row := ⟨h.os, h.tape, h.output, h.size, fun k hk hne _ => h.block k hk (by intro e; injection e with e; exact hne e)⟩
theorem Ch.below {w w' w'' : World} {g : Nat} {row : Option Nat} (h : Ch w w' g row) (hb : Below w'.heap.size w' w'') : Ch w w'' g row := ⟨hb.os.trans h.os, hb.tape.trans h.tape, hb.output.trans h.output, Nat.le_trans h.size hb.size, fun k hk h1 h2 => (hb.block k (Nat.lt_of_lt_of_le hk h.size)).trans (h.block k hk h1 h2)⟩
theorem Ch.grown {w w' w'' : World} {g : Nat} {row : Option Nat} (h : Ch w w' g row) (hg : w'.grownBy w'' row) : Ch w w'' g row := ⟨hg.os.trans h.os, hg.tape.trans h.tape, hg.output.trans h.output, Nat.le_trans h.size hg.size, fun k hk h1 h2 => (hg.block k (Nat.lt_of_lt_of_le hk h.size) h2).trans (h.block k hk h1 h2)⟩
theorem Ch.set {w w' : World} {g : Nat} {row : Option Nat} (h : Ch w w' g row) (i : Nat) (v : Value) : Ch w (w'.setCell ⟨g, i, none⟩ v) g row := ⟨h.os, h.tape, h.output, by rw [World.size_setCell]; exact h.size, fun k hk h1 h2 => ((Az w' g i v).block k (Nat.lt_of_lt_of_le hk h.size) (by intro e; injection e with e; exact h1 e)).trans (h.block k hk h1 h2)⟩
def rwA (s : List UInt8) : Int × Ar.RS := Ar.rnum (Ar.eat Ar.rowW (s, false))
def rwB (s : List UInt8) : Int × Ar.RS := Ar.rnum (Ar.eat [32] (rwA s).2)
def rwC (s : List UInt8) : Int × Ar.RS := Ar.rnum (Ar.eat [32] (rwB s).2)
def rwD (s : List UInt8) : Bool × Ar.RS := Ar.has Ar.goneW (rwC s).2
def rwX (s : List UInt8) : Int × Int × Int × Bool := ((rwA s).1, (rwB s).1, (rwC s).1, (rwD s).1)
def rwOk (s : List UInt8) : Bool := decide ((rwD s).2.2 = false ∧ Ar.AK (rwX s) = s)
theorem Lr (s : ByteArray) (g : Nat) (c0 vE vR vW vH vS c6 vC vT : Value) (m : Nat) (xs : List Value) (w : World) (hs : s.size ≤ 100000) (hRd : Ready w) (hg : Blk w g 55 #[c0, vE, vR, vW, vH, vS, c6, vC, vT]) (hg3 : 3 ≤ g) (ho : w.ownsRow (g + 1) 114 4 vR m xs) (hm : m ≤ 1000000) :
  Calls Tryz.prog 139 #[.string s, .pointer (some ⟨g, 0, none⟩)] w fun e w' => e = .returned (.bool (rwOk s.data.toList)) ∧ ∃ vR', Blk w' g 55 #[c0, vE, vR', vW, vH, vS, c6, vC, vT] ∧ w'.ownsRow (g + 1) 114 4 vR' (m + 1) (xs ++ rowC (rwX s.data.toList)) ∧ Ch w w' g vR.ownBlock ∧ (vR'.ownBlock = vR.ownBlock ∨ ∃ k, w.heap.size ≤ k ∧ vR'.ownBlock = some k) := by
 have HRY := hid hRd;have HOWN := hid ho;obtain ⟨AR, cR, rfl⟩ := Ax ho;have HB1 := hid (RB.start (s := s) hg hg3);have hle : s.data.toList.length ≤ s.size := HB1.out.len;have hl1 := Ar.Bn Ar.rowW (s.data.toList, false);have hl2 : (rwA s.data.toList).2.1.length ≤ _ := Ar.Bd (Ar.eat Ar.rowW (s.data.toList, false));have hl3 := Ar.Bn [32] (rwA s.data.toList).2;have hl4 : (rwB s.data.toList).2.1.length ≤ _ := Ar.Bd (Ar.eat [32] (rwA s.data.toList).2);have hl5 := Ar.Bn [32] (rwB s.data.toList).2;have hl6 : (rwC s.data.toList).2.1.length ≤ _ := Ar.Bd (Ar.eat [32] (rwB s.data.toList).2);have hl7 := (Ar.Dl Ar.goneW (rwC s.data.toList).2).1;have hoo := ho.lt;have HLT : Hid (∀ k, (Value.slice AR m cR).ownBlock = some k → g + 1 ≤ k ∧ k < w.heap.size) := hid hoo;clear hoo ho hg hRd;go_enter Tryz.func139, Tryz.ntmps139;go_wp2_with fail;refine (BK w.heap.size _ _ _ HB1.out.rd (by simp only; omega)).mono ?_;rintro e w2 ⟨rfl, hr2, hg2⟩;rw [show (⟨#[114, 111, 119, 32]⟩ : ByteArray).data.toList = Ar.rowW from rfl] at hr2;have HB2 := hid ((HB1.out.call hr2 hg2 hl1).below ((Below.refl _ _).alloc (Nat.le_refl _) (.cells #[.int .i64 0, .int .i64 0, .int .i64 0, .bool false] 114)));have hB : w.heap.size < w2.heap.size := hr2.lt;have HK2 := hid (Blk.new w2 114 #[.int .i64 0, .int .i64 0, .int .i64 0, .bool false]);clear hr2 hg2;go_wp2_with fail;refine (Be w.heap.size _ _ HB2.out.rd (by have := HB2.out.len; omega) (HB2.out.ready HRY.out)).mono ?_;rintro e w3 ⟨rfl, hr3, hg3'⟩;have HK3 := hid (HK2.out.grown hg3' (by intro e; injection e with e; omega));have HB3 := hid ((HB2.out.call hr3 hg3' hl2).out w2.heap.size 0 (.int .i64 (rwA s.data.toList).1) hB);clear hr3 hg3';change Hid (RB w _ g s.size (rwA s.data.toList).2 _) at HB3;rw [show (Ar.rnum (Ar.eat Ar.rowW (s.data.toList, false))).1 = (rwA s.data.toList).1 from rfl];have hf3 := HK3.out.frozen 0;have hc3 := HK3.out.cell 0;rw [show (#[.int .i64 0, .int .i64 0, .int .i64 0, .bool false] : Array Value)[0]? = some (.int .i64 0) from rfl] at hc3;have HK4 := hid (HK3.out.set_ 0 (.int .i64 (rwA s.data.toList).1));rw [show (#[.int .i64 0, .int .i64 0, .int .i64 0, .bool false] : Array Value).setIfInBounds 0 (.int .i64 (rwA s.data.toList).1) = #[.int .i64 (rwA s.data.toList).1, .int .i64 0, .int .i64 0, .bool false] from rfl] at HK4;go_wp2_with fail;refine (BK w.heap.size _ _ _ HB3.out.rd (by have := HB3.out.len; omega)).mono ?_;rintro e wa5 ⟨rfl, hra5, hga5⟩;rw [show (⟨#[32]⟩ : ByteArray).data.toList = [32] from rfl] at hra5;have HBa5 := hid (HB3.out.call hra5 hga5 hl3);have HKa5 := hid (HK4.out.grown hga5 (by intro e; injection e with e; omega));clear hra5 hga5;go_wp2_with fail;refine (Be w.heap.size _ _ HBa5.out.rd (by have := HBa5.out.len; omega) (HBa5.out.ready HRY.out)).mono ?_;rintro e wb5 ⟨rfl, hrb5, hgb5⟩;have HKb5 := hid (HKa5.out.grown hgb5 (by intro e; injection e with e; omega));have HBb5 := hid ((HBa5.out.call hrb5 hgb5 hl4).out w2.heap.size 1 (.int .i64 (rwB s.data.toList).1) hB);clear hrb5 hgb5;change Hid (RB w _ g s.size (rwB s.data.toList).2 _) at HBb5;rw [show (Ar.rnum (Ar.eat [32] (rwA s.data.toList).2)).1 = (rwB s.data.toList).1 from rfl];have hfb5 := HKb5.out.frozen 1;have hcb5 := HKb5.out.cell 1;rw [show (#[.int .i64 (rwA s.data.toList).1, .int .i64 0, .int .i64 0, .bool false] : Array Value)[1]? = some (.int .i64 0) from rfl] at hcb5;have HKc5 := hid (HKb5.out.set_ 1 (.int .i64 (rwB s.data.toList).1));rw [show (#[.int .i64 (rwA s.data.toList).1, .int .i64 0, .int .i64 0, .bool false] : Array Value).setIfInBounds 1 (.int .i64 (rwB s.data.toList).1) = #[.int .i64 (rwA s.data.toList).1, .int .i64 (rwB s.data.toList).1, .int .i64 0, .bool false] from rfl] at HKc5;go_wp2_with fail;refine (BK w.heap.size _ _ _ HBb5.out.rd (by have := HBb5.out.len; omega)).mono ?_;rintro e wa6 ⟨rfl, hra6, hga6⟩;rw [show (⟨#[32]⟩ : ByteArray).data.toList = [32] from rfl] at hra6;have HBa6 := hid (HBb5.out.call hra6 hga6 hl5);have HKa6 := hid (HKc5.out.grown hga6 (by intro e; injection e with e; omega));clear hra6 hga6;go_wp2_with fail;refine (Be w.heap.size _ _ HBa6.out.rd (by have := HBa6.out.len; omega) (HBa6.out.ready HRY.out)).mono ?_;rintro e wb6 ⟨rfl, hrb6, hgb6⟩;have HKb6 := hid (HKa6.out.grown hgb6 (by intro e; injection e with e; omega));have HBb6 := hid ((HBa6.out.call hrb6 hgb6 hl6).out w2.heap.size 2 (.int .i64 (rwC s.data.toList).1) hB);clear hrb6 hgb6;change Hid (RB w _ g s.size (rwC s.data.toList).2 _) at HBb6;rw [show (Ar.rnum (Ar.eat [32] (rwB s.data.toList).2)).1 = (rwC s.data.toList).1 from rfl];have hfb6 := HKb6.out.frozen 2;have hcb6 := HKb6.out.cell 2;rw [show (#[.int .i64 (rwA s.data.toList).1, .int .i64 (rwB s.data.toList).1, .int .i64 0, .bool false] : Array Value)[2]? = some (.int .i64 0) from rfl] at hcb6;have HKc6 := hid (HKb6.out.set_ 2 (.int .i64 (rwC s.data.toList).1));rw [show (#[.int .i64 (rwA s.data.toList).1, .int .i64 (rwB s.data.toList).1, .int .i64 0, .bool false] : Array Value).setIfInBounds 2 (.int .i64 (rwC s.data.toList).1) = #[.int .i64 (rwA s.data.toList).1, .int .i64 (rwB s.data.toList).1, .int .i64 (rwC s.data.toList).1, .bool false] from rfl] at HKc6;go_wp2_with fail;refine (FG w.heap.size _ _ _ HBb6.out.rd (by have := HBb6.out.len; omega)).mono ?_;rintro e w7 ⟨rfl, hr7, hg7⟩;rw [show (⟨#[32, 103, 111, 110, 101]⟩ : ByteArray).data.toList = Ar.goneW from rfl] at hr7 ⊢;have HK7 := hid (HKc6.out.grown hg7 (by intro e; injection e with e; omega));have HB7 := hid ((HBb6.out.call hr7 hg7 hl7).out w2.heap.size 3 (.bool (rwD s.data.toList).1) hB);clear hr7 hg7;change Hid (RB w _ g s.size (rwD s.data.toList).2 _) at HB7;rw [show (Ar.has Ar.goneW (rwC s.data.toList).2).1 = (rwD s.data.toList).1 from rfl];have hf7 := HK7.out.frozen 3;have hc7 := HK7.out.cell 3;rw [show (#[.int .i64 (rwA s.data.toList).1, .int .i64 (rwB s.data.toList).1, .int .i64 (rwC s.data.toList).1, .bool false] : Array Value)[3]? = some (.bool false) from rfl] at hc7;have HK8 := hid (HK7.out.set_ 3 (.bool (rwD s.data.toList).1));rw [show (#[.int .i64 (rwA s.data.toList).1, .int .i64 (rwB s.data.toList).1, .int .i64 (rwC s.data.toList).1, .bool false] : Array Value).setIfInBounds 3 (.bool (rwD s.data.toList).1) = #[.int .i64 (rwA s.data.toList).1, .int .i64 (rwB s.data.toList).1, .int .i64 (rwC s.data.toList).1, .bool (rwD s.data.toList).1] from rfl] at HK8;have HX : Hid (rwX s.data.toList = ((rwA s.data.toList).1, (rwB s.data.toList).1, (rwC s.data.toList).1, (rwD s.data.toList).1)) := hid rfl;have HIA : Hid (Ar.inInt (rwA s.data.toList).1) := hid (Ar.rnum_b.good _);have HIB : Hid (Ar.inInt (rwB s.data.toList).1) := hid (Ar.rnum_b.good _);have HIC : Hid (Ar.inInt (rwC s.data.toList).1) := hid (Ar.rnum_b.good _);have HOK : Hid (rwOk s.data.toList = decide ((rwD s.data.toList).2.2 = false ∧ Ar.AK (rwX s.data.toList) = s.data.toList)) := hid rfl;go_wp2_with fail;generalize hw8 : w7.setCell ⟨w2.heap.size, 3, none⟩ (.bool (rwD s.data.toList).1) = w8 at *;clear hf7 hc7 hfb5 hcb5 hfb6 hcb6 hf3 hc3 hl1 hl2 hl3 hl4 hl5 hl6 hl7 hw8;generalize (rwA s.data.toList).1 = xa at *;generalize (rwB s.data.toList).1 = xb at *;generalize (rwC s.data.toList).1 = xc at *;generalize (rwD s.data.toList).1 = xd at *;have hcg := HB7.out.room.drew.cell 2;rw [show (#[c0, vE, .slice AR m cR, vW, vH, vS, c6, vC, vT] : Array Value)[2]? = some (.slice AR m cR) from rfl] at hcg;have hcg2 := (HB7.out.room.alloc (.cells #[.int .i64 xa, .int .i64 xb, .int .i64 xc, .bool xd] 114)).cell 2;rw [show (#[c0, vE, .slice AR m cR, vW, vH, vS, c6, vC, vT] : Array Value)[2]? = some (.slice AR m cR) from rfl] at hcg2;have hk0 := HK8.out.drew.cell 0;have hk1 := HK8.out.drew.cell 1;have hk2 := HK8.out.drew.cell 2;have hk3 := HK8.out.drew.cell 3;rw [show (#[.int .i64 xa, .int .i64 xb, .int .i64 xc, .bool xd] : Array Value)[0]? = some (.int .i64 xa) from rfl] at hk0;rw [show (#[.int .i64 xa, .int .i64 xb, .int .i64 xc, .bool xd] : Array Value)[1]? = some (.int .i64 xb) from rfl] at hk1;rw [show (#[.int .i64 xa, .int .i64 xb, .int .i64 xc, .bool xd] : Array Value)[2]? = some (.int .i64 xc) from rfl] at hk2;rw [show (#[.int .i64 xa, .int .i64 xb, .int .i64 xc, .bool xd] : Array Value)[3]? = some (.bool xd) from rfl] at hk3;have HOW8 : Hid (w8.ownsRow (g + 1) 114 4 (.slice AR m cR) m xs) := hid (HOWN.out.kept HB7.out.grow (.inr (by intro e; have := (HLT.out g e).1; omega)));have hs8 := HB7.out.grow.size;have hgl := HB7.out.lt
 go_region_law (first
  | (refine DD Qb rfl _ _ rfl (w8.drew.alloc (.cells #[.int .i64 xa, .int .i64 xb, .int .i64 xc, .bool xd] 114)) (.slice AR m cR) m xs [.int .i64 xa, .int .i64 xb, .int .i64 xc, .bool xd] (g + 1) ?_ (HOW8.out.drew.alloc _) w8.heap.size 1 1 ?_ rfl (by simp [Value.oneCell']) (fun j u hu => JY w8.drew _ [.int .i64 xa, .int .i64 xb, .int .i64 xc, .bool xd] j u hu) (by rw [World.size_alloc]; show g + 1 ≤ w8.heap.size + 1; omega) (by omega) ?_; kernel_rfl; kernel_rfl; intro v9 w9 ho9 hg9 hb9 hwh9; obtain ⟨A9, c9, rfl⟩ := Ax ho9; have hkg9 := (HB7.out.room.drew.alloc (.cells #[.int .i64 xa, .int .i64 xb, .int .i64 xc, .bool xd] 114)).grown hg9 (by intro e; have := (HLT.out g e.symm).1; omega); have hf9 := hkg9.frozen 2; have hc9 := hkg9.cell 2; rw [show (#[c0, vE, .slice AR m cR, vW, vH, vS, c6, vC, vT] : Array Value)[2]? = some (.slice AR m cR) from rfl] at hc9))
 all_goals
  have HLB : Hid (∀ k, w.heap.size ≤ k → some k ≠ (Value.slice AR m cR).ownBlock) := hid (fun k hk e => by have := (HLT.out k e.symm).2; omega);have HRD9 : Hid (RdS (w9.setCell ⟨g, 2, none⟩ (.slice A9 (m + 1) c9)) w.heap.size (rwD s.data.toList).2) := hid (((HB7.out.rd.drew.alloc (.cells #[.int .i64 xa, .int .i64 xb, .int .i64 xc, .bool xd] 114)).grown hg9 (HLB.out _ (Nat.le_refl _))).far (show w.heap.size ≠ g by omega) _);have HKR9 : Hid (Blk (w9.setCell ⟨g, 2, none⟩ (.slice A9 (m + 1) c9)) w2.heap.size 114 #[.int .i64 xa, .int .i64 xb, .int .i64 xc, .bool xd]) := hid (((HK8.out.drew.alloc (.cells #[.int .i64 xa, .int .i64 xb, .int .i64 xc, .bool xd] 114)).grown hg9 (HLB.out _ (by omega))).far (show w2.heap.size ≠ g by omega) _);have HKG9 := hid (hkg9.set_ 2 (.slice A9 (m + 1) c9));rw [show (#[c0, vE, .slice AR m cR, vW, vH, vS, c6, vC, vT] : Array Value).setIfInBounds 2 (.slice A9 (m + 1) c9) = #[c0, vE, .slice A9 (m + 1) c9, vW, vH, vS, c6, vC, vT] from rfl] at HKG9;have HOW9 : Hid ((w9.setCell ⟨g, 2, none⟩ (.slice A9 (m + 1) c9)).ownsRow (g + 1) 114 4 (.slice A9 (m + 1) c9) (m + 1) (xs ++ rowC (rwX s.data.toList))) := hid (by rw [HX.out]; exact CQ ho9 (Nat.lt_succ_self _));have HCH9 : Hid (Ch w (w9.setCell ⟨g, 2, none⟩ (.slice A9 (m + 1) c9)) g (Value.slice AR m cR).ownBlock) := hid ((((Ch.of_grown HB7.out.grow).below (((Below.refl w8.heap.size w8).drew).alloc (Nat.le_refl _) (.cells #[.int .i64 xa, .int .i64 xb, .int .i64 xc, .bool xd] 114))).grown hg9).set 2 _)
  have HWH9 : Hid ((Value.slice A9 (m + 1) c9).ownBlock = (Value.slice AR m cR).ownBlock ∨ ∃ k, w.heap.size ≤ k ∧ (Value.slice A9 (m + 1) c9).ownBlock = some k) := hid (by
   rcases hwh9 with h | h
   ·exact .inl h
   ·exact .inr ⟨_, by rw [World.size_alloc]; exact Nat.le_succ_of_le hs8, h⟩)
  have HFIN : Hid (∀ W, Below (w9.setCell ⟨g, 2, none⟩ (.slice A9 (m + 1) c9)).heap.size (w9.setCell ⟨g, 2, none⟩ (.slice A9 (m + 1) c9)) W → ∃ vR', Blk W g 55 #[c0, vE, vR', vW, vH, vS, c6, vC, vT] ∧ W.ownsRow (g + 1) 114 4 vR' (m + 1) (xs ++ rowC (rwX s.data.toList)) ∧ Ch w W g (Value.slice AR m cR).ownBlock ∧ (vR'.ownBlock = (Value.slice AR m cR).ownBlock ∨ ∃ k, w.heap.size ≤ k ∧ vR'.ownBlock = some k)) := hid (fun W hW => ⟨_, HKG9.out.below hW HKG9.out.lt, AQ HOW9.out hW (Nat.le_refl _), HCH9.out.below hW, HWH9.out⟩);clear hkg9 hf9 hc9 ho9 hg9 hb9 hwh9 hcg hcg2 hk0 hk1 hk2 hk3;generalize hW9 : w9.setCell ⟨g, 2, none⟩ (.slice A9 (m + 1) c9) = W9 at *;have hb6 := HRD9.out.c1;have hr0 := HKR9.out.cell 0;have hr1 := HKR9.out.cell 1;have hr2 := HKR9.out.cell 2;have hr3 := HKR9.out.cell 3;rw [show (#[.int .i64 xa, .int .i64 xb, .int .i64 xc, .bool xd] : Array Value)[0]? = some (.int .i64 xa) from rfl] at hr0;rw [show (#[.int .i64 xa, .int .i64 xb, .int .i64 xc, .bool xd] : Array Value)[1]? = some (.int .i64 xb) from rfl] at hr1;rw [show (#[.int .i64 xa, .int .i64 xb, .int .i64 xc, .bool xd] : Array Value)[2]? = some (.int .i64 xc) from rfl] at hr2;rw [show (#[.int .i64 xa, .int .i64 xb, .int .i64 xc, .bool xd] : Array Value)[3]? = some (.bool xd) from rfl] at hr3;have HQ := hid (fun W => Hk xa xb xc xd W HIA.out HIB.out HIC.out);have hcmp : ((bstr (Ar.AK (xa, xb, xc, xd))).toList == s.toList) = (Ar.AK (xa, xb, xc, xd) == s.data.toList) := by rw [Lib.toList_data s]; exact Ay _ _
  by_cases hbad : (rwD s.data.toList).2.2 = true
  ·have HO : Hid (rwOk s.data.toList = false) := hid (by rw [HOK.out, hbad]; exact decide_eq_false (fun h => by cases h.1));rw [hbad] at hb6;clear hcmp hbad;go_wp2_with fail;go_ret;exact ⟨AL HO.out.symm, HFIN.out _ (Below.refl _ _)⟩
  ·have hbad' : (rwD s.data.toList).2.2 = false := by simpa using hbad
   have HO : Hid (rwOk s.data.toList = (Ar.AK (xa, xb, xc, xd) == s.data.toList)) := hid (by
    rw [HOK.out, hbad', HX.out];by_cases he : Ar.AK (xa, xb, xc, xd) = s.data.toList
    ·rw [decide_eq_true ⟨rfl, he⟩, he, beq_self_eq_true]
    ·rw [decide_eq_false (fun h => he h.2)]
     exact (beq_eq_false_iff_ne.2 he).symm)
   rw [hbad'] at hb6;clear hbad hbad';generalize Ar.AK (xa, xb, xc, xd) = H at *;go_wp2_with fail;refine (HQ.out _).mono ?_;rintro e wz ⟨rfl, hbz⟩;have HEX9 := hid (HFIN.out _ hbz);clear hbz
   cases hcv : (H == s.data.toList) with
   | true =>
    rw [hcv] at hcmp HO;generalize bstr H = SH at *;go_wp2_with fail;go_ret;exact ⟨AL HO.out.symm, HEX9.out⟩
   | false =>
    rw [hcv] at hcmp HO;generalize bstr H = SH at *;go_wp2_with fail;go_ret;exact ⟨AL HO.out.symm, HEX9.out⟩
end Go.Proofs.YteadlcncnhbmjaaGreatDoor
