/- The texts Lo, Lx of this proof, one behind the other. -/
import Derived.Deep.MidRow
import Derived.Test.YtacjhbbieeliaaaGreatDoorMbf
set_option linter.unusedSimpArgs false
set_option maxHeartbeats 16000000
set_option maxRecDepth 100000
set_option linter.unusedVariables false
/- The text Lo. -/
namespace Go.Proofs.YtacjhbbieeliaaaGreatDoor
open Go.RowKit Go.Lib
set_option linter.unusedVariables false
set_option linter.unusedSimpArgs false
theorem Rd.str_at {w : World} {A : Option Addr} {xs : List (List UInt8)} (h : Rd w A xs.length (strL xs)) {k : Nat} (hk : k < xs.length) : ∃ b off x, A = some ⟨b, off, none⟩ ∧ xs[k]? = some x ∧ w.cell? ⟨b, off + k, none⟩ = some (.string (bstr x)) := by
 obtain ⟨b, off, e, h2⟩ := h.2 k (.string (bstr xs[k])) (by unfold strL; rw [List.getElem?_map, List.getElem?_eq_getElem hk]; rfl)
 exact ⟨b, off, xs[k], e, List.getElem?_eq_getElem hk, h2⟩
theorem Rd.usr_at {w : World} {A : Option Addr} {xs : List (List UInt8 × Int)} (h : Rd w A (xs.length * 2) (usrL xs)) {k : Nat} (hk : k < xs.length) : ∃ b off x, A = some ⟨b, off, none⟩ ∧ xs[k]? = some x ∧ w.cell? ⟨b, off + k * 2, none⟩ = some (.string (bstr x.1)) ∧ w.cell? ⟨b, off + k * 2 + 1, none⟩ = some (.int .i64 x.2) := by
 have hx := List.getElem?_eq_getElem hk
 have h0 := pair_at (f := fun p : List UInt8 × Int => [Value.string (bstr p.1), .int .i64 p.2]) (fun _ => rfl) (j := 0) hx (by omega)
 have h1 := pair_at (f := fun p : List UInt8 × Int => [Value.string (bstr p.1), .int .i64 p.2]) (fun _ => rfl) (j := 1) hx (by omega)
 obtain ⟨b, off, e, h2⟩ := h.2 _ _ h0
 obtain ⟨b', off', e', h3⟩ := h.2 _ _ h1
 rw [e] at e'
 injection e' with e'
 injection e' with e1 e2 e3
 subst e1 e2
 exact ⟨b, off, xs[k], e, hx, h2, by rw [Nat.add_assoc]; exact h3⟩
theorem load_row_w {ops : Array Oper} {rest : List Oper} {o : Oper} {a : Act} {w : World} {Q : Exit → Act → World → Prop} (hw : Region.wanted o (yielded ops a.tmps) = true) (ty : TypeId) (x : Operand) (ho : o.op = .load ty x)
  (g : Nat) (hx : a.eval x = .pointer (some ⟨g, 0, none⟩)) (t : TypeId) (cs : Array Value) (fr : Nat × Nat) (d : TypeDesc) (hd : (match d with | .struct _ | .array _ _ => true | _ => false) = true) (hg : w.heap[g]? = some (.cells cs t fr))
  (hu : Tryz.prog.underlying ty = some d) (hi : (Tryz.prog.info? ty).map (·.size) = some cs.size)
  (h : wpList Tryz.prog ops Q rest (a.put o.dst (.agg cs)) w) : wpList Tryz.prog ops Q (o :: rest) a w :=
 wpList_step fun K hK => by
  rw [if_pos hw]
  exact wp_load_row ty x ho g hx t cs fr d hg hu (by cases d <;> first | rfl | cases hd) hi (hK _ _ h)
def LongA (n8 n9 n15 n17 n18 s1 s2 : Nat) (e : Ending) : Prop := ∃ b, e = .returned (.bool b) ∧ (b = false → n8 ≤ 40 ∧ n9 ≤ 40 ∧ n15 ≤ 40 ∧ n17 ≤ 40 ∧ n18 ≤ 40 ∧ s1 ≤ 2000 ∧ s2 ≤ 2000)
structure EvX (w : World) (X : Array Value) (CL : List Value) (x1 x2 x5 x27 x10 x14 : ByteArray) (A8 A9 A15 A16 A17 A18 : Option Addr) (l8 l9 : List Int) (l15 l16 : List (List UInt8)) (l17 : List (List UInt8 × Int)) (l18 : List (Int × Int)) (c8 c9 c15 c16 c17 c18 : Nat) : Prop where
 size : X.size = 29
 len : CL.length = 16
 one : CL.toArray.all (·.oneCell') = true
 sub : ∀ j v, CL[j]? = some v → X[10 + j]? = some v
 f1 : X[1]? = some (.string x1)
 f2 : X[2]? = some (.string x2)
 f5 : X[5]? = some (.string x5)
 f8 : X[8]? = some (.slice A8 l8.length c8)
 f9 : X[9]? = some (.slice A9 l9.length c9)
 f27 : X[27]? = some (.string x27)
 g0 : CL[0]? = some (.string x10)
 g4 : CL[4]? = some (.string x14)
 g5 : CL[5]? = some (.slice A15 l15.length c15)
 g6 : CL[6]? = some (.slice A16 l16.length c16)
 g7 : CL[7]? = some (.slice A17 l17.length c17)
 g8 : CL[8]? = some (.slice A18 l18.length c18)
 r15 : Rd w A15 l15.length (strL l15)
 r16 : Rd w A16 l16.length (strL l16)
 r17 : Rd w A17 (l17.length * 2) (usrL l17)
theorem long_any (X : Array Value) (CL : List Value) (x1 x2 x5 x27 x10 x14 : ByteArray) (A8 A9 A15 A16 A17 A18 : Option Addr) (l8 l9 : List Int) (l15 l16 : List (List UInt8)) (l17 : List (List UInt8 × Int)) (l18 : List (Int × Int)) (c8 c9 c15 c16 c17 c18 : Nat) (w : World) (h : EvX w X CL x1 x2 x5 x27 x10 x14 A8 A9 A15 A16 A17 A18 l8 l9 l15 l16 l17 l18 c8 c9 c15 c16 c17 c18) : Calls Tryz.prog 5 #[.agg X] w fun e w' => LongA l8.length l9.length l15.length l17.length l18.length x1.size x2.size e ∧ Below w.heap.size w w' := by
 have hB0 := (Below.refl w.heap.size w).alloc (Nat.le_refl _) (.cells X 34)
 have HB0 := hid hB0
 have HK0 := hid (Blk.new w 34 X)
 have HS0 : Hid ((Tryz.prog.info? 34).map (·.size) = some X.size) := hid (by rw [size_ev, h.size])
 have HX := hid h
 clear h hB0
 generalize hw1 : w.alloc (.cells X 34) = w1 at *
 have HRG : Hid (w1.rangeAt w.heap.size 10 CL) := hid (fun j v hj => (HK0.out.cell (10 + j)).trans (HX.out.sub j v hj))
 have HSC : Hid ((Tryz.prog.info? 30).map (·.size) = some CL.length) := hid (by rw [HX.out.len]; kernel_rfl)
 have HSD : Hid ((Tryz.prog.info? 30).map (·.size) = some CL.toArray.size) := hid (by rw [List.size_toArray]; exact HSC.out)
 have HOC := hid HX.out.one
 have HZC : Hid (16 = CL.toArray.size) := hid (by rw [List.size_toArray, HX.out.len])
 by_cases c0 : 40 < l8.length
 ·have d0 : decide ((40 : Int) < (l8.length : Int)) = true := decide_eq_true (by omega)
  go_enter Tryz.func5, Tryz.ntmps5
  go_wp2_with (first
   | (refine load_row_w (by rfl) 34 _ rfl w.heap.size rfl 34 X (0, 0) _ (by rfl) HK4.out Tryz.underlying34 HS0.out ?_)
   | (refine wpList_load_row rfl 34 _ rfl w.heap.size rfl 34 X (0, 0) _ HK4.out Tryz.underlying34 rfl HS0.out ?_)
   | ((with_reducible refine wpList_load_mid rfl 30 _ rfl w.heap.size 10 ?_ CL _ HRG.out Tryz.underlying30 ?_ HSC.out ?_); rfl; rfl)
   | ((with_reducible refine wpList_store_row' rfl 30 _ _ rfl w1.heap.size CL.toArray ?_ ?_ 30 _ (Blk.new w1 30 _) HSD.out ?_ HOC.out ?_); rfl; rfl; exact HZC.out; intro w4 hk4 hs4 hbl4; have hz4 := ((Below.refl w1.heap.size w1).alloc (Nat.le_refl _) _).trans (hbl4 w1.heap.size (Nat.le_refl _)); have HB4 := hid (HB0.out.trans (hz4.mono HB0.out.size)); have HK4 := hid (HK0.out.below hz4 HK0.out.lt); have HC4 := hid hk4; clear hk4 hs4 hbl4 hz4; have f1 := (HK4.out.cell 1).trans HX.out.f1; have f2 := (HK4.out.cell 2).trans HX.out.f2; have f5 := (HK4.out.cell 5).trans HX.out.f5; have f8 := (HK4.out.cell 8).trans HX.out.f8; have f9 := (HK4.out.cell 9).trans HX.out.f9; have f27 := (HK4.out.cell 27).trans HX.out.f27; have g0 := (HC4.out.cell 0).trans (List.getElem?_toArray.trans HX.out.g0); have g4 := (HC4.out.cell 4).trans (List.getElem?_toArray.trans HX.out.g4); have g5 := (HC4.out.cell 5).trans (List.getElem?_toArray.trans HX.out.g5); have g6 := (HC4.out.cell 6).trans (List.getElem?_toArray.trans HX.out.g6); have g7 := (HC4.out.cell 7).trans (List.getElem?_toArray.trans HX.out.g7); have g8 := (HC4.out.cell 8).trans (List.getElem?_toArray.trans HX.out.g8)))
  go_ret
  exact ⟨⟨true, rfl, fun h => by cases h⟩, HB4.out⟩
 have d0 : decide ((40 : Int) < (l8.length : Int)) = false := decide_eq_false (by omega)
 by_cases c1 : 40 < l9.length
 ·have d1 : decide ((40 : Int) < (l9.length : Int)) = true := decide_eq_true (by omega)
  go_enter Tryz.func5, Tryz.ntmps5
  go_wp2_with (first
   | (refine load_row_w (by rfl) 34 _ rfl w.heap.size rfl 34 X (0, 0) _ (by rfl) HK4.out Tryz.underlying34 HS0.out ?_)
   | (refine wpList_load_row rfl 34 _ rfl w.heap.size rfl 34 X (0, 0) _ HK4.out Tryz.underlying34 rfl HS0.out ?_)
   | ((with_reducible refine wpList_load_mid rfl 30 _ rfl w.heap.size 10 ?_ CL _ HRG.out Tryz.underlying30 ?_ HSC.out ?_); rfl; rfl)
   | ((with_reducible refine wpList_store_row' rfl 30 _ _ rfl w1.heap.size CL.toArray ?_ ?_ 30 _ (Blk.new w1 30 _) HSD.out ?_ HOC.out ?_); rfl; rfl; exact HZC.out; intro w4 hk4 hs4 hbl4; have hz4 := ((Below.refl w1.heap.size w1).alloc (Nat.le_refl _) _).trans (hbl4 w1.heap.size (Nat.le_refl _)); have HB4 := hid (HB0.out.trans (hz4.mono HB0.out.size)); have HK4 := hid (HK0.out.below hz4 HK0.out.lt); have HC4 := hid hk4; clear hk4 hs4 hbl4 hz4; have f1 := (HK4.out.cell 1).trans HX.out.f1; have f2 := (HK4.out.cell 2).trans HX.out.f2; have f5 := (HK4.out.cell 5).trans HX.out.f5; have f8 := (HK4.out.cell 8).trans HX.out.f8; have f9 := (HK4.out.cell 9).trans HX.out.f9; have f27 := (HK4.out.cell 27).trans HX.out.f27; have g0 := (HC4.out.cell 0).trans (List.getElem?_toArray.trans HX.out.g0); have g4 := (HC4.out.cell 4).trans (List.getElem?_toArray.trans HX.out.g4); have g5 := (HC4.out.cell 5).trans (List.getElem?_toArray.trans HX.out.g5); have g6 := (HC4.out.cell 6).trans (List.getElem?_toArray.trans HX.out.g6); have g7 := (HC4.out.cell 7).trans (List.getElem?_toArray.trans HX.out.g7); have g8 := (HC4.out.cell 8).trans (List.getElem?_toArray.trans HX.out.g8)))
  go_ret
  exact ⟨⟨true, rfl, fun h => by cases h⟩, HB4.out⟩
 have d1 : decide ((40 : Int) < (l9.length : Int)) = false := decide_eq_false (by omega)
 by_cases c2 : 40 < l15.length
 ·have d2 : decide ((40 : Int) < (l15.length : Int)) = true := decide_eq_true (by omega)
  go_enter Tryz.func5, Tryz.ntmps5
  go_wp2_with (first
   | (refine load_row_w (by rfl) 34 _ rfl w.heap.size rfl 34 X (0, 0) _ (by rfl) HK4.out Tryz.underlying34 HS0.out ?_)
   | (refine wpList_load_row rfl 34 _ rfl w.heap.size rfl 34 X (0, 0) _ HK4.out Tryz.underlying34 rfl HS0.out ?_)
   | ((with_reducible refine wpList_load_mid rfl 30 _ rfl w.heap.size 10 ?_ CL _ HRG.out Tryz.underlying30 ?_ HSC.out ?_); rfl; rfl)
   | ((with_reducible refine wpList_store_row' rfl 30 _ _ rfl w1.heap.size CL.toArray ?_ ?_ 30 _ (Blk.new w1 30 _) HSD.out ?_ HOC.out ?_); rfl; rfl; exact HZC.out; intro w4 hk4 hs4 hbl4; have hz4 := ((Below.refl w1.heap.size w1).alloc (Nat.le_refl _) _).trans (hbl4 w1.heap.size (Nat.le_refl _)); have HB4 := hid (HB0.out.trans (hz4.mono HB0.out.size)); have HK4 := hid (HK0.out.below hz4 HK0.out.lt); have HC4 := hid hk4; clear hk4 hs4 hbl4 hz4; have f1 := (HK4.out.cell 1).trans HX.out.f1; have f2 := (HK4.out.cell 2).trans HX.out.f2; have f5 := (HK4.out.cell 5).trans HX.out.f5; have f8 := (HK4.out.cell 8).trans HX.out.f8; have f9 := (HK4.out.cell 9).trans HX.out.f9; have f27 := (HK4.out.cell 27).trans HX.out.f27; have g0 := (HC4.out.cell 0).trans (List.getElem?_toArray.trans HX.out.g0); have g4 := (HC4.out.cell 4).trans (List.getElem?_toArray.trans HX.out.g4); have g5 := (HC4.out.cell 5).trans (List.getElem?_toArray.trans HX.out.g5); have g6 := (HC4.out.cell 6).trans (List.getElem?_toArray.trans HX.out.g6); have g7 := (HC4.out.cell 7).trans (List.getElem?_toArray.trans HX.out.g7); have g8 := (HC4.out.cell 8).trans (List.getElem?_toArray.trans HX.out.g8)))
  go_ret
  exact ⟨⟨true, rfl, fun h => by cases h⟩, HB4.out⟩
 have d2 : decide ((40 : Int) < (l15.length : Int)) = false := decide_eq_false (by omega)
 by_cases c3 : 40 < l16.length
 ·have d3 : decide ((40 : Int) < (l16.length : Int)) = true := decide_eq_true (by omega)
  go_enter Tryz.func5, Tryz.ntmps5
  go_wp2_with (first
   | (refine load_row_w (by rfl) 34 _ rfl w.heap.size rfl 34 X (0, 0) _ (by rfl) HK4.out Tryz.underlying34 HS0.out ?_)
   | (refine wpList_load_row rfl 34 _ rfl w.heap.size rfl 34 X (0, 0) _ HK4.out Tryz.underlying34 rfl HS0.out ?_)
   | ((with_reducible refine wpList_load_mid rfl 30 _ rfl w.heap.size 10 ?_ CL _ HRG.out Tryz.underlying30 ?_ HSC.out ?_); rfl; rfl)
   | ((with_reducible refine wpList_store_row' rfl 30 _ _ rfl w1.heap.size CL.toArray ?_ ?_ 30 _ (Blk.new w1 30 _) HSD.out ?_ HOC.out ?_); rfl; rfl; exact HZC.out; intro w4 hk4 hs4 hbl4; have hz4 := ((Below.refl w1.heap.size w1).alloc (Nat.le_refl _) _).trans (hbl4 w1.heap.size (Nat.le_refl _)); have HB4 := hid (HB0.out.trans (hz4.mono HB0.out.size)); have HK4 := hid (HK0.out.below hz4 HK0.out.lt); have HC4 := hid hk4; clear hk4 hs4 hbl4 hz4; have f1 := (HK4.out.cell 1).trans HX.out.f1; have f2 := (HK4.out.cell 2).trans HX.out.f2; have f5 := (HK4.out.cell 5).trans HX.out.f5; have f8 := (HK4.out.cell 8).trans HX.out.f8; have f9 := (HK4.out.cell 9).trans HX.out.f9; have f27 := (HK4.out.cell 27).trans HX.out.f27; have g0 := (HC4.out.cell 0).trans (List.getElem?_toArray.trans HX.out.g0); have g4 := (HC4.out.cell 4).trans (List.getElem?_toArray.trans HX.out.g4); have g5 := (HC4.out.cell 5).trans (List.getElem?_toArray.trans HX.out.g5); have g6 := (HC4.out.cell 6).trans (List.getElem?_toArray.trans HX.out.g6); have g7 := (HC4.out.cell 7).trans (List.getElem?_toArray.trans HX.out.g7); have g8 := (HC4.out.cell 8).trans (List.getElem?_toArray.trans HX.out.g8)))
  go_ret
  exact ⟨⟨true, rfl, fun h => by cases h⟩, HB4.out⟩
 have d3 : decide ((40 : Int) < (l16.length : Int)) = false := decide_eq_false (by omega)
 by_cases c4 : 40 < l17.length
 ·have d4 : decide ((40 : Int) < (l17.length : Int)) = true := decide_eq_true (by omega)
  go_enter Tryz.func5, Tryz.ntmps5
  go_wp2_with (first
   | (refine load_row_w (by rfl) 34 _ rfl w.heap.size rfl 34 X (0, 0) _ (by rfl) HK4.out Tryz.underlying34 HS0.out ?_)
   | (refine wpList_load_row rfl 34 _ rfl w.heap.size rfl 34 X (0, 0) _ HK4.out Tryz.underlying34 rfl HS0.out ?_)
   | ((with_reducible refine wpList_load_mid rfl 30 _ rfl w.heap.size 10 ?_ CL _ HRG.out Tryz.underlying30 ?_ HSC.out ?_); rfl; rfl)
   | ((with_reducible refine wpList_store_row' rfl 30 _ _ rfl w1.heap.size CL.toArray ?_ ?_ 30 _ (Blk.new w1 30 _) HSD.out ?_ HOC.out ?_); rfl; rfl; exact HZC.out; intro w4 hk4 hs4 hbl4; have hz4 := ((Below.refl w1.heap.size w1).alloc (Nat.le_refl _) _).trans (hbl4 w1.heap.size (Nat.le_refl _)); have HB4 := hid (HB0.out.trans (hz4.mono HB0.out.size)); have HK4 := hid (HK0.out.below hz4 HK0.out.lt); have HC4 := hid hk4; clear hk4 hs4 hbl4 hz4; have f1 := (HK4.out.cell 1).trans HX.out.f1; have f2 := (HK4.out.cell 2).trans HX.out.f2; have f5 := (HK4.out.cell 5).trans HX.out.f5; have f8 := (HK4.out.cell 8).trans HX.out.f8; have f9 := (HK4.out.cell 9).trans HX.out.f9; have f27 := (HK4.out.cell 27).trans HX.out.f27; have g0 := (HC4.out.cell 0).trans (List.getElem?_toArray.trans HX.out.g0); have g4 := (HC4.out.cell 4).trans (List.getElem?_toArray.trans HX.out.g4); have g5 := (HC4.out.cell 5).trans (List.getElem?_toArray.trans HX.out.g5); have g6 := (HC4.out.cell 6).trans (List.getElem?_toArray.trans HX.out.g6); have g7 := (HC4.out.cell 7).trans (List.getElem?_toArray.trans HX.out.g7); have g8 := (HC4.out.cell 8).trans (List.getElem?_toArray.trans HX.out.g8)))
  go_ret
  exact ⟨⟨true, rfl, fun h => by cases h⟩, HB4.out⟩
 have d4 : decide ((40 : Int) < (l17.length : Int)) = false := decide_eq_false (by omega)
 by_cases c5 : 40 < l18.length
 ·have d5 : decide ((40 : Int) < (l18.length : Int)) = true := decide_eq_true (by omega)
  go_enter Tryz.func5, Tryz.ntmps5
  go_wp2_with (first
   | (refine load_row_w (by rfl) 34 _ rfl w.heap.size rfl 34 X (0, 0) _ (by rfl) HK4.out Tryz.underlying34 HS0.out ?_)
   | (refine wpList_load_row rfl 34 _ rfl w.heap.size rfl 34 X (0, 0) _ HK4.out Tryz.underlying34 rfl HS0.out ?_)
   | ((with_reducible refine wpList_load_mid rfl 30 _ rfl w.heap.size 10 ?_ CL _ HRG.out Tryz.underlying30 ?_ HSC.out ?_); rfl; rfl)
   | ((with_reducible refine wpList_store_row' rfl 30 _ _ rfl w1.heap.size CL.toArray ?_ ?_ 30 _ (Blk.new w1 30 _) HSD.out ?_ HOC.out ?_); rfl; rfl; exact HZC.out; intro w4 hk4 hs4 hbl4; have hz4 := ((Below.refl w1.heap.size w1).alloc (Nat.le_refl _) _).trans (hbl4 w1.heap.size (Nat.le_refl _)); have HB4 := hid (HB0.out.trans (hz4.mono HB0.out.size)); have HK4 := hid (HK0.out.below hz4 HK0.out.lt); have HC4 := hid hk4; clear hk4 hs4 hbl4 hz4; have f1 := (HK4.out.cell 1).trans HX.out.f1; have f2 := (HK4.out.cell 2).trans HX.out.f2; have f5 := (HK4.out.cell 5).trans HX.out.f5; have f8 := (HK4.out.cell 8).trans HX.out.f8; have f9 := (HK4.out.cell 9).trans HX.out.f9; have f27 := (HK4.out.cell 27).trans HX.out.f27; have g0 := (HC4.out.cell 0).trans (List.getElem?_toArray.trans HX.out.g0); have g4 := (HC4.out.cell 4).trans (List.getElem?_toArray.trans HX.out.g4); have g5 := (HC4.out.cell 5).trans (List.getElem?_toArray.trans HX.out.g5); have g6 := (HC4.out.cell 6).trans (List.getElem?_toArray.trans HX.out.g6); have g7 := (HC4.out.cell 7).trans (List.getElem?_toArray.trans HX.out.g7); have g8 := (HC4.out.cell 8).trans (List.getElem?_toArray.trans HX.out.g8)))
  go_ret
  exact ⟨⟨true, rfl, fun h => by cases h⟩, HB4.out⟩
 have d5 : decide ((40 : Int) < (l18.length : Int)) = false := decide_eq_false (by omega)
 by_cases c6 : 2000 < x1.size
 ·have d6 : decide ((2000 : Int) < (x1.size : Int)) = true := decide_eq_true (by omega)
  go_enter Tryz.func5, Tryz.ntmps5
  go_wp2_with (first
   | (refine load_row_w (by rfl) 34 _ rfl w.heap.size rfl 34 X (0, 0) _ (by rfl) HK4.out Tryz.underlying34 HS0.out ?_)
   | (refine wpList_load_row rfl 34 _ rfl w.heap.size rfl 34 X (0, 0) _ HK4.out Tryz.underlying34 rfl HS0.out ?_)
   | ((with_reducible refine wpList_load_mid rfl 30 _ rfl w.heap.size 10 ?_ CL _ HRG.out Tryz.underlying30 ?_ HSC.out ?_); rfl; rfl)
   | ((with_reducible refine wpList_store_row' rfl 30 _ _ rfl w1.heap.size CL.toArray ?_ ?_ 30 _ (Blk.new w1 30 _) HSD.out ?_ HOC.out ?_); rfl; rfl; exact HZC.out; intro w4 hk4 hs4 hbl4; have hz4 := ((Below.refl w1.heap.size w1).alloc (Nat.le_refl _) _).trans (hbl4 w1.heap.size (Nat.le_refl _)); have HB4 := hid (HB0.out.trans (hz4.mono HB0.out.size)); have HK4 := hid (HK0.out.below hz4 HK0.out.lt); have HC4 := hid hk4; clear hk4 hs4 hbl4 hz4; have f1 := (HK4.out.cell 1).trans HX.out.f1; have f2 := (HK4.out.cell 2).trans HX.out.f2; have f5 := (HK4.out.cell 5).trans HX.out.f5; have f8 := (HK4.out.cell 8).trans HX.out.f8; have f9 := (HK4.out.cell 9).trans HX.out.f9; have f27 := (HK4.out.cell 27).trans HX.out.f27; have g0 := (HC4.out.cell 0).trans (List.getElem?_toArray.trans HX.out.g0); have g4 := (HC4.out.cell 4).trans (List.getElem?_toArray.trans HX.out.g4); have g5 := (HC4.out.cell 5).trans (List.getElem?_toArray.trans HX.out.g5); have g6 := (HC4.out.cell 6).trans (List.getElem?_toArray.trans HX.out.g6); have g7 := (HC4.out.cell 7).trans (List.getElem?_toArray.trans HX.out.g7); have g8 := (HC4.out.cell 8).trans (List.getElem?_toArray.trans HX.out.g8)))
  go_ret
  exact ⟨⟨true, rfl, fun h => by cases h⟩, HB4.out⟩
 have d6 : decide ((2000 : Int) < (x1.size : Int)) = false := decide_eq_false (by omega)
 by_cases c7 : 2000 < x2.size
 ·have d7 : decide ((2000 : Int) < (x2.size : Int)) = true := decide_eq_true (by omega)
  go_enter Tryz.func5, Tryz.ntmps5
  go_wp2_with (first
   | (refine load_row_w (by rfl) 34 _ rfl w.heap.size rfl 34 X (0, 0) _ (by rfl) HK4.out Tryz.underlying34 HS0.out ?_)
   | (refine wpList_load_row rfl 34 _ rfl w.heap.size rfl 34 X (0, 0) _ HK4.out Tryz.underlying34 rfl HS0.out ?_)
   | ((with_reducible refine wpList_load_mid rfl 30 _ rfl w.heap.size 10 ?_ CL _ HRG.out Tryz.underlying30 ?_ HSC.out ?_); rfl; rfl)
   | ((with_reducible refine wpList_store_row' rfl 30 _ _ rfl w1.heap.size CL.toArray ?_ ?_ 30 _ (Blk.new w1 30 _) HSD.out ?_ HOC.out ?_); rfl; rfl; exact HZC.out; intro w4 hk4 hs4 hbl4; have hz4 := ((Below.refl w1.heap.size w1).alloc (Nat.le_refl _) _).trans (hbl4 w1.heap.size (Nat.le_refl _)); have HB4 := hid (HB0.out.trans (hz4.mono HB0.out.size)); have HK4 := hid (HK0.out.below hz4 HK0.out.lt); have HC4 := hid hk4; clear hk4 hs4 hbl4 hz4; have f1 := (HK4.out.cell 1).trans HX.out.f1; have f2 := (HK4.out.cell 2).trans HX.out.f2; have f5 := (HK4.out.cell 5).trans HX.out.f5; have f8 := (HK4.out.cell 8).trans HX.out.f8; have f9 := (HK4.out.cell 9).trans HX.out.f9; have f27 := (HK4.out.cell 27).trans HX.out.f27; have g0 := (HC4.out.cell 0).trans (List.getElem?_toArray.trans HX.out.g0); have g4 := (HC4.out.cell 4).trans (List.getElem?_toArray.trans HX.out.g4); have g5 := (HC4.out.cell 5).trans (List.getElem?_toArray.trans HX.out.g5); have g6 := (HC4.out.cell 6).trans (List.getElem?_toArray.trans HX.out.g6); have g7 := (HC4.out.cell 7).trans (List.getElem?_toArray.trans HX.out.g7); have g8 := (HC4.out.cell 8).trans (List.getElem?_toArray.trans HX.out.g8)))
  go_ret
  exact ⟨⟨true, rfl, fun h => by cases h⟩, HB4.out⟩
 have d7 : decide ((2000 : Int) < (x2.size : Int)) = false := decide_eq_false (by omega)
 by_cases c8 : 2000 < x5.size
 ·have d8 : decide ((2000 : Int) < (x5.size : Int)) = true := decide_eq_true (by omega)
  go_enter Tryz.func5, Tryz.ntmps5
  go_wp2_with (first
   | (refine load_row_w (by rfl) 34 _ rfl w.heap.size rfl 34 X (0, 0) _ (by rfl) HK4.out Tryz.underlying34 HS0.out ?_)
   | (refine wpList_load_row rfl 34 _ rfl w.heap.size rfl 34 X (0, 0) _ HK4.out Tryz.underlying34 rfl HS0.out ?_)
   | ((with_reducible refine wpList_load_mid rfl 30 _ rfl w.heap.size 10 ?_ CL _ HRG.out Tryz.underlying30 ?_ HSC.out ?_); rfl; rfl)
   | ((with_reducible refine wpList_store_row' rfl 30 _ _ rfl w1.heap.size CL.toArray ?_ ?_ 30 _ (Blk.new w1 30 _) HSD.out ?_ HOC.out ?_); rfl; rfl; exact HZC.out; intro w4 hk4 hs4 hbl4; have hz4 := ((Below.refl w1.heap.size w1).alloc (Nat.le_refl _) _).trans (hbl4 w1.heap.size (Nat.le_refl _)); have HB4 := hid (HB0.out.trans (hz4.mono HB0.out.size)); have HK4 := hid (HK0.out.below hz4 HK0.out.lt); have HC4 := hid hk4; clear hk4 hs4 hbl4 hz4; have f1 := (HK4.out.cell 1).trans HX.out.f1; have f2 := (HK4.out.cell 2).trans HX.out.f2; have f5 := (HK4.out.cell 5).trans HX.out.f5; have f8 := (HK4.out.cell 8).trans HX.out.f8; have f9 := (HK4.out.cell 9).trans HX.out.f9; have f27 := (HK4.out.cell 27).trans HX.out.f27; have g0 := (HC4.out.cell 0).trans (List.getElem?_toArray.trans HX.out.g0); have g4 := (HC4.out.cell 4).trans (List.getElem?_toArray.trans HX.out.g4); have g5 := (HC4.out.cell 5).trans (List.getElem?_toArray.trans HX.out.g5); have g6 := (HC4.out.cell 6).trans (List.getElem?_toArray.trans HX.out.g6); have g7 := (HC4.out.cell 7).trans (List.getElem?_toArray.trans HX.out.g7); have g8 := (HC4.out.cell 8).trans (List.getElem?_toArray.trans HX.out.g8)))
  go_ret
  exact ⟨⟨true, rfl, fun h => by cases h⟩, HB4.out⟩
 have d8 : decide ((2000 : Int) < (x5.size : Int)) = false := decide_eq_false (by omega)
 by_cases c9 : 2000 < x10.size
 ·have d9 : decide ((2000 : Int) < (x10.size : Int)) = true := decide_eq_true (by omega)
  go_enter Tryz.func5, Tryz.ntmps5
  go_wp2_with (first
   | (refine load_row_w (by rfl) 34 _ rfl w.heap.size rfl 34 X (0, 0) _ (by rfl) HK4.out Tryz.underlying34 HS0.out ?_)
   | (refine wpList_load_row rfl 34 _ rfl w.heap.size rfl 34 X (0, 0) _ HK4.out Tryz.underlying34 rfl HS0.out ?_)
   | ((with_reducible refine wpList_load_mid rfl 30 _ rfl w.heap.size 10 ?_ CL _ HRG.out Tryz.underlying30 ?_ HSC.out ?_); rfl; rfl)
   | ((with_reducible refine wpList_store_row' rfl 30 _ _ rfl w1.heap.size CL.toArray ?_ ?_ 30 _ (Blk.new w1 30 _) HSD.out ?_ HOC.out ?_); rfl; rfl; exact HZC.out; intro w4 hk4 hs4 hbl4; have hz4 := ((Below.refl w1.heap.size w1).alloc (Nat.le_refl _) _).trans (hbl4 w1.heap.size (Nat.le_refl _)); have HB4 := hid (HB0.out.trans (hz4.mono HB0.out.size)); have HK4 := hid (HK0.out.below hz4 HK0.out.lt); have HC4 := hid hk4; clear hk4 hs4 hbl4 hz4; have f1 := (HK4.out.cell 1).trans HX.out.f1; have f2 := (HK4.out.cell 2).trans HX.out.f2; have f5 := (HK4.out.cell 5).trans HX.out.f5; have f8 := (HK4.out.cell 8).trans HX.out.f8; have f9 := (HK4.out.cell 9).trans HX.out.f9; have f27 := (HK4.out.cell 27).trans HX.out.f27; have g0 := (HC4.out.cell 0).trans (List.getElem?_toArray.trans HX.out.g0); have g4 := (HC4.out.cell 4).trans (List.getElem?_toArray.trans HX.out.g4); have g5 := (HC4.out.cell 5).trans (List.getElem?_toArray.trans HX.out.g5); have g6 := (HC4.out.cell 6).trans (List.getElem?_toArray.trans HX.out.g6); have g7 := (HC4.out.cell 7).trans (List.getElem?_toArray.trans HX.out.g7); have g8 := (HC4.out.cell 8).trans (List.getElem?_toArray.trans HX.out.g8)))
  go_ret
  exact ⟨⟨true, rfl, fun h => by cases h⟩, HB4.out⟩
 have d9 : decide ((2000 : Int) < (x10.size : Int)) = false := decide_eq_false (by omega)
 by_cases c10 : 2000 < x14.size
 ·have d10 : decide ((2000 : Int) < (x14.size : Int)) = true := decide_eq_true (by omega)
  go_enter Tryz.func5, Tryz.ntmps5
  go_wp2_with (first
   | (refine load_row_w (by rfl) 34 _ rfl w.heap.size rfl 34 X (0, 0) _ (by rfl) HK4.out Tryz.underlying34 HS0.out ?_)
   | (refine wpList_load_row rfl 34 _ rfl w.heap.size rfl 34 X (0, 0) _ HK4.out Tryz.underlying34 rfl HS0.out ?_)
   | ((with_reducible refine wpList_load_mid rfl 30 _ rfl w.heap.size 10 ?_ CL _ HRG.out Tryz.underlying30 ?_ HSC.out ?_); rfl; rfl)
   | ((with_reducible refine wpList_store_row' rfl 30 _ _ rfl w1.heap.size CL.toArray ?_ ?_ 30 _ (Blk.new w1 30 _) HSD.out ?_ HOC.out ?_); rfl; rfl; exact HZC.out; intro w4 hk4 hs4 hbl4; have hz4 := ((Below.refl w1.heap.size w1).alloc (Nat.le_refl _) _).trans (hbl4 w1.heap.size (Nat.le_refl _)); have HB4 := hid (HB0.out.trans (hz4.mono HB0.out.size)); have HK4 := hid (HK0.out.below hz4 HK0.out.lt); have HC4 := hid hk4; clear hk4 hs4 hbl4 hz4; have f1 := (HK4.out.cell 1).trans HX.out.f1; have f2 := (HK4.out.cell 2).trans HX.out.f2; have f5 := (HK4.out.cell 5).trans HX.out.f5; have f8 := (HK4.out.cell 8).trans HX.out.f8; have f9 := (HK4.out.cell 9).trans HX.out.f9; have f27 := (HK4.out.cell 27).trans HX.out.f27; have g0 := (HC4.out.cell 0).trans (List.getElem?_toArray.trans HX.out.g0); have g4 := (HC4.out.cell 4).trans (List.getElem?_toArray.trans HX.out.g4); have g5 := (HC4.out.cell 5).trans (List.getElem?_toArray.trans HX.out.g5); have g6 := (HC4.out.cell 6).trans (List.getElem?_toArray.trans HX.out.g6); have g7 := (HC4.out.cell 7).trans (List.getElem?_toArray.trans HX.out.g7); have g8 := (HC4.out.cell 8).trans (List.getElem?_toArray.trans HX.out.g8)))
  go_ret
  exact ⟨⟨true, rfl, fun h => by cases h⟩, HB4.out⟩
 have d10 : decide ((2000 : Int) < (x14.size : Int)) = false := decide_eq_false (by omega)
 by_cases c11 : 2000 < x27.size
 ·have d11 : decide ((2000 : Int) < (x27.size : Int)) = true := decide_eq_true (by omega)
  go_enter Tryz.func5, Tryz.ntmps5
  go_wp2_with (first
   | (refine load_row_w (by rfl) 34 _ rfl w.heap.size rfl 34 X (0, 0) _ (by rfl) HK4.out Tryz.underlying34 HS0.out ?_)
   | (refine wpList_load_row rfl 34 _ rfl w.heap.size rfl 34 X (0, 0) _ HK4.out Tryz.underlying34 rfl HS0.out ?_)
   | ((with_reducible refine wpList_load_mid rfl 30 _ rfl w.heap.size 10 ?_ CL _ HRG.out Tryz.underlying30 ?_ HSC.out ?_); rfl; rfl)
   | ((with_reducible refine wpList_store_row' rfl 30 _ _ rfl w1.heap.size CL.toArray ?_ ?_ 30 _ (Blk.new w1 30 _) HSD.out ?_ HOC.out ?_); rfl; rfl; exact HZC.out; intro w4 hk4 hs4 hbl4; have hz4 := ((Below.refl w1.heap.size w1).alloc (Nat.le_refl _) _).trans (hbl4 w1.heap.size (Nat.le_refl _)); have HB4 := hid (HB0.out.trans (hz4.mono HB0.out.size)); have HK4 := hid (HK0.out.below hz4 HK0.out.lt); have HC4 := hid hk4; clear hk4 hs4 hbl4 hz4; have f1 := (HK4.out.cell 1).trans HX.out.f1; have f2 := (HK4.out.cell 2).trans HX.out.f2; have f5 := (HK4.out.cell 5).trans HX.out.f5; have f8 := (HK4.out.cell 8).trans HX.out.f8; have f9 := (HK4.out.cell 9).trans HX.out.f9; have f27 := (HK4.out.cell 27).trans HX.out.f27; have g0 := (HC4.out.cell 0).trans (List.getElem?_toArray.trans HX.out.g0); have g4 := (HC4.out.cell 4).trans (List.getElem?_toArray.trans HX.out.g4); have g5 := (HC4.out.cell 5).trans (List.getElem?_toArray.trans HX.out.g5); have g6 := (HC4.out.cell 6).trans (List.getElem?_toArray.trans HX.out.g6); have g7 := (HC4.out.cell 7).trans (List.getElem?_toArray.trans HX.out.g7); have g8 := (HC4.out.cell 8).trans (List.getElem?_toArray.trans HX.out.g8)))
  go_ret
  exact ⟨⟨true, rfl, fun h => by cases h⟩, HB4.out⟩
 have d11 : decide ((2000 : Int) < (x27.size : Int)) = false := decide_eq_false (by omega)
 go_enter Tryz.func5, Tryz.ntmps5
 go_wp2_with (first
  | (refine load_row_w (by rfl) 34 _ rfl w.heap.size rfl 34 X (0, 0) _ (by rfl) HK4.out Tryz.underlying34 HS0.out ?_)
  | (refine wpList_load_row rfl 34 _ rfl w.heap.size rfl 34 X (0, 0) _ HK4.out Tryz.underlying34 rfl HS0.out ?_)
  | ((with_reducible refine wpList_load_mid rfl 30 _ rfl w.heap.size 10 ?_ CL _ HRG.out Tryz.underlying30 ?_ HSC.out ?_); rfl; rfl)
  | ((with_reducible refine wpList_store_row' rfl 30 _ _ rfl w1.heap.size CL.toArray ?_ ?_ 30 _ (Blk.new w1 30 _) HSD.out ?_ HOC.out ?_); rfl; rfl; exact HZC.out; intro w4 hk4 hs4 hbl4; have hz4 := ((Below.refl w1.heap.size w1).alloc (Nat.le_refl _) _).trans (hbl4 w1.heap.size (Nat.le_refl _)); have HB4 := hid (HB0.out.trans (hz4.mono HB0.out.size)); have HK4 := hid (HK0.out.below hz4 HK0.out.lt); have HC4 := hid hk4; clear hk4 hs4 hbl4 hz4; have f1 := (HK4.out.cell 1).trans HX.out.f1; have f2 := (HK4.out.cell 2).trans HX.out.f2; have f5 := (HK4.out.cell 5).trans HX.out.f5; have f8 := (HK4.out.cell 8).trans HX.out.f8; have f9 := (HK4.out.cell 9).trans HX.out.f9; have f27 := (HK4.out.cell 27).trans HX.out.f27; have g0 := (HC4.out.cell 0).trans (List.getElem?_toArray.trans HX.out.g0); have g4 := (HC4.out.cell 4).trans (List.getElem?_toArray.trans HX.out.g4); have g5 := (HC4.out.cell 5).trans (List.getElem?_toArray.trans HX.out.g5); have g6 := (HC4.out.cell 6).trans (List.getElem?_toArray.trans HX.out.g6); have g7 := (HC4.out.cell 7).trans (List.getElem?_toArray.trans HX.out.g7); have g8 := (HC4.out.cell 8).trans (List.getElem?_toArray.trans HX.out.g8)))
 have HBF := HB4
 have R15 := hid (HX.out.r15.below HB4.out)
 have R16 := hid (HX.out.r16.below HB4.out)
 have R17 := hid (HX.out.r17.below HB4.out)
 go_loopw [4] (fun i wr => ∃ k : Nat, k ≤ l15.length ∧ i = .int .i64 (k : Int) ∧ wr = w4 ∧ ∀ s ∈ l15.take k, s.length ≤ 2000) (fun i _ => l15.length - (RowKit.intOf i).toNat)
 case atStart => exact ⟨0, Nat.zero_le _, rfl, rfl, fun s h => by simp at h⟩
 case round =>
  obtain ⟨k, hk, rfl, rfl, hall⟩ := hrel
  have HALL := hid hall
  clear hall
  by_cases hlt : k < l15.length
  ·obtain ⟨bb, ob, s, rfl, hs, hcs⟩ := R15.out.str_at hlt
   have hss := bstr_size s
   have HS := hid hs
   clear hs
   by_cases hsz : s.length ≤ 2000
   ·have h100 : decide ((2000 : Int) < ((bstr s).size : Int)) = false := decide_eq_false (by omega)
    have HN : Hid (∀ t ∈ l15.take (k + 1), t.length ≤ 2000) := hid (fun t ht => by
     rw [take_snoc HS.out] at ht
     rcases List.mem_append.1 ht with ht | ht
     ·exact HALL.out t ht
     ·rw [List.mem_singleton.1 ht]; exact hsz)
    clear hss
    generalize bstr s = S at *
    go_wp2_with fail
    go_roundw
    case rel => exact ⟨k + 1, by omega, by go_num, by trivial, HN.out⟩
    case measure => simp [RowKit.intOf]; omega
   ·have h100 : decide ((2000 : Int) < ((bstr s).size : Int)) = true := decide_eq_true (by omega)
    clear hss
    generalize bstr s = S at *
    go_wp2_with fail
    go_ret
    exact ⟨⟨true, rfl, fun h => by cases h⟩, HBF.out⟩
  ·obtain rfl : k = l15.length := by omega
   have HA0 : Hid (∀ s ∈ l15, s.length ≤ 2000) := hid (by have := HALL.out; rwa [List.take_length] at this)
   clear HALL
   go_wp2_with fail
   go_loopw [5] (fun i wq => ∃ k : Nat, k ≤ l16.length ∧ i = .int .i64 (k : Int) ∧ wq = wr ∧ ∀ s ∈ l16.take k, s.length ≤ 2000) (fun i _ => l16.length - (RowKit.intOf i).toNat)
   case atStart => exact ⟨0, Nat.zero_le _, rfl, rfl, fun s h => by simp at h⟩
   case round =>
    obtain ⟨k, hk, rfl, rfl, hall⟩ := hrel
    have HALL := hid hall
    clear hall
    by_cases hlt : k < l16.length
    ·obtain ⟨bb, ob, s, rfl, hs, hcs⟩ := R16.out.str_at hlt
     have hss := bstr_size s
     have HS := hid hs
     clear hs
     by_cases hsz : s.length ≤ 2000
     ·have h100 : decide ((2000 : Int) < ((bstr s).size : Int)) = false := decide_eq_false (by omega)
      have HN : Hid (∀ t ∈ l16.take (k + 1), t.length ≤ 2000) := hid (fun t ht => by
       rw [take_snoc HS.out] at ht
       rcases List.mem_append.1 ht with ht | ht
       ·exact HALL.out t ht
       ·rw [List.mem_singleton.1 ht]; exact hsz)
      clear hss
      generalize bstr s = S at *
      go_wp2_with fail
      go_roundw
      case rel => exact ⟨k + 1, by omega, by go_num, by trivial, HN.out⟩
      case measure => simp [RowKit.intOf]; omega
     ·have h100 : decide ((2000 : Int) < ((bstr s).size : Int)) = true := decide_eq_true (by omega)
      clear hss
      generalize bstr s = S at *
      go_wp2_with fail
      go_ret
      exact ⟨⟨true, rfl, fun h => by cases h⟩, HBF.out⟩
    ·obtain rfl : k = l16.length := by omega
     have HA1 : Hid (∀ s ∈ l16, s.length ≤ 2000) := hid (by have := HALL.out; rwa [List.take_length] at this)
     clear HALL
     go_wp2_with fail
     go_loopw [6] (fun i wq => ∃ k : Nat, k ≤ l17.length ∧ i = .int .i64 (k : Int) ∧ wq = wr ∧ ∀ s ∈ l17.take k, s.1.length ≤ 2000) (fun i _ => l17.length - (RowKit.intOf i).toNat)
     case atStart => exact ⟨0, Nat.zero_le _, rfl, rfl, fun s h => by simp at h⟩
     case round =>
      obtain ⟨k, hk, rfl, rfl, hall⟩ := hrel
      have HALL := hid hall
      clear hall
      by_cases hlt : k < l17.length
      ·obtain ⟨bb, ob, s, rfl, hs, hcs, hcn⟩ := R17.out.usr_at hlt
       have hss := bstr_size s.1
       have HS := hid hs
       clear hs hcn
       by_cases hsz : s.1.length ≤ 2000
       ·have h100 : decide ((2000 : Int) < ((bstr s.1).size : Int)) = false := decide_eq_false (by omega)
        have HN : Hid (∀ t ∈ l17.take (k + 1), t.1.length ≤ 2000) := hid (fun t ht => by
         rw [take_snoc HS.out] at ht
         rcases List.mem_append.1 ht with ht | ht
         ·exact HALL.out t ht
         ·rw [List.mem_singleton.1 ht]; exact hsz)
        clear hss
        generalize bstr s.1 = S at *
        go_wp2_with fail
        go_roundw
        case rel => exact ⟨k + 1, by omega, by go_num, by trivial, HN.out⟩
        case measure => simp [RowKit.intOf]; omega
       ·have h100 : decide ((2000 : Int) < ((bstr s.1).size : Int)) = true := decide_eq_true (by omega)
        clear hss
        generalize bstr s.1 = S at *
        go_wp2_with fail
        go_ret
        exact ⟨⟨true, rfl, fun h => by cases h⟩, HBF.out⟩
      ·obtain rfl : k = l17.length := by omega
       have HA2 : Hid (∀ s ∈ l17, s.1.length ≤ 2000) := hid (by have := HALL.out; rwa [List.take_length] at this)
       clear HALL
       go_wp2_with fail
       go_ret
       exact ⟨⟨false, rfl, fun _ => ⟨by omega, by omega, by omega, by omega, by omega, by omega, by omega⟩⟩, HBF.out⟩
theorem long_ev (ok : Nat → Prop) (X : List Value) (e : Co.Ev) (w : World) (h : EvV ok w X e) : Calls Tryz.prog 5 #[.agg X.toArray] w fun r w' => LongA e.prev.length e.auth.length e.allow.length e.users.length e.kinds.length e.room.length e.sender.length r ∧ Below w.heap.size w w' := by
 obtain ⟨_, _, _, _, _, _, rfl, hl⟩ := h
 obtain ⟨A8, c8, rfl, -, -⟩ := hl.prev
 obtain ⟨A9, c9, rfl, -, -⟩ := hl.auth
 obtain ⟨A15, c15, rfl, h15, -⟩ := hl.allow
 obtain ⟨A16, c16, rfl, h16, -⟩ := hl.deny
 obtain ⟨A17, c17, rfl, h17, -⟩ := hl.users
 obtain ⟨A18, c18, rfl, -, -⟩ := hl.kinds
 rw [← bstr_size e.room, ← bstr_size e.sender]
 refine long_any _ [.string (bstr e.text), .int .i64 e.n, .int .i64 e.target, .bool e.thread, .string (bstr e.via), .slice A15 e.allow.length c15, .slice A16 e.deny.length c16, .slice A17 e.users.length c17, .slice A18 e.kinds.length c18, .int .i64 e.lu, .int .i64 e.lm, .int .i64 e.ls, .int .i64 e.li, .int .i64 e.lk, .int .i64 e.lb, .int .i64 e.lr] (bstr e.room) (bstr e.sender) (bstr e.key) (bstr e.sigS) (bstr e.text) (bstr e.via) A8 A9 A15 A16 A17 A18 e.prev e.auth e.allow e.deny e.users e.kinds c8 c9 c15 c16 c17 c18 w
  ⟨rfl, rfl, by simp [Value.oneCell'], fun j v hj => ?_, rfl, rfl, rfl, rfl, rfl, rfl, rfl, rfl, rfl, rfl, rfl, rfl, (by rw [Nat.mul_one] at h15; exact h15), (by rw [Nat.mul_one] at h16; exact h16), h17⟩
 rcases j with _ | _ | _ | _ | _ | _ | _ | _ | _ | _ | _ | _ | _ | _ | _ | _ | j
 all_goals first | exact hj | (simp at hj)
end Go.Proofs.YtacjhbbieeliaaaGreatDoor
/- The text Lx. -/
namespace Go.Proofs.YtacjhbbieeliaaaGreatDoor
open Go.RowKit Go.Lib
set_option linter.unusedVariables false
set_option linter.unusedSimpArgs false
def EvSh (x : Co.Ev) : Prop := x.prev.length ≤ 40 ∧ x.auth.length ≤ 40 ∧ x.allow.length ≤ 40 ∧ x.users.length ≤ 40 ∧ x.kinds.length ≤ 40 ∧ x.room.length ≤ 2000 ∧ x.sender.length ≤ 2000
def GreatA (n : Nat) (l : List Co.Ev) (e : Ending) : Prop := ∃ b, e = .returned (.bool b) ∧ (b = false → l.length ≤ n ∧ ∀ x ∈ l, EvSh x)
theorem rgreat_ev (ok : Nat → Prop) (l : List Co.Ev) (A : Option Addr) (cap n : Nat) (w : World) (h : EvRow ok w A l) (hn : n ≤ 1000) :
  Calls Tryz.prog 6 #[.slice A l.length cap, .int .i64 (n : Int)] w fun e w' => GreatA n l e ∧ Below w.heap.size w w' := by
 have HROW := hid h
 clear h
 by_cases hl : l.length ≤ n
 ·have hd : decide (n < l.length) = false := decide_eq_false (by omega)
  go_enter Tryz.func6, Tryz.ntmps6
  go_wp2_with fail
  go_loopw [5] (fun i wr => ∃ k : Nat, k ≤ l.length ∧ i = .int .i64 (k : Int) ∧ Hid (∀ x ∈ l.take k, EvSh x) ∧ Below w.heap.size w wr) (fun i _ => l.length - (RowKit.intOf i).toNat)
  case atStart => exact ⟨0, Nat.zero_le _, rfl, hid (fun x hx => by cases hx), Below.refl _ _⟩
  case round =>
   obtain ⟨k, hk, rfl, HALL, hb⟩ := hrel
   have HB := hid hb
   clear hb
   by_cases hlt : k < l.length
   ·obtain ⟨x, b, off, X, hx, rfl, hok, hbl, hr, hv⟩ := (HROW.out.bel HB.out).at_ hlt
    have HL2 := hid (size_evL hv)
    have HR : Hid (wr.rangeAt b (off + k * 29) X) := hid hr
    have HX := hid hx
    have HLG := hid (long_ev _ X x _ hv)
    clear hx hv hr
    have hck : k + 1 ≤ l.length := hlt
    go_wp2_with ((with_reducible refine wpList_load_mid rfl 34 _ rfl b (off + k * 29) ?_ X _ HR.out Tryz.underlying34 ?_ HL2.out ?_); rfl; rfl)
    refine HLG.out.mono ?_
    rintro e w2 ⟨⟨bb, rfl, hbb⟩, hb2⟩
    have HB3 := hid (HB.out.trans (hb2.mono HB.out.size))
    clear hb2
    cases bb
    ·have HN : Hid (∀ x ∈ l.take (k + 1), EvSh x) := hid (fun y hy => by
      rw [List.take_add_one, HX.out] at hy
      rcases List.mem_append.1 hy with hy | hy
      ·exact HALL.out y hy
      ·have : y = x := by simpa using hy
       subst this
       exact hbb rfl)
     clear hbb
     go_wp2_with fail
     go_roundw
     case rel => exact ⟨k + 1, hck, by go_num, HN, HB3.out⟩
     case measure => simp [RowKit.intOf]; omega
    ·clear hbb
     go_wp2_with fail
     go_ret
     exact ⟨⟨true, rfl, fun h => by cases h⟩, HB3.out⟩
   ·obtain rfl : k = l.length := by omega
    go_wp2_with fail
    go_ret
    exact ⟨⟨false, rfl, fun _ => ⟨hl, by have := HALL.out; rwa [List.take_length] at this⟩⟩, HB.out⟩
 ·have hd : decide (n < l.length) = true := decide_eq_true (by omega)
  go_enter Tryz.func6, Tryz.ntmps6
  go_wp2_with fail
  go_ret
  exact ⟨⟨true, rfl, fun h => by cases h⟩, Below.refl _ _⟩
end Go.Proofs.YtacjhbbieeliaaaGreatDoor
