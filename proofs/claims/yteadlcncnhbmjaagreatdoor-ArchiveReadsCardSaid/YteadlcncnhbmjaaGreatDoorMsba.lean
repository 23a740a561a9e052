/- The texts Bv1, Rs1, Rb1, Ay1, Ay2 of this proof, one behind the other. -/
import Derived.Deep.CutRange
import Derived.Test.YteadlcncnhbmjaaGreatDoorMsag
import Derived.Test.YteadlcncnhbmjaaGreatDoorMsay
import Derived.Test.YteadlcncnhbmjaaGreatDoorMsar
import Derived.Test.YteadlcncnhbmjaaGreatDoorMsaq
import Derived.Test.YteadlcncnhbmjaaGreatDoorMsaw
import Derived.Test.YteadlcncnhbmjaaGreatDoorMsai
import Derived.Test.YteadlcncnhbmjaaGreatDoorMsap
import Derived.Test.YteadlcncnhbmjaaGreatDoorMsam
set_option linter.unusedSimpArgs false
set_option maxHeartbeats 16000000
set_option maxRecDepth 100000
set_option linter.unusedVariables false
namespace Go.Proofs.YteadlcncnhbmjaaGreatDoor
open Go.RowKit Go.Lib
theorem C9 {W w1 : World} (h : Below w1.heap.size w1 W) : Below w1.heap.size w1 W.drew := h.drew
theorem Cd {W w1 : World} (h : Below w1.heap.size w1 W) (o : Obj) : Below w1.heap.size w1 (W.alloc o) := h.alloc h.size o
theorem GN {W : World} {g : Nat} {t : TypeId} {cs : Array Value} (h : Blk W g t cs) (o : Obj) : Blk (W.alloc o) g t cs := h.alloc o
theorem Ds {W : World} {g : Nat} {t : TypeId} {cs : Array Value} (h : Blk W g t cs) : Blk W.drew g t cs := h
theorem GS (W : World) (t : TypeId) (cs : Array Value) : Blk (W.alloc (.cells cs t)) W.heap.size t cs := Blk.new W t cs
theorem Cy (W : World) (o : Obj) (t : TypeId) (cs : Array Value) : Blk ((W.alloc o).alloc (.cells cs t)) (W.heap.size + 1) t cs := by have := Blk.new (W.alloc o) t cs; rwa [World.size_alloc] at this
theorem Mr (x0 : Int) (x1 : ByteArray) (x2 : ByteArray) (x3 : Int) (x4 : Bool) (x5 : ByteArray) (x6 : Int) (x7 : Int) (A8 : Option Addr) (n8 c8 : Nat) (A9 : Option Addr) (n9 c9 : Nat) (x10 : ByteArray) (x11 : Int) (x12 : Int) (x13 : Bool) (x14 : ByteArray) (A15 : Option Addr) (n15 c15 : Nat) (A16 : Option Addr) (n16 c16 : Nat) (A17 : Option Addr) (n17 c17 : Nat) (A18 : Option Addr) (n18 c18 : Nat) (x19 : Int) (x20 : Int) (x21 : Int) (x22 : Int) (x23 : Int) (x24 : Int) (x25 : Int) (x26 : Int) (x27 : ByteArray) (x28 : Int) (w : World) (i : Nat) (j : Int) (hij : (i = 0 ∧ j = 0) ∨ (i = 3 ∧ j = 3) ∨ (i = 6 ∧ j = 6) ∨ (i = 7 ∧ j = 7) ∨ (i = 11 ∧ j = 11) ∨ (i = 12 ∧ j = 12) ∨ (i = 19 ∧ j = 19) ∨ (i = 20 ∧ j = 20) ∨ (i = 21 ∧ j = 21) ∨ (i = 22 ∧ j = 22) ∨ (i = 23 ∧ j = 23) ∨ (i = 24 ∧ j = 24) ∨ (i = 25 ∧ j = 25) ∨ (i = 26 ∧ j = 26) ∨ (i = 28 ∧ j = 28)) : Calls Tryz.prog 121 #[.agg #[.int .i64 x0, .string x1, .string x2, .int .i64 x3, .bool x4, .string x5, .int .i64 x6, .int .i64 x7, .slice A8 n8 c8, .slice A9 n9 c9, .string x10, .int .i64 x11, .int .i64 x12, .bool x13, .string x14, .slice A15 n15 c15, .slice A16 n16 c16, .slice A17 n17 c17, .slice A18 n18 c18, .int .i64 x19, .int .i64 x20, .int .i64 x21, .int .i64 x22, .int .i64 x23, .int .i64 x24, .int .i64 x25, .int .i64 x26, .string x27, .int .i64 x28], .int .i64 j] w fun e w' => (∃ n, (#[.int .i64 x0, .string x1, .string x2, .int .i64 x3, .bool x4, .string x5, .int .i64 x6, .int .i64 x7, .slice A8 n8 c8, .slice A9 n9 c9, .string x10, .int .i64 x11, .int .i64 x12, .bool x13, .string x14, .slice A15 n15 c15, .slice A16 n16 c16, .slice A17 n17 c17, .slice A18 n18 c18, .int .i64 x19, .int .i64 x20, .int .i64 x21, .int .i64 x22, .int .i64 x23, .int .i64 x24, .int .i64 x25, .int .i64 x26, .string x27, .int .i64 x28] : Array Value)[i]? = some (.int .i64 n) ∧ e = .returned (.int .i64 n)) ∧ Below w.heap.size w w' := by
 have hB0 := (Below.refl w.heap.size w).alloc (Nat.le_refl _) (.cells #[.int .i64 x0, .string x1, .string x2, .int .i64 x3, .bool x4, .string x5, .int .i64 x6, .int .i64 x7, .slice A8 n8 c8, .slice A9 n9 c9, .string x10, .int .i64 x11, .int .i64 x12, .bool x13, .string x14, .slice A15 n15 c15, .slice A16 n16 c16, .slice A17 n17 c17, .slice A18 n18 c18, .int .i64 x19, .int .i64 x20, .int .i64 x21, .int .i64 x22, .int .i64 x23, .int .i64 x24, .int .i64 x25, .int .i64 x26, .string x27, .int .i64 x28] 40);have hk := Blk.new w 40 #[.int .i64 x0, .string x1, .string x2, .int .i64 x3, .bool x4, .string x5, .int .i64 x6, .int .i64 x7, .slice A8 n8 c8, .slice A9 n9 c9, .string x10, .int .i64 x11, .int .i64 x12, .bool x13, .string x14, .slice A15 n15 c15, .slice A16 n16 c16, .slice A17 n17 c17, .slice A18 n18 c18, .int .i64 x19, .int .i64 x20, .int .i64 x21, .int .i64 x22, .int .i64 x23, .int .i64 x24, .int .i64 x25, .int .i64 x26, .string x27, .int .i64 x28];generalize hw1 : w.alloc (.cells #[.int .i64 x0, .string x1, .string x2, .int .i64 x3, .bool x4, .string x5, .int .i64 x6, .int .i64 x7, .slice A8 n8 c8, .slice A9 n9 c9, .string x10, .int .i64 x11, .int .i64 x12, .bool x13, .string x14, .slice A15 n15 c15, .slice A16 n16 c16, .slice A17 n17 c17, .slice A18 n18 c18, .int .i64 x19, .int .i64 x20, .int .i64 x21, .int .i64 x22, .int .i64 x23, .int .i64 x24, .int .i64 x25, .int .i64 x26, .string x27, .int .i64 x28] 40) = w1 at *;have hBr := Below.refl w1.heap.size w1;have hlt0 := hk.lt;have hL10 : ∀ W, Below w1.heap.size w1 W → W.cell? ⟨w.heap.size, 10, none⟩ = some (.string x10) := fun W h => (h.cell (p := ⟨w.heap.size, 10, none⟩) hlt0).trans (hk.cell 10)
 have hL11 : ∀ W, Below w1.heap.size w1 W → W.cell? ⟨w.heap.size, 11, none⟩ = some (.int .i64 x11) := fun W h => (h.cell (p := ⟨w.heap.size, 11, none⟩) hlt0).trans (hk.cell 11)
 have hL12 : ∀ W, Below w1.heap.size w1 W → W.cell? ⟨w.heap.size, 12, none⟩ = some (.int .i64 x12) := fun W h => (h.cell (p := ⟨w.heap.size, 12, none⟩) hlt0).trans (hk.cell 12)
 have hL13 : ∀ W, Below w1.heap.size w1 W → W.cell? ⟨w.heap.size, 13, none⟩ = some (.bool x13) := fun W h => (h.cell (p := ⟨w.heap.size, 13, none⟩) hlt0).trans (hk.cell 13)
 have hL14 : ∀ W, Below w1.heap.size w1 W → W.cell? ⟨w.heap.size, 14, none⟩ = some (.string x14) := fun W h => (h.cell (p := ⟨w.heap.size, 14, none⟩) hlt0).trans (hk.cell 14)
 have hL15 : ∀ W, Below w1.heap.size w1 W → W.cell? ⟨w.heap.size, 15, none⟩ = some (.slice A15 n15 c15) := fun W h => (h.cell (p := ⟨w.heap.size, 15, none⟩) hlt0).trans (hk.cell 15)
 have hL16 : ∀ W, Below w1.heap.size w1 W → W.cell? ⟨w.heap.size, 16, none⟩ = some (.slice A16 n16 c16) := fun W h => (h.cell (p := ⟨w.heap.size, 16, none⟩) hlt0).trans (hk.cell 16)
 have hL17 : ∀ W, Below w1.heap.size w1 W → W.cell? ⟨w.heap.size, 17, none⟩ = some (.slice A17 n17 c17) := fun W h => (h.cell (p := ⟨w.heap.size, 17, none⟩) hlt0).trans (hk.cell 17)
 have hL18 : ∀ W, Below w1.heap.size w1 W → W.cell? ⟨w.heap.size, 18, none⟩ = some (.slice A18 n18 c18) := fun W h => (h.cell (p := ⟨w.heap.size, 18, none⟩) hlt0).trans (hk.cell 18)
 have hL19 : ∀ W, Below w1.heap.size w1 W → W.cell? ⟨w.heap.size, 19, none⟩ = some (.int .i64 x19) := fun W h => (h.cell (p := ⟨w.heap.size, 19, none⟩) hlt0).trans (hk.cell 19)
 have hL20 : ∀ W, Below w1.heap.size w1 W → W.cell? ⟨w.heap.size, 20, none⟩ = some (.int .i64 x20) := fun W h => (h.cell (p := ⟨w.heap.size, 20, none⟩) hlt0).trans (hk.cell 20)
 have hL21 : ∀ W, Below w1.heap.size w1 W → W.cell? ⟨w.heap.size, 21, none⟩ = some (.int .i64 x21) := fun W h => (h.cell (p := ⟨w.heap.size, 21, none⟩) hlt0).trans (hk.cell 21)
 have hL22 : ∀ W, Below w1.heap.size w1 W → W.cell? ⟨w.heap.size, 22, none⟩ = some (.int .i64 x22) := fun W h => (h.cell (p := ⟨w.heap.size, 22, none⟩) hlt0).trans (hk.cell 22)
 have hL23 : ∀ W, Below w1.heap.size w1 W → W.cell? ⟨w.heap.size, 23, none⟩ = some (.int .i64 x23) := fun W h => (h.cell (p := ⟨w.heap.size, 23, none⟩) hlt0).trans (hk.cell 23)
 have hL24 : ∀ W, Below w1.heap.size w1 W → W.cell? ⟨w.heap.size, 24, none⟩ = some (.int .i64 x24) := fun W h => (h.cell (p := ⟨w.heap.size, 24, none⟩) hlt0).trans (hk.cell 24)
 have hL25 : ∀ W, Below w1.heap.size w1 W → W.cell? ⟨w.heap.size, 25, none⟩ = some (.int .i64 x25) := fun W h => (h.cell (p := ⟨w.heap.size, 25, none⟩) hlt0).trans (hk.cell 25)
 have HB0 := hid hB0;have HK := hid hk;clear hB0 hk hlt0;go_enter Tryz.func121, Tryz.ntmps121;go_wp2_with fail
 go_cut [5, 6] from 7 to 11 (fun pa pb wx => ∃ g5 g6 : Nat, pa = .pointer (some ⟨g5, 0, none⟩) ∧ pb = .pointer (some ⟨g6, 0, none⟩) ∧ Blk wx g5 36 #[.string x10, .int .i64 x11, .int .i64 x12, .bool x13, .string x14, .slice A15 n15 c15, .slice A16 n16 c16, .slice A17 n17 c17, .slice A18 n18 c18, .int .i64 x19, .int .i64 x20, .int .i64 x21, .int .i64 x22, .int .i64 x23, .int .i64 x24, .int .i64 x25] ∧ Blk wx g6 34 #[.slice A17 n17 c17, .slice A18 n18 c18, .int .i64 x19, .int .i64 x20, .int .i64 x21, .int .i64 x22, .int .i64 x23, .int .i64 x24, .int .i64 x25] ∧ Below w1.heap.size w1 wx)
 case first =>
  go_region_held3 (fun W => Below w1.heap.size w1 W) (with_reducible (repeat (first | exact hBr | refine C9 ?_ | refine Cd ?_ _))) (fail)
  all_goals
   go_wp2_with fail
   go_meet
   first
    | exact ⟨_, _, rfl, rfl, Ds (GN (GS _ _ _) _), Ds (Cy _ _ _ _), C9 (Cd (Cd hBr _) _)⟩
    | exact ⟨_, _, rfl, rfl, Ds (Cy _ _ _ _), Ds (GN (GS _ _ _) _), C9 (Cd (Cd hBr _) _)⟩
 case rest =>
  obtain ⟨g5, g6, rfl, rfl, hC, hV, hbx⟩ := hcut;have HC := hid hC;have HV := hid hV;have HE : Hid (Blk wc w.heap.size 40 #[.int .i64 x0, .string x1, .string x2, .int .i64 x3, .bool x4, .string x5, .int .i64 x6, .int .i64 x7, .slice A8 n8 c8, .slice A9 n9 c9, .string x10, .int .i64 x11, .int .i64 x12, .bool x13, .string x14, .slice A15 n15 c15, .slice A16 n16 c16, .slice A17 n17 c17, .slice A18 n18 c18, .int .i64 x19, .int .i64 x20, .int .i64 x21, .int .i64 x22, .int .i64 x23, .int .i64 x24, .int .i64 x25, .int .i64 x26, .string x27, .int .i64 x28]) := hid (HK.out.below hbx HK.out.lt);have HBX : Hid (Below w.heap.size w wc) := hid (HB0.out.trans (hbx.mono HB0.out.size));clear hL10 hL11 hL12 hL13 hL14 hL15 hL16 hL17 hL18 hL19 hL20 hL21 hL22 hL23 hL24 hL25 hC hV hbx;rcases hij with ⟨rfl, rfl⟩ | ⟨rfl, rfl⟩ | ⟨rfl, rfl⟩ | ⟨rfl, rfl⟩ | ⟨rfl, rfl⟩ | ⟨rfl, rfl⟩ | ⟨rfl, rfl⟩ | ⟨rfl, rfl⟩ | ⟨rfl, rfl⟩ | ⟨rfl, rfl⟩ | ⟨rfl, rfl⟩ | ⟨rfl, rfl⟩ | ⟨rfl, rfl⟩ | ⟨rfl, rfl⟩ | ⟨rfl, rfl⟩
  ·have hc : wc.cell? ⟨w.heap.size, 0, none⟩ = some (.int .i64 x0) := HE.out.cell 0;go_wp2_with fail;go_ret;exact ⟨⟨_, rfl, rfl⟩, HBX.out⟩
  ·have hc : wc.cell? ⟨w.heap.size, 3, none⟩ = some (.int .i64 x3) := HE.out.cell 3;go_wp2_with fail;go_ret;exact ⟨⟨_, rfl, rfl⟩, HBX.out⟩
  ·have hc : wc.cell? ⟨w.heap.size, 6, none⟩ = some (.int .i64 x6) := HE.out.cell 6;go_wp2_with fail;go_ret;exact ⟨⟨_, rfl, rfl⟩, HBX.out⟩
  ·have hc : wc.cell? ⟨w.heap.size, 7, none⟩ = some (.int .i64 x7) := HE.out.cell 7;go_wp2_with fail;go_ret;exact ⟨⟨_, rfl, rfl⟩, HBX.out⟩
  ·have hc : wc.cell? ⟨g5, 1, none⟩ = some (.int .i64 x11) := HC.out.cell 1;go_wp2_with fail;go_ret;exact ⟨⟨_, rfl, rfl⟩, HBX.out⟩
  ·have hc : wc.cell? ⟨g5, 2, none⟩ = some (.int .i64 x12) := HC.out.cell 2;go_wp2_with fail;go_ret;exact ⟨⟨_, rfl, rfl⟩, HBX.out⟩
  ·have hc : wc.cell? ⟨g6, 2, none⟩ = some (.int .i64 x19) := HV.out.cell 2;go_wp2_with fail;go_ret;exact ⟨⟨_, rfl, rfl⟩, HBX.out⟩
  ·have hc : wc.cell? ⟨g6, 3, none⟩ = some (.int .i64 x20) := HV.out.cell 3;go_wp2_with fail;go_ret;exact ⟨⟨_, rfl, rfl⟩, HBX.out⟩
  ·have hc : wc.cell? ⟨g6, 4, none⟩ = some (.int .i64 x21) := HV.out.cell 4;go_wp2_with fail;go_ret;exact ⟨⟨_, rfl, rfl⟩, HBX.out⟩
  ·have hc : wc.cell? ⟨g6, 5, none⟩ = some (.int .i64 x22) := HV.out.cell 5;go_wp2_with fail;go_ret;exact ⟨⟨_, rfl, rfl⟩, HBX.out⟩
  ·have hc : wc.cell? ⟨g6, 6, none⟩ = some (.int .i64 x23) := HV.out.cell 6;go_wp2_with fail;go_ret;exact ⟨⟨_, rfl, rfl⟩, HBX.out⟩
  ·have hc : wc.cell? ⟨g6, 7, none⟩ = some (.int .i64 x24) := HV.out.cell 7;go_wp2_with fail;go_ret;exact ⟨⟨_, rfl, rfl⟩, HBX.out⟩
  ·have hc : wc.cell? ⟨g6, 8, none⟩ = some (.int .i64 x25) := HV.out.cell 8;go_wp2_with fail;go_ret;exact ⟨⟨_, rfl, rfl⟩, HBX.out⟩
  ·have hc : wc.cell? ⟨w.heap.size, 26, none⟩ = some (.int .i64 x26) := HE.out.cell 26;go_wp2_with fail;go_ret;exact ⟨⟨_, rfl, rfl⟩, HBX.out⟩
  ·have hc : wc.cell? ⟨w.heap.size, 28, none⟩ = some (.int .i64 x28) := HE.out.cell 28;go_wp2_with fail;go_ret;exact ⟨⟨_, rfl, rfl⟩, HBX.out⟩
theorem IR {T : TypeId} {d : TypeDesc} {C : World → Prop} {b q : Nat} {cs : List Value} {ops : Array Oper} {op : Oper} {a : Act} (hd : (match d with | .struct _ | .array _ _ => true | _ => false) = true) (hu : Tryz.prog.underlying T = some d) (hi : (Tryz.prog.info? T).map (·.size) = some cs.length) (hC : ∀ W, C W → W.rangeAt b q cs)
  (hw : Region.wanted op (yielded ops a.tmps) = true) (x : Operand) (ho : op.op = .load T x) (hx : a.eval x = .pointer (some ⟨b, q, none⟩)) : YieldsIf Tryz.prog ops C op (.agg cs.toArray) a :=
 .inl ⟨hw, fun w hw' => by
  unfold execOp
  simp only [ho, hx, Instr.loadAt, Instr.sureAddr, Sem.run_bind, Sem.run_pure, Result.andThen_ok, run_loadVar_mid w b q T cs d (hC w hw') hu (by cases d <;> first | rfl | cases hd) hi]⟩
theorem Rc (A B : Option Addr) (ca cb : Nat) (a : List (Int × Int × Int × Bool)) (w : World) (ha : Rd w A (a.length * 4) (a.flatMap rowC)) (hb : Rd w B (a.length * 4) (a.flatMap rowC)) (hn : a.length ≤ 1000000) :
  Calls Tryz.prog 79 #[.slice A a.length ca, .slice B a.length cb] w fun e w' => e = .returned (.bool true) ∧ Below w.heap.size w w' := by
 have HA := hid ha;have HB := hid hb;clear ha hb;have hne : ((a.length : Int) != (a.length : Int)) = false := by rw [bne_eq_false_iff_eq]
 go_enter Tryz.func79, Tryz.ntmps79;go_wp2_with fail
 go_loopw [5] (fun i wr => ∃ k q : Nat, k ≤ a.length ∧ i = .int .i64 k ∧ wr = w.drewN q) (fun i _ => a.length - (RowKit.intOf i).toNat)
 case atStart => exact ⟨0, 0, by omega, rfl, rfl⟩
 case round =>
  obtain ⟨k, q, hk, rfl, rfl⟩ := hrel;by_cases hlt : k < a.length
  ·obtain ⟨ba, oa, x, rfl, hx, hca⟩ := HA.out.el_at (el := rowC) (sz := 4) (fun _ => rfl) (by decide) hlt;obtain ⟨bb, ob, y, rfl, hy, hcb⟩ := HB.out.el_at (el := rowC) (sz := 4) (fun _ => rfl) (by decide) hlt;obtain rfl : x = y := Option.some.inj (hx.symm.trans hy);have ha0 := hca 0 _ rfl;have hb0 := hcb 0 _ rfl;have ha1 := hca 1 _ rfl;have hb1 := hcb 1 _ rfl;have ha2 := hca 2 _ rfl;have hb2 := hcb 2 _ rfl;have ha3 := hca 3 _ rfl;have hb3 := hcb 3 _ rfl;rw [Nat.add_zero] at ha0 hb0;have h0 : (x.1 != x.1) = false := by rw [bne_eq_false_iff_eq]
   have g0 : (x.1 == x.1) = true := beq_self_eq_true _;have h1 : (x.2.1 != x.2.1) = false := by rw [bne_eq_false_iff_eq]
   have g1 : (x.2.1 == x.2.1) = true := beq_self_eq_true _;have h2 : (x.2.2.1 != x.2.2.1) = false := by rw [bne_eq_false_iff_eq]
   have g2 : (x.2.2.1 == x.2.2.1) = true := beq_self_eq_true _;have g3 : (x.2.2.2 == x.2.2.2) = true := beq_self_eq_true _;generalize x.1 = z0 at *;generalize x.2.1 = z1 at *;generalize x.2.2.1 = z2 at *;generalize x.2.2.2 = z3 at *;clear hx hy hca hcb;go_wp2_with fail
   go_quiet (fail)
   go_wp2_with fail
   go_roundw
   case rel => exact ⟨k + 1, _, by omega, by go_num, rfl⟩
   case measure => simp [RowKit.intOf]; omega
  ·obtain rfl : k = a.length := by omega
   go_wp2_with fail;go_ret;exact ⟨rfl, below_drewN (Below.refl _ _) q⟩
theorem QU (A B : Option Addr) (ca cb : Nat) (a : List (Int × List UInt8 × Int)) (w : World) (ha : Rd w A (a.length * 3) (a.flatMap entC)) (hb : Rd w B (a.length * 3) (a.flatMap entC)) (hn : a.length ≤ 1000000) :
  Calls Tryz.prog 81 #[.slice A a.length ca, .slice B a.length cb] w fun e w' => e = .returned (.bool true) ∧ Below w.heap.size w w' := by
 have HA := hid ha;have HB := hid hb;clear ha hb;have hne : ((a.length : Int) != (a.length : Int)) = false := by rw [bne_eq_false_iff_eq]
 go_enter Tryz.func81, Tryz.ntmps81;go_wp2_with fail
 go_loopw [5] (fun i wr => ∃ k q : Nat, k ≤ a.length ∧ i = .int .i64 k ∧ wr = w.drewN q) (fun i _ => a.length - (RowKit.intOf i).toNat)
 case atStart => exact ⟨0, 0, by omega, rfl, rfl⟩
 case round =>
  obtain ⟨k, q, hk, rfl, rfl⟩ := hrel;by_cases hlt : k < a.length
  ·obtain ⟨ba, oa, x, rfl, hx, hca⟩ := HA.out.el_at (el := entC) (sz := 3) (fun _ => rfl) (by decide) hlt;obtain ⟨bb, ob, y, rfl, hy, hcb⟩ := HB.out.el_at (el := entC) (sz := 3) (fun _ => rfl) (by decide) hlt;obtain rfl : x = y := Option.some.inj (hx.symm.trans hy);have ha0 := hca 0 _ rfl;have hb0 := hcb 0 _ rfl;have ha1 := hca 1 _ rfl;have hb1 := hcb 1 _ rfl;have ha2 := hca 2 _ rfl;have hb2 := hcb 2 _ rfl;rw [Nat.add_zero] at ha0 hb0;have h0 : (x.1 != x.1) = false := by rw [bne_eq_false_iff_eq]
   have g0 : (x.1 == x.1) = true := beq_self_eq_true _;have h1 : (!((bstr x.2.1).toList == (bstr x.2.1).toList)) = false := by rw [beq_self_eq_true]; rfl
   have g1 : ((bstr x.2.1).toList == (bstr x.2.1).toList) = true := beq_self_eq_true _;have h2 : (x.2.2 != x.2.2) = false := by rw [bne_eq_false_iff_eq]
   have g2 : (x.2.2 == x.2.2) = true := beq_self_eq_true _;generalize x.1 = z0 at *;generalize bstr x.2.1 = z1 at *;generalize x.2.2 = z2 at *;clear hx hy hca hcb;go_wp2_with fail
   go_quiet (fail)
   go_wp2_with fail
   go_roundw
   case rel => exact ⟨k + 1, _, by omega, by go_num, rfl⟩
   case measure => simp [RowKit.intOf]; omega
  ·obtain rfl : k = a.length := by omega
   go_wp2_with fail;go_ret;exact ⟨rfl, below_drewN (Below.refl _ _) q⟩
theorem QE (A B : Option Addr) (ca cb : Nat) (a : List Int) (w : World) (ha : Rd w A a.length (intL a)) (hb : Rd w B a.length (intL a)) (hn : a.length ≤ 1000000) :
  Calls Tryz.prog 80 #[.slice A a.length ca, .slice B a.length cb] w fun e w' => e = .returned (.bool true) ∧ Below w.heap.size w w' := by
 have HA := hid ha;have HB := hid hb;clear ha hb;have hne : ((a.length : Int) != (a.length : Int)) = false := by rw [bne_eq_false_iff_eq]
 go_enter Tryz.func80, Tryz.ntmps80;go_wp2_with fail
 go_loopw [5] (fun i wr => ∃ k q : Nat, k ≤ a.length ∧ i = .int .i64 k ∧ wr = w.drewN q) (fun i _ => a.length - (RowKit.intOf i).toNat)
 case atStart => exact ⟨0, 0, by omega, rfl, rfl⟩
 case round =>
  obtain ⟨k, q, hk, rfl, rfl⟩ := hrel;by_cases hlt : k < a.length
  ·obtain ⟨ba, oa, x, rfl, hx, hcx⟩ := HA.out.int_at hlt;obtain ⟨bb, ob, y, rfl, hy, hcy⟩ := HB.out.int_at hlt;obtain rfl : x = y := Option.some.inj (hx.symm.trans hy);have h1 : (x != x) = false := by rw [bne_eq_false_iff_eq]
   clear hx hy;go_wp2_with fail
   go_quiet (fail)
   go_wp2_with fail
   go_roundw
   case rel => exact ⟨k + 1, _, by omega, by go_num, rfl⟩
   case measure => simp [RowKit.intOf]; omega
  ·obtain rfl : k = a.length := by omega
   go_wp2_with fail;go_ret;exact ⟨rfl, below_drewN (Below.refl _ _) q⟩
theorem Pt (r : Ar.Rm) (X Y : Array Value) (w : World) (hx : RmV w r X) (hy : RmV w r Y) (hc : r.receipts.length ≤ 1000000) (ht : r.typing.length ≤ 1000000) : Calls Tryz.prog 82 #[.agg X, .agg Y] w fun e w' => e = .returned (.bool true) ∧ Below w.heap.size w w' := by
 obtain ⟨cE, cR, cW, cH, cS, cC, cT, rfl, hX⟩ := hx;obtain ⟨dE, dR, dW, dH, dS, dC, dT, rfl, hY⟩ := hy;obtain ⟨AC, kC, rfl, hAC, -⟩ := hX.rcp;obtain ⟨AT, kT, rfl, hAT, -⟩ := hX.typ;obtain ⟨BC, lC, rfl, hBC, -⟩ := hY.rcp;obtain ⟨BT, lT, rfl, hBT, -⟩ := hY.typ;have hb := ((Below.refl w.heap.size w).alloc (Nat.le_refl _) (.cells #[.string (bstr r.id), cE, cR, cW, cH, cS, .int .i64 r.next, .slice AC r.receipts.length kC, .slice AT r.typing.length kT] 55)).alloc (by simp) (.cells #[.string (bstr r.id), dE, dR, dW, dH, dS, .int .i64 r.next, .slice BC r.receipts.length lC, .slice BT r.typing.length lT] 55);have HB := hid hb;have HCA := hid (hAC.below hb);have HTA := hid (hAT.below hb);have HCB := hid (hBC.below hb);have HTB := hid (hBT.below hb);have hk1 : Blk ((w.alloc (.cells #[.string (bstr r.id), cE, cR, cW, cH, cS, .int .i64 r.next, .slice AC r.receipts.length kC, .slice AT r.typing.length kT] 55)).alloc (.cells #[.string (bstr r.id), dE, dR, dW, dH, dS, .int .i64 r.next, .slice BC r.receipts.length lC, .slice BT r.typing.length lT] 55)) w.heap.size 55 #[.string (bstr r.id), cE, cR, cW, cH, cS, .int .i64 r.next, .slice AC r.receipts.length kC, .slice AT r.typing.length kT] := (Blk.new w 55 #[.string (bstr r.id), cE, cR, cW, cH, cS, .int .i64 r.next, .slice AC r.receipts.length kC, .slice AT r.typing.length kT]).alloc _;have hk2 : Blk ((w.alloc (.cells #[.string (bstr r.id), cE, cR, cW, cH, cS, .int .i64 r.next, .slice AC r.receipts.length kC, .slice AT r.typing.length kT] 55)).alloc (.cells #[.string (bstr r.id), dE, dR, dW, dH, dS, .int .i64 r.next, .slice BC r.receipts.length lC, .slice BT r.typing.length lT] 55)) (w.heap.size + 1) 55 #[.string (bstr r.id), dE, dR, dW, dH, dS, .int .i64 r.next, .slice BC r.receipts.length lC, .slice BT r.typing.length lT] := Cy w _ 55 #[.string (bstr r.id), dE, dR, dW, dH, dS, .int .i64 r.next, .slice BC r.receipts.length lC, .slice BT r.typing.length lT];have p7 := hk1.cell 7;have p8 := hk1.cell 8;have q7 := hk2.cell 7;have q8 := hk2.cell 8;change _ = some (Value.slice AC r.receipts.length kC) at p7;change _ = some (Value.slice AT r.typing.length kT) at p8;change _ = some (Value.slice BC r.receipts.length lC) at q7;change _ = some (Value.slice BT r.typing.length lT) at q8;clear hX hY hAC hAT hBC hBT hb hk1 hk2;have e1 : ((r.receipts.length : Int) != (r.receipts.length : Int)) = false := by rw [bne_eq_false_iff_eq]
 have e2 : ((r.typing.length : Int) != (r.typing.length : Int)) = false := by rw [bne_eq_false_iff_eq]
 generalize hw2 : (w.alloc (.cells #[.string (bstr r.id), cE, cR, cW, cH, cS, .int .i64 r.next, .slice AC r.receipts.length kC, .slice AT r.typing.length kT] 55)).alloc (.cells #[.string (bstr r.id), dE, dR, dW, dH, dS, .int .i64 r.next, .slice BC r.receipts.length lC, .slice BT r.typing.length lT] 55) = w2 at *;go_enter Tryz.func82, Tryz.ntmps82;go_wp2_with fail
 go_loopw [5] (fun i wr => ∃ k q : Nat, k ≤ r.receipts.length ∧ i = .int .i64 k ∧ wr = w2.drewN q) (fun i _ => r.receipts.length - (RowKit.intOf i).toNat)
 case atStart => exact ⟨0, 0, by omega, rfl, rfl⟩
 case round =>
  obtain ⟨k, q, hk, rfl, rfl⟩ := hrel;by_cases hlt : k < r.receipts.length
  ·obtain ⟨ba, oa, x, e1, hx, hca⟩ := HCA.out.el_at (el := recC) (sz := 4) (fun _ => rfl) (by decide) hlt;obtain ⟨bb, ob, y, e2, hy, hcb⟩ := HCB.out.el_at (el := recC) (sz := 4) (fun _ => rfl) (by decide) hlt;subst e1 e2;obtain rfl : x = y := Option.some.inj (hx.symm.trans hy);have ha0 := hca 0 _ rfl;have hb0 := hcb 0 _ rfl;have ha1 := hca 1 _ rfl;have hb1 := hcb 1 _ rfl;have ha2 := hca 2 _ rfl;have hb2 := hcb 2 _ rfl;have ha3 := hca 3 _ rfl;have hb3 := hcb 3 _ rfl;rw [Nat.add_zero] at ha0 hb0;have h0 : (!((bstr x.1).toList == (bstr x.1).toList)) = false := by rw [beq_self_eq_true]; rfl
   have g0 : ((bstr x.1).toList == (bstr x.1).toList) = true := beq_self_eq_true _;have h1 : (x.2.1 != x.2.1) = false := by rw [bne_eq_false_iff_eq]
   have g1 : (x.2.1 == x.2.1) = true := beq_self_eq_true _;have h2 : (x.2.2.1 != x.2.2.1) = false := by rw [bne_eq_false_iff_eq]
   have g2 : (x.2.2.1 == x.2.2.1) = true := beq_self_eq_true _;have h3 : (x.2.2.2 != x.2.2.2) = false := by rw [bne_eq_false_iff_eq]
   have g3 : (x.2.2.2 == x.2.2.2) = true := beq_self_eq_true _;generalize bstr x.1 = z0 at *;generalize x.2.1 = z1 at *;generalize x.2.2.1 = z2 at *;generalize x.2.2.2 = z3 at *;clear hx hy hca hcb;go_wp2_with fail
   go_quiet (fail)
   go_wp2_with fail
   go_roundw
   case rel => exact ⟨k + 1, _, by omega, by go_num, rfl⟩
   case measure => simp [RowKit.intOf]; omega
  ·obtain rfl : k = r.receipts.length := by omega
   go_wp2_with fail
   go_loopw [6] (fun i wr => ∃ k q : Nat, k ≤ r.typing.length ∧ i = .int .i64 k ∧ wr = w2.drewN q) (fun i _ => r.typing.length - (RowKit.intOf i).toNat)
   case atStart => exact ⟨0, _, by omega, rfl, rfl⟩
   case round =>
    obtain ⟨k, q, hk, rfl, rfl⟩ := hrel;by_cases hlt : k < r.typing.length
    ·obtain ⟨ba, oa, x, e1, hx, hca⟩ := HTA.out.el_at (el := typC) (sz := 2) (fun _ => rfl) (by decide) hlt;obtain ⟨bb, ob, y, e2, hy, hcb⟩ := HTB.out.el_at (el := typC) (sz := 2) (fun _ => rfl) (by decide) hlt;subst e1 e2;obtain rfl : x = y := Option.some.inj (hx.symm.trans hy);have ha0 := hca 0 _ rfl;have hb0 := hcb 0 _ rfl;have ha1 := hca 1 _ rfl;have hb1 := hcb 1 _ rfl;rw [Nat.add_zero] at ha0 hb0;have h0 : (!((bstr x.1).toList == (bstr x.1).toList)) = false := by rw [beq_self_eq_true]; rfl
     have g0 : ((bstr x.1).toList == (bstr x.1).toList) = true := beq_self_eq_true _;have h1 : (x.2 != x.2) = false := by rw [bne_eq_false_iff_eq]
     have g1 : (x.2 == x.2) = true := beq_self_eq_true _;generalize bstr x.1 = z0 at *;generalize x.2 = z1 at *;clear hx hy hca hcb;go_wp2_with fail
     go_quiet (fail)
     go_wp2_with fail
     go_roundw
     case rel => exact ⟨k + 1, _, by omega, by go_num, rfl⟩
     case measure => simp [RowKit.intOf]; omega
    ·obtain rfl : k = r.typing.length := by omega
     go_wp2_with fail;go_ret;exact ⟨rfl, below_drewN HB.out _⟩
theorem OR (A B : Option Addr) (ca cb : Nat) (b1 b2 : Nat) (L : List (List Ar.FV)) (w : World) (ha : EvRow w b1 A L) (hb : EvRow w b2 B L) (hw : ∀ e ∈ L, ∀ v ∈ e, v.WOk) (hn : L.length ≤ 1000000) :
  Calls Tryz.prog 78 #[.slice A L.length ca, .slice B L.length cb] w fun e w' => e = .returned (.bool true) ∧ Below w.heap.size w w' := by
 have HA := hid ha;have HB := hid hb;have HW := hid hw;clear ha hb hw;have hne : ((L.length : Int) != (L.length : Int)) = false := by rw [bne_eq_false_iff_eq]
 go_enter Tryz.func78, Tryz.ntmps78;go_wp2_with fail
 go_loopw [5] (fun i wr => ∃ k : Nat, k ≤ L.length ∧ i = .int .i64 k ∧ Below w.heap.size w wr) (fun i _ => L.length - (RowKit.intOf i).toNat)
 case atStart => exact ⟨0, by omega, rfl, Below.refl _ _⟩
 case round =>
  obtain ⟨k, hk, rfl, hbl⟩ := hrel;have HBL := hid hbl;clear hbl;by_cases hlt : k < L.length
  ·obtain ⟨e, he⟩ : ∃ e, L[k]? = some e := ⟨_, List.getElem?_eq_getElem hlt⟩;obtain ⟨ba, oa, cs, rfl, -, hr1, hl1, hv1⟩ := HA.out k e he;obtain ⟨bb, ob, ds, rfl, -, hr2, hl2, hv2⟩ := HB.out k e he;have HR1 := hid (rg_b HBL.out hr1);have HR2 := hid (rg_b HBL.out hr2);have HV1 := hid (hv1.below HBL.out);have HV2 := hid (hv2.below HBL.out);have HWE := hid (HW.out e (List.mem_of_getElem? he));have hk0 : (0 : Int) ≤ (k : Int) := by omega
   have hk1 : (k : Int) < (L.length : Int) := by omega
   clear hr1 hr2 hv1 hv2 he;go_wp2_with fail;refine wp_region_noPanic ?_;refine wp_region_held_drew (S := fun W => W.rangeAt ba (oa + k * 29) cs ∧ W.rangeAt bb (ob + k * 29) ds) (by kernel_rfl) ⟨HR1.out, HR2.out⟩ (fun hHeld => ?_);refine wpAnyH_take (i := 0) (oi := _) (v := ?_) rfl (by kernel_rfl) (by kernel_rfl) (by kernel_rfl) (fun _ _ _ h => h) (Or.inl ⟨by rfl, ?_⟩) hHeld ?_;rotate_left
   ·intro wq hSw;go_simp
    (try with_reducible rfl)
   (try simp only [Act.put, pk1, pk2, pk3, pk4, pk5, pk6])
   refine wpAnyH_take (i := 1) (oi := _) (v := ?_) rfl (by kernel_rfl) (by kernel_rfl) (by kernel_rfl) (fun _ _ _ h => h) (Or.inl ⟨by rfl, ?_⟩) hHeld ?_;rotate_left
   ·intro wq hSw;go_simp
    (try with_reducible rfl)
   (try simp only [Act.put, pk1, pk2, pk3, pk4, pk5, pk6])
   refine wpAnyH_take (i := 2) (oi := _) (v := ?_) rfl (by kernel_rfl) (by kernel_rfl) (by kernel_rfl) (fun _ _ _ h => h) (Or.inl ⟨by rfl, ?_⟩) hHeld ?_;rotate_left
   ·intro wq hSw;go_simp
    (try with_reducible rfl)
   (try simp only [Act.put, pk1, pk2, pk3, pk4, pk5, pk6])
   refine wpAnyH_take (i := 3) (oi := _) (v := _) rfl (by kernel_rfl) (by kernel_rfl) (by kernel_rfl) (fun _ _ _ h => h) (IR rfl Tryz.underlying40 (by rw [Aj, hl1]) (fun W h => h.1) (by rfl) _ rfl rfl) hHeld ?_
   (try simp only [Act.put, pk1, pk2, pk3, pk4, pk5, pk6])
   refine wpAnyH_take (i := 4) (oi := _) (v := ?_) rfl (by kernel_rfl) (by kernel_rfl) (by kernel_rfl) (fun _ _ _ h => h) (Or.inl ⟨by rfl, ?_⟩) hHeld ?_;rotate_left
   ·intro wq hSw;go_simp
    (try with_reducible rfl)
   (try simp only [Act.put, pk1, pk2, pk3, pk4, pk5, pk6])
   refine wpAnyH_take (i := 5) (oi := _) (v := ?_) rfl (by kernel_rfl) (by kernel_rfl) (by kernel_rfl) (fun _ _ _ h => h) (Or.inl ⟨by rfl, ?_⟩) hHeld ?_;rotate_left
   ·intro wq hSw;go_simp
    (try with_reducible rfl)
   (try simp only [Act.put, pk1, pk2, pk3, pk4, pk5, pk6])
   refine wpAnyH_take (i := 6) (oi := _) (v := ?_) rfl (by kernel_rfl) (by kernel_rfl) (by kernel_rfl) (fun _ _ _ h => h) (Or.inl ⟨by rfl, ?_⟩) hHeld ?_;rotate_left
   ·intro wq hSw;go_simp
    (try with_reducible rfl)
   (try simp only [Act.put, pk1, pk2, pk3, pk4, pk5, pk6])
   refine wpAnyH_take (i := 7) (oi := _) (v := _) rfl (by kernel_rfl) (by kernel_rfl) (by kernel_rfl) (fun _ _ _ h => h) (IR rfl Tryz.underlying40 (by rw [Aj, hl2]) (fun W h => h.2) (by rfl) _ rfl rfl) hHeld ?_
   (try simp only [Act.put, pk1, pk2, pk3, pk4, pk5, pk6])
   refine wpAnyH_ready (rs := [8]) (by kernel_rfl) (by simp) ?_;refine AllReadyH.cons (o := _) rfl (fun K hK => ?_) AllReadyH.nil;go_simp
   go_at_call 22
   refine (M4 (w := wr.drew) (HV1.out.below ((Below.refl _ _).drew)) (HV2.out.below ((Below.refl _ _).drew)) HWE.out).mono ?_;rintro e2 wA ⟨rfl, hbA⟩;have hb9 : Below wr.heap.size wr wA := (Below.refl wr.heap.size wr).drew.trans hbA;have HBA := hid (HBL.out.trans (hb9.mono HBL.out.size));refine hK.out _ _ ⟨rg_b hb9 HR1.out, rg_b hb9 HR2.out⟩ (fun hHeld => ?_);clear hK K hbA hb9
   (try simp only [Act.put, pk1, pk2, pk3, pk4, pk5, pk6])
   refine wpAnyH_take (i := 9) (oi := _) (v := ?_) rfl (by kernel_rfl) (by kernel_rfl) (by kernel_rfl) (fun _ _ _ h => h) (Or.inl ⟨by rfl, ?_⟩) hHeld ?_;rotate_left
   ·intro wq hSw;go_simp
    (try with_reducible rfl)
   (try simp only [Act.put, pk1, pk2, pk3, pk4, pk5, pk6])
   refine wpAnyH_done (by kernel_rfl) ?_ _;refine NoPanic.normal ?_;go_wp2_with fail
   go_roundw
   case rel => exact ⟨k + 1, by omega, by go_num, HBA.out⟩
   case measure => simp [RowKit.intOf]; omega
  ·obtain rfl : k = L.length := by omega
   go_wp2_with fail;go_ret;exact ⟨rfl, HBL.out⟩
theorem ME (r : Ar.Rm) (X Y : Array Value) (w : World) (hx : RmV w r X) (hy : RmV w r Y) (hw1 : ∀ e ∈ r.events, ∀ v ∈ e, v.WOk) (hw2 : ∀ e ∈ r.waiting, ∀ v ∈ e, v.WOk)
  (hn : r.events.length ≤ 1000000 ∧ r.rows.length ≤ 1000000 ∧ r.waiting.length ≤ 1000000 ∧ r.heads.length ≤ 1000000 ∧ r.state.length ≤ 1000000 ∧ r.receipts.length ≤ 1000000 ∧ r.typing.length ≤ 1000000) :
  Calls Tryz.prog 29 #[.agg X, .agg Y] w fun e w' => e = .returned (.bool true) ∧ Below w.heap.size w w' := by
 obtain ⟨n1, n2, n3, n4, n5, n6, n7⟩ := hn;have HX0 := hid hx;have HY0 := hid hy;have HTOLD := hid (fun W (h1 : RmV W r X) (h2 : RmV W r Y) => Pt r X Y W h1 h2 n6 n7);obtain ⟨cE, cR, cW, cH, cS, cC, cT, rfl, hX⟩ := hx;obtain ⟨dE, dR, dW, dH, dS, dC, dT, rfl, hY⟩ := hy;obtain ⟨AE, kE, rfl, hAE⟩ := hX.ev;obtain ⟨BE, lE, rfl, hBE⟩ := hY.ev;obtain ⟨AW, kW, rfl, hAW⟩ := hX.wait;obtain ⟨BW, lW, rfl, hBW⟩ := hY.wait;obtain ⟨AR, kR, rfl, hAR, -⟩ := hX.row;obtain ⟨BR, lR, rfl, hBR, -⟩ := hY.row;obtain ⟨AH, kH, rfl, hAH, -⟩ := hX.heads;obtain ⟨BH, lH, rfl, hBH, -⟩ := hY.heads;obtain ⟨AS, kS, rfl, hAS, -⟩ := hX.state;obtain ⟨BS, lS, rfl, hBS, -⟩ := hY.state;obtain ⟨AC, kC, rfl, -, -⟩ := hX.rcp;obtain ⟨BC, lC, rfl, -, -⟩ := hY.rcp;obtain ⟨AT, kT, rfl, -, -⟩ := hX.typ;obtain ⟨BT, lT, rfl, -, -⟩ := hY.typ;rw [Nat.mul_one] at hAH hBH;have hri : ((bstr r.id).toList == (bstr r.id).toList) = true := beq_self_eq_true _;have hrn : (r.next == r.next) = true := beq_self_eq_true _;generalize bstr r.id = RI at *;have HE := hid (fun W (hb : Below w.heap.size w W) => OR AE BE kE lE w.heap.size w.heap.size r.events W (hAE.keep hb) (hBE.keep hb) hw1 n1);have HW := hid (fun W (hb : Below w.heap.size w W) => OR AW BW kW lW w.heap.size w.heap.size r.waiting W (hAW.keep hb) (hBW.keep hb) hw2 n3);have HR := hid (fun W (hb : Below w.heap.size w W) => Rc AR BR kR lR r.rows W (hAR.below hb) (hBR.below hb) n2);have HI := hid (fun W (hb : Below w.heap.size w W) => QE AH BH kH lH r.heads W (hAH.below hb) (hBH.below hb) n4);have HS := hid (fun W (hb : Below w.heap.size w W) => QU AS BS kS lS r.state W (hAS.below hb) (hBS.below hb) n5);have HT := hid (fun W (hb : Below w.heap.size w W) => HTOLD.out W (HX0.out.below hb) (HY0.out.below hb));have hb2 := ((Below.refl w.heap.size w).alloc (Nat.le_refl _) (.cells (rC RI r AE AR AW AH AS AC AT kE kR kW kH kS kC kT) 55)).alloc (by simp) (.cells (rC RI r BE BR BW BH BS BC BT lE lR lW lH lS lC lT) 55);have hk1 : Blk ((w.alloc (.cells (rC RI r AE AR AW AH AS AC AT kE kR kW kH kS kC kT) 55)).alloc (.cells (rC RI r BE BR BW BH BS BC BT lE lR lW lH lS lC lT) 55)) w.heap.size 55 (rC RI r AE AR AW AH AS AC AT kE kR kW kH kS kC kT) := (Blk.new w 55 (rC RI r AE AR AW AH AS AC AT kE kR kW kH kS kC kT)).alloc _;have hk2 : Blk ((w.alloc (.cells (rC RI r AE AR AW AH AS AC AT kE kR kW kH kS kC kT) 55)).alloc (.cells (rC RI r BE BR BW BH BS BC BT lE lR lW lH lS lC lT) 55)) (w.heap.size + 1) 55 (rC RI r BE BR BW BH BS BC BT lE lR lW lH lS lC lT) := Cy w _ 55 (rC RI r BE BR BW BH BS BC BT lE lR lW lH lS lC lT);generalize hw2 : (w.alloc (.cells (rC RI r AE AR AW AH AS AC AT kE kR kW kH kS kC kT) 55)).alloc (.cells (rC RI r BE BR BW BH BS BC BT lE lR lW lH lS lC lT) 55) = w2 at *;have HB2 := hid hb2;have HK12 := hid hk1;have HK22 := hid hk2;clear hX hY hAE hBE hAW hBW hAR hBR hAH hBH hAS hBS hb2 hk1 hk2 hw1 HTOLD HX0 HY0;have p0 := HK12.out.cell 0;have q0 := HK22.out.cell 0;rw [show ((rC RI r AE AR AW AH AS AC AT kE kR kW kH kS kC kT) : Array Value)[0]? = some (.string RI) from rfl] at p0;rw [show ((rC RI r BE BR BW BH BS BC BT lE lR lW lH lS lC lT) : Array Value)[0]? = some (.string RI) from rfl] at q0;have p6 := HK12.out.cell 6;have q6 := HK22.out.cell 6;rw [show ((rC RI r AE AR AW AH AS AC AT kE kR kW kH kS kC kT) : Array Value)[6]? = some (.int .i64 r.next) from rfl] at p6;rw [show ((rC RI r BE BR BW BH BS BC BT lE lR lW lH lS lC lT) : Array Value)[6]? = some (.int .i64 r.next) from rfl] at q6;have p1 := HK12.out.cell 1;have q1 := HK22.out.cell 1;rw [show ((rC RI r AE AR AW AH AS AC AT kE kR kW kH kS kC kT) : Array Value)[1]? = some (.slice AE r.events.length kE) from rfl] at p1;rw [show ((rC RI r BE BR BW BH BS BC BT lE lR lW lH lS lC lT) : Array Value)[1]? = some (.slice BE r.events.length lE) from rfl] at q1;go_enter Tryz.func29, Tryz.ntmps29;go_wp2_with fail;refine (HE.out _ HB2.out).mono ?_;rintro e w3 ⟨rfl, hb3⟩;have HB3 := hid (HB2.out.trans (hb3.mono HB2.out.size));have HK13 := hid (HK12.out.below hb3 HK12.out.lt);have HK23 := hid (HK22.out.below hb3 HK22.out.lt);clear hb3;have p3' := HK13.out.cell 3;have q3' := HK23.out.cell 3;rw [show ((rC RI r AE AR AW AH AS AC AT kE kR kW kH kS kC kT) : Array Value)[3]? = some (.slice AW r.waiting.length kW) from rfl] at p3';rw [show ((rC RI r BE BR BW BH BS BC BT lE lR lW lH lS lC lT) : Array Value)[3]? = some (.slice BW r.waiting.length lW) from rfl] at q3';go_wp2_with fail;refine (HW.out _ HB3.out).mono ?_;rintro e w4 ⟨rfl, hb4⟩;have HB4 := hid (HB3.out.trans (hb4.mono HB3.out.size));have HK14 := hid (HK13.out.below hb4 HK13.out.lt);have HK24 := hid (HK23.out.below hb4 HK23.out.lt);clear hb4;have p2' := HK14.out.cell 2;have q2' := HK24.out.cell 2;rw [show ((rC RI r AE AR AW AH AS AC AT kE kR kW kH kS kC kT) : Array Value)[2]? = some (.slice AR r.rows.length kR) from rfl] at p2';rw [show ((rC RI r BE BR BW BH BS BC BT lE lR lW lH lS lC lT) : Array Value)[2]? = some (.slice BR r.rows.length lR) from rfl] at q2';go_wp2_with fail;refine (HR.out _ HB4.out).mono ?_;rintro e w5 ⟨rfl, hb5⟩;have HB5 := hid (HB4.out.trans (hb5.mono HB4.out.size));have HK15 := hid (HK14.out.below hb5 HK14.out.lt);have HK25 := hid (HK24.out.below hb5 HK24.out.lt);clear hb5;have p4' := HK15.out.cell 4;have q4' := HK25.out.cell 4;rw [show ((rC RI r AE AR AW AH AS AC AT kE kR kW kH kS kC kT) : Array Value)[4]? = some (.slice AH r.heads.length kH) from rfl] at p4';rw [show ((rC RI r BE BR BW BH BS BC BT lE lR lW lH lS lC lT) : Array Value)[4]? = some (.slice BH r.heads.length lH) from rfl] at q4';go_wp2_with fail;refine (HI.out _ HB5.out).mono ?_;rintro e w6 ⟨rfl, hb6⟩;have HB6 := hid (HB5.out.trans (hb6.mono HB5.out.size));have HK16 := hid (HK15.out.below hb6 HK15.out.lt);have HK26 := hid (HK25.out.below hb6 HK25.out.lt);clear hb6;have p5' := HK16.out.cell 5;have q5' := HK26.out.cell 5;rw [show ((rC RI r AE AR AW AH AS AC AT kE kR kW kH kS kC kT) : Array Value)[5]? = some (.slice AS r.state.length kS) from rfl] at p5';rw [show ((rC RI r BE BR BW BH BS BC BT lE lR lW lH lS lC lT) : Array Value)[5]? = some (.slice BS r.state.length lS) from rfl] at q5';go_wp2_with fail;refine (HS.out _ HB6.out).mono ?_;rintro e w7 ⟨rfl, hb7⟩;have HB7 := hid (HB6.out.trans (hb7.mono HB6.out.size));have HK17 := hid (HK16.out.below hb7 HK16.out.lt);have HK27 := hid (HK26.out.below hb7 HK26.out.lt);clear hb7;go_wp2_with (first | (refine B0 (by rfl) 55 _ rfl w.heap.size rfl 55 (rC RI r AE AR AW AH AS AC AT kE kR kW kH kS kC kT) (0, 0) _ (by rfl) HK17.out Tryz.underlying55 Ah ?_) | (refine B0 (by rfl) 55 _ rfl (w.heap.size + 1) rfl 55 (rC RI r BE BR BW BH BS BC BT lE lR lW lH lS lC lT) (0, 0) _ (by rfl) HK27.out Tryz.underlying55 Ah ?_));refine (HT.out _ HB7.out).mono ?_;rintro e w8 ⟨rfl, hb8⟩;have HB8 := hid (HB7.out.trans (hb8.mono HB7.out.size));clear hb8;go_wp2_with fail;go_ret;exact ⟨rfl, HB8.out⟩
end Go.Proofs.YteadlcncnhbmjaaGreatDoor
namespace Ar
open Go.Lib
def xpre (w s : Str) : Option Str := if hasPrefix s w then some (s.drop w.length) else none
def xhead (s : Str) : Option (Str × Int) := (xpre headW s).bind fun t => (At t).bind fun p =>
 if p.2 = [] then some (p.1, 0) else (xpre nextW p.2).bind fun u => (rint u).bind fun n => if n = 0 then none else some (p.1, n)
def xev (s : Str) : Option (List FV) := if s = [] then some (zeros NK) else (xsign 32 s).bind fun t => if t = [] then none else parse t
def xbn (s : Str) : Option (Int × Str) := (xsign 32 s).bind xnum
def x3 (s : Str) : Option ((Int × Int × Int) × Str) := (xbn s).bind fun a => (xbn a.2).bind fun b => (xbn b.2).map fun c => ((a.1, b.1, c.1), c.2)
def xrow (s : Str) : Option (Int × Int × Int × Bool) := (x3 s).bind fun p => if p.2 = [] then some (p.1.1, p.1.2.1, p.1.2.2, false) else if p.2 = goneW then some (p.1.1, p.1.2.1, p.1.2.2, true) else none
def CT (s : Str) : Option (List Int) := (xsign 32 s).bind fun t => (xlist xnum t).bind fun p => if p.2 = [] then some p.1 else none
def Ca (s : Str) : Option (Int × Str × Int) := (xbn s).bind fun k => (xsign 32 k.2).bind fun t => (At t).bind fun p => (xsign 32 p.2).bind fun u => (rint u).map fun n => (k.1, p.1, n)
def BB (s : Str) : Option (Str × Int × Int × Int) := (xsign 32 s).bind fun t => (At t).bind fun p => (x3 p.2).bind fun q => if q.2 = [] then some (p.1, q.1) else none
def BQ (s : Str) : Option (Str × Int) := (xsign 32 s).bind fun t => (At t).bind fun p => (xsign 32 p.2).bind fun u => (rint u).map fun n => (p.1, n)
def rowN : Str := [114, 111, 119]
def headsN : Str := [104, 101, 97, 100, 115]
def entryN : Str := [101, 110, 116, 114, 121]
def receiptN : Str := [114, 101, 99, 101, 105, 112, 116]
def typingN : Str := [116, 121, 112, 105, 110, 103]
def formW : List Str := [evN, rowN, waitN, headsN, entryN, receiptN, typingN]
def Fh (t : Str) : Bool := match t with
 | [] => true
 | c :: _ => c == 32
def Cz : Nat → List Str → Str → Nat × Str
 | _, [], _ => (0, [])
 | k, w :: ws, s => if (hasPrefix s w && Fh (s.drop w.length)) = true then (k, s.drop w.length) else Cz (k + 1) ws s
def xform (s : Str) : Nat × Str := Cz 2 formW s
def upH (r : Rm) (l : List Int) : Rm := { r with heads := l }
def xtake (r : Rm) (k : Nat) (s : Str) : Option Rm :=
 if k = 2 then (xev s).map (upE r) else if k = 3 then (xrow s).map (upR r) else if k = 4 then (xev s).map (upW r) else if k = 5 then (CT s).map (upH r)
 else if k = 6 then (Ca s).map (upS r) else if k = 7 then (BB s).map (upC r) else if k = 8 then (BQ s).map (upT r) else none
def xline (s : Str) (r : Rm) (last : Nat) : Option (Nat × Rm) :=
 if last < (xform s).1 ∨ (xform s).1 = last ∧ (xform s).1 ≠ 5 then (xtake r (xform s).1 (xform s).2).map fun y => ((xform s).1, y) else none
def xAll : Nat → Nat → Rm → List Str → Rm ⊕ Nat
 | _, _, _, [] => .inr 1
 | i, _, r, [s] => if s = [] ∧ 0 < i then .inl r else .inr (i + 1)
 | i, last, r, s :: t :: L => if i = 0 then (match xhead s with
   | some p => xAll 1 1 { r with id := p.1, next := p.2 } (t :: L)
   | none => .inr 1) else (match xline s r last with
   | some p => xAll (i + 1) p.1 p.2 (t :: L)
   | none => .inr (i + 1))
def xread (s : Str) : Rm ⊕ Nat := xAll 0 1 Rm.zero (lines s)
theorem Kg (w t : Str) : xpre w (w ++ t) = some t := by unfold xpre; rw [if_pos (BX w t), List.drop_left]
theorem J6 {s w : Str} (h : hasPrefix s w = true) : s = w ++ s.drop w.length := by
 unfold hasPrefix at h;obtain ⟨t, rfl⟩ := List.isPrefixOf_iff_prefix.1 h;rw [List.drop_left]
theorem Fp {s w t : Str} (h : xpre w s = some t) : s = w ++ t := by
 unfold xpre at h;split at h
 ·rename_i hp;injection h with h;rw [← h];exact J6 hp
 ·cases h
theorem JQ (n : Int) (t : Str) (h : inInt n) (ht : Stop numch t) : xbn (32 :: (itoa n ++ t)) = some (n, t) := by
 unfold xbn;rw [Ct, Option.bind_some, EJ n t h ht]
theorem Gz {s t : Str} {n : Int} (h : xbn s = some (n, t)) : s = 32 :: (itoa n ++ t) ∧ inInt n := by
 unfold xbn at h;obtain ⟨u, h1, h2⟩ := Option.bind_eq_some_iff.1 h;exact ⟨by rw [BZ h1, CU h2], CY h2⟩
theorem J0 (t : Str) : Stop numch (32 :: t) := by intro c r h; injection h with h1 h2; subst h1; decide
theorem x3_ok (a b c : Int) (t : Str) (ha : inInt a) (hb : inInt b) (hc : inInt c) (ht : Stop numch t) : x3 (32 :: (itoa a ++ 32 :: (itoa b ++ 32 :: (itoa c ++ t)))) = some ((a, b, c), t) := by
 unfold x3;rw [JQ a _ ha (J0 _), Option.bind_some, JQ b _ hb (J0 _), Option.bind_some, JQ c _ hc ht];rfl
theorem OJ {s t : Str} {p : Int × Int × Int} (h : x3 s = some (p, t)) : s = 32 :: (itoa p.1 ++ 32 :: (itoa p.2.1 ++ 32 :: (itoa p.2.2 ++ t))) ∧ inInt p.1 ∧ inInt p.2.1 ∧ inInt p.2.2 := by
 unfold x3 at h;obtain ⟨a, h1, h⟩ := Option.bind_eq_some_iff.1 h;obtain ⟨b, h2, h⟩ := Option.bind_eq_some_iff.1 h;obtain ⟨c, h3, h⟩ := Option.map_eq_some_iff.1 h;injection h with e1 e2;subst e1 e2;obtain ⟨i1, r1⟩ := Gz (n := a.1) (t := a.2) h1;obtain ⟨i2, r2⟩ := Gz (n := b.1) (t := b.2) h2;obtain ⟨i3, r3⟩ := Gz (n := c.1) (t := c.2) h3;exact ⟨by rw [i1, i2, i3], r1, r2, r3⟩
def rowTl (x : Int × Int × Int × Bool) : Str := 32 :: (itoa x.1 ++ 32 :: (itoa x.2.1 ++ 32 :: (itoa x.2.2.1 ++ if x.2.2.2 then goneW else [])))
theorem Ix (x : Int × Int × Int × Bool) : AK x = rowN ++ rowTl x := by simp [AK, rowTl, rowW, rowN]
theorem Rf (x : Int × Int × Int × Bool) (h : inInt x.1 ∧ inInt x.2.1 ∧ inInt x.2.2.1) : xrow (rowTl x) = some x := by
 obtain ⟨a, b, c, d⟩ := x;have hs : Stop numch (if d then goneW else []) := by cases d; exact GJ; exact Ge _
 unfold xrow rowTl;rw [x3_ok a b c _ h.1 h.2.1 h.2.2 hs];cases d <;> rfl
theorem Pb {s : Str} {x : Int × Int × Int × Bool} (h : xrow s = some x) : s = rowTl x ∧ inInt x.1 ∧ inInt x.2.1 ∧ inInt x.2.2.1 := by
 unfold xrow at h;obtain ⟨p, h1, h⟩ := Option.bind_eq_some_iff.1 h;obtain ⟨i1, r1, r2, r3⟩ := OJ (p := p.1) (t := p.2) h1;split at h
 ·rename_i he;injection h with h;subst h;exact ⟨by rw [i1, he]; rfl, r1, r2, r3⟩
 ·split at h
  ·rename_i he;injection h with h;subst h;exact ⟨by rw [i1, he]; rfl, r1, r2, r3⟩
  ·cases h
def FA (l : List Int) : Str := 32 :: join [44] (l.map itoa)
theorem GF (l : List Int) : AB l = headsN ++ FA l := by simp [AB, FA, EI, headsN]
theorem Nr (l : List Int) (hl : l ≠ []) (h : ∀ n ∈ l, inInt n) : CT (FA l) = some l := by
 have hlen := Ci itoa DX l;have h1 : xlist xnum (join [44] (l.map itoa)) = some (l, []) := by
  have := Em xnum itoa [] (fun c r h => by cases h) l ((join [44] (l.map itoa)).length + 1) hl (by omega) (fun x hx u hu => EJ x u (h x hx) hu);rwa [List.append_nil] at this
 unfold CT FA;rw [Ct, Option.bind_some, h1];rfl
theorem MA {s : Str} {l : List Int} (h : CT s = some l) : s = FA l ∧ l ≠ [] ∧ ∀ n ∈ l, inInt n := by
 unfold CT at h;obtain ⟨t, h1, h⟩ := Option.bind_eq_some_iff.1 h;obtain ⟨p, h2, h⟩ := Option.bind_eq_some_iff.1 h;split at h
 ·rename_i he;injection h with h;subst h;obtain ⟨i1, i2, _, _⟩ := Co (tx := itoa) (fun _ _ _ h => CU h) _ _ p.2 p.1 h2;refine ⟨?_, i2, DH (P := inInt) (fun _ _ _ h => CY h) _ _ p.2 p.1 h2⟩;rw [he, List.append_nil] at i1;rw [BZ h1, i1];rfl
 ·cases h
def FD (x : Int × Str × Int) : Str := 32 :: (itoa x.1 ++ 32 :: (quote x.2.1 ++ 32 :: itoa x.2.2))
theorem Gw (x : Int × Str × Int) : Aw x = entryN ++ FD x := by simp [Aw, FD, DG, entryN]
theorem N5 (x : Int × Str × Int) (h : inInt x.1 ∧ inInt x.2.2) : Ca (FD x) = some x := by
 unfold Ca FD;rw [JQ _ _ h.1 (J0 _), Option.bind_some, Ct, Option.bind_some, BJ, Option.bind_some, Ct, Option.bind_some, FC _ h.2];rfl
theorem Mn {s : Str} {x : Int × Str × Int} (h : Ca s = some x) : s = FD x ∧ inInt x.1 ∧ inInt x.2.2 := by
 unfold Ca at h;obtain ⟨k, h1, h⟩ := Option.bind_eq_some_iff.1 h;obtain ⟨t, h2, h⟩ := Option.bind_eq_some_iff.1 h;obtain ⟨p, h3, h⟩ := Option.bind_eq_some_iff.1 h;obtain ⟨u, h4, h⟩ := Option.bind_eq_some_iff.1 h;obtain ⟨n, h5, h⟩ := Option.map_eq_some_iff.1 h;subst h;obtain ⟨i1, r1⟩ := Gz (n := k.1) (t := k.2) h1;have i3 := Bm (o := p.1) (q := p.2) h3;obtain ⟨i5, r5⟩ := Ei h5;exact ⟨by rw [i1, BZ h2, i3, BZ h4, i5]; rfl, r1, r5⟩
def Dy (x : Str × Int × Int × Int) : Str := 32 :: (quote x.1 ++ 32 :: (itoa x.2.1 ++ 32 :: (itoa x.2.2.1 ++ 32 :: itoa x.2.2.2)))
theorem Fe (x : Str × Int × Int × Int) : Am x = receiptN ++ Dy x := by simp [Am, Dy, CE, receiptN]
theorem KO (x : Str × Int × Int × Int) (h : inInt x.2.1 ∧ inInt x.2.2.1 ∧ inInt x.2.2.2) : BB (Dy x) = some x := by
 have h3 := x3_ok x.2.1 x.2.2.1 x.2.2.2 [] h.1 h.2.1 h.2.2 GJ;rw [List.append_nil] at h3;unfold BB Dy;rw [Ct, Option.bind_some, BJ, Option.bind_some, h3];rfl
theorem Kd {s : Str} {x : Str × Int × Int × Int} (h : BB s = some x) : s = Dy x ∧ inInt x.2.1 ∧ inInt x.2.2.1 ∧ inInt x.2.2.2 := by
 unfold BB at h;obtain ⟨t, h1, h⟩ := Option.bind_eq_some_iff.1 h;obtain ⟨p, h2, h⟩ := Option.bind_eq_some_iff.1 h;obtain ⟨q, h3, h⟩ := Option.bind_eq_some_iff.1 h;split at h
 ·rename_i he;injection h with h;subst h;obtain ⟨i3, r1, r2, r3⟩ := OJ (p := q.1) (t := q.2) h3;rw [he, List.append_nil] at i3;exact ⟨by rw [BZ h1, Bm (o := p.1) (q := p.2) h2, i3]; rfl, r1, r2, r3⟩
 ·cases h
def Eo (x : Str × Int) : Str := 32 :: (quote x.1 ++ 32 :: itoa x.2)
theorem FZ (x : Str × Int) : Ap x = typingN ++ Eo x := by simp [Ap, Eo, CW, typingN]
theorem LK (x : Str × Int) (h : inInt x.2) : BQ (Eo x) = some x := by
 unfold BQ Eo;rw [Ct, Option.bind_some, BJ, Option.bind_some, Ct, Option.bind_some, FC _ h];rfl
theorem K0 {s : Str} {x : Str × Int} (h : BQ s = some x) : s = Eo x ∧ inInt x.2 := by
 unfold BQ at h;obtain ⟨t, h1, h⟩ := Option.bind_eq_some_iff.1 h;obtain ⟨p, h2, h⟩ := Option.bind_eq_some_iff.1 h;obtain ⟨u, h3, h⟩ := Option.bind_eq_some_iff.1 h;obtain ⟨n, h4, h⟩ := Option.map_eq_some_iff.1 h;subst h;obtain ⟨i4, r4⟩ := Ei h4;exact ⟨by rw [BZ h1, Bm (o := p.1) (q := p.2) h2, BZ h3, i4]; rfl, r4⟩
def evTl (e : List FV) : Str := if line e = [] then [] else 32 :: line e
theorem Gi (w : Str) (e : List FV) : after w (line e) = w ++ evTl e := by
 unfold after evTl;split
 ·rw [List.append_nil]
 ·rfl
theorem H4 : line (zeros NK) = [] := by decide
theorem PM (e : List FV) (h : Fits NK e) : xev (evTl e) = some e := by
 unfold xev evTl;by_cases h0 : line e = []
 ·rw [if_pos h0, if_pos rfl];have h1 := C0 e h;have h2 := C0 (zeros NK) DU;rw [h0] at h1;rw [H4] at h2;rw [← h1, ← h2]
 ·rw [if_neg h0, if_neg (by simp), Ct, Option.bind_some, if_neg h0, C0 e h]
theorem M3 {s : Str} {e : List FV} (h : xev s = some e) : s = evTl e ∧ Fits NK e := by
 unfold xev at h;split at h
 ·rename_i h0;injection h with h;subst h;exact ⟨by rw [h0]; unfold evTl; rw [if_pos H4], DU⟩
 ·obtain ⟨t, h1, h⟩ := Option.bind_eq_some_iff.1 h;split at h
  ·cases h
  ·rename_i ht;have hl := F8 h;refine ⟨?_, F3 h⟩;unfold evTl;rw [hl, if_neg ht, BZ h1]
theorem C6 (s w : Str) (hw : (32 : UInt8) ∉ w) : (hasPrefix s w && Fh (s.drop w.length)) = true ↔ (cut s [32]).1 = w := by
 constructor
 ·intro h;rw [Bool.and_eq_true] at h;have hs := J6 h.1;have hb := h.2;generalize s.drop w.length = t at *;subst hs
  cases t with
  | nil => rw [List.append_nil, Gg hw]
  | cons c t =>
   have hc : c = 32 := by simpa [Fh] using hb
   subst hc;exact Dq w t hw
 ·intro h;by_cases hm : (32 : UInt8) ∈ s
  ·obtain ⟨l, t, rfl, hl⟩ := List.eq_append_cons_of_mem hm;rw [Dq l t hl] at h;subst h;rw [BX, List.drop_left];rfl
  ·rw [Gg hm] at h;have h : s = w := h;subst h;have := BX s [];rw [List.append_nil] at this;rw [this, List.drop_length];rfl
theorem K5 (s : Str) : xform s =
  if (cut s [32]).1 = evN then (2, s.drop evN.length) else if (cut s [32]).1 = rowN then (3, s.drop rowN.length) else if (cut s [32]).1 = waitN then (4, s.drop waitN.length)
  else if (cut s [32]).1 = headsN then (5, s.drop headsN.length) else if (cut s [32]).1 = entryN then (6, s.drop entryN.length) else if (cut s [32]).1 = receiptN then (7, s.drop receiptN.length)
  else if (cut s [32]).1 = typingN then (8, s.drop typingN.length) else (0, []) := by
 unfold xform formW;simp only [Cz, C6 s evN (by decide), C6 s rowN (by decide), C6 s waitN (by decide), C6 s headsN (by decide), C6 s entryN (by decide), C6 s receiptN (by decide), C6 s typingN (by decide)]
theorem Qy {s : Str} {r y : Rm} (h : xtake r (xform s).1 (xform s).2 = some y) : AG s r = ((xform s).1, y) := by
 have key : ∀ w t : Str, (32 : UInt8) ∉ w → (cut s [32]).1 = w → s.drop w.length = t → s = w ++ t := by
  intro w t hw hc ht;have h := (C6 s w hw).2 hc;rw [Bool.and_eq_true] at h;rw [← ht];exact J6 h.1
 rw [K5] at h ⊢;split at h
 ·rename_i hc;rw [if_pos hc];obtain ⟨x, hx, rfl⟩ := Option.map_eq_some_iff.1 (show (xev _).map (upE r) = some y from h);obtain ⟨hs, hf⟩ := M3 hx;rw [key _ _ (by decide) hc hs, ← Gi];exact JH x r hf
 ·rename_i n1;rw [if_neg n1];split at h
  ·rename_i hc;rw [if_pos hc];obtain ⟨x, hx, rfl⟩ := Option.map_eq_some_iff.1 (show (xrow _).map (upR r) = some y from h);obtain ⟨hs, hf⟩ := Pb hx;rw [key _ _ (by decide) hc hs, ← Ix];exact IM x r hf
  ·rename_i n2;rw [if_neg n2];split at h
   ·rename_i hc;rw [if_pos hc];obtain ⟨x, hx, rfl⟩ := Option.map_eq_some_iff.1 (show (xev _).map (upW r) = some y from h);obtain ⟨hs, hf⟩ := M3 hx;rw [key _ _ (by decide) hc hs, ← Gi];exact G1 x r hf
   ·rename_i n3;rw [if_neg n3];split at h
    ·rename_i hc;rw [if_pos hc];obtain ⟨x, hx, rfl⟩ := Option.map_eq_some_iff.1 (show (CT _).map (upH r) = some y from h);obtain ⟨hs, hn, hf⟩ := MA hx;rw [key _ _ (by decide) hc hs, ← GF];exact Gn x r hn hf
    ·rename_i n4;rw [if_neg n4];split at h
     ·rename_i hc;rw [if_pos hc];obtain ⟨x, hx, rfl⟩ := Option.map_eq_some_iff.1 (show (Ca _).map (upS r) = some y from h);obtain ⟨hs, hf⟩ := Mn hx;rw [key _ _ (by decide) hc hs, ← Gw];exact Gv x r hf
     ·rename_i n5;rw [if_neg n5];split at h
      ·rename_i hc;rw [if_pos hc];obtain ⟨x, hx, rfl⟩ := Option.map_eq_some_iff.1 (show (BB _).map (upC r) = some y from h);obtain ⟨hs, hf⟩ := Kd hx;rw [key _ _ (by decide) hc hs, ← Fe];exact Fm x r hf
      ·rename_i n6;rw [if_neg n6];split at h
       ·rename_i hc;rw [if_pos hc];obtain ⟨x, hx, rfl⟩ := Option.map_eq_some_iff.1 (show (BQ _).map (upT r) = some y from h);obtain ⟨hs, hf⟩ := K0 hx;rw [key _ _ (by decide) hc hs, ← FZ];exact FS x r hf
       ·cases h
theorem DQ {s w t : Str} {k : Nat} (hs : s = w ++ t) (hb : Fh t = true) (h : ∃ i, formW[i]? = some w ∧ k = i + 2) : xform s = (k, t) := by
 obtain ⟨i, hi, rfl⟩ := h;have hw : (32 : UInt8) ∉ w := by
  have : ∀ w ∈ formW, (32 : UInt8) ∉ w := by decide
  exact this w (List.mem_of_getElem? hi)
 have hc : (cut s [32]).1 = w := by
  refine (C6 s w hw).1 ?_;rw [hs, BX, List.drop_left, hb];rfl
 have hd : s.drop w.length = t := by rw [hs, List.drop_left]
 rw [K5, hc]
 match i, hi with
 | 0, hi => injection hi with hi; subst hi; rw [if_pos rfl, hd]
 | 1, hi => injection hi with hi; subst hi; rw [if_neg (by decide), if_pos rfl, hd]
 | 2, hi => injection hi with hi; subst hi; rw [if_neg (by decide), if_neg (by decide), if_pos rfl, hd]
 | 3, hi => injection hi with hi; subst hi; rw [if_neg (by decide), if_neg (by decide), if_neg (by decide), if_pos rfl, hd]
 | 4, hi => injection hi with hi; subst hi; rw [if_neg (by decide), if_neg (by decide), if_neg (by decide), if_neg (by decide), if_pos rfl, hd]
 | 5, hi => injection hi with hi; subst hi; rw [if_neg (by decide), if_neg (by decide), if_neg (by decide), if_neg (by decide), if_neg (by decide), if_pos rfl, hd]
 | 6, hi => injection hi with hi; subst hi; rw [if_neg (by decide), if_neg (by decide), if_neg (by decide), if_neg (by decide), if_neg (by decide), if_neg (by decide), if_pos rfl, hd]
theorem Lm (e : List FV) : Fh (evTl e) = true := by
 unfold evTl;split <;> rfl
theorem P9 {s : Str} {r y : Rm} {k : Nat} (h : AG s r = (k, y)) (hk : k ≠ 0) : (xform s).1 = k ∧ xtake r k (xform s).2 = some y := by
 rw [Bh] at h;split at h
 ·obtain ⟨rfl, hx⟩ := BM h hk;obtain ⟨e, he, rfl⟩ := Option.map_eq_some_iff.1 hx;obtain ⟨hs, hf⟩ := Dw he;rename_i hw;rw [hw, Gi] at hs;rw [DQ hs.symm (Lm e) ⟨0, rfl, rfl⟩];exact ⟨rfl, by show (xev (evTl e)).map (upE r) = _; rw [PM e hf]; rfl⟩
 ·split at h
  ·obtain ⟨rfl, hx⟩ := BM h hk;obtain ⟨e, he, rfl⟩ := Option.map_eq_some_iff.1 hx;obtain ⟨hs, hf⟩ := Dw he;rename_i hw;rw [hw, Gi] at hs;rw [DQ hs.symm (Lm e) ⟨2, rfl, rfl⟩];exact ⟨rfl, by show (xev (evTl e)).map (upW r) = _; rw [PM e hf]; rfl⟩
  ·split at h
   ·obtain ⟨rfl, hx⟩ := BM h hk;obtain ⟨x, hs, rfl, hf⟩ := F2 hx;rw [Ix] at hs;rw [DQ hs.symm rfl ⟨1, rfl, rfl⟩];exact ⟨rfl, by show (xrow (rowTl x)).map (upR r) = _; rw [Rf x hf]; rfl⟩
   ·split at h
    ·obtain ⟨rfl, hx⟩ := BM h hk;obtain ⟨l, hs, rfl, hl, hf⟩ := Ey hx;rw [GF] at hs;rw [DQ hs.symm rfl ⟨3, rfl, rfl⟩];exact ⟨rfl, by show (CT (FA l)).map (upH r) = _; rw [Nr l hl hf]; rfl⟩
    ·split at h
     ·obtain ⟨rfl, hx⟩ := BM h hk;obtain ⟨x, hs, rfl, hf⟩ := Ex hx;rw [Gw] at hs;rw [DQ hs.symm rfl ⟨4, rfl, rfl⟩];exact ⟨rfl, by show (Ca (FD x)).map (upS r) = _; rw [N5 x hf]; rfl⟩
     ·split at h
      ·obtain ⟨rfl, hx⟩ := BM h hk;obtain ⟨x, hs, rfl, hf⟩ := DS hx;rw [Fe] at hs;rw [DQ hs.symm rfl ⟨5, rfl, rfl⟩];exact ⟨rfl, by show (BB (Dy x)).map (upC r) = _; rw [KO x hf]; rfl⟩
      ·split at h
       ·obtain ⟨rfl, hx⟩ := BM h hk;obtain ⟨x, hs, rfl, hf⟩ := Ea hx;rw [FZ] at hs;rw [DQ hs.symm rfl ⟨6, rfl, rfl⟩];exact ⟨rfl, by show (BQ (Eo x)).map (upT r) = _; rw [LK x hf]; rfl⟩
       ·injection h with h1 h2;exact absurd h1.symm hk
theorem Mh (r : Rm) (s : Str) : xtake r 0 s = none := rfl
theorem ON (s : Str) (r : Rm) (last : Nat) (h1 : 1 ≤ last) : xline s r last = if (AG s r).1 = 0 ∨ (AG s r).1 < last ∨ ((AG s r).1 = 5 ∧ last = 5) then none else some (AG s r) := by
 unfold xline
 cases hx : xtake r (xform s).1 (xform s).2 with
 | none =>
  have h0 : (AG s r).1 = 0 := by
   cases hr : AG s r with
   | mk k y =>
    by_cases hk : k = 0
    ·exact hk
    ·obtain ⟨e1, e2⟩ := P9 hr hk;rw [e1, e2] at hx;cases hx
  have hr : (if (AG s r).1 = 0 ∨ (AG s r).1 < last ∨ ((AG s r).1 = 5 ∧ last = 5) then none else some (AG s r)) = (none : Option (Nat × Rm)) := if_pos (.inl h0);rw [hr];split <;> rfl
 | some y =>
  have h2 := Qy hx;have hk : (xform s).1 ≠ 0 := by
   intro e;rw [e, Mh] at hx;cases hx
  rw [h2];by_cases hc : last < (xform s).1 ∨ (xform s).1 = last ∧ (xform s).1 ≠ 5
  ·rw [if_pos hc, if_neg (by omega)];rfl
  ·rw [if_neg hc, if_pos (by omega)]
theorem Pv (id : Str) (n : Int) (h : inInt n) : xhead (As id n) = some (id, n) := by
 unfold xhead As;by_cases hz : n = 0
 ·rw [if_pos hz, List.append_assoc, Kg, Option.bind_some, BJ, Option.bind_some, if_pos rfl, hz]
 ·rw [if_neg hz, List.append_assoc, Kg, Option.bind_some, BJ, Option.bind_some, if_neg (by simp [nextW]), Kg, Option.bind_some, FC n h, Option.bind_some, if_neg hz]
theorem OE {s id : Str} {n : Int} (h : xhead s = some (id, n)) : s = As id n ∧ inInt n := by
 unfold xhead at h;obtain ⟨t, h1, h⟩ := Option.bind_eq_some_iff.1 h;obtain ⟨p, h2, h⟩ := Option.bind_eq_some_iff.1 h;have i2 := Bm (o := p.1) (q := p.2) h2;split at h
 ·rename_i he;injection h with h;injection h with e1 e2;subst e1 e2;refine ⟨?_, by unfold inInt; omega⟩;unfold As;rw [if_pos rfl, Fp h1, i2, he, List.append_assoc]
 ·obtain ⟨u, h3, h⟩ := Option.bind_eq_some_iff.1 h;obtain ⟨m, h4, h⟩ := Option.bind_eq_some_iff.1 h;obtain ⟨i4, r4⟩ := Ei h4;split at h
  ·cases h
  ·rename_i hm;injection h with h;injection h with e1 e2;subst e1 e2;refine ⟨?_, r4⟩;unfold As;rw [if_neg hm, Fp h1, i2, Fp h3, i4, List.append_assoc]
theorem Qo (s : Str) : (xhead s).map (fun p => { Rm.zero with id := p.1, next := p.2 }) = Cb s Rm.zero := by
 cases hx : xhead s with
 | some p =>
  obtain ⟨id, n⟩ := p;obtain ⟨hs, hn⟩ := OE hx;rw [hs, Jz id n Rm.zero hn rfl];rfl
 | none =>
  cases hr : Cb s Rm.zero with
  | none => rfl
  | some y =>
   obtain ⟨h1, ⟨i, n, rfl⟩, h3⟩ := Fl hr;have hn : inInt n := h3 (by show inInt 0; unfold inInt; omega);have := Pv i n hn;rw [show As i n = s from h1, hx] at this;cases this
theorem MG : ∀ (L : List Str) (i f : Nat) (r : Rm) (l : Str), 0 < i → 1 ≤ f → xAll i f r (L ++ [l]) = match rdAll i f r L with
  | .inl y => if l = [] then .inl y else .inr (i + L.length + 1)
  | .inr n => .inr n
 | [], i, f, r, l, hi, hf => by
  show (if l = [] ∧ 0 < i then Sum.inl r else Sum.inr (i + 1)) = if l = [] then Sum.inl r else Sum.inr (i + 0 + 1)
  by_cases h : l = []
  ·rw [if_pos ⟨h, hi⟩, if_pos h]
  ·rw [if_neg (fun e => h e.1), if_neg h]
 | s :: L, i, f, r, l, hi, hf => by
  have hne : ∃ t M, L ++ [l] = t :: M := by
   cases L with
   | nil => exact ⟨l, [], rfl⟩
   | cons t M => exact ⟨t, M ++ [l], rfl⟩
  obtain ⟨t, M, hM⟩ := hne
  have h1 : xAll i f r ((s :: L) ++ [l]) = match xline s r f with
    | some p => xAll (i + 1) p.1 p.2 (L ++ [l])
    | none => .inr (i + 1) := by
   rw [List.cons_append, hM, xAll, if_neg (by omega)]
  have h2 : rdAll i f r (s :: L) = if (AG s r).1 = 0 ∨ (AG s r).1 < f ∨ ((AG s r).1 = 5 ∧ f = 5) then .inr (i + 1) else rdAll (i + 1) (AG s r).1 (AG s r).2 L := by
   rw [rdAll];simp only [if_neg (show ¬ i = 0 by omega)]
  rw [h1, h2, ON s r f hf];split
  ·rename_i heq;split at heq
   ·cases heq
   ·rename_i hc;injection heq with heq;subst heq;rw [if_neg hc, MG L (i + 1) _ _ l (by omega) (by omega), List.length_cons, show i + 1 + L.length + 1 = i + (L.length + 1) + 1 by omega]
  ·rename_i heq;split at heq
   ·rename_i hc;rw [if_pos hc]
   ·cases heq
theorem Qf (s : Str) : xread s = read s := by
 have hne := Es s;obtain ⟨L, l, hL⟩ : ∃ L l, lines s = L ++ [l] := ⟨_, _, (List.dropLast_concat_getLast hne).symm⟩;unfold xread read;rw [hL, List.dropLast_concat];simp only [List.getLast?_append, List.getLast?_singleton, Option.some_or]
 cases L with
 | nil =>
  show (if l = [] ∧ 0 < 0 then Sum.inl Rm.zero else Sum.inr (0 + 1)) = if 1 = 1 ∨ _ then Sum.inr _ else _
  rw [if_neg (by omega), if_pos (.inl rfl)];rfl
 | cons t M =>
  have hx : xAll 0 1 Rm.zero ((t :: M) ++ [l]) = match xhead t with
    | some p => xAll 1 1 { Rm.zero with id := p.1, next := p.2 } (M ++ [l])
    | none => .inr 1 := by
   have hne : ∃ t' M', M ++ [l] = t' :: M' := by
    cases M with
    | nil => exact ⟨l, [], rfl⟩
    | cons t M => exact ⟨t, M ++ [l], rfl⟩
   obtain ⟨t', M', hM⟩ := hne;rw [List.cons_append, hM, xAll, if_pos rfl]
  have hh := Qo t;rw [hx]
  cases hxh : xhead t with
  | none =>
   rw [hxh] at hh;rw [F6 hh.symm]
  | some p =>
   rw [hxh] at hh;rw [DW hh.symm];show xAll 1 1 { Rm.zero with id := p.1, next := p.2 } (M ++ [l]) = _;rw [MG M 1 1 _ l (by omega) (by omega)]
   cases rdAll 1 1 { Rm.zero with id := p.1, next := p.2 } M with
   | inr n => rfl
   | inl y =>
    have e : (t :: M ++ [l]).length = 1 + M.length + 1 := by simp; omega
    rw [e];by_cases hl : l = []
    ·simp only [hl, if_true];rw [if_neg];intro h;rcases h with h | h
     ·omega
     ·exact h rfl
    ·simp only [if_neg hl];rw [if_pos (.inr (fun h => hl (by injection h)))]
end Ar
namespace Go.Proofs.YteadlcncnhbmjaaGreatDoor
open Go.RowKit Go.Lib
theorem Hr (A : Nat) : Int.tmod (-(A : Int)) 10 = -((A % 10 : Nat) : Int) := by rw [Int.neg_tmod, Int.tmod_eq_emod_of_nonneg (by omega)]; omega
theorem Hw (A : Nat) : Int.tdiv (-(A : Int)) 10 = -((A / 10 : Nat) : Int) := by rw [Int.neg_tdiv, Int.tdiv_eq_ediv_of_nonneg (by omega)]; omega
theorem FJ (d : Nat) (h : d < 10) : IntKind.u8.wrap (48 + (d : Int)) = ((UInt8.ofNat (48 + d)).toNat : Int) := by rw [(Ar.EG d h).2, IntKind.wrap_u8]; omega
def DgR (A u : Nat) (acc : List UInt8) : Prop := Ar.digs A = (if u = 0 then [] else Ar.digs u) ++ acc
theorem DgR.first (A : Nat) : DgR A (A / 10) [UInt8.ofNat (48 + A % 10)] := by
 unfold DgR;by_cases h : A < 10
 ·rw [Ar.BN A h, if_pos (by omega), Nat.mod_eq_of_lt h]; rfl
 ·rw [Ar.CH A (by omega), if_neg (by omega)]
theorem DgR.next {A u : Nat} {acc : List UInt8} (h : DgR A u acc) (hu : u ≠ 0) : DgR A (u / 10) (UInt8.ofNat (48 + u % 10) :: acc) := by
 have h1 : DgR u (u / 10) [UInt8.ofNat (48 + u % 10)] := DgR.first u
 unfold DgR at *;rw [h, if_neg hu, h1];simp
theorem DgR.last {A : Nat} {acc : List UInt8} (h : DgR A 0 acc) : Ar.digs A = acc := by unfold DgR at h; rw [h, if_pos rfl]; rfl
theorem DgR.len {A u : Nat} {acc : List UInt8} (h : DgR A u acc) (hA : A ≤ 9223372036854775808) : acc.length ≤ 19 := by
 have h1 := DP 18 A (by omega);unfold DgR at h;rw [h, List.length_append] at h1;omega
theorem Gm (W : World) (c : UInt8) : (convert 69 9 (.slice (some ⟨W.heap.size, 0, none⟩) 1 1)).run Tryz.prog (W.alloc (.cells #[.int .u8 (c.toNat : Int)] 5)) = .ok (.string (bstr [c])) (W.alloc (.cells #[.int .u8 (c.toNat : Int)] 5)) := Fb (IX W c)
theorem Cw (n : Int) (w : World) (hn : Ar.inInt n) : Calls Tryz.prog 122 #[.int .i64 n] w fun e w' => e = .returned (.string (bstr (Ar.itoa n))) ∧ Below w.heap.size w w' := by
 obtain ⟨hn1, hn2⟩ := hn;obtain ⟨A, hA⟩ : ∃ A, n.natAbs = A := ⟨_, rfl⟩;have hA9 : A ≤ 9223372036854775808 := by omega
 have hq0 := Hw A;have hr0 := Hr A;obtain ⟨d0, hd0⟩ : ∃ d, A % 10 = d := ⟨_, rfl⟩;have hdl : d0 < 10 := by omega
 have hb0 := FJ d0 hdl;have HF := hid (DgR.first A);rw [hd0] at hr0 HF;obtain ⟨c, hc⟩ : ∃ c, UInt8.ofNat (48 + d0) = c := ⟨_, rfl⟩;rw [hc] at hb0 HF;obtain ⟨A1, hA1⟩ : ∃ A1, A / 10 = A1 := ⟨_, rfl⟩;rw [hA1] at hq0 HF;have hA1l : A1 ≤ 922337203685477580 := by omega
 have hcv0 := Gm w c;clear hc hd0 hA1;by_cases h0 : n < 0
 ·have HI : Hid (Ar.itoa n = 45 :: Ar.digs A) := hid (by unfold Ar.itoa; rw [if_pos h0, hA]);obtain rfl : n = -(A : Int) := by omega
  have h1 : decide ((A : Int) < 0) = false := decide_eq_false (by omega);have h2 : 0 < A := by omega
  clear hA h0;go_enter Tryz.func122, Tryz.ntmps122;go_wp2_with fail;have HB1 := hid ((Below.refl w.heap.size w).alloc (Nat.le_refl _) (.cells #[.int .u8 (c.toNat : Int)] 5));generalize hw1 : w.alloc (.cells #[.int .u8 (c.toNat : Int)] 5) = w1 at *;clear hw1 hr0 hq0 hb0 hcv0
  go_loopw [3, 4] (fun lx sx wr => ∃ (u : Nat) (acc : List UInt8), lx = .int .i64 (-(u : Int)) ∧ sx = .string (bstr acc) ∧ u ≤ 922337203685477580 ∧ DgR A u acc ∧ Below w.heap.size w wr) (fun lx _ _ => (RowKit.intOf lx).natAbs)
  case atStart => exact ⟨A1, [c], rfl, rfl, hA1l, HF.out, HB1.out⟩
  case round =>
   obtain ⟨u, acc, rfl, rfl, hul, hd, hb⟩ := hrel;have hlen := hd.len hA9;have HD := hid hd;have HB := hid hb;have hbs := hb.size;clear hd hb;by_cases hu : u = 0
   ·subst hu;have HE : Hid (Ar.itoa (-(A : Int)) = 45 :: acc) := hid (by rw [HI.out, HD.out.last]);rw [show -((0 : Nat) : Int) = 0 from rfl];have hss : (bstr acc).size = acc.length := Ab acc;have hov : ¬ 9223372036854775807 < 1 + (bstr acc).size := by omega
    clear HD HI HF HB1;go_wp2_with fail;go_ret;exact ⟨AM (by rw [HE.out]; exact Bg (by simp [bstr])), HB.out⟩
   ·have HN := hid (HD.out.next hu);have hu0 : ¬ (-(u : Int) = 0) := by omega
    have hq := Hw u;have hr := Hr u;obtain ⟨d, hd⟩ : ∃ d, u % 10 = d := ⟨_, rfl⟩;have hdl2 : d < 10 := by omega
    have hbt := FJ d hdl2;rw [hd] at hr HN;obtain ⟨c2, hc2⟩ : ∃ c, UInt8.ofNat (48 + d) = c := ⟨_, rfl⟩;rw [hc2] at hbt HN;obtain ⟨u1, hu1⟩ : ∃ u1, u / 10 = u1 := ⟨_, rfl⟩;have HLT : Hid (u1 < u) := hid (by omega);have hu1l : u1 ≤ 922337203685477580 := by omega
    rw [hu1] at hq HN;have hcv := Gm wr c2;have HS : Hid (bstr [c2] ++ bstr acc = bstr (c2 :: acc)) := hid (Bg (by simp [bstr]));have hsz : (bstr acc).size = acc.length := Ab acc;have hsz1 : (bstr [c2]).size = 1 := Ab [c2];have hov : ¬ 9223372036854775807 < (bstr [c2]).size + (bstr acc).size := by omega
    clear hd hc2 hu1;generalize hK1 : bstr [c2] = K1 at *;generalize hK2 : bstr acc = K2 at *;go_wp2_with fail
    go_roundw
    case rel => exact ⟨u1, c2 :: acc, rfl, by rw [← HS.out], hu1l, HN.out, HB.out.alloc hbs _⟩
    case measure => have := HLT.out; simp [RowKit.intOf]; omega
 ·have HI : Hid (Ar.itoa n = Ar.digs A) := hid (by unfold Ar.itoa; rw [if_neg h0, hA]);obtain rfl : n = (A : Int) := by omega
  have h2 : decide ((A : Int) < 0) = false := decide_eq_false h0;clear hA h0;by_cases hz : A = 0
  ·have h1 : ¬ 0 < A := by omega
   rw [show -(A : Int) = (A : Int) from by omega] at hq0 hr0;clear hz;go_enter Tryz.func122, Tryz.ntmps122;go_wp2_with fail;have HB1 := hid ((Below.refl w.heap.size w).alloc (Nat.le_refl _) (.cells #[.int .u8 (c.toNat : Int)] 5));generalize hw1 : w.alloc (.cells #[.int .u8 (c.toNat : Int)] 5) = w1 at *;clear hw1 hr0 hq0 hb0 hcv0
   go_loopw [3, 4] (fun lx sx wr => ∃ (u : Nat) (acc : List UInt8), lx = .int .i64 (-(u : Int)) ∧ sx = .string (bstr acc) ∧ u ≤ 922337203685477580 ∧ DgR A u acc ∧ Below w.heap.size w wr) (fun lx _ _ => (RowKit.intOf lx).natAbs)
   case atStart => exact ⟨A1, [c], rfl, rfl, hA1l, HF.out, HB1.out⟩
   case round =>
    obtain ⟨u, acc, rfl, rfl, hul, hd, hb⟩ := hrel;have hlen := hd.len hA9;have HD := hid hd;have HB := hid hb;have hbs := hb.size;clear hd hb;by_cases hu : u = 0
    ·subst hu;have HE : Hid (Ar.itoa (A : Int) = acc) := hid (by rw [HI.out, HD.out.last]);rw [show -((0 : Nat) : Int) = 0 from rfl];have hss : (bstr acc).size = acc.length := Ab acc;have h3 : decide ((A : Int) < 0) = false := decide_eq_false (by omega);clear HD HI HF HB1;go_wp2_with fail;go_ret;exact ⟨AM (by rw [HE.out]), HB.out⟩
    ·have HN := hid (HD.out.next hu);have hu0 : ¬ (-(u : Int) = 0) := by omega
     have hq := Hw u;have hr := Hr u;obtain ⟨d, hd⟩ : ∃ d, u % 10 = d := ⟨_, rfl⟩;have hdl2 : d < 10 := by omega
     have hbt := FJ d hdl2;rw [hd] at hr HN;obtain ⟨c2, hc2⟩ : ∃ c, UInt8.ofNat (48 + d) = c := ⟨_, rfl⟩;rw [hc2] at hbt HN;obtain ⟨u1, hu1⟩ : ∃ u1, u / 10 = u1 := ⟨_, rfl⟩;have HLT : Hid (u1 < u) := hid (by omega);have hu1l : u1 ≤ 922337203685477580 := by omega
     rw [hu1] at hq HN;have hcv := Gm wr c2;have HS : Hid (bstr [c2] ++ bstr acc = bstr (c2 :: acc)) := hid (Bg (by simp [bstr]));have hsz : (bstr acc).size = acc.length := Ab acc;have hsz1 : (bstr [c2]).size = 1 := Ab [c2];have hov : ¬ 9223372036854775807 < (bstr [c2]).size + (bstr acc).size := by omega
     clear hd hc2 hu1;generalize hK1 : bstr [c2] = K1 at *;generalize hK2 : bstr acc = K2 at *;go_wp2_with fail
     go_roundw
     case rel => exact ⟨u1, c2 :: acc, rfl, by rw [← HS.out], hu1l, HN.out, HB.out.alloc hbs _⟩
     case measure => have := HLT.out; simp [RowKit.intOf]; omega
  ·have h1 : 0 < A := by omega
   clear hz;go_enter Tryz.func122, Tryz.ntmps122;go_wp2_with fail;have HB1 := hid ((Below.refl w.heap.size w).alloc (Nat.le_refl _) (.cells #[.int .u8 (c.toNat : Int)] 5));generalize hw1 : w.alloc (.cells #[.int .u8 (c.toNat : Int)] 5) = w1 at *;clear hw1 hr0 hq0 hb0 hcv0
   go_loopw [3, 4] (fun lx sx wr => ∃ (u : Nat) (acc : List UInt8), lx = .int .i64 (-(u : Int)) ∧ sx = .string (bstr acc) ∧ u ≤ 922337203685477580 ∧ DgR A u acc ∧ Below w.heap.size w wr) (fun lx _ _ => (RowKit.intOf lx).natAbs)
   case atStart => exact ⟨A1, [c], rfl, rfl, hA1l, HF.out, HB1.out⟩
   case round =>
    obtain ⟨u, acc, rfl, rfl, hul, hd, hb⟩ := hrel;have hlen := hd.len hA9;have HD := hid hd;have HB := hid hb;have hbs := hb.size;clear hd hb;by_cases hu : u = 0
    ·subst hu;have HE : Hid (Ar.itoa (A : Int) = acc) := hid (by rw [HI.out, HD.out.last]);rw [show -((0 : Nat) : Int) = 0 from rfl];have hss : (bstr acc).size = acc.length := Ab acc;have h3 : decide ((A : Int) < 0) = false := decide_eq_false (by omega);clear HD HI HF HB1;go_wp2_with fail;go_ret;exact ⟨AM (by rw [HE.out]), HB.out⟩
    ·have HN := hid (HD.out.next hu);have hu0 : ¬ (-(u : Int) = 0) := by omega
     have hq := Hw u;have hr := Hr u;obtain ⟨d, hd⟩ : ∃ d, u % 10 = d := ⟨_, rfl⟩;have hdl2 : d < 10 := by omega
     have hbt := FJ d hdl2;rw [hd] at hr HN;obtain ⟨c2, hc2⟩ : ∃ c, UInt8.ofNat (48 + d) = c := ⟨_, rfl⟩;rw [hc2] at hbt HN;obtain ⟨u1, hu1⟩ : ∃ u1, u / 10 = u1 := ⟨_, rfl⟩;have HLT : Hid (u1 < u) := hid (by omega);have hu1l : u1 ≤ 922337203685477580 := by omega
     rw [hu1] at hq HN;have hcv := Gm wr c2;have HS : Hid (bstr [c2] ++ bstr acc = bstr (c2 :: acc)) := hid (Bg (by simp [bstr]));have hsz : (bstr acc).size = acc.length := Ab acc;have hsz1 : (bstr [c2]).size = 1 := Ab [c2];have hov : ¬ 9223372036854775807 < (bstr [c2]).size + (bstr acc).size := by omega
     clear hd hc2 hu1;generalize hK1 : bstr [c2] = K1 at *;generalize hK2 : bstr acc = K2 at *;go_wp2_with fail
     go_roundw
     case rel => exact ⟨u1, c2 :: acc, rfl, by rw [← HS.out], hu1l, HN.out, HB.out.alloc hbs _⟩
     case measure => have := HLT.out; simp [RowKit.intOf]; omega
def IntA (s : List UInt8) (e : Ending) : Prop := (∃ n, Ar.rint s = some n ∧ e = .returned (.tuple #[.int .i64 n, .bool true])) ∨ (Ar.rint s = none ∧ ∃ n, e = .returned (.tuple #[.int .i64 n, .bool false]))
theorem JE {s : List UInt8} (h : s.length = Ar.Bc s ∨ Ar.Bc s + 19 < s.length) : Ar.rint s = none := by unfold Ar.rint; rw [if_pos h]
theorem Ji {s : List UInt8} (h : Ar.negL 0 (s.drop (Ar.Bc s)) = none) : Ar.rint s = none := by
 unfold Ar.rint;rw [h];split <;> rfl
theorem NN {s : List UInt8} {n : Int} (hm : Ar.Bc s = 0) (hl : ¬ (s.length = Ar.Bc s ∨ Ar.Bc s + 19 < s.length)) (h : Ar.negL 0 (s.drop (Ar.Bc s)) = some n) : Ar.rint s = if n = -9223372036854775808 then none else if Ar.itoa (-n) = s then some (-n) else none := by
 unfold Ar.rint;rw [if_neg hl, h];simp only;rw [if_pos hm]
theorem Mf {s : List UInt8} {n : Int} (hm : Ar.Bc s = 1) (hl : ¬ (s.length = Ar.Bc s ∨ Ar.Bc s + 19 < s.length)) (h : Ar.negL 0 (s.drop (Ar.Bc s)) = some n) : Ar.rint s = if Ar.itoa n = s then some n else none := by
 unfold Ar.rint;rw [if_neg hl, h];simp only;rw [if_neg (by omega)]
theorem Jx {t : List UInt8} {k : Nat} {n : Int} {c : UInt8} (h : Ar.negL 0 (t.take k) = some n) (hk : t[k]? = some c) (hs : Ar.negS n c = none) : Ar.negL 0 t = none := by
 obtain ⟨h1, h2⟩ := List.getElem?_eq_some_iff.1 hk;have e := List.take_append_drop k t;rw [List.drop_eq_getElem_cons h1, h2] at e;rw [← e, Ar.IL, h];show (Ar.negS n c).bind _ = none;rw [hs];rfl
theorem KS {t : List UInt8} {k : Nat} {n m : Int} {c : UInt8} (h : Ar.negL 0 (t.take k) = some n) (hk : t[k]? = some c) (hs : Ar.negS n c = some m) : Ar.negL 0 (t.take (k + 1)) = some m := by
 rw [BF hk, Ar.IL, h];show (Ar.negS n c).bind (fun m => Ar.negL m []) = _;rw [hs];rfl
theorem K3 (S : ByteArray) (w : World) (hs : S.size ≤ 1000000) : Calls Tryz.prog 96 #[.string S] w fun e w' => IntA S.data.toList e ∧ Below w.heap.size w w' := by
 have HLE : Hid (S.data.toList.length = S.size) := hid (AI S).symm;have HAT : Hid (∀ k (h : k < S.size), S.data.toList[k]? = some S[k]) := hid (CS S);have HBS : Hid (bstr S.data.toList = S) := hid (M1 S);generalize S.data.toList = L at *;have hw0 : Below w.heap.size w w := Below.refl _ _;have HW0 := hid hw0;clear hw0;by_cases h0 : S.size = 0
 ·have HN : Hid (Ar.rint L = none) := hid (by
   have : L = [] := List.eq_nil_of_length_eq_zero (by have := HLE.out; omega)
   rw [this]; rfl)
  go_enter Tryz.func96, Tryz.ntmps96;go_wp2_with fail
  go_ret2
  exact ⟨.inr ⟨HN.out, 0, rfl⟩, HW0.out⟩
 ·have h0' : 0 < S.size := by omega
  have HC0 := hid (HAT.out 0 h0');by_cases hc0 : S[0]'h0' = 45
  ·have HM : Hid (Ar.Bc L = 1) := hid (by unfold Ar.Bc; rw [List.head?_eq_getElem?, HC0.out, hc0]; rfl);have hz : (((S[0]'h0').toNat : Int) == 45) = true := by rw [hc0]; rfl
   clear hc0 HC0;by_cases hlen : S.size = 1 ∨ 20 < S.size
   ·have HN : Hid (Ar.rint L = none) := hid (JE (by rw [HM.out, HLE.out]; omega));by_cases hl1 : S.size = 1
    ·have g1 : ((S.size : Int) == 1) = true := by rw [hl1]; rfl
     clear hlen;go_enter Tryz.func96, Tryz.ntmps96;go_wp2_with fail
     go_ret2
     exact ⟨.inr ⟨HN.out, _, rfl⟩, HW0.out⟩
    ·have g1 : ((S.size : Int) == 1) = false := by rw [beq_eq_false_iff_ne]; omega
     have g2 : 20 < S.size := by omega
     clear hlen hl1;go_enter Tryz.func96, Tryz.ntmps96;go_wp2_with fail
     go_ret2
     exact ⟨.inr ⟨HN.out, _, rfl⟩, HW0.out⟩
   ·have HLN : Hid (¬ (L.length = Ar.Bc L ∨ Ar.Bc L + 19 < L.length)) := hid (by rw [HM.out, HLE.out]; omega);have g1 : ((S.size : Int) == 1) = false := by rw [beq_eq_false_iff_ne]; omega
    have g2 : ¬ 20 < S.size := by omega
    have hat : 1 < S.size := by omega
    clear hlen;go_enter Tryz.func96, Tryz.ntmps96;go_wp2_with fail
    go_loopw [5, 6] (fun nx ix wr => ∃ (k : Nat) (n : Int), k + 1 ≤ S.size ∧ ix = .int .i64 ((k + 1 : Nat) : Int) ∧ nx = .int .i64 n ∧ -9223372036854775808 ≤ n ∧ n ≤ 0 ∧ Ar.negL 0 ((L.drop 1).take k) = some n ∧ ∃ q, wr = w.drewN q) (fun _ ix _ => S.size - (RowKit.intOf ix).toNat)
    case atStart => exact ⟨0, 0, by omega, rfl, rfl, by omega, by omega, rfl, 0, rfl⟩
    case round =>
     obtain ⟨k, n, hk, rfl, rfl, hn1, hn2, hneg, q, rfl⟩ := hrel;have HNEG := hid hneg;have HWQ := hid (below_drewN HW0.out q);clear hneg;by_cases hlt : k + 1 < S.size
     ·have HCK : Hid ((L.drop 1)[k]? = some S[k + 1]) := hid (by rw [List.getElem?_drop, Nat.add_comm]; exact HAT.out _ hlt);obtain ⟨d, hd⟩ : ∃ d : Int, ((S[k + 1]'hlt).toNat : Int) = d + 48 := ⟨((S[k + 1]'hlt).toNat : Int) - 48, by omega⟩;have hd1 : -48 ≤ d := by omega
      have hd2 : d ≤ 207 := by have := (S[k + 1]'hlt).toNat_lt; omega
      have HSC : Hid (Ar.negS n S[k + 1] = if d < 0 ∨ 9 < d ∨ n < -922337203685477580 ∨ n = -922337203685477580 ∧ 8 < d then none else some (10 * n - d)) := hid (by unfold Ar.negS; rw [hd, Int.add_sub_cancel]);have HRET : Hid (Ar.negS n S[k + 1] = none → Ar.rint L = none) := hid (fun h => Ji (by rw [HM.out]; exact Jx HNEG.out HCK.out h));have HNX : Hid (∀ m, Ar.negS n S[k + 1] = some m → Ar.negL 0 ((L.drop 1).take (k + 1)) = some m ∧ -9223372036854775808 ≤ m ∧ m ≤ 0) := hid (fun m h => ⟨KS HNEG.out HCK.out h, Ar.Gb h hn2⟩);generalize Ar.negS n S[k + 1] = NS at *;by_cases p1 : d < 0
      ·have p1' : decide (d < 0) = true := decide_eq_true p1;have HNO : Hid (Ar.rint L = none) := hid (HRET.out (by rw [HSC.out, if_pos (by omega)]));clear HSC HRET HNX;go_wp2_with fail
       go_ret2
       exact ⟨.inr ⟨HNO.out, _, rfl⟩, by first | exact HWQ.out | (rw [World.drewN_drewN]; exact below_drewN HW0.out _)⟩
      ·have p1' : decide (d < 0) = false := decide_eq_false p1;by_cases p2 : 9 < d
       ·have p2' : decide (9 < d) = true := decide_eq_true p2;have HNO : Hid (Ar.rint L = none) := hid (HRET.out (by rw [HSC.out, if_pos (by omega)]));clear HSC HRET HNX;go_wp2_with fail
        go_ret2
        exact ⟨.inr ⟨HNO.out, _, rfl⟩, by first | exact HWQ.out | (rw [World.drewN_drewN]; exact below_drewN HW0.out _)⟩
       ·have p2' : decide (9 < d) = false := decide_eq_false p2;by_cases p3 : n < -922337203685477580
        ·have p3' : decide (n < -922337203685477580) = true := decide_eq_true p3;have HNO : Hid (Ar.rint L = none) := hid (HRET.out (by rw [HSC.out, if_pos (by omega)]));clear HSC HRET HNX;go_wp2_with fail
         go_ret2
         exact ⟨.inr ⟨HNO.out, _, rfl⟩, by first | exact HWQ.out | (rw [World.drewN_drewN]; exact below_drewN HW0.out _)⟩
        ·have p3' : decide (n < -922337203685477580) = false := decide_eq_false p3;by_cases p4 : n = -922337203685477580
         ·have p4' : (n == -922337203685477580) = true := by rw [p4]; rfl
          by_cases p5 : 8 < d
          ·have p5' : decide (8 < d) = true := decide_eq_true p5;have HNO : Hid (Ar.rint L = none) := hid (HRET.out (by rw [HSC.out, if_pos (by omega)]));clear HSC HRET HNX;go_wp2_with fail
           go_ret2
           exact ⟨.inr ⟨HNO.out, _, rfl⟩, by first | exact HWQ.out | (rw [World.drewN_drewN]; exact below_drewN HW0.out _)⟩
          ·have p5' : decide (8 < d) = false := decide_eq_false p5;have HYES : Hid (Ar.negL 0 ((L.drop 1).take (k + 1)) = some (10 * n - d) ∧ -9223372036854775808 ≤ 10 * n - d ∧ 10 * n - d ≤ 0) := hid (HNX.out _ (by rw [HSC.out, if_neg (by omega)]));obtain ⟨hy1, hy2, hy3⟩ := HYES.out;replace hy1 := hid hy1;clear HSC HRET HNX HYES;go_wp2_with fail
           go_roundw
           case rel => exact ⟨k + 1, 10 * n - d, by omega, by go_num, by go_num, hy2, hy3, hy1.out, by first | exact ⟨_, rfl⟩ | exact ⟨_, World.drewN_drewN _ _ _⟩⟩
           case measure => simp [RowKit.intOf]; omega
         ·have p4' : (n == -922337203685477580) = false := by rw [beq_eq_false_iff_ne]; exact p4
          have HYES : Hid (Ar.negL 0 ((L.drop 1).take (k + 1)) = some (10 * n - d) ∧ -9223372036854775808 ≤ 10 * n - d ∧ 10 * n - d ≤ 0) := hid (HNX.out _ (by rw [HSC.out, if_neg (by omega)]));obtain ⟨hy1, hy2, hy3⟩ := HYES.out;replace hy1 := hid hy1;clear HSC HRET HNX HYES;go_wp2_with fail
          go_roundw
          case rel => exact ⟨k + 1, 10 * n - d, by omega, by go_num, by go_num, hy2, hy3, hy1.out, by first | exact ⟨_, rfl⟩ | exact ⟨_, World.drewN_drewN _ _ _⟩⟩
          case measure => simp [RowKit.intOf]; omega
     ·have hkS : k + 1 = S.size := by omega
      have HEND : Hid (Ar.negL 0 (L.drop (Ar.Bc L)) = some n) := hid (by have h := HNEG.out; rw [HM.out]; rwa [List.take_of_length_le (by rw [List.length_drop, HLE.out]; omega)] at h);have HP := hid (Mf HM.out HLN.out HEND.out);have hcm := CO (Ar.itoa (n)) L;rw [HBS.out] at hcm;have HT := hid (fun W => Cw (n) W (by unfold Ar.inInt; omega));by_cases hq : Ar.itoa (n) = L
      ·have HN : Hid (Ar.rint L = some (n)) := hid (by rw [HP.out, if_pos hq]);rw [show (Ar.itoa (n) == L) = true from by simpa using hq] at hcm;clear hq HP;generalize bstr (Ar.itoa (n)) = T at *;go_wp2_with fail;refine (HT.out _).mono ?_;rintro e w3 ⟨rfl, hb3⟩;have HB3 := hid (HWQ.out.trans (hb3.mono HWQ.out.size));clear hb3;go_wp2_with fail
       go_ret2
       exact ⟨.inl ⟨_, HN.out, rfl⟩, HB3.out⟩
      ·have HN : Hid (Ar.rint L = none) := hid (by rw [HP.out, if_neg hq]);rw [show (Ar.itoa (n) == L) = false from by simpa using hq] at hcm;clear hq HP;generalize bstr (Ar.itoa (n)) = T at *;go_wp2_with fail;refine (HT.out _).mono ?_;rintro e w3 ⟨rfl, hb3⟩;have HB3 := hid (HWQ.out.trans (hb3.mono HWQ.out.size));clear hb3;go_wp2_with fail
       go_ret2
       exact ⟨.inr ⟨HN.out, _, rfl⟩, HB3.out⟩
  ·have HM : Hid (Ar.Bc L = 0) := hid (by unfold Ar.Bc; rw [List.head?_eq_getElem?, HC0.out, if_neg (fun h => hc0 (by injection h))]);have hz : (((S[0]'h0').toNat : Int) == 45) = false := by
    rw [beq_eq_false_iff_ne];intro h;exact hc0 (UInt8.toNat_inj.1 (by have : (45 : UInt8).toNat = 45 := rfl; omega))
   clear hc0 HC0;by_cases hlen : S.size = 0 ∨ 19 < S.size
   ·have HN : Hid (Ar.rint L = none) := hid (JE (by rw [HM.out, HLE.out]; omega));by_cases hl1 : S.size = 0
    ·have g1 : ((S.size : Int) == 0) = true := by rw [hl1]; rfl
     clear hlen;go_enter Tryz.func96, Tryz.ntmps96;go_wp2_with fail
     go_ret2
     exact ⟨.inr ⟨HN.out, _, rfl⟩, HW0.out⟩
    ·have g1 : ((S.size : Int) == 0) = false := by rw [beq_eq_false_iff_ne]; omega
     have g2 : 19 < S.size := by omega
     clear hlen hl1;go_enter Tryz.func96, Tryz.ntmps96;go_wp2_with fail
     go_ret2
     exact ⟨.inr ⟨HN.out, _, rfl⟩, HW0.out⟩
   ·have HLN : Hid (¬ (L.length = Ar.Bc L ∨ Ar.Bc L + 19 < L.length)) := hid (by rw [HM.out, HLE.out]; omega);have g1 : ((S.size : Int) == 0) = false := by rw [beq_eq_false_iff_ne]; omega
    have g2 : ¬ 19 < S.size := by omega
    have hat : 0 < S.size := by omega
    clear hlen;go_enter Tryz.func96, Tryz.ntmps96;go_wp2_with fail
    go_loopw [5, 6] (fun nx ix wr => ∃ (k : Nat) (n : Int), k ≤ S.size ∧ ix = .int .i64 ((k : Nat) : Int) ∧ nx = .int .i64 n ∧ -9223372036854775808 ≤ n ∧ n ≤ 0 ∧ Ar.negL 0 ((L.drop 0).take k) = some n ∧ ∃ q, wr = w.drewN q) (fun _ ix _ => S.size - (RowKit.intOf ix).toNat)
    case atStart => exact ⟨0, 0, by omega, rfl, rfl, by omega, by omega, rfl, 0, rfl⟩
    case round =>
     obtain ⟨k, n, hk, rfl, rfl, hn1, hn2, hneg, q, rfl⟩ := hrel;have HNEG := hid hneg;have HWQ := hid (below_drewN HW0.out q);clear hneg;by_cases hlt : k < S.size
     ·have HCK : Hid ((L.drop 0)[k]? = some S[k]) := hid (by rw [List.getElem?_drop, Nat.add_comm]; exact HAT.out _ hlt);obtain ⟨d, hd⟩ : ∃ d : Int, ((S[k]'hlt).toNat : Int) = d + 48 := ⟨((S[k]'hlt).toNat : Int) - 48, by omega⟩;have hd1 : -48 ≤ d := by omega
      have hd2 : d ≤ 207 := by have := (S[k]'hlt).toNat_lt; omega
      have HSC : Hid (Ar.negS n S[k] = if d < 0 ∨ 9 < d ∨ n < -922337203685477580 ∨ n = -922337203685477580 ∧ 8 < d then none else some (10 * n - d)) := hid (by unfold Ar.negS; rw [hd, Int.add_sub_cancel]);have HRET : Hid (Ar.negS n S[k] = none → Ar.rint L = none) := hid (fun h => Ji (by rw [HM.out]; exact Jx HNEG.out HCK.out h));have HNX : Hid (∀ m, Ar.negS n S[k] = some m → Ar.negL 0 ((L.drop 0).take (k + 1)) = some m ∧ -9223372036854775808 ≤ m ∧ m ≤ 0) := hid (fun m h => ⟨KS HNEG.out HCK.out h, Ar.Gb h hn2⟩);generalize Ar.negS n S[k] = NS at *;by_cases p1 : d < 0
      ·have p1' : decide (d < 0) = true := decide_eq_true p1;have HNO : Hid (Ar.rint L = none) := hid (HRET.out (by rw [HSC.out, if_pos (by omega)]));clear HSC HRET HNX;go_wp2_with fail
       go_ret2
       exact ⟨.inr ⟨HNO.out, _, rfl⟩, by first | exact HWQ.out | (rw [World.drewN_drewN]; exact below_drewN HW0.out _)⟩
      ·have p1' : decide (d < 0) = false := decide_eq_false p1;by_cases p2 : 9 < d
       ·have p2' : decide (9 < d) = true := decide_eq_true p2;have HNO : Hid (Ar.rint L = none) := hid (HRET.out (by rw [HSC.out, if_pos (by omega)]));clear HSC HRET HNX;go_wp2_with fail
        go_ret2
        exact ⟨.inr ⟨HNO.out, _, rfl⟩, by first | exact HWQ.out | (rw [World.drewN_drewN]; exact below_drewN HW0.out _)⟩
       ·have p2' : decide (9 < d) = false := decide_eq_false p2;by_cases p3 : n < -922337203685477580
        ·have p3' : decide (n < -922337203685477580) = true := decide_eq_true p3;have HNO : Hid (Ar.rint L = none) := hid (HRET.out (by rw [HSC.out, if_pos (by omega)]));clear HSC HRET HNX;go_wp2_with fail
         go_ret2
         exact ⟨.inr ⟨HNO.out, _, rfl⟩, by first | exact HWQ.out | (rw [World.drewN_drewN]; exact below_drewN HW0.out _)⟩
        ·have p3' : decide (n < -922337203685477580) = false := decide_eq_false p3;by_cases p4 : n = -922337203685477580
         ·have p4' : (n == -922337203685477580) = true := by rw [p4]; rfl
          by_cases p5 : 8 < d
          ·have p5' : decide (8 < d) = true := decide_eq_true p5;have HNO : Hid (Ar.rint L = none) := hid (HRET.out (by rw [HSC.out, if_pos (by omega)]));clear HSC HRET HNX;go_wp2_with fail
           go_ret2
           exact ⟨.inr ⟨HNO.out, _, rfl⟩, by first | exact HWQ.out | (rw [World.drewN_drewN]; exact below_drewN HW0.out _)⟩
          ·have p5' : decide (8 < d) = false := decide_eq_false p5;have HYES : Hid (Ar.negL 0 ((L.drop 0).take (k + 1)) = some (10 * n - d) ∧ -9223372036854775808 ≤ 10 * n - d ∧ 10 * n - d ≤ 0) := hid (HNX.out _ (by rw [HSC.out, if_neg (by omega)]));obtain ⟨hy1, hy2, hy3⟩ := HYES.out;replace hy1 := hid hy1;clear HSC HRET HNX HYES;go_wp2_with fail
           go_roundw
           case rel => exact ⟨k + 1, 10 * n - d, by omega, by go_num, by go_num, hy2, hy3, hy1.out, by first | exact ⟨_, rfl⟩ | exact ⟨_, World.drewN_drewN _ _ _⟩⟩
           case measure => simp [RowKit.intOf]; omega
         ·have p4' : (n == -922337203685477580) = false := by rw [beq_eq_false_iff_ne]; exact p4
          have HYES : Hid (Ar.negL 0 ((L.drop 0).take (k + 1)) = some (10 * n - d) ∧ -9223372036854775808 ≤ 10 * n - d ∧ 10 * n - d ≤ 0) := hid (HNX.out _ (by rw [HSC.out, if_neg (by omega)]));obtain ⟨hy1, hy2, hy3⟩ := HYES.out;replace hy1 := hid hy1;clear HSC HRET HNX HYES;go_wp2_with fail
          go_roundw
          case rel => exact ⟨k + 1, 10 * n - d, by omega, by go_num, by go_num, hy2, hy3, hy1.out, by first | exact ⟨_, rfl⟩ | exact ⟨_, World.drewN_drewN _ _ _⟩⟩
          case measure => simp [RowKit.intOf]; omega
     ·have hkS : k = S.size := by omega
      have HEND : Hid (Ar.negL 0 (L.drop (Ar.Bc L)) = some n) := hid (by have h := HNEG.out; rw [HM.out]; rwa [List.take_of_length_le (by rw [List.length_drop, HLE.out]; omega)] at h);have HP := hid (NN HM.out HLN.out HEND.out);by_cases hmin : n = -9223372036854775808
      ·have HN : Hid (Ar.rint L = none) := hid (by rw [HP.out, if_pos hmin]);have gm : (n == -9223372036854775808) = true := by rw [hmin]; rfl
       clear HP hmin;go_wp2_with fail
       go_ret2
       exact ⟨.inr ⟨HN.out, _, rfl⟩, HWQ.out⟩
      ·have gm : (n == -9223372036854775808) = false := by rw [beq_eq_false_iff_ne]; exact hmin
       have hcm := CO (Ar.itoa (-n)) L;rw [HBS.out] at hcm;have HT := hid (fun W => Cw (-n) W (by unfold Ar.inInt; omega));by_cases hq : Ar.itoa (-n) = L
       ·have HN : Hid (Ar.rint L = some (-n)) := hid (by rw [HP.out, if_neg hmin, if_pos hq]);rw [show (Ar.itoa (-n) == L) = true from by simpa using hq] at hcm;clear hq HP;generalize bstr (Ar.itoa (-n)) = T at *;go_wp2_with fail;refine (HT.out _).mono ?_;rintro e w3 ⟨rfl, hb3⟩;have HB3 := hid (HWQ.out.trans (hb3.mono HWQ.out.size));clear hb3;go_wp2_with fail
        go_ret2
        exact ⟨.inl ⟨_, HN.out, rfl⟩, HB3.out⟩
       ·have HN : Hid (Ar.rint L = none) := hid (by rw [HP.out, if_neg hmin, if_neg hq]);rw [show (Ar.itoa (-n) == L) = false from by simpa using hq] at hcm;clear hq HP;generalize bstr (Ar.itoa (-n)) = T at *;go_wp2_with fail;refine (HT.out _).mono ?_;rintro e w3 ⟨rfl, hb3⟩;have HB3 := hid (HWQ.out.trans (hb3.mono HWQ.out.size));clear hb3;go_wp2_with fail
        go_ret2
        exact ⟨.inr ⟨HN.out, _, rfl⟩, HB3.out⟩
end Go.Proofs.YteadlcncnhbmjaaGreatDoor
