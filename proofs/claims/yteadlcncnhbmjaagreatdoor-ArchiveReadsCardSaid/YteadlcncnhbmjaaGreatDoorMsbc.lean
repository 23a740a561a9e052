/- The texts Bv2, Bv3, Bw1, Bw2, Cx3 of this proof, one behind the other. -/
import Derived.Test.YteadlcncnhbmjaaGreatDoorMsba
import Derived.Test.YteadlcncnhbmjaaGreatDoorMsbb
import Derived.Test.YteadlcncnhbmjaaGreatDoorMsar
set_option linter.unusedSimpArgs false
set_option maxHeartbeats 16000000
set_option maxRecDepth 100000
set_option linter.unusedVariables false
namespace Go.Proofs.YteadlcncnhbmjaaGreatDoor
open Go.RowKit Go.Lib
theorem Nu (x0 : Int) (x1 : ByteArray) (x2 : ByteArray) (x3 : Int) (x4 : Bool) (x5 : ByteArray) (x6 : Int) (x7 : Int) (A8 : Option Addr) (n8 c8 : Nat) (A9 : Option Addr) (n9 c9 : Nat) (x10 : ByteArray) (x11 : Int) (x12 : Int) (x13 : Bool) (x14 : ByteArray) (A15 : Option Addr) (n15 c15 : Nat) (A16 : Option Addr) (n16 c16 : Nat) (A17 : Option Addr) (n17 c17 : Nat) (A18 : Option Addr) (n18 c18 : Nat) (x19 : Int) (x20 : Int) (x21 : Int) (x22 : Int) (x23 : Int) (x24 : Int) (x25 : Int) (x26 : Int) (x27 : ByteArray) (x28 : Int) (w : World) (i : Nat) (j : Int) (hij : (i = 0 ∧ j = 0) ∨ (i = 3 ∧ j = 3) ∨ (i = 6 ∧ j = 6) ∨ (i = 7 ∧ j = 7) ∨ (i = 11 ∧ j = 11) ∨ (i = 12 ∧ j = 12) ∨ (i = 19 ∧ j = 19) ∨ (i = 20 ∧ j = 20) ∨ (i = 21 ∧ j = 21) ∨ (i = 22 ∧ j = 22) ∨ (i = 23 ∧ j = 23) ∨ (i = 24 ∧ j = 24) ∨ (i = 25 ∧ j = 25) ∨ (i = 26 ∧ j = 26) ∨ (i = 28 ∧ j = 28)) (hnum : ∀ n, (#[.int .i64 x0, .string x1, .string x2, .int .i64 x3, .bool x4, .string x5, .int .i64 x6, .int .i64 x7, .slice A8 n8 c8, .slice A9 n9 c9, .string x10, .int .i64 x11, .int .i64 x12, .bool x13, .string x14, .slice A15 n15 c15, .slice A16 n16 c16, .slice A17 n17 c17, .slice A18 n18 c18, .int .i64 x19, .int .i64 x20, .int .i64 x21, .int .i64 x22, .int .i64 x23, .int .i64 x24, .int .i64 x25, .int .i64 x26, .string x27, .int .i64 x28] : Array Value)[i]? = some (.int .i64 n) → Ar.inInt n) : Calls Tryz.prog 52 #[.agg #[.int .i64 x0, .string x1, .string x2, .int .i64 x3, .bool x4, .string x5, .int .i64 x6, .int .i64 x7, .slice A8 n8 c8, .slice A9 n9 c9, .string x10, .int .i64 x11, .int .i64 x12, .bool x13, .string x14, .slice A15 n15 c15, .slice A16 n16 c16, .slice A17 n17 c17, .slice A18 n18 c18, .int .i64 x19, .int .i64 x20, .int .i64 x21, .int .i64 x22, .int .i64 x23, .int .i64 x24, .int .i64 x25, .int .i64 x26, .string x27, .int .i64 x28], .int .i64 j] w fun e w' => (∃ n, (#[.int .i64 x0, .string x1, .string x2, .int .i64 x3, .bool x4, .string x5, .int .i64 x6, .int .i64 x7, .slice A8 n8 c8, .slice A9 n9 c9, .string x10, .int .i64 x11, .int .i64 x12, .bool x13, .string x14, .slice A15 n15 c15, .slice A16 n16 c16, .slice A17 n17 c17, .slice A18 n18 c18, .int .i64 x19, .int .i64 x20, .int .i64 x21, .int .i64 x22, .int .i64 x23, .int .i64 x24, .int .i64 x25, .int .i64 x26, .string x27, .int .i64 x28] : Array Value)[i]? = some (.int .i64 n) ∧ e = .returned (.string (bstr (Ar.xval (.num n))))) ∧ Below w.heap.size w w' := by
 have HNUM := hid hnum;have HIJ := hid hij;clear hnum;have t1 : ((j : Int) == 1) = false := beq_eq_false_iff_ne.2 (by omega);have t2 : ((j : Int) == 2) = false := beq_eq_false_iff_ne.2 (by omega);have t4 : ((j : Int) == 4) = false := beq_eq_false_iff_ne.2 (by omega);have t5 : ((j : Int) == 5) = false := beq_eq_false_iff_ne.2 (by omega);have t8 : ((j : Int) == 8) = false := beq_eq_false_iff_ne.2 (by omega);have t9 : ((j : Int) == 9) = false := beq_eq_false_iff_ne.2 (by omega);have t10 : ((j : Int) == 10) = false := beq_eq_false_iff_ne.2 (by omega);have t13 : ((j : Int) == 13) = false := beq_eq_false_iff_ne.2 (by omega);have t14 : ((j : Int) == 14) = false := beq_eq_false_iff_ne.2 (by omega);have t15 : ((j : Int) == 15) = false := beq_eq_false_iff_ne.2 (by omega);have t16 : ((j : Int) == 16) = false := beq_eq_false_iff_ne.2 (by omega);have t17 : ((j : Int) == 17) = false := beq_eq_false_iff_ne.2 (by omega);have t18 : ((j : Int) == 18) = false := beq_eq_false_iff_ne.2 (by omega);have t27 : ((j : Int) == 27) = false := beq_eq_false_iff_ne.2 (by omega);clear hij;have hB0 := (Below.refl w.heap.size w).alloc (Nat.le_refl _) (.cells #[.int .i64 x0, .string x1, .string x2, .int .i64 x3, .bool x4, .string x5, .int .i64 x6, .int .i64 x7, .slice A8 n8 c8, .slice A9 n9 c9, .string x10, .int .i64 x11, .int .i64 x12, .bool x13, .string x14, .slice A15 n15 c15, .slice A16 n16 c16, .slice A17 n17 c17, .slice A18 n18 c18, .int .i64 x19, .int .i64 x20, .int .i64 x21, .int .i64 x22, .int .i64 x23, .int .i64 x24, .int .i64 x25, .int .i64 x26, .string x27, .int .i64 x28] 40);have hk := Blk.new w 40 #[.int .i64 x0, .string x1, .string x2, .int .i64 x3, .bool x4, .string x5, .int .i64 x6, .int .i64 x7, .slice A8 n8 c8, .slice A9 n9 c9, .string x10, .int .i64 x11, .int .i64 x12, .bool x13, .string x14, .slice A15 n15 c15, .slice A16 n16 c16, .slice A17 n17 c17, .slice A18 n18 c18, .int .i64 x19, .int .i64 x20, .int .i64 x21, .int .i64 x22, .int .i64 x23, .int .i64 x24, .int .i64 x25, .int .i64 x26, .string x27, .int .i64 x28];generalize hw1 : w.alloc (.cells #[.int .i64 x0, .string x1, .string x2, .int .i64 x3, .bool x4, .string x5, .int .i64 x6, .int .i64 x7, .slice A8 n8 c8, .slice A9 n9 c9, .string x10, .int .i64 x11, .int .i64 x12, .bool x13, .string x14, .slice A15 n15 c15, .slice A16 n16 c16, .slice A17 n17 c17, .slice A18 n18 c18, .int .i64 x19, .int .i64 x20, .int .i64 x21, .int .i64 x22, .int .i64 x23, .int .i64 x24, .int .i64 x25, .int .i64 x26, .string x27, .int .i64 x28] 40) = w1 at *;have hBr := Below.refl w1.heap.size w1;have hlt0 := hk.lt;have hL10 : ∀ W, Below w1.heap.size w1 W → W.cell? ⟨w.heap.size, 10, none⟩ = some (.string x10) := fun W h => (h.cell (p := ⟨w.heap.size, 10, none⟩) hlt0).trans (hk.cell 10)
 have hL11 : ∀ W, Below w1.heap.size w1 W → W.cell? ⟨w.heap.size, 11, none⟩ = some (.int .i64 x11) := fun W h => (h.cell (p := ⟨w.heap.size, 11, none⟩) hlt0).trans (hk.cell 11)
 have hL12 : ∀ W, Below w1.heap.size w1 W → W.cell? ⟨w.heap.size, 12, none⟩ = some (.int .i64 x12) := fun W h => (h.cell (p := ⟨w.heap.size, 12, none⟩) hlt0).trans (hk.cell 12)
 have hL13 : ∀ W, Below w1.heap.size w1 W → W.cell? ⟨w.heap.size, 13, none⟩ = some (.bool x13) := fun W h => (h.cell (p := ⟨w.heap.size, 13, none⟩) hlt0).trans (hk.cell 13)
 have hL14 : ∀ W, Below w1.heap.size w1 W → W.cell? ⟨w.heap.size, 14, none⟩ = some (.string x14) := fun W h => (h.cell (p := ⟨w.heap.size, 14, none⟩) hlt0).trans (hk.cell 14)
 have hL15 : ∀ W, Below w1.heap.size w1 W → W.cell? ⟨w.heap.size, 15, none⟩ = some (.slice A15 n15 c15) := fun W h => (h.cell (p := ⟨w.heap.size, 15, none⟩) hlt0).trans (hk.cell 15)
 have hL16 : ∀ W, Below w1.heap.size w1 W → W.cell? ⟨w.heap.size, 16, none⟩ = some (.slice A16 n16 c16) := fun W h => (h.cell (p := ⟨w.heap.size, 16, none⟩) hlt0).trans (hk.cell 16)
 have hL17 : ∀ W, Below w1.heap.size w1 W → W.cell? ⟨w.heap.size, 17, none⟩ = some (.slice A17 n17 c17) := fun W h => (h.cell (p := ⟨w.heap.size, 17, none⟩) hlt0).trans (hk.cell 17)
 have hL18 : ∀ W, Below w1.heap.size w1 W → W.cell? ⟨w.heap.size, 18, none⟩ = some (.slice A18 n18 c18) := fun W h => (h.cell (p := ⟨w.heap.size, 18, none⟩) hlt0).trans (hk.cell 18)
 have hL19 : ∀ W, Below w1.heap.size w1 W → W.cell? ⟨w.heap.size, 19, none⟩ = some (.int .i64 x19) := fun W h => (h.cell (p := ⟨w.heap.size, 19, none⟩) hlt0).trans (hk.cell 19)
 have hL20 : ∀ W, Below w1.heap.size w1 W → W.cell? ⟨w.heap.size, 20, none⟩ = some (.int .i64 x20) := fun W h => (h.cell (p := ⟨w.heap.size, 20, none⟩) hlt0).trans (hk.cell 20)
 have hL21 : ∀ W, Below w1.heap.size w1 W → W.cell? ⟨w.heap.size, 21, none⟩ = some (.int .i64 x21) := fun W h => (h.cell (p := ⟨w.heap.size, 21, none⟩) hlt0).trans (hk.cell 21)
 have hL22 : ∀ W, Below w1.heap.size w1 W → W.cell? ⟨w.heap.size, 22, none⟩ = some (.int .i64 x22) := fun W h => (h.cell (p := ⟨w.heap.size, 22, none⟩) hlt0).trans (hk.cell 22)
 have hL23 : ∀ W, Below w1.heap.size w1 W → W.cell? ⟨w.heap.size, 23, none⟩ = some (.int .i64 x23) := fun W h => (h.cell (p := ⟨w.heap.size, 23, none⟩) hlt0).trans (hk.cell 23)
 have hL24 : ∀ W, Below w1.heap.size w1 W → W.cell? ⟨w.heap.size, 24, none⟩ = some (.int .i64 x24) := fun W h => (h.cell (p := ⟨w.heap.size, 24, none⟩) hlt0).trans (hk.cell 24)
 have hL25 : ∀ W, Below w1.heap.size w1 W → W.cell? ⟨w.heap.size, 25, none⟩ = some (.int .i64 x25) := fun W h => (h.cell (p := ⟨w.heap.size, 25, none⟩) hlt0).trans (hk.cell 25)
 have HB0 := hid hB0;have HK := hid hk;clear hB0 hk hlt0;go_enter Tryz.func52, Tryz.ntmps52;go_wp2_with fail
 go_cut [5, 6] from 8 to 12 (fun pa pb wx => ∃ g5 g6 : Nat, pa = .pointer (some ⟨g5, 0, none⟩) ∧ pb = .pointer (some ⟨g6, 0, none⟩) ∧ Blk wx g5 36 #[.string x10, .int .i64 x11, .int .i64 x12, .bool x13, .string x14, .slice A15 n15 c15, .slice A16 n16 c16, .slice A17 n17 c17, .slice A18 n18 c18, .int .i64 x19, .int .i64 x20, .int .i64 x21, .int .i64 x22, .int .i64 x23, .int .i64 x24, .int .i64 x25] ∧ Blk wx g6 34 #[.slice A17 n17 c17, .slice A18 n18 c18, .int .i64 x19, .int .i64 x20, .int .i64 x21, .int .i64 x22, .int .i64 x23, .int .i64 x24, .int .i64 x25] ∧ Below w1.heap.size w1 wx)
 case first =>
  go_region_held3 (fun W => Below w1.heap.size w1 W) (with_reducible (repeat (first | exact hBr | refine C9 ?_ | refine Cd ?_ _))) (fail)
  all_goals
   go_wp2_with fail
   go_meet
   first
    | exact ⟨_, _, rfl, rfl, Ds (GN (GS _ _ _) _), Ds (Cy _ _ _ _), C9 (Cd (Cd hBr _) _)⟩
    | exact ⟨_, _, rfl, rfl, Ds (Cy _ _ _ _), Ds (GN (GS _ _ _) _), C9 (Cd (Cd hBr _) _)⟩
 case rest =>
  obtain ⟨g5, g6, rfl, rfl, hC, hV, hbx⟩ := hcut;have HC := hid hC;have HV := hid hV;have HE : Hid (Blk wc w.heap.size 40 #[.int .i64 x0, .string x1, .string x2, .int .i64 x3, .bool x4, .string x5, .int .i64 x6, .int .i64 x7, .slice A8 n8 c8, .slice A9 n9 c9, .string x10, .int .i64 x11, .int .i64 x12, .bool x13, .string x14, .slice A15 n15 c15, .slice A16 n16 c16, .slice A17 n17 c17, .slice A18 n18 c18, .int .i64 x19, .int .i64 x20, .int .i64 x21, .int .i64 x22, .int .i64 x23, .int .i64 x24, .int .i64 x25, .int .i64 x26, .string x27, .int .i64 x28]) := hid (HK.out.below hbx HK.out.lt);have HBX : Hid (Below w.heap.size w wc) := hid (HB0.out.trans (hbx.mono HB0.out.size));clear hL10 hL11 hL12 hL13 hL14 hL15 hL16 hL17 hL18 hL19 hL20 hL21 hL22 hL23 hL24 hL25 hC hV hbx;have HF := hid (fun W => Mr x0 x1 x2 x3 x4 x5 x6 x7 A8 n8 c8 A9 n9 c9 x10 x11 x12 x13 x14 A15 n15 c15 A16 n16 c16 A17 n17 c17 A18 n18 c18 x19 x20 x21 x22 x23 x24 x25 x26 x27 x28 W i j HIJ.out);have HES : Hid ((Tryz.prog.info? 40).map (·.size) = some (#[.int .i64 x0, .string x1, .string x2, .int .i64 x3, .bool x4, .string x5, .int .i64 x6, .int .i64 x7, .slice A8 n8 c8, .slice A9 n9 c9, .string x10, .int .i64 x11, .int .i64 x12, .bool x13, .string x14, .slice A15 n15 c15, .slice A16 n16 c16, .slice A17 n17 c17, .slice A18 n18 c18, .int .i64 x19, .int .i64 x20, .int .i64 x21, .int .i64 x22, .int .i64 x23, .int .i64 x24, .int .i64 x25, .int .i64 x26, .string x27, .int .i64 x28] : Array Value).size) := hid (by rw [Aj]; rfl);go_wp2_with (refine wpList_load_row rfl 40 _ rfl w.heap.size rfl 40 #[.int .i64 x0, .string x1, .string x2, .int .i64 x3, .bool x4, .string x5, .int .i64 x6, .int .i64 x7, .slice A8 n8 c8, .slice A9 n9 c9, .string x10, .int .i64 x11, .int .i64 x12, .bool x13, .string x14, .slice A15 n15 c15, .slice A16 n16 c16, .slice A17 n17 c17, .slice A18 n18 c18, .int .i64 x19, .int .i64 x20, .int .i64 x21, .int .i64 x22, .int .i64 x23, .int .i64 x24, .int .i64 x25, .int .i64 x26, .string x27, .int .i64 x28] (0, 0) _ HE.out Tryz.underlying40 rfl HES.out ?_);refine (HF.out _).mono ?_;rintro e w2 ⟨⟨n, hn, rfl⟩, hb2⟩;have HB2 := hid (HBX.out.trans (hb2.mono HBX.out.size));have HN := hid hn;have hin := HNUM.out n hn;have HT := hid (fun W => Cw n W hin);have hil : (bstr (Ar.itoa n)).size ≤ 20 := by rw [Ab]; exact Cc n hin
  have HEQ := hid (Mq (Ar.itoa n));clear hb2 hn hin;by_cases hz : n = 0
  ·subst hz;have hz0 : Hid (Value.string (⟨#[]⟩ : ByteArray) = .string (bstr (Ar.xval (.num 0)))) := hid rfl;clear HT hil HEQ;go_wp2_with fail;go_ret;exact ⟨⟨0, HN.out, congrArg Ending.returned hz0.out⟩, HB2.out⟩
  ·have hz1 : ((n : Int) == 0) = false := beq_eq_false_iff_ne.2 hz
   have HX : Hid (Ar.xval (.num n) = 61 :: Ar.itoa n) := hid (by
    have e : Ar.FV.text (.num n) = Ar.itoa n := if_neg hz
    rw [Ar.Ez rfl, e, if_neg (Ar.DX n)])
   have hs1 : ¬ 9223372036854775807 < 1 + (bstr (Ar.itoa n)).size := by omega
   have HZ : Hid (Value.string ((⟨#[61]⟩ : ByteArray) ++ bstr (Ar.itoa n)) = .string (bstr (Ar.xval (.num n)))) := hid (by rw [HX.out, HEQ.out]);generalize bstr (Ar.itoa n) = T at *;go_wp2_with fail;refine (HT.out _).mono ?_;rintro e w3 ⟨rfl, hb3⟩;have HB3 := hid (HB2.out.trans (hb3.mono HB2.out.size));clear hb3;go_wp2_with fail;go_ret;exact ⟨⟨n, HN.out, congrArg Ending.returned HZ.out⟩, HB3.out⟩
theorem En (s : List UInt8) : Ar.xval (.txt s) = if s = [] then [] else 61 :: Ar.quote s := by
 by_cases h : s = []
 ·subst h; rfl
 ·have e : Ar.FV.text (.txt s) = Ar.quote s := if_neg h;rw [Ar.Ez rfl, e, if_neg (Ar.Fj s), if_neg h]
theorem Lw (b : Bool) : Value.string (if b then ⟨#[32]⟩ else ⟨#[]⟩) = .string (bstr (Ar.xval (.flg b))) := by cases b <;> rfl
theorem NO (w : World) (x0 : Int) (x1 : ByteArray) (s1 : List UInt8) (h1 : Hid (x1 = bstr s1 ∧ s1.length ≤ 1000000)) (x2 : ByteArray) (s2 : List UInt8) (h2 : Hid (x2 = bstr s2 ∧ s2.length ≤ 1000000)) (x3 : Int) (x4 : Bool) (x5 : ByteArray) (s5 : List UInt8) (h5 : Hid (x5 = bstr s5 ∧ s5.length ≤ 1000000)) (x6 : Int) (x7 : Int) (A8 : Option Addr) (l8 : List Int) (c8 : Nat) (h8 : Hid (Rd w A8 l8.length (intL l8) ∧ (∀ x ∈ l8, Ar.inInt x) ∧ l8.length ≤ 1000000 ∧ (Ar.join [44] (l8.map Ar.itoa)).length ≤ 100000000)) (A9 : Option Addr) (l9 : List Int) (c9 : Nat) (h9 : Hid (Rd w A9 l9.length (intL l9) ∧ (∀ x ∈ l9, Ar.inInt x) ∧ l9.length ≤ 1000000 ∧ (Ar.join [44] (l9.map Ar.itoa)).length ≤ 100000000)) (x10 : ByteArray) (s10 : List UInt8) (h10 : Hid (x10 = bstr s10 ∧ s10.length ≤ 1000000)) (x11 : Int) (x12 : Int) (x13 : Bool) (x14 : ByteArray) (s14 : List UInt8) (h14 : Hid (x14 = bstr s14 ∧ s14.length ≤ 1000000)) (A15 : Option Addr) (l15 : List (List UInt8)) (c15 : Nat) (h15 : Hid (Rd w A15 l15.length (strL l15) ∧ (∀ x ∈ l15, x.length ≤ 1000000) ∧ l15.length ≤ 1000000 ∧ (Ar.join [44] (l15.map Ar.quote)).length ≤ 100000000)) (A16 : Option Addr) (l16 : List (List UInt8)) (c16 : Nat) (h16 : Hid (Rd w A16 l16.length (strL l16) ∧ (∀ x ∈ l16, x.length ≤ 1000000) ∧ l16.length ≤ 1000000 ∧ (Ar.join [44] (l16.map Ar.quote)).length ≤ 100000000)) (A17 : Option Addr) (l17 : List (List UInt8 × Int)) (c17 : Nat) (h17 : Hid (Rd w A17 (l17.length * 2) (usrL l17) ∧ (∀ x ∈ l17, x.1.length ≤ 1000000 ∧ Ar.inInt x.2) ∧ l17.length ≤ 1000000 ∧ (Ar.join [44] (l17.map Ar.usrT)).length ≤ 100000000)) (A18 : Option Addr) (l18 : List (Int × Int)) (c18 : Nat) (h18 : Hid (Rd w A18 (l18.length * 2) (kndL l18) ∧ (∀ x ∈ l18, Ar.inInt x.1 ∧ Ar.inInt x.2) ∧ l18.length ≤ 1000000 ∧ (Ar.join [44] (l18.map Ar.kndT)).length ≤ 100000000)) (x19 : Int) (x20 : Int) (x21 : Int) (x22 : Int) (x23 : Int) (x24 : Int) (x25 : Int) (x26 : Int) (x27 : ByteArray) (s27 : List UInt8) (h27 : Hid (x27 = bstr s27 ∧ s27.length ≤ 1000000)) (x28 : Int) (j : Int) (v : Ar.FV) (hij : (j = 1 ∧ v = .txt s1) ∨ (j = 2 ∧ v = .txt s2) ∨ (j = 4 ∧ v = .flg x4) ∨ (j = 5 ∧ v = .txt s5) ∨ (j = 8 ∧ v = .nums l8) ∨ (j = 9 ∧ v = .nums l9) ∨ (j = 10 ∧ v = .txt s10) ∨ (j = 13 ∧ v = .flg x13) ∨ (j = 14 ∧ v = .txt s14) ∨ (j = 15 ∧ v = .txts l15) ∨ (j = 16 ∧ v = .txts l16) ∨ (j = 17 ∧ v = .usrs l17) ∨ (j = 18 ∧ v = .knds l18) ∨ (j = 27 ∧ v = .txt s27)) : Calls Tryz.prog 52 #[.agg #[.int .i64 x0, .string x1, .string x2, .int .i64 x3, .bool x4, .string x5, .int .i64 x6, .int .i64 x7, .slice A8 l8.length c8, .slice A9 l9.length c9, .string x10, .int .i64 x11, .int .i64 x12, .bool x13, .string x14, .slice A15 l15.length c15, .slice A16 l16.length c16, .slice A17 l17.length c17, .slice A18 l18.length c18, .int .i64 x19, .int .i64 x20, .int .i64 x21, .int .i64 x22, .int .i64 x23, .int .i64 x24, .int .i64 x25, .int .i64 x26, .string x27, .int .i64 x28], .int .i64 j] w fun e w' => e = .returned (.string (bstr (Ar.xval v))) ∧ Below w.heap.size w w' := by
 have hB0 := (Below.refl w.heap.size w).alloc (Nat.le_refl _) (.cells #[.int .i64 x0, .string x1, .string x2, .int .i64 x3, .bool x4, .string x5, .int .i64 x6, .int .i64 x7, .slice A8 l8.length c8, .slice A9 l9.length c9, .string x10, .int .i64 x11, .int .i64 x12, .bool x13, .string x14, .slice A15 l15.length c15, .slice A16 l16.length c16, .slice A17 l17.length c17, .slice A18 l18.length c18, .int .i64 x19, .int .i64 x20, .int .i64 x21, .int .i64 x22, .int .i64 x23, .int .i64 x24, .int .i64 x25, .int .i64 x26, .string x27, .int .i64 x28] 40);have hk := Blk.new w 40 #[.int .i64 x0, .string x1, .string x2, .int .i64 x3, .bool x4, .string x5, .int .i64 x6, .int .i64 x7, .slice A8 l8.length c8, .slice A9 l9.length c9, .string x10, .int .i64 x11, .int .i64 x12, .bool x13, .string x14, .slice A15 l15.length c15, .slice A16 l16.length c16, .slice A17 l17.length c17, .slice A18 l18.length c18, .int .i64 x19, .int .i64 x20, .int .i64 x21, .int .i64 x22, .int .i64 x23, .int .i64 x24, .int .i64 x25, .int .i64 x26, .string x27, .int .i64 x28];generalize hw1 : w.alloc (.cells #[.int .i64 x0, .string x1, .string x2, .int .i64 x3, .bool x4, .string x5, .int .i64 x6, .int .i64 x7, .slice A8 l8.length c8, .slice A9 l9.length c9, .string x10, .int .i64 x11, .int .i64 x12, .bool x13, .string x14, .slice A15 l15.length c15, .slice A16 l16.length c16, .slice A17 l17.length c17, .slice A18 l18.length c18, .int .i64 x19, .int .i64 x20, .int .i64 x21, .int .i64 x22, .int .i64 x23, .int .i64 x24, .int .i64 x25, .int .i64 x26, .string x27, .int .i64 x28] 40) = w1 at *;have hBr := Below.refl w1.heap.size w1;have hlt0 := hk.lt;have hL10 : ∀ W, Below w1.heap.size w1 W → W.cell? ⟨w.heap.size, 10, none⟩ = some (.string x10) := fun W h => (h.cell (p := ⟨w.heap.size, 10, none⟩) hlt0).trans (hk.cell 10)
 have hL11 : ∀ W, Below w1.heap.size w1 W → W.cell? ⟨w.heap.size, 11, none⟩ = some (.int .i64 x11) := fun W h => (h.cell (p := ⟨w.heap.size, 11, none⟩) hlt0).trans (hk.cell 11)
 have hL12 : ∀ W, Below w1.heap.size w1 W → W.cell? ⟨w.heap.size, 12, none⟩ = some (.int .i64 x12) := fun W h => (h.cell (p := ⟨w.heap.size, 12, none⟩) hlt0).trans (hk.cell 12)
 have hL13 : ∀ W, Below w1.heap.size w1 W → W.cell? ⟨w.heap.size, 13, none⟩ = some (.bool x13) := fun W h => (h.cell (p := ⟨w.heap.size, 13, none⟩) hlt0).trans (hk.cell 13)
 have hL14 : ∀ W, Below w1.heap.size w1 W → W.cell? ⟨w.heap.size, 14, none⟩ = some (.string x14) := fun W h => (h.cell (p := ⟨w.heap.size, 14, none⟩) hlt0).trans (hk.cell 14)
 have hL15 : ∀ W, Below w1.heap.size w1 W → W.cell? ⟨w.heap.size, 15, none⟩ = some (.slice A15 l15.length c15) := fun W h => (h.cell (p := ⟨w.heap.size, 15, none⟩) hlt0).trans (hk.cell 15)
 have hL16 : ∀ W, Below w1.heap.size w1 W → W.cell? ⟨w.heap.size, 16, none⟩ = some (.slice A16 l16.length c16) := fun W h => (h.cell (p := ⟨w.heap.size, 16, none⟩) hlt0).trans (hk.cell 16)
 have hL17 : ∀ W, Below w1.heap.size w1 W → W.cell? ⟨w.heap.size, 17, none⟩ = some (.slice A17 l17.length c17) := fun W h => (h.cell (p := ⟨w.heap.size, 17, none⟩) hlt0).trans (hk.cell 17)
 have hL18 : ∀ W, Below w1.heap.size w1 W → W.cell? ⟨w.heap.size, 18, none⟩ = some (.slice A18 l18.length c18) := fun W h => (h.cell (p := ⟨w.heap.size, 18, none⟩) hlt0).trans (hk.cell 18)
 have hL19 : ∀ W, Below w1.heap.size w1 W → W.cell? ⟨w.heap.size, 19, none⟩ = some (.int .i64 x19) := fun W h => (h.cell (p := ⟨w.heap.size, 19, none⟩) hlt0).trans (hk.cell 19)
 have hL20 : ∀ W, Below w1.heap.size w1 W → W.cell? ⟨w.heap.size, 20, none⟩ = some (.int .i64 x20) := fun W h => (h.cell (p := ⟨w.heap.size, 20, none⟩) hlt0).trans (hk.cell 20)
 have hL21 : ∀ W, Below w1.heap.size w1 W → W.cell? ⟨w.heap.size, 21, none⟩ = some (.int .i64 x21) := fun W h => (h.cell (p := ⟨w.heap.size, 21, none⟩) hlt0).trans (hk.cell 21)
 have hL22 : ∀ W, Below w1.heap.size w1 W → W.cell? ⟨w.heap.size, 22, none⟩ = some (.int .i64 x22) := fun W h => (h.cell (p := ⟨w.heap.size, 22, none⟩) hlt0).trans (hk.cell 22)
 have hL23 : ∀ W, Below w1.heap.size w1 W → W.cell? ⟨w.heap.size, 23, none⟩ = some (.int .i64 x23) := fun W h => (h.cell (p := ⟨w.heap.size, 23, none⟩) hlt0).trans (hk.cell 23)
 have hL24 : ∀ W, Below w1.heap.size w1 W → W.cell? ⟨w.heap.size, 24, none⟩ = some (.int .i64 x24) := fun W h => (h.cell (p := ⟨w.heap.size, 24, none⟩) hlt0).trans (hk.cell 24)
 have hL25 : ∀ W, Below w1.heap.size w1 W → W.cell? ⟨w.heap.size, 25, none⟩ = some (.int .i64 x25) := fun W h => (h.cell (p := ⟨w.heap.size, 25, none⟩) hlt0).trans (hk.cell 25)
 have HB0 := hid hB0;have HK := hid hk;clear hB0 hk hlt0;go_enter Tryz.func52, Tryz.ntmps52;go_wp2_with fail
 go_cut [5, 6] from 8 to 12 (fun pa pb wx => ∃ g5 g6 : Nat, pa = .pointer (some ⟨g5, 0, none⟩) ∧ pb = .pointer (some ⟨g6, 0, none⟩) ∧ Blk wx g5 36 #[.string x10, .int .i64 x11, .int .i64 x12, .bool x13, .string x14, .slice A15 l15.length c15, .slice A16 l16.length c16, .slice A17 l17.length c17, .slice A18 l18.length c18, .int .i64 x19, .int .i64 x20, .int .i64 x21, .int .i64 x22, .int .i64 x23, .int .i64 x24, .int .i64 x25] ∧ Blk wx g6 34 #[.slice A17 l17.length c17, .slice A18 l18.length c18, .int .i64 x19, .int .i64 x20, .int .i64 x21, .int .i64 x22, .int .i64 x23, .int .i64 x24, .int .i64 x25] ∧ Below w1.heap.size w1 wx)
 case first =>
  go_region_held3 (fun W => Below w1.heap.size w1 W) (with_reducible (repeat (first | exact hBr | refine C9 ?_ | refine Cd ?_ _))) (fail)
  all_goals
   go_wp2_with fail
   go_meet
   first
    | exact ⟨_, _, rfl, rfl, Ds (GN (GS _ _ _) _), Ds (Cy _ _ _ _), C9 (Cd (Cd hBr _) _)⟩
    | exact ⟨_, _, rfl, rfl, Ds (Cy _ _ _ _), Ds (GN (GS _ _ _) _), C9 (Cd (Cd hBr _) _)⟩
 case rest =>
  obtain ⟨g5, g6, rfl, rfl, hC, hV, hbx⟩ := hcut;have HC := hid hC;have HV := hid hV;have HE : Hid (Blk wc w.heap.size 40 #[.int .i64 x0, .string x1, .string x2, .int .i64 x3, .bool x4, .string x5, .int .i64 x6, .int .i64 x7, .slice A8 l8.length c8, .slice A9 l9.length c9, .string x10, .int .i64 x11, .int .i64 x12, .bool x13, .string x14, .slice A15 l15.length c15, .slice A16 l16.length c16, .slice A17 l17.length c17, .slice A18 l18.length c18, .int .i64 x19, .int .i64 x20, .int .i64 x21, .int .i64 x22, .int .i64 x23, .int .i64 x24, .int .i64 x25, .int .i64 x26, .string x27, .int .i64 x28]) := hid (HK.out.below hbx HK.out.lt);have HBX : Hid (Below w.heap.size w wc) := hid (HB0.out.trans (hbx.mono HB0.out.size));clear hL10 hL11 hL12 hL13 hL14 hL15 hL16 hL17 hL18 hL19 hL20 hL21 hL22 hL23 hL24 hL25 hC hV hbx;rcases hij with ⟨rfl, rfl⟩ | ⟨rfl, rfl⟩ | ⟨rfl, rfl⟩ | ⟨rfl, rfl⟩ | ⟨rfl, rfl⟩ | ⟨rfl, rfl⟩ | ⟨rfl, rfl⟩ | ⟨rfl, rfl⟩ | ⟨rfl, rfl⟩ | ⟨rfl, rfl⟩ | ⟨rfl, rfl⟩ | ⟨rfl, rfl⟩ | ⟨rfl, rfl⟩ | ⟨rfl, rfl⟩
  ·have hc : wc.cell? ⟨w.heap.size, 1, none⟩ = some (.string x1) := HE.out.cell 1;have HT := hid (fun W => Dc s1 W h1.out.2);rw [← h1.out.1] at HT;have HX := hid (En s1);have HZ : Hid (Value.string (bstr (if s1 = [] then [] else 61 :: Ar.quote s1)) = .string (bstr (Ar.xval (.txt s1)))) := hid (by rw [HX.out]);generalize bstr (if s1 = [] then [] else 61 :: Ar.quote s1) = T at *;go_wp2_with fail;refine (HT.out _).mono ?_;rintro e w2 ⟨rfl, hb2⟩;have HB2 := hid (HBX.out.trans (hb2.mono HBX.out.size));clear hb2;go_wp2_with fail;go_ret;exact ⟨congrArg Ending.returned HZ.out, HB2.out⟩
  ·have hc : wc.cell? ⟨w.heap.size, 2, none⟩ = some (.string x2) := HE.out.cell 2;have HT := hid (fun W => Dc s2 W h2.out.2);rw [← h2.out.1] at HT;have HX := hid (En s2);have HZ : Hid (Value.string (bstr (if s2 = [] then [] else 61 :: Ar.quote s2)) = .string (bstr (Ar.xval (.txt s2)))) := hid (by rw [HX.out]);generalize bstr (if s2 = [] then [] else 61 :: Ar.quote s2) = T at *;go_wp2_with fail;refine (HT.out _).mono ?_;rintro e w2 ⟨rfl, hb2⟩;have HB2 := hid (HBX.out.trans (hb2.mono HBX.out.size));clear hb2;go_wp2_with fail;go_ret;exact ⟨congrArg Ending.returned HZ.out, HB2.out⟩
  ·have hc : wc.cell? ⟨w.heap.size, 4, none⟩ = some (.bool x4) := HE.out.cell 4;have HT := hid (fun W => II x4 W);have HX := hid (Lw x4);generalize (if x4 then (⟨#[32]⟩ : ByteArray) else ⟨#[]⟩) = T at *;go_wp2_with fail;refine (HT.out _).mono ?_;rintro e w2 ⟨rfl, rfl⟩;go_wp2_with fail;go_ret;exact ⟨congrArg Ending.returned HX.out, HBX.out⟩
  ·have hc : wc.cell? ⟨w.heap.size, 5, none⟩ = some (.string x5) := HE.out.cell 5;have HT := hid (fun W => Dc s5 W h5.out.2);rw [← h5.out.1] at HT;have HX := hid (En s5);have HZ : Hid (Value.string (bstr (if s5 = [] then [] else 61 :: Ar.quote s5)) = .string (bstr (Ar.xval (.txt s5)))) := hid (by rw [HX.out]);generalize bstr (if s5 = [] then [] else 61 :: Ar.quote s5) = T at *;go_wp2_with fail;refine (HT.out _).mono ?_;rintro e w2 ⟨rfl, hb2⟩;have HB2 := hid (HBX.out.trans (hb2.mono HBX.out.size));clear hb2;go_wp2_with fail;go_ret;exact ⟨congrArg Ending.returned HZ.out, HB2.out⟩
  ·have hc : wc.cell? ⟨w.heap.size, 8, none⟩ = some (.slice A8 l8.length c8) := HE.out.cell 8;have HT := hid (JF A8 c8 l8 wc (h8.out.1.below HBX.out) h8.out.2.1 h8.out.2.2.1 h8.out.2.2.2);have HU := hid (fun W => Dz (Ar.join [44] (l8.map Ar.itoa)) W h8.out.2.2.2);have HX : Hid (Value.string (bstr (sgnT (Ar.join [44] (l8.map Ar.itoa)))) = .string (bstr (Ar.xval (.nums l8)))) := hid rfl;generalize bstr (sgnT (Ar.join [44] (l8.map Ar.itoa))) = U at *;generalize bstr (Ar.join [44] (l8.map Ar.itoa)) = T at *;go_wp2_with fail;refine HT.out.mono ?_;rintro e w2 ⟨rfl, hb2⟩;have HB2 := hid (HBX.out.trans (hb2.mono HBX.out.size));clear hb2;go_wp2_with fail;refine (HU.out _).mono ?_;rintro e w3 ⟨rfl, rfl⟩;go_wp2_with fail;go_ret;exact ⟨congrArg Ending.returned HX.out, HB2.out⟩
  ·have hc : wc.cell? ⟨w.heap.size, 9, none⟩ = some (.slice A9 l9.length c9) := HE.out.cell 9;have HT := hid (JF A9 c9 l9 wc (h9.out.1.below HBX.out) h9.out.2.1 h9.out.2.2.1 h9.out.2.2.2);have HU := hid (fun W => Dz (Ar.join [44] (l9.map Ar.itoa)) W h9.out.2.2.2);have HX : Hid (Value.string (bstr (sgnT (Ar.join [44] (l9.map Ar.itoa)))) = .string (bstr (Ar.xval (.nums l9)))) := hid rfl;generalize bstr (sgnT (Ar.join [44] (l9.map Ar.itoa))) = U at *;generalize bstr (Ar.join [44] (l9.map Ar.itoa)) = T at *;go_wp2_with fail;refine HT.out.mono ?_;rintro e w2 ⟨rfl, hb2⟩;have HB2 := hid (HBX.out.trans (hb2.mono HBX.out.size));clear hb2;go_wp2_with fail;refine (HU.out _).mono ?_;rintro e w3 ⟨rfl, rfl⟩;go_wp2_with fail;go_ret;exact ⟨congrArg Ending.returned HX.out, HB2.out⟩
  ·have hc : wc.cell? ⟨g5, 0, none⟩ = some (.string x10) := HC.out.cell 0;have HT := hid (fun W => Dc s10 W h10.out.2);rw [← h10.out.1] at HT;have HX := hid (En s10);have HZ : Hid (Value.string (bstr (if s10 = [] then [] else 61 :: Ar.quote s10)) = .string (bstr (Ar.xval (.txt s10)))) := hid (by rw [HX.out]);generalize bstr (if s10 = [] then [] else 61 :: Ar.quote s10) = T at *;go_wp2_with fail;refine (HT.out _).mono ?_;rintro e w2 ⟨rfl, hb2⟩;have HB2 := hid (HBX.out.trans (hb2.mono HBX.out.size));clear hb2;go_wp2_with fail;go_ret;exact ⟨congrArg Ending.returned HZ.out, HB2.out⟩
  ·have hc : wc.cell? ⟨g5, 3, none⟩ = some (.bool x13) := HC.out.cell 3;have HT := hid (fun W => II x13 W);have HX := hid (Lw x13);generalize (if x13 then (⟨#[32]⟩ : ByteArray) else ⟨#[]⟩) = T at *;go_wp2_with fail;refine (HT.out _).mono ?_;rintro e w2 ⟨rfl, rfl⟩;go_wp2_with fail;go_ret;exact ⟨congrArg Ending.returned HX.out, HBX.out⟩
  ·have hc : wc.cell? ⟨g5, 4, none⟩ = some (.string x14) := HC.out.cell 4;have HT := hid (fun W => Dc s14 W h14.out.2);rw [← h14.out.1] at HT;have HX := hid (En s14);have HZ : Hid (Value.string (bstr (if s14 = [] then [] else 61 :: Ar.quote s14)) = .string (bstr (Ar.xval (.txt s14)))) := hid (by rw [HX.out]);generalize bstr (if s14 = [] then [] else 61 :: Ar.quote s14) = T at *;go_wp2_with fail;refine (HT.out _).mono ?_;rintro e w2 ⟨rfl, hb2⟩;have HB2 := hid (HBX.out.trans (hb2.mono HBX.out.size));clear hb2;go_wp2_with fail;go_ret;exact ⟨congrArg Ending.returned HZ.out, HB2.out⟩
  ·have hc : wc.cell? ⟨g5, 5, none⟩ = some (.slice A15 l15.length c15) := HC.out.cell 5;have HT := hid (IV A15 c15 l15 wc (h15.out.1.below HBX.out) h15.out.2.1 h15.out.2.2.1 h15.out.2.2.2);have HU := hid (fun W => Dz (Ar.join [44] (l15.map Ar.quote)) W h15.out.2.2.2);have HX : Hid (Value.string (bstr (sgnT (Ar.join [44] (l15.map Ar.quote)))) = .string (bstr (Ar.xval (.txts l15)))) := hid rfl;generalize bstr (sgnT (Ar.join [44] (l15.map Ar.quote))) = U at *;generalize bstr (Ar.join [44] (l15.map Ar.quote)) = T at *;go_wp2_with fail;refine HT.out.mono ?_;rintro e w2 ⟨rfl, hb2⟩;have HB2 := hid (HBX.out.trans (hb2.mono HBX.out.size));clear hb2;go_wp2_with fail;refine (HU.out _).mono ?_;rintro e w3 ⟨rfl, rfl⟩;go_wp2_with fail;go_ret;exact ⟨congrArg Ending.returned HX.out, HB2.out⟩
  ·have hc : wc.cell? ⟨g5, 6, none⟩ = some (.slice A16 l16.length c16) := HC.out.cell 6;have HT := hid (IV A16 c16 l16 wc (h16.out.1.below HBX.out) h16.out.2.1 h16.out.2.2.1 h16.out.2.2.2);have HU := hid (fun W => Dz (Ar.join [44] (l16.map Ar.quote)) W h16.out.2.2.2);have HX : Hid (Value.string (bstr (sgnT (Ar.join [44] (l16.map Ar.quote)))) = .string (bstr (Ar.xval (.txts l16)))) := hid rfl;generalize bstr (sgnT (Ar.join [44] (l16.map Ar.quote))) = U at *;generalize bstr (Ar.join [44] (l16.map Ar.quote)) = T at *;go_wp2_with fail;refine HT.out.mono ?_;rintro e w2 ⟨rfl, hb2⟩;have HB2 := hid (HBX.out.trans (hb2.mono HBX.out.size));clear hb2;go_wp2_with fail;refine (HU.out _).mono ?_;rintro e w3 ⟨rfl, rfl⟩;go_wp2_with fail;go_ret;exact ⟨congrArg Ending.returned HX.out, HB2.out⟩
  ·have hc : wc.cell? ⟨g6, 0, none⟩ = some (.slice A17 l17.length c17) := HV.out.cell 0;have HT := hid (LF A17 c17 l17 wc (h17.out.1.below HBX.out) h17.out.2.1 h17.out.2.2.1 h17.out.2.2.2);have HU := hid (fun W => Dz (Ar.join [44] (l17.map Ar.usrT)) W h17.out.2.2.2);have HX : Hid (Value.string (bstr (sgnT (Ar.join [44] (l17.map Ar.usrT)))) = .string (bstr (Ar.xval (.usrs l17)))) := hid rfl;generalize bstr (sgnT (Ar.join [44] (l17.map Ar.usrT))) = U at *;generalize bstr (Ar.join [44] (l17.map Ar.usrT)) = T at *;go_wp2_with fail;refine HT.out.mono ?_;rintro e w2 ⟨rfl, hb2⟩;have HB2 := hid (HBX.out.trans (hb2.mono HBX.out.size));clear hb2;go_wp2_with fail;refine (HU.out _).mono ?_;rintro e w3 ⟨rfl, rfl⟩;go_wp2_with fail;go_ret;exact ⟨congrArg Ending.returned HX.out, HB2.out⟩
  ·have hc : wc.cell? ⟨g6, 1, none⟩ = some (.slice A18 l18.length c18) := HV.out.cell 1;have HT := hid (LR A18 c18 l18 wc (h18.out.1.below HBX.out) h18.out.2.1 h18.out.2.2.1 h18.out.2.2.2);have HU := hid (fun W => Dz (Ar.join [44] (l18.map Ar.kndT)) W h18.out.2.2.2);have HX : Hid (Value.string (bstr (sgnT (Ar.join [44] (l18.map Ar.kndT)))) = .string (bstr (Ar.xval (.knds l18)))) := hid rfl;generalize bstr (sgnT (Ar.join [44] (l18.map Ar.kndT))) = U at *;generalize bstr (Ar.join [44] (l18.map Ar.kndT)) = T at *;go_wp2_with fail;refine HT.out.mono ?_;rintro e w2 ⟨rfl, hb2⟩;have HB2 := hid (HBX.out.trans (hb2.mono HBX.out.size));clear hb2;go_wp2_with fail;refine (HU.out _).mono ?_;rintro e w3 ⟨rfl, rfl⟩;go_wp2_with fail;go_ret;exact ⟨congrArg Ending.returned HX.out, HB2.out⟩
  ·have hc : wc.cell? ⟨w.heap.size, 27, none⟩ = some (.string x27) := HE.out.cell 27;have HT := hid (fun W => Dc s27 W h27.out.2);rw [← h27.out.1] at HT;have HX := hid (En s27);have HZ : Hid (Value.string (bstr (if s27 = [] then [] else 61 :: Ar.quote s27)) = .string (bstr (Ar.xval (.txt s27)))) := hid (by rw [HX.out]);generalize bstr (if s27 = [] then [] else 61 :: Ar.quote s27) = T at *;go_wp2_with fail;refine (HT.out _).mono ?_;rintro e w2 ⟨rfl, hb2⟩;have HB2 := hid (HBX.out.trans (hb2.mono HBX.out.size));clear hb2;go_wp2_with fail;go_ret;exact ⟨congrArg Ending.returned HZ.out, HB2.out⟩
theorem N9 (ok : Nat → Prop) (X : Array Value) (e : List Ar.FV) (w : World) (i : Nat) (v : Ar.FV) (hx : EvOf ok w X e) (hw : ∀ v ∈ e, v.WOk) (hi : e[i]? = some v) : Calls Tryz.prog 52 #[.agg X, .int .i64 (i : Int)] w fun r w' => r = .returned (.string (bstr (Ar.xval v))) ∧ Below w.heap.size w w' := by
 obtain ⟨e0, e1, e2, e3, e4, e5, e6, e7, pv, au, t0, n1, n2, f3, t4, al, dn, us, ks, l1, l2, l3, l4, l5, l6, l7, hs, sv, sm, rfl⟩ := ev29 hx.fits;obtain ⟨_, gx0, rfl⟩ := hx.cell 0 _ rfl;obtain ⟨_, gx1, rfl⟩ := hx.cell 1 _ rfl;obtain ⟨_, gx2, rfl⟩ := hx.cell 2 _ rfl;obtain ⟨_, gx3, rfl⟩ := hx.cell 3 _ rfl;obtain ⟨_, gx4, rfl⟩ := hx.cell 4 _ rfl;obtain ⟨_, gx5, rfl⟩ := hx.cell 5 _ rfl;obtain ⟨_, gx6, rfl⟩ := hx.cell 6 _ rfl;obtain ⟨_, gx7, rfl⟩ := hx.cell 7 _ rfl;obtain ⟨_, gx8, Axpv, cxpv, rfl, hxpv, -⟩ := hx.cell 8 _ rfl;obtain ⟨_, gx9, Axau, cxau, rfl, hxau, -⟩ := hx.cell 9 _ rfl;obtain ⟨_, gx10, rfl⟩ := hx.cell 10 _ rfl;obtain ⟨_, gx11, rfl⟩ := hx.cell 11 _ rfl;obtain ⟨_, gx12, rfl⟩ := hx.cell 12 _ rfl;obtain ⟨_, gx13, rfl⟩ := hx.cell 13 _ rfl;obtain ⟨_, gx14, rfl⟩ := hx.cell 14 _ rfl;obtain ⟨_, gx15, Axal, cxal, rfl, hxal, -⟩ := hx.cell 15 _ rfl;obtain ⟨_, gx16, Axdn, cxdn, rfl, hxdn, -⟩ := hx.cell 16 _ rfl;obtain ⟨_, gx17, Axus, cxus, rfl, hxus, -⟩ := hx.cell 17 _ rfl;obtain ⟨_, gx18, Axks, cxks, rfl, hxks, -⟩ := hx.cell 18 _ rfl;obtain ⟨_, gx19, rfl⟩ := hx.cell 19 _ rfl;obtain ⟨_, gx20, rfl⟩ := hx.cell 20 _ rfl;obtain ⟨_, gx21, rfl⟩ := hx.cell 21 _ rfl;obtain ⟨_, gx22, rfl⟩ := hx.cell 22 _ rfl;obtain ⟨_, gx23, rfl⟩ := hx.cell 23 _ rfl;obtain ⟨_, gx24, rfl⟩ := hx.cell 24 _ rfl;obtain ⟨_, gx25, rfl⟩ := hx.cell 25 _ rfl;obtain ⟨_, gx26, rfl⟩ := hx.cell 26 _ rfl;obtain ⟨_, gx27, rfl⟩ := hx.cell 27 _ rfl;obtain ⟨_, gx28, rfl⟩ := hx.cell 28 _ rfl;have EX : X = #[.int .i64 e0, .string (bstr e1), .string (bstr e2), .int .i64 e3, .bool e4, .string (bstr e5), .int .i64 e6, .int .i64 e7, .slice Axpv pv.length cxpv, .slice Axau au.length cxau, .string (bstr t0), .int .i64 n1, .int .i64 n2, .bool f3, .string (bstr t4), .slice Axal al.length cxal, .slice Axdn dn.length cxdn, .slice Axus us.length cxus, .slice Axks ks.length cxks, .int .i64 l1, .int .i64 l2, .int .i64 l3, .int .i64 l4, .int .i64 l5, .int .i64 l6, .int .i64 l7, .int .i64 hs, .string (bstr sv), .int .i64 sm] := by
  apply Array.ext_getElem?;intro i;by_cases hi : i < 29
  ·match i, hi with
   | 0, _ => exact gx0
   | 1, _ => exact gx1
   | 2, _ => exact gx2
   | 3, _ => exact gx3
   | 4, _ => exact gx4
   | 5, _ => exact gx5
   | 6, _ => exact gx6
   | 7, _ => exact gx7
   | 8, _ => exact gx8
   | 9, _ => exact gx9
   | 10, _ => exact gx10
   | 11, _ => exact gx11
   | 12, _ => exact gx12
   | 13, _ => exact gx13
   | 14, _ => exact gx14
   | 15, _ => exact gx15
   | 16, _ => exact gx16
   | 17, _ => exact gx17
   | 18, _ => exact gx18
   | 19, _ => exact gx19
   | 20, _ => exact gx20
   | 21, _ => exact gx21
   | 22, _ => exact gx22
   | 23, _ => exact gx23
   | 24, _ => exact gx24
   | 25, _ => exact gx25
   | 26, _ => exact gx26
   | 27, _ => exact gx27
   | 28, _ => exact gx28
   | n + 29, hi => exact absurd hi (by omega)
  ·rw [Array.getElem?_eq_none (by have := hx.size; omega), Array.getElem?_eq_none (by simp; omega)]
 have k0 := hw (.num e0) (List.mem_of_getElem? (i := 0) rfl);have k1 := hw (.txt e1) (List.mem_of_getElem? (i := 1) rfl);have k2 := hw (.txt e2) (List.mem_of_getElem? (i := 2) rfl);have k3 := hw (.num e3) (List.mem_of_getElem? (i := 3) rfl);have k4 := hw (.flg e4) (List.mem_of_getElem? (i := 4) rfl);have k5 := hw (.txt e5) (List.mem_of_getElem? (i := 5) rfl);have k6 := hw (.num e6) (List.mem_of_getElem? (i := 6) rfl);have k7 := hw (.num e7) (List.mem_of_getElem? (i := 7) rfl);have k8 := hw (.nums pv) (List.mem_of_getElem? (i := 8) rfl);have k9 := hw (.nums au) (List.mem_of_getElem? (i := 9) rfl);have k10 := hw (.txt t0) (List.mem_of_getElem? (i := 10) rfl);have k11 := hw (.num n1) (List.mem_of_getElem? (i := 11) rfl);have k12 := hw (.num n2) (List.mem_of_getElem? (i := 12) rfl);have k13 := hw (.flg f3) (List.mem_of_getElem? (i := 13) rfl);have k14 := hw (.txt t4) (List.mem_of_getElem? (i := 14) rfl);have k15 := hw (.txts al) (List.mem_of_getElem? (i := 15) rfl);have k16 := hw (.txts dn) (List.mem_of_getElem? (i := 16) rfl);have k17 := hw (.usrs us) (List.mem_of_getElem? (i := 17) rfl);have k18 := hw (.knds ks) (List.mem_of_getElem? (i := 18) rfl);have k19 := hw (.num l1) (List.mem_of_getElem? (i := 19) rfl);have k20 := hw (.num l2) (List.mem_of_getElem? (i := 20) rfl);have k21 := hw (.num l3) (List.mem_of_getElem? (i := 21) rfl);have k22 := hw (.num l4) (List.mem_of_getElem? (i := 22) rfl);have k23 := hw (.num l5) (List.mem_of_getElem? (i := 23) rfl);have k24 := hw (.num l6) (List.mem_of_getElem? (i := 24) rfl);have k25 := hw (.num l7) (List.mem_of_getElem? (i := 25) rfl);have k26 := hw (.num hs) (List.mem_of_getElem? (i := 26) rfl);have k27 := hw (.txt sv) (List.mem_of_getElem? (i := 27) rfl);have k28 := hw (.num sm) (List.mem_of_getElem? (i := 28) rfl);subst EX;have VO := NO w e0 (bstr e1) e1 (hid ⟨rfl, k1.2.2⟩) (bstr e2) e2 (hid ⟨rfl, k2.2.2⟩) e3 e4 (bstr e5) e5 (hid ⟨rfl, k5.2.2⟩) e6 e7 Axpv pv cxpv (hid ⟨by have h := hxpv; rw [Nat.mul_one] at h; exact h, k8.1, k8.2.2, k8.2.1⟩) Axau au cxau (hid ⟨by have h := hxau; rw [Nat.mul_one] at h; exact h, k9.1, k9.2.2, k9.2.1⟩) (bstr t0) t0 (hid ⟨rfl, k10.2.2⟩) n1 n2 f3 (bstr t4) t4 (hid ⟨rfl, k14.2.2⟩) Axal al cxal (hid ⟨by have h := hxal; rw [Nat.mul_one] at h; exact h, k15.2.2.2, k15.2.2.1, k15.2.1⟩) Axdn dn cxdn (hid ⟨by have h := hxdn; rw [Nat.mul_one] at h; exact h, k16.2.2.2, k16.2.2.1, k16.2.1⟩) Axus us cxus (hid ⟨hxus, fun x h => ⟨k17.2.2.2 x h, k17.1 x h⟩, k17.2.2.1, k17.2.1⟩) Axks ks cxks (hid ⟨hxks, fun x h => k18.1 x h, k18.2.2, k18.2.1⟩) l1 l2 l3 l4 l5 l6 l7 hs (bstr sv) sv (hid ⟨rfl, k27.2.2⟩) sm;have VN := Nu e0 (bstr e1) (bstr e2) e3 e4 (bstr e5) e6 e7 Axpv pv.length cxpv Axau au.length cxau (bstr t0) n1 n2 f3 (bstr t4) Axal al.length cxal Axdn dn.length cxdn Axus us.length cxus Axks ks.length cxks l1 l2 l3 l4 l5 l6 l7 hs (bstr sv) sm w;have hlt : i < 29 := (List.getElem?_eq_some_iff.1 hi).1
 match i, hlt, hi with
 | 0, _, hi =>
  injection hi with hi;subst hi;refine (VN 0 0 (Or.inl ⟨rfl, rfl⟩) (fun n hn => by injection hn with hn; injection hn with _ hn; rw [← hn]; exact k0.1)).mono ?_;rintro r w' ⟨⟨n, hn, rfl⟩, hb⟩;injection hn with hn;injection hn with _ hn;rw [hn];exact ⟨rfl, hb⟩
 | 1, _, hi => injection hi with hi; subst hi; exact VO 1 _ (Or.inl ⟨rfl, rfl⟩)
 | 2, _, hi => injection hi with hi; subst hi; exact VO 2 _ (Or.inr (Or.inl ⟨rfl, rfl⟩))
 | 3, _, hi =>
  injection hi with hi;subst hi;refine (VN 3 3 (Or.inr (Or.inl ⟨rfl, rfl⟩)) (fun n hn => by injection hn with hn; injection hn with _ hn; rw [← hn]; exact k3.1)).mono ?_;rintro r w' ⟨⟨n, hn, rfl⟩, hb⟩;injection hn with hn;injection hn with _ hn;rw [hn];exact ⟨rfl, hb⟩
 | 4, _, hi => injection hi with hi; subst hi; exact VO 4 _ (Or.inr (Or.inr (Or.inl ⟨rfl, rfl⟩)))
 | 5, _, hi => injection hi with hi; subst hi; exact VO 5 _ (Or.inr (Or.inr (Or.inr (Or.inl ⟨rfl, rfl⟩))))
 | 6, _, hi =>
  injection hi with hi;subst hi;refine (VN 6 6 (Or.inr (Or.inr (Or.inl ⟨rfl, rfl⟩))) (fun n hn => by injection hn with hn; injection hn with _ hn; rw [← hn]; exact k6.1)).mono ?_;rintro r w' ⟨⟨n, hn, rfl⟩, hb⟩;injection hn with hn;injection hn with _ hn;rw [hn];exact ⟨rfl, hb⟩
 | 7, _, hi =>
  injection hi with hi;subst hi;refine (VN 7 7 (Or.inr (Or.inr (Or.inr (Or.inl ⟨rfl, rfl⟩)))) (fun n hn => by injection hn with hn; injection hn with _ hn; rw [← hn]; exact k7.1)).mono ?_;rintro r w' ⟨⟨n, hn, rfl⟩, hb⟩;injection hn with hn;injection hn with _ hn;rw [hn];exact ⟨rfl, hb⟩
 | 8, _, hi => injection hi with hi; subst hi; exact VO 8 _ (Or.inr (Or.inr (Or.inr (Or.inr (Or.inl ⟨rfl, rfl⟩)))))
 | 9, _, hi => injection hi with hi; subst hi; exact VO 9 _ (Or.inr (Or.inr (Or.inr (Or.inr (Or.inr (Or.inl ⟨rfl, rfl⟩))))))
 | 10, _, hi => injection hi with hi; subst hi; exact VO 10 _ (Or.inr (Or.inr (Or.inr (Or.inr (Or.inr (Or.inr (Or.inl ⟨rfl, rfl⟩)))))))
 | 11, _, hi =>
  injection hi with hi;subst hi;refine (VN 11 11 (Or.inr (Or.inr (Or.inr (Or.inr (Or.inl ⟨rfl, rfl⟩))))) (fun n hn => by injection hn with hn; injection hn with _ hn; rw [← hn]; exact k11.1)).mono ?_;rintro r w' ⟨⟨n, hn, rfl⟩, hb⟩;injection hn with hn;injection hn with _ hn;rw [hn];exact ⟨rfl, hb⟩
 | 12, _, hi =>
  injection hi with hi;subst hi;refine (VN 12 12 (Or.inr (Or.inr (Or.inr (Or.inr (Or.inr (Or.inl ⟨rfl, rfl⟩)))))) (fun n hn => by injection hn with hn; injection hn with _ hn; rw [← hn]; exact k12.1)).mono ?_;rintro r w' ⟨⟨n, hn, rfl⟩, hb⟩;injection hn with hn;injection hn with _ hn;rw [hn];exact ⟨rfl, hb⟩
 | 13, _, hi => injection hi with hi; subst hi; exact VO 13 _ (Or.inr (Or.inr (Or.inr (Or.inr (Or.inr (Or.inr (Or.inr (Or.inl ⟨rfl, rfl⟩))))))))
 | 14, _, hi => injection hi with hi; subst hi; exact VO 14 _ (Or.inr (Or.inr (Or.inr (Or.inr (Or.inr (Or.inr (Or.inr (Or.inr (Or.inl ⟨rfl, rfl⟩)))))))))
 | 15, _, hi => injection hi with hi; subst hi; exact VO 15 _ (Or.inr (Or.inr (Or.inr (Or.inr (Or.inr (Or.inr (Or.inr (Or.inr (Or.inr (Or.inl ⟨rfl, rfl⟩))))))))))
 | 16, _, hi => injection hi with hi; subst hi; exact VO 16 _ (Or.inr (Or.inr (Or.inr (Or.inr (Or.inr (Or.inr (Or.inr (Or.inr (Or.inr (Or.inr (Or.inl ⟨rfl, rfl⟩)))))))))))
 | 17, _, hi => injection hi with hi; subst hi; exact VO 17 _ (Or.inr (Or.inr (Or.inr (Or.inr (Or.inr (Or.inr (Or.inr (Or.inr (Or.inr (Or.inr (Or.inr (Or.inl ⟨rfl, rfl⟩))))))))))))
 | 18, _, hi => injection hi with hi; subst hi; exact VO 18 _ (Or.inr (Or.inr (Or.inr (Or.inr (Or.inr (Or.inr (Or.inr (Or.inr (Or.inr (Or.inr (Or.inr (Or.inr (Or.inl ⟨rfl, rfl⟩)))))))))))))
 | 19, _, hi =>
  injection hi with hi;subst hi;refine (VN 19 19 (Or.inr (Or.inr (Or.inr (Or.inr (Or.inr (Or.inr (Or.inl ⟨rfl, rfl⟩))))))) (fun n hn => by injection hn with hn; injection hn with _ hn; rw [← hn]; exact k19.1)).mono ?_;rintro r w' ⟨⟨n, hn, rfl⟩, hb⟩;injection hn with hn;injection hn with _ hn;rw [hn];exact ⟨rfl, hb⟩
 | 20, _, hi =>
  injection hi with hi;subst hi;refine (VN 20 20 (Or.inr (Or.inr (Or.inr (Or.inr (Or.inr (Or.inr (Or.inr (Or.inl ⟨rfl, rfl⟩)))))))) (fun n hn => by injection hn with hn; injection hn with _ hn; rw [← hn]; exact k20.1)).mono ?_;rintro r w' ⟨⟨n, hn, rfl⟩, hb⟩;injection hn with hn;injection hn with _ hn;rw [hn];exact ⟨rfl, hb⟩
 | 21, _, hi =>
  injection hi with hi;subst hi;refine (VN 21 21 (Or.inr (Or.inr (Or.inr (Or.inr (Or.inr (Or.inr (Or.inr (Or.inr (Or.inl ⟨rfl, rfl⟩))))))))) (fun n hn => by injection hn with hn; injection hn with _ hn; rw [← hn]; exact k21.1)).mono ?_;rintro r w' ⟨⟨n, hn, rfl⟩, hb⟩;injection hn with hn;injection hn with _ hn;rw [hn];exact ⟨rfl, hb⟩
 | 22, _, hi =>
  injection hi with hi;subst hi;refine (VN 22 22 (Or.inr (Or.inr (Or.inr (Or.inr (Or.inr (Or.inr (Or.inr (Or.inr (Or.inr (Or.inl ⟨rfl, rfl⟩)))))))))) (fun n hn => by injection hn with hn; injection hn with _ hn; rw [← hn]; exact k22.1)).mono ?_;rintro r w' ⟨⟨n, hn, rfl⟩, hb⟩;injection hn with hn;injection hn with _ hn;rw [hn];exact ⟨rfl, hb⟩
 | 23, _, hi =>
  injection hi with hi;subst hi;refine (VN 23 23 (Or.inr (Or.inr (Or.inr (Or.inr (Or.inr (Or.inr (Or.inr (Or.inr (Or.inr (Or.inr (Or.inl ⟨rfl, rfl⟩))))))))))) (fun n hn => by injection hn with hn; injection hn with _ hn; rw [← hn]; exact k23.1)).mono ?_;rintro r w' ⟨⟨n, hn, rfl⟩, hb⟩;injection hn with hn;injection hn with _ hn;rw [hn];exact ⟨rfl, hb⟩
 | 24, _, hi =>
  injection hi with hi;subst hi;refine (VN 24 24 (Or.inr (Or.inr (Or.inr (Or.inr (Or.inr (Or.inr (Or.inr (Or.inr (Or.inr (Or.inr (Or.inr (Or.inl ⟨rfl, rfl⟩)))))))))))) (fun n hn => by injection hn with hn; injection hn with _ hn; rw [← hn]; exact k24.1)).mono ?_;rintro r w' ⟨⟨n, hn, rfl⟩, hb⟩;injection hn with hn;injection hn with _ hn;rw [hn];exact ⟨rfl, hb⟩
 | 25, _, hi =>
  injection hi with hi;subst hi;refine (VN 25 25 (Or.inr (Or.inr (Or.inr (Or.inr (Or.inr (Or.inr (Or.inr (Or.inr (Or.inr (Or.inr (Or.inr (Or.inr (Or.inl ⟨rfl, rfl⟩))))))))))))) (fun n hn => by injection hn with hn; injection hn with _ hn; rw [← hn]; exact k25.1)).mono ?_;rintro r w' ⟨⟨n, hn, rfl⟩, hb⟩;injection hn with hn;injection hn with _ hn;rw [hn];exact ⟨rfl, hb⟩
 | 26, _, hi =>
  injection hi with hi;subst hi;refine (VN 26 26 (Or.inr (Or.inr (Or.inr (Or.inr (Or.inr (Or.inr (Or.inr (Or.inr (Or.inr (Or.inr (Or.inr (Or.inr (Or.inr (Or.inl ⟨rfl, rfl⟩)))))))))))))) (fun n hn => by injection hn with hn; injection hn with _ hn; rw [← hn]; exact k26.1)).mono ?_;rintro r w' ⟨⟨n, hn, rfl⟩, hb⟩;injection hn with hn;injection hn with _ hn;rw [hn];exact ⟨rfl, hb⟩
 | 27, _, hi => injection hi with hi; subst hi; exact VO 27 _ (Or.inr (Or.inr (Or.inr (Or.inr (Or.inr (Or.inr (Or.inr (Or.inr (Or.inr (Or.inr (Or.inr (Or.inr (Or.inr (⟨rfl, rfl⟩))))))))))))))
 | 28, _, hi =>
  injection hi with hi;subst hi;refine (VN 28 28 (Or.inr (Or.inr (Or.inr (Or.inr (Or.inr (Or.inr (Or.inr (Or.inr (Or.inr (Or.inr (Or.inr (Or.inr (Or.inr (Or.inr (⟨rfl, rfl⟩))))))))))))))) (fun n hn => by injection hn with hn; injection hn with _ hn; rw [← hn]; exact k28.1)).mono ?_;rintro r w' ⟨⟨n, hn, rfl⟩, hb⟩;injection hn with hn;injection hn with _ hn;rw [hn];exact ⟨rfl, hb⟩
 | n + 29, hlt, _ => exact absurd hlt (by omega)
end Go.Proofs.YteadlcncnhbmjaaGreatDoor
namespace Ar
def nmL : List Str := NK.map (·.1)
theorem Ka {k : Nat} {nk : Str × FK} (h : NK[k]? = some nk) : nmL[k]? = some nk.1 := by unfold nmL; rw [List.getElem?_map, h]; rfl
end Ar
namespace Go.Proofs.YteadlcncnhbmjaaGreatDoor
open Go.RowKit Go.Lib
theorem FH (w : World) : Calls Tryz.prog 51 #[] w fun e w' => (∃ g, e = .returned (.slice (some ⟨g, 0, none⟩) 29 29) ∧ g < w'.heap.size ∧ Rd w' (some ⟨g, 0, none⟩) Ar.nmL.length (strL Ar.nmL)) ∧ Below w.heap.size w w' := by
 have HR := hid (Rd.litS w Ar.nmL);have HB := hid ((Below.refl w.heap.size w).alloc (Nat.le_refl _) (.cells (strL Ar.nmL).toArray 9));have HS : Hid (w.heap.size < (w.alloc (.cells (strL Ar.nmL).toArray 9)).heap.size) := hid (by rw [World.size_alloc]; omega);go_enter Tryz.func51, Tryz.ntmps51;go_wp2_with fail;go_ret;exact ⟨⟨_, rfl, HS.out, HR.out⟩, HB.out⟩
theorem IG (ok : Nat → Prop) (cells : Array Value) (e : List Ar.FV) (w : World) (h : EvOf ok w cells e) (hw : ∀ v ∈ e, v.WOk) (hl : (Ar.line e).length ≤ 100000000) :
  Calls Tryz.prog 21 #[.agg cells] w fun r w' => r = .returned (.string (bstr (Ar.line e))) ∧ Below w.heap.size w w' := by
 have HE := hid h;have HW := hid hw;have HLEN := hid hl;have HB0 := hid ((Below.refl w.heap.size w).alloc (Nat.le_refl _) (.cells cells 40));have HK0 := hid (Blk.new w 40 cells);have HES := hid (EvOf.size h);clear h hw hl;go_enter Tryz.func21, Tryz.ntmps21;go_wp2_with fail;refine (FH _).mono ?_;rintro r w1 ⟨⟨g, rfl, hg, hrd⟩, hb⟩;have HR1 := hid hrd;have HB1 := hid (HB0.out.trans (hb.mono HB0.out.size));have HK1 := hid (HK0.out.below hb HK0.out.lt);have hn29 : Ar.nmL.length = 29 := rfl;have HN29 := hid hn29;clear hrd hb hn29 hg;go_wp2_with fail
 go_loopw [4, 5] (fun sx ix wr => ∃ k : Nat, k ≤ 29 ∧ ix = .int .i64 k ∧ sx = .string (bstr (Ar.lineK e k)) ∧ Below w1.heap.size w1 wr) (fun _ ix _ => 29 - (RowKit.intOf ix).toNat)
 case atStart => exact ⟨0, by omega, rfl, by rw [Ar.LO]; rfl, Below.refl _ _⟩
 case round =>
  obtain ⟨k, hk, rfl, rfl, hb⟩ := hrel;have HB := hid hb;have hbs := hb.size;clear hb;by_cases hlt : k < 29
  ·obtain ⟨v, hv⟩ : ∃ v, e[k]? = some v := ⟨e[k]'(by rw [HE.out.len]; exact hlt), List.getElem?_eq_getElem _⟩;obtain ⟨nk, hnk⟩ : ∃ nk, Ar.NK[k]? = some nk := ⟨Ar.NK[k]'(by show k < 29; exact hlt), List.getElem?_eq_getElem _⟩;obtain ⟨bn, on, nm, hA, hnm, hcn⟩ := HR1.out.str_at (k := k) (by rw [HN29.out]; exact hlt);injection hA with hA;injection hA with hA1 hA2 hA3;subst hA1 hA2;rw [Nat.zero_add] at hcn;obtain rfl : nm = nk.1 := Option.some.inj (hnm.symm.trans (Ar.Ka hnk));have HLD := hid (HK1.out.below HB.out HK1.out.lt);have HT := hid (HB1.out.trans (HB.out.mono HB1.out.size));have HEW : Hid (EvOf ok wr cells e) := hid (HE.out.below HT.out);have HVA := hid (N9 ok cells e wr k v HEW.out HW.out hv);have HVW : Hid v.WOk := hid (HW.out v (List.mem_of_getElem? hv));have HV := hid hv;have HNK := hid hnk;have hmem := List.mem_of_getElem? hnk;have hxc := Ar.Lx nk.1 v (Ar.NK_az nk hmem).1;have hnl : (bstr nk.1).size ≤ 100 := by rw [Ab]; exact Gu nk hmem
   have hxl : (bstr (Ar.xval v)).size ≤ 100000001 := by rw [Ab]; exact Ar.PP v HVW.out.2.1
   have hsl : (bstr (Ar.lineK e k)).size ≤ 100000000 := by rw [Ab]; exact Nat.le_trans (Ar.NF e k HE.out.len) HLEN.out
   have hem := Cx (Ar.xval v);have hes := Cx (Ar.lineK e k);have hbl := Ay (Ar.xval v) [32];have HCN := hid hcn;clear hv hnk hnm hmem hcn;go_wp2_with (refine wpList_load_row rfl 40 _ rfl w.heap.size rfl 40 cells (0, 0) _ HLD.out Tryz.underlying40 rfl (by rw [Aj, HES.out]) ?_);refine HVA.out.mono ?_;rintro r w3 ⟨rfl, hb3⟩;have hcn3 : w3.cell? ⟨g, k, none⟩ = some (.string (bstr nk.1)) := Ai (Ai HCN.out HB.out) hb3;have HBW3 := hid (HB.out.trans (hb3.mono hbs));clear hb3;rcases hxc with ⟨h1, h2⟩ | ⟨h1, h2⟩ | ⟨h1, h1b, h2⟩
   ·have hem2 : (bstr (Ar.xval v)).toList.isEmpty = true := by rw [hem, h1]; rfl
    have HN2 : Hid (Ar.lineK e (k + 1) = Ar.lineK e k) := hid (Ar.L5 HNK.out HV.out h2);clear hem hbl h1 h2 hes;generalize bstr (Ar.xval v) = X at *;generalize bstr nk.1 = N at *;go_wp2_with fail
    go_roundw
    case rel => exact ⟨k + 1, by omega, by go_num, by rw [HN2.out], HBW3.out⟩
    case measure => simp [RowKit.intOf]; omega
   ·have hem2 : (bstr (Ar.xval v)).toList.isEmpty = false := by rw [hem, h1]; rfl
    have hbl2 : ((bstr (Ar.xval v)).toList == [32]) = true := by rw [hbl, h1]; rfl
    have hin : Ar.item nk.1 v ≠ [] := by rw [h2]; exact (Ar.NK_az nk (List.mem_of_getElem? HNK.out)).1
    have HNX := hid (Ar.Jl HNK.out HV.out hin);clear hin;by_cases hL : Ar.lineK e k = []
    ·have hes2 : (bstr (Ar.lineK e k)).toList.isEmpty = true := by rw [hes, hL]; rfl
     have HIT : Hid (bstr (Ar.lineK e k) ++ bstr nk.1 = bstr (Ar.lineK e (k + 1))) := hid (by rw [HNX.out, if_pos hL, h2, hL]; exact Bg (by simp [bstr]));have hp0 : ¬ 9223372036854775807 < (bstr (Ar.lineK e k)).size + (bstr nk.1).size := by omega
     clear hem hbl hes h1 h2 hL HNX;generalize bstr (Ar.lineK e k) = S at *;generalize bstr (Ar.xval v) = X at *;generalize bstr nk.1 = N at *;go_wp2_with fail
     go_roundw
     case rel => exact ⟨k + 1, by omega, by go_num, by rw [HIT.out], HBW3.out⟩
     case measure => simp [RowKit.intOf]; omega
    ·have hes2 : (bstr (Ar.lineK e k)).toList.isEmpty = false := by rw [hes]; cases hh : Ar.lineK e k with
      | nil => exact absurd hh hL
      | cons c r => rfl
     have HIT : Hid (bstr (Ar.lineK e k) ++ (⟨#[32]⟩ : ByteArray) ++ bstr nk.1 = bstr (Ar.lineK e (k + 1))) := hid (by rw [HNX.out, if_neg hL, h2]; exact Bg (by simp [bstr]));have hp0 : ¬ 9223372036854775807 < (bstr (Ar.lineK e k)).size + 1 := by omega
     have hp1 : ¬ 9223372036854775807 < (bstr (Ar.lineK e k)).size + 1 + (bstr nk.1).size := by omega
     clear hem hbl hes h1 h2 hL HNX;generalize bstr (Ar.lineK e k) = S at *;generalize bstr (Ar.xval v) = X at *;generalize bstr nk.1 = N at *;go_wp2_with fail
     go_roundw
     case rel => exact ⟨k + 1, by omega, by go_num, by rw [HIT.out], HBW3.out⟩
     case measure => simp [RowKit.intOf]; omega
   ·have hem2 : (bstr (Ar.xval v)).toList.isEmpty = false := by rw [hem]; cases hh : Ar.xval v with
     | nil => exact absurd hh h1
     | cons c r => rfl
    have hbl2 : ((bstr (Ar.xval v)).toList == [32]) = false := by rw [hbl]; exact beq_eq_false_iff_ne.2 h1b
    have hin : Ar.item nk.1 v ≠ [] := by rw [h2]; simp [h1]
    have HNX := hid (Ar.Jl HNK.out HV.out hin);clear hin;by_cases hL : Ar.lineK e k = []
    ·have hes2 : (bstr (Ar.lineK e k)).toList.isEmpty = true := by rw [hes, hL]; rfl
     have HIT : Hid (bstr (Ar.lineK e k) ++ bstr nk.1 ++ bstr (Ar.xval v) = bstr (Ar.lineK e (k + 1))) := hid (by rw [HNX.out, if_pos hL, h2, hL]; exact Bg (by simp [bstr]));have hp0 : ¬ 9223372036854775807 < (bstr (Ar.lineK e k)).size + (bstr nk.1).size := by omega
     have hp1 : ¬ 9223372036854775807 < (bstr (Ar.lineK e k)).size + (bstr nk.1).size + (bstr (Ar.xval v)).size := by omega
     clear hem hbl hes h1 h2 hL HNX h1b;generalize bstr (Ar.lineK e k) = S at *;generalize bstr (Ar.xval v) = X at *;generalize bstr nk.1 = N at *;go_wp2_with fail
     go_roundw
     case rel => exact ⟨k + 1, by omega, by go_num, by rw [HIT.out], HBW3.out⟩
     case measure => simp [RowKit.intOf]; omega
    ·have hes2 : (bstr (Ar.lineK e k)).toList.isEmpty = false := by rw [hes]; cases hh : Ar.lineK e k with
      | nil => exact absurd hh hL
      | cons c r => rfl
     have HIT : Hid (bstr (Ar.lineK e k) ++ (⟨#[32]⟩ : ByteArray) ++ bstr nk.1 ++ bstr (Ar.xval v) = bstr (Ar.lineK e (k + 1))) := hid (by rw [HNX.out, if_neg hL, h2]; exact Bg (by simp [bstr]));have hp0 : ¬ 9223372036854775807 < (bstr (Ar.lineK e k)).size + 1 := by omega
     have hp1 : ¬ 9223372036854775807 < (bstr (Ar.lineK e k)).size + 1 + (bstr nk.1).size := by omega
     have hp2 : ¬ 9223372036854775807 < (bstr (Ar.lineK e k)).size + 1 + (bstr nk.1).size + (bstr (Ar.xval v)).size := by omega
     clear hem hbl hes h1 h2 hL HNX h1b;generalize bstr (Ar.lineK e k) = S at *;generalize bstr (Ar.xval v) = X at *;generalize bstr nk.1 = N at *;go_wp2_with fail
     go_roundw
     case rel => exact ⟨k + 1, by omega, by go_num, by rw [HIT.out], HBW3.out⟩
     case measure => simp [RowKit.intOf]; omega
  ·obtain rfl : k = 29 := by omega
   have HI := hid (Ar.JL e HE.out.len);have HF := hid (HB1.out.trans (HB.out.mono HB1.out.size));rw [HI.out];go_wp2_with fail;go_ret;exact ⟨rfl, HF.out⟩
end Go.Proofs.YteadlcncnhbmjaaGreatDoor
namespace Ar
theorem ES {α : Type} (p : α → Bool) : ∀ (l : List α) (i : Nat) (x : α), l[i]? = some x → p x = true → (∀ j y, j < i → l[j]? = some y → p y = false) → l.findIdx? p = some i
 | [], i, x, h, _, _ => by simp at h
 | a :: l, 0, x, h, hp, _ => by
  injection h with h;subst h;rw [List.findIdx?_cons, hp];rfl
 | a :: l, i + 1, x, h, hp, hn => by
  have ha := hn 0 a (by omega) rfl;rw [List.findIdx?_cons, ha, ES p l i x h hp (fun j y hj hy => hn (j + 1) y (by omega) hy)];rfl
theorem Hq {α : Type} (p : α → Bool) : ∀ (l : List α), (∀ (j : Nat) (y : α), l[j]? = some y → p y = false) → l.findIdx? p = none
 | [], _ => rfl
 | a :: l, hn => by
  rw [List.findIdx?_cons, hn 0 a rfl, Hq p l (fun j y hy => hn (j + 1) y hy)];rfl
theorem Pa (c : UInt8) : nmch c = true ↔ c.toNat ≠ 61 ∧ c.toNat ≠ 32 := by
 unfold nmch
 constructor
 ·intro h;simp only [Bool.not_eq_true', Bool.or_eq_false_iff, beq_eq_false_iff_ne] at h;exact ⟨fun e => h.1 (Cv (by rw [e]; rfl)), fun e => h.2 (Cv (by rw [e]; rfl))⟩
 ·intro h;simp only [Bool.not_eq_true', Bool.or_eq_false_iff, beq_eq_false_iff_ne];exact ⟨fun e => h.1 (by rw [e]; rfl), fun e => h.2 (by rw [e]; rfl)⟩
end Ar
namespace Go.Proofs.YteadlcncnhbmjaaGreatDoor
open Go.RowKit Go.Lib
def NaA (o : Option (Nat × List UInt8)) (s : List UInt8) (e : Ending) : Prop := (∃ (i : Nat) (t : List UInt8), o = some (i, t) ∧ e = .returned (.tuple #[.int .i64 i, .string (bstr t)])) ∨ (o = none ∧ e = .returned (.tuple #[.int .i64 (-1), .string (bstr s)]))
theorem Pc (s : List UInt8) (w : World) (hs : s.length ≤ 1000000) : Calls Tryz.prog 56 #[.string (bstr s)] w fun e w' => NaA (Ar.xname s) s e ∧ Below w.heap.size w w' := by
 have HAT := hid (CS (bstr s));have HSZ : Hid (s.length = (bstr s).size) := hid (Ab s).symm;have HEX := hid (C7 (bstr s));have HEB := hid (BA (bstr s));rw [show (bstr s).data.toList = s from rfl] at HAT HEX HEB;have hsz : (bstr s).size ≤ 1000000 := by rw [Ab]; exact hs
 generalize hSS : bstr s = S at *;go_enter Tryz.func56, Tryz.ntmps56;go_wp2_with fail
 go_loopw [4] (fun ix wr => ∃ k : Nat, k ≤ S.size ∧ ix = .int .i64 k ∧ wr = w ∧ ∀ c ∈ s.take k, Ar.nmch c = true) (fun ix _ => S.size - (RowKit.intOf ix).toNat)
 case atStart => exact ⟨0, Nat.zero_le _, rfl, rfl, fun c h => by simp at h⟩
 case round =>
  obtain ⟨k, hk, rfl, rfl, hall⟩ := hrel;have HALL := hid hall;clear hall;have hend : Hid ((∀ c, s[k]? = some c → Ar.nmch c = false) → (s.take k = s.takeWhile Ar.nmch ∧ s.drop k = s.dropWhile Ar.nmch)) := hid (Ar.M8 HALL.out);by_cases hlt : k < S.size
  ·have HCI := hid (Ar.Pa (S[k]'hlt));by_cases h61 : (S[k]'hlt).toNat = 61
   ·have d1 : (((S[k]'hlt).toNat : Int) != 61) = false := by rw [h61]; rfl
    have HE := hid (hend.out (fun c hc => by
     have h1 := HAT.out k hlt;rw [h1] at hc;injection hc with hc;rw [← hc]
     cases hn : Ar.nmch (S[k]'hlt) with
     | false => rfl
     | true => exact absurd h61 (HCI.out.1 hn).1))
    clear h61;have hx1 := HEX.out k hk;have hx2 := HEB.out k;generalize hT : s.take k = T at *;generalize hD : s.drop k = D at *;generalize hTB : bstr T = TB at *;generalize hDB : bstr D = DB at *;have HX1 := hid hx1;have HX2 := hid hx2;go_wp2_with fail;refine (FH _).mono ?_;rintro e w2 ⟨⟨g, rfl, hg, hrd⟩, hb2⟩;have HR2 := hid hrd;have HB2 := hid hb2;have HN29 : Hid (Ar.nmL.length = 29) := hid rfl;clear hrd hb2 hg;go_wp2_with fail
    go_loopw [6] (fun ix wq => ∃ j q : Nat, j ≤ 29 ∧ ix = .int .i64 j ∧ wq = w2.drewN q ∧ ∀ i y, i < j → Ar.NK[i]? = some y → decide (y.1 = T) = false) (fun ix _ => 29 - (RowKit.intOf ix).toNat)
    case atStart => exact ⟨0, 0, by omega, rfl, rfl, fun i y h => absurd h (Nat.not_lt_zero _)⟩
    case round =>
     obtain ⟨j, q, hj, rfl, rfl, hno⟩ := hrel;have HNO := hid hno;clear hno;by_cases hjl : j < 29
     ·obtain ⟨nk, hnk⟩ : ∃ nk, Ar.NK[j]? = some nk := ⟨Ar.NK[j]'(by show j < 29; exact hjl), List.getElem?_eq_getElem _⟩;obtain ⟨bn, on, nm, hA, hnm, hcn⟩ := HR2.out.str_at (k := j) (by rw [HN29.out]; exact hjl);injection hA with hA;injection hA with hA1 hA2 hA3;subst hA1 hA2;rw [Nat.zero_add] at hcn;obtain rfl : nm = nk.1 := Option.some.inj (hnm.symm.trans (Ar.Ka hnk));have hb0 : (0 : Int) ≤ (j : Int) := by omega
      have hb1 : (j : Int) < 29 := by omega
      have hb2 : (0 : Int) ≤ ((k : Nat) : Int) := by omega
      have hb3 : ((k : Nat) : Int) ≤ (S.size : Int) := by omega
      have hcm := CO nk.1 T;rw [hTB] at hcm;have HNK := hid hnk;clear hnk hnm;by_cases he : nk.1 = T
      ·have hc1 : ((bstr nk.1).toList == TB.toList) = true := by rw [hcm, he]; exact beq_self_eq_true _
       have HR : Hid (Ar.xname s = some (j, D)) := hid (by
        unfold Ar.xname;rw [← HE.out.1, ← HE.out.2, Ar.ES _ Ar.NK j nk HNK.out (decide_eq_true he) HNO.out]
        rfl)
       have HBQ := hid (below_drewN HB2.out q);clear hcm he;generalize bstr nk.1 = NB at *;go_wp2_with fail
       go_quiet (fail)
       go_wp2_with fail
       go_quiet (fail)
       go_wp2_with fail
       go_ret2
       exact ⟨.inl ⟨j, D, HR.out, by rw [hDB]; rfl⟩, below_drewN (below_drewN HBQ.out _) _⟩
      ·have hc1 : ((bstr nk.1).toList == TB.toList) = false := by rw [hcm]; exact beq_eq_false_iff_ne.2 he
       have HN2 : Hid (∀ i y, i < j + 1 → Ar.NK[i]? = some y → decide (y.1 = T) = false) := hid (fun i y hi hy => by
        by_cases hij : i < j
        ·exact HNO.out i y hij hy
        ·obtain rfl : i = j := by omega
         rw [HNK.out] at hy;injection hy with hy;rw [← hy]
         exact decide_eq_false he)
       clear hcm he;generalize bstr nk.1 = NB at *;go_wp2_with fail
       go_quiet (fail)
       go_wp2_with fail
       go_roundw
       case rel => exact ⟨j + 1, _, by omega, by go_num, rfl, HN2.out⟩
       case measure => simp [RowKit.intOf]; omega
     ·obtain rfl : j = 29 := by omega
      have HR : Hid (Ar.xname s = none) := hid (by
       unfold Ar.xname;rw [← HE.out.1, Ar.Hq _ Ar.NK (fun i y hy => HNO.out i y (by have := (List.getElem?_eq_some_iff.1 hy).1; exact this) hy)]
       rfl)
      have HBQ := hid (below_drewN HB2.out q);go_wp2_with fail
      go_ret2
      exact ⟨.inr ⟨HR.out, by rw [hSS]; rfl⟩, HBQ.out⟩
   ·have d1 : (((S[k]'hlt).toNat : Int) != 61) = true := by rw [bne_iff_ne]; omega
    by_cases h32 : (S[k]'hlt).toNat = 32
    ·have d2 : (((S[k]'hlt).toNat : Int) != 32) = false := by rw [h32]; rfl
     have HE := hid (hend.out (fun c hc => by
      have h1 := HAT.out k hlt;rw [h1] at hc;injection hc with hc;rw [← hc]
      cases hn : Ar.nmch (S[k]'hlt) with
      | false => rfl
      | true => exact absurd h32 (HCI.out.1 hn).2))
     clear h61 h32;have hx1 := HEX.out k hk;have hx2 := HEB.out k;generalize hT : s.take k = T at *;generalize hD : s.drop k = D at *;generalize hTB : bstr T = TB at *;generalize hDB : bstr D = DB at *;have HX1 := hid hx1;have HX2 := hid hx2;go_wp2_with fail;refine (FH _).mono ?_;rintro e w2 ⟨⟨g, rfl, hg, hrd⟩, hb2⟩;have HR2 := hid hrd;have HB2 := hid hb2;have HN29 : Hid (Ar.nmL.length = 29) := hid rfl;clear hrd hb2 hg;go_wp2_with fail
     go_loopw [6] (fun ix wq => ∃ j q : Nat, j ≤ 29 ∧ ix = .int .i64 j ∧ wq = w2.drewN q ∧ ∀ i y, i < j → Ar.NK[i]? = some y → decide (y.1 = T) = false) (fun ix _ => 29 - (RowKit.intOf ix).toNat)
     case atStart => exact ⟨0, 0, by omega, rfl, rfl, fun i y h => absurd h (Nat.not_lt_zero _)⟩
     case round =>
      obtain ⟨j, q, hj, rfl, rfl, hno⟩ := hrel;have HNO := hid hno;clear hno;by_cases hjl : j < 29
      ·obtain ⟨nk, hnk⟩ : ∃ nk, Ar.NK[j]? = some nk := ⟨Ar.NK[j]'(by show j < 29; exact hjl), List.getElem?_eq_getElem _⟩;obtain ⟨bn, on, nm, hA, hnm, hcn⟩ := HR2.out.str_at (k := j) (by rw [HN29.out]; exact hjl);injection hA with hA;injection hA with hA1 hA2 hA3;subst hA1 hA2;rw [Nat.zero_add] at hcn;obtain rfl : nm = nk.1 := Option.some.inj (hnm.symm.trans (Ar.Ka hnk));have hb0 : (0 : Int) ≤ (j : Int) := by omega
       have hb1 : (j : Int) < 29 := by omega
       have hb2 : (0 : Int) ≤ ((k : Nat) : Int) := by omega
       have hb3 : ((k : Nat) : Int) ≤ (S.size : Int) := by omega
       have hcm := CO nk.1 T;rw [hTB] at hcm;have HNK := hid hnk;clear hnk hnm;by_cases he : nk.1 = T
       ·have hc1 : ((bstr nk.1).toList == TB.toList) = true := by rw [hcm, he]; exact beq_self_eq_true _
        have HR : Hid (Ar.xname s = some (j, D)) := hid (by
         unfold Ar.xname;rw [← HE.out.1, ← HE.out.2, Ar.ES _ Ar.NK j nk HNK.out (decide_eq_true he) HNO.out]
         rfl)
        have HBQ := hid (below_drewN HB2.out q);clear hcm he;generalize bstr nk.1 = NB at *;go_wp2_with fail
        go_quiet (fail)
        go_wp2_with fail
        go_quiet (fail)
        go_wp2_with fail
        go_ret2
        exact ⟨.inl ⟨j, D, HR.out, by rw [hDB]; rfl⟩, below_drewN (below_drewN HBQ.out _) _⟩
       ·have hc1 : ((bstr nk.1).toList == TB.toList) = false := by rw [hcm]; exact beq_eq_false_iff_ne.2 he
        have HN2 : Hid (∀ i y, i < j + 1 → Ar.NK[i]? = some y → decide (y.1 = T) = false) := hid (fun i y hi hy => by
         by_cases hij : i < j
         ·exact HNO.out i y hij hy
         ·obtain rfl : i = j := by omega
          rw [HNK.out] at hy;injection hy with hy;rw [← hy]
          exact decide_eq_false he)
        clear hcm he;generalize bstr nk.1 = NB at *;go_wp2_with fail
        go_quiet (fail)
        go_wp2_with fail
        go_roundw
        case rel => exact ⟨j + 1, _, by omega, by go_num, rfl, HN2.out⟩
        case measure => simp [RowKit.intOf]; omega
      ·obtain rfl : j = 29 := by omega
       have HR : Hid (Ar.xname s = none) := hid (by
        unfold Ar.xname;rw [← HE.out.1, Ar.Hq _ Ar.NK (fun i y hy => HNO.out i y (by have := (List.getElem?_eq_some_iff.1 hy).1; exact this) hy)]
        rfl)
       have HBQ := hid (below_drewN HB2.out q);go_wp2_with fail
       go_ret2
       exact ⟨.inr ⟨HR.out, by rw [hSS]; rfl⟩, HBQ.out⟩
    ·have d2 : (((S[k]'hlt).toNat : Int) != 32) = true := by rw [bne_iff_ne]; omega
     have HN : Hid (∀ c ∈ s.take (k + 1), Ar.nmch c = true) := hid (fun c hc => by
      rw [BF (HAT.out k hlt)] at hc;rcases List.mem_append.1 hc with hc | hc
      ·exact HALL.out c hc
      ·rw [List.mem_singleton.1 hc]; exact HCI.out.2 ⟨h61, h32⟩)
     clear h61 h32;go_wp2_with fail
     go_roundw
     case rel => exact ⟨k + 1, by omega, by go_num, by trivial, HN.out⟩
     case measure => simp [RowKit.intOf]; omega
  ·obtain rfl : k = S.size := by omega
   have HE := hid (hend.out (fun c hc => by
    have h1 := (List.getElem?_eq_some_iff.1 hc).1;have := HSZ.out
    omega))
   have hx1 := HEX.out S.size hk;have hx2 := HEB.out S.size;generalize hT : s.take S.size = T at *;generalize hD : s.drop S.size = D at *;generalize hTB : bstr T = TB at *;generalize hDB : bstr D = DB at *;have hDn : Hid (D = []) := hid (by rw [← hD, List.drop_of_length_le (by have := HSZ.out; omega)]);have HX1 := hid hx1;have HX2 := hid hx2;go_wp2_with fail;refine (FH _).mono ?_;rintro e w2 ⟨⟨g, rfl, hg, hrd⟩, hb2⟩;have HR2 := hid hrd;have HB2 := hid hb2;have HN29 : Hid (Ar.nmL.length = 29) := hid rfl;clear hrd hb2 hg;go_wp2_with fail
   go_loopw [6] (fun ix wq => ∃ j q : Nat, j ≤ 29 ∧ ix = .int .i64 j ∧ wq = w2.drewN q ∧ ∀ i y, i < j → Ar.NK[i]? = some y → decide (y.1 = T) = false) (fun ix _ => 29 - (RowKit.intOf ix).toNat)
   case atStart => exact ⟨0, 0, by omega, rfl, rfl, fun i y h => absurd h (Nat.not_lt_zero _)⟩
   case round =>
    obtain ⟨j, q, hj, rfl, rfl, hno⟩ := hrel;have HNO := hid hno;clear hno;by_cases hjl : j < 29
    ·obtain ⟨nk, hnk⟩ : ∃ nk, Ar.NK[j]? = some nk := ⟨Ar.NK[j]'(by show j < 29; exact hjl), List.getElem?_eq_getElem _⟩;obtain ⟨bn, on, nm, hA, hnm, hcn⟩ := HR2.out.str_at (k := j) (by rw [HN29.out]; exact hjl);injection hA with hA;injection hA with hA1 hA2 hA3;subst hA1 hA2;rw [Nat.zero_add] at hcn;obtain rfl : nm = nk.1 := Option.some.inj (hnm.symm.trans (Ar.Ka hnk));have hb0 : (0 : Int) ≤ (j : Int) := by omega
     have hb1 : (j : Int) < 29 := by omega
     have hb2 : (0 : Int) ≤ ((S.size : Nat) : Int) := by omega
     have hb3 : ((S.size : Nat) : Int) ≤ (S.size : Int) := by omega
     have hcm := CO nk.1 T;rw [hTB] at hcm;have HNK := hid hnk;clear hnk hnm;by_cases he : nk.1 = T
     ·have hc1 : ((bstr nk.1).toList == TB.toList) = true := by rw [hcm, he]; exact beq_self_eq_true _
      have HR : Hid (Ar.xname s = some (j, D)) := hid (by
       unfold Ar.xname;rw [← HE.out.1, ← HE.out.2, Ar.ES _ Ar.NK j nk HNK.out (decide_eq_true he) HNO.out]
       rfl)
      have HBQ := hid (below_drewN HB2.out q);clear hcm he;generalize bstr nk.1 = NB at *;go_wp2_with fail
      go_quiet (fail)
      go_wp2_with fail
      go_quiet (fail)
      go_wp2_with fail
      go_ret2
      exact ⟨.inl ⟨j, D, HR.out, by rw [hDn.out]; rfl⟩, below_drewN (below_drewN HBQ.out _) _⟩
     ·have hc1 : ((bstr nk.1).toList == TB.toList) = false := by rw [hcm]; exact beq_eq_false_iff_ne.2 he
      have HN2 : Hid (∀ i y, i < j + 1 → Ar.NK[i]? = some y → decide (y.1 = T) = false) := hid (fun i y hi hy => by
       by_cases hij : i < j
       ·exact HNO.out i y hij hy
       ·obtain rfl : i = j := by omega
        rw [HNK.out] at hy;injection hy with hy;rw [← hy]
        exact decide_eq_false he)
      clear hcm he;generalize bstr nk.1 = NB at *;go_wp2_with fail
      go_quiet (fail)
      go_wp2_with fail
      go_roundw
      case rel => exact ⟨j + 1, _, by omega, by go_num, rfl, HN2.out⟩
      case measure => simp [RowKit.intOf]; omega
    ·obtain rfl : j = 29 := by omega
     have HR : Hid (Ar.xname s = none) := hid (by
      unfold Ar.xname;rw [← HE.out.1, Ar.Hq _ Ar.NK (fun i y hy => HNO.out i y (by have := (List.getElem?_eq_some_iff.1 hy).1; exact this) hy)]
      rfl)
     have HBQ := hid (below_drewN HB2.out q);go_wp2_with fail
     go_ret2
     exact ⟨.inr ⟨HR.out, by rw [hSS]; rfl⟩, HBQ.out⟩
end Go.Proofs.YteadlcncnhbmjaaGreatDoor
