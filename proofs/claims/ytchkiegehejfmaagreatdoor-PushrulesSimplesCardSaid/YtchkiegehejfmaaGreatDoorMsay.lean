/- The texts Gb, Gc, Ga of this proof, one behind the other. -/
import Derived.Test.YtchkiegehejfmaaGreatDoorMsag
import Derived.Test.YtchkiegehejfmaaGreatDoorMsax
import Derived.Test.YtchkiegehejfmaaGreatDoorMsap
set_option linter.unusedSimpArgs false
set_option maxHeartbeats 16000000
set_option maxRecDepth 100000
set_option linter.unusedVariables false
namespace Pr
theorem nodeE_kids {o : Int} {t : Str} {n : Int} {m : Nat} (h : nodeE o t n m = 0) (hm : m ≠ 0) : ((o = 2 ∨ o = 3) ∧ 2 ≤ m ∨ o = 4 ∧ m = 1) ∧ t = [] ∧ n = 0 := by
 unfold nodeE at h;split at h
 ·cases h
 ·rename_i g;simp only [not_or, not_and, Bool.not_eq_false] at g;obtain ⟨g1, g2, g3, g4, g5⟩ := g;have hk : useKids o = true := by
   cases hk : useKids o with
   | true => rfl
   | false => exact absurd (g4 hk) (by omega)
  have ho : o = 2 ∨ o = 3 ∨ o = 4 := by
   unfold useKids at hk;simp only [Bool.or_eq_true, beq_iff_eq] at hk;omega
  have ht : t = [] := Classical.not_not.1 (g2 (by rcases ho with rfl | rfl | rfl <;> rfl));have hn : n = 0 := Classical.not_not.1 (g3 (by rcases ho with rfl | rfl | rfl <;> rfl));refine ⟨?_, ht, hn⟩;rcases ho with rfl | rfl | rfl
  ·left
   refine ⟨.inl rfl, ?_⟩;have h2 : (if m < 2 then (9 : Int) else 0) = 0 := h;split at h2
   ·cases h2
   ·omega
  ·left
   refine ⟨.inr rfl, ?_⟩;have h2 : (if m < 2 then (9 : Int) else 0) = 0 := h;split at h2
   ·cases h2
   ·omega
  ·exact .inr ⟨rfl, Classical.not_not.1 (g5 rfl)⟩
end Pr
namespace Go.Proofs.YtchkiegehejfmaaGreatDoor
open Go.RowKit Go.Lib
def RnL (o : Int) (t : List UInt8) (n : Int) (m : Nat) : Prop := ∀ (A : Option Addr) (cap : Nat) (w : World), t.length ≤ 1000000 →
 Calls Tryz.prog 98 #[.agg #[.int .i64 o, .string (bstr t), .int .i64 n, .slice A m cap]] w fun e w' => e = .returned (.int .i64 (Pr.nodeE o t n m)) ∧ Below w.heap.size w w'
structure RnX (o : Int) (t : List UInt8) (n : Int) (m : Nat) (A : Option Addr) (cap : Nat) (w w1 : World) : Prop where
 be : Below w.heap.size w w1
 x0 : w1.cell? ⟨w.heap.size, 0, none⟩ = some (.int .i64 o)
 x1 : w1.cell? ⟨w.heap.size, 1, none⟩ = some (.string (bstr t))
 x2 : w1.cell? ⟨w.heap.size, 2, none⟩ = some (.int .i64 n)
 x3 : w1.cell? ⟨w.heap.size, 3, none⟩ = some (.slice A m cap)
theorem RnX.new (o : Int) (t : List UInt8) (n : Int) (m : Nat) (A : Option Addr) (cap : Nat) (w : World) : RnX o t n m A cap w (w.alloc (.cells #[.int .i64 o, .string (bstr t), .int .i64 n, .slice A m cap] 36)) := by
 have hk1 := Blk.new w 36 #[.int .i64 o, .string (bstr t), .int .i64 n, .slice A m cap];exact ⟨(Below.refl w.heap.size w).alloc (Nat.le_refl _) _, hk1.cell 0, hk1.cell 1, hk1.cell 2, hk1.cell 3⟩
theorem te_of {t : List UInt8} (h : (bstr t).toList.isEmpty = true) : t = [] := by
 rw [Lib.toList_data] at h;exact List.isEmpty_iff.1 h
theorem te_no {t : List UInt8} (h : (bstr t).toList.isEmpty = false) : t ≠ [] := fun e => by
 subst e;rw [Lib.toList_data] at h;cases h
theorem FO (o : Int) (t : List UInt8) (n : Int) (m : Nat) (hb : Pr.known o = false ∨ (Pr.useText o = false ∧ t ≠ []) ∨ (Pr.useN o = false ∧ n ≠ 0) ∨ (Pr.useKids o = false ∧ 0 < m) ∨ (o = 4 ∧ m ≠ 1)) : RnL o t n m := fun A cap w htl => by
 rw [Pr.nodeE_bad hb];obtain ⟨HB1, hx0, hx1, hx2, hx3⟩ := RnX.new o t n m A cap w;generalize hw1 : w.alloc (.cells #[.int .i64 o, .string (bstr t), .int .i64 n, .slice A m cap] 36) = w1 at *;have HB1 := hid HB1;have HUT := hid (fun W => Ay o W);have HUN := hid (fun W => AF o W);have HUK := hid (fun W => AP o W);by_cases hlo : o < 1
 ·clear hb;go_enter Tryz.func98, Tryz.ntmps98;go_wp2_with fail;go_ret;exact ⟨rfl, HB1.out⟩
 by_cases hhi : 17 < o
 ·clear hb;go_enter Tryz.func98, Tryz.ntmps98;go_wp2_with fail;go_ret;exact ⟨rfl, HB1.out⟩
 have hkn : Pr.known o = true := by unfold Pr.known; rw [Bool.and_eq_true, decide_eq_true_iff, decide_eq_true_iff]; omega
 rw [hkn] at hb;have HB2 := hid hb;clear hb hkn;have hlo' : decide (o < 1) = false := decide_eq_false hlo;have hhi' : decide (17 < o) = false := decide_eq_false hhi;have HTE := hid (fun h : (bstr t).toList.isEmpty = true => te_of h);have HTN := hid (fun h : (bstr t).toList.isEmpty = false => te_no h);cases hte : (bstr t).toList.isEmpty <;> cases hut : Pr.useText o
 case false.false =>
  rw [hut] at HUT;clear hut;go_enter Tryz.func98, Tryz.ntmps98;go_wp2_with ((go_at_call 46; refine (HUT.out _).mono ?_; rintro e w2 ⟨rfl, rfl⟩));go_ret;exact ⟨rfl, HB1.out⟩
 all_goals
  have HNX : Hid ((Pr.useN o = false ∧ n ≠ 0) ∨ (Pr.useKids o = false ∧ 0 < m) ∨ (o = 4 ∧ m ≠ 1)) := hid (by
   rcases HB2.out with h | h | h
   ·cases h
   ·first
     | exact absurd (HTE.out hte) h.2
     | (rw [hut] at h; cases h.1)
   ·exact h)
  rw [hut] at HUT;clear hut HTE HTN HB2;cases hne : (n == 0) <;> cases hun : Pr.useN o
  case false.false =>
   have hnc : (n != 0) = true := by rw [bne, hne]; rfl
   rw [hun] at HUN;clear hun;go_enter Tryz.func98, Tryz.ntmps98;go_wp2_with (first | (go_at_call 46; refine (HUT.out _).mono ?_; rintro e w2 ⟨rfl, rfl⟩) | (go_at_call 47; refine (HUN.out _).mono ?_; rintro e w2 ⟨rfl, rfl⟩));go_ret;exact ⟨rfl, HB1.out⟩
  all_goals
   have HKX : Hid ((Pr.useKids o = false ∧ 0 < m) ∨ (o = 4 ∧ m ≠ 1)) := hid (by
    rcases HNX.out with h | h
    ·first
      | exact absurd (beq_iff_eq.1 hne) h.2
      | (rw [hun] at h; cases h.1)
    ·exact h)
   rw [hun] at HUN;have hnc : (n != 0) = !(n == 0) := rfl;rw [hne] at hnc;clear hun HNX;rcases Nat.eq_zero_or_pos m with hm | hm
   ·subst hm;have h4 : o = 4 := by
     rcases HKX.out with h | h
     ·omega
     ·exact h.1
    subst h4;clear HKX hlo hhi;go_enter Tryz.func98, Tryz.ntmps98;go_wp2_with (first | (go_at_call 46; refine (HUT.out _).mono ?_; rintro e w2 ⟨rfl, rfl⟩) | (go_at_call 47; refine (HUN.out _).mono ?_; rintro e w2 ⟨rfl, rfl⟩) | (go_at_call 130; refine (HUK.out _).mono ?_; rintro e w2 ⟨rfl, rfl⟩));go_ret;exact ⟨rfl, HB1.out⟩
   ·have hmI : (0 : Int) < (m : Int) := by omega
    cases huk : Pr.useKids o
    case false =>
     rw [huk] at HUK;clear huk HKX;go_enter Tryz.func98, Tryz.ntmps98;go_wp2_with (first | (go_at_call 46; refine (HUT.out _).mono ?_; rintro e w2 ⟨rfl, rfl⟩) | (go_at_call 47; refine (HUN.out _).mono ?_; rintro e w2 ⟨rfl, rfl⟩) | (go_at_call 130; refine (HUK.out _).mono ?_; rintro e w2 ⟨rfl, rfl⟩));go_ret;exact ⟨rfl, HB1.out⟩
    case true =>
     rw [huk] at HUK;have h4 : o = 4 ∧ m ≠ 1 := by
      rcases HKX.out with h | h
      ·rw [huk] at h; cases h.1
      ·exact h
     obtain ⟨h4, hm1⟩ := h4;have hm1b : ((m : Int) == 1) = false := beq_eq_false_iff_ne.2 (by omega);have hm1c : ((m : Int) != 1) = true := by rw [bne, hm1b]; rfl
     have hm1d : (m == 1) = false := beq_eq_false_iff_ne.2 hm1;have hm1e : (m != 1) = true := by rw [bne, hm1d]; rfl
     subst h4;clear huk HKX hlo hhi;go_enter Tryz.func98, Tryz.ntmps98;go_wp2_with (first | (go_at_call 46; refine (HUT.out _).mono ?_; rintro e w2 ⟨rfl, rfl⟩) | (go_at_call 47; refine (HUN.out _).mono ?_; rintro e w2 ⟨rfl, rfl⟩) | (go_at_call 130; refine (HUK.out _).mono ?_; rintro e w2 ⟨rfl, rfl⟩));go_ret;exact ⟨rfl, HB1.out⟩
end Go.Proofs.YtchkiegehejfmaaGreatDoor
namespace Pr
end Pr
namespace Go.Proofs.YtchkiegehejfmaaGreatDoor
open Go.RowKit Go.Lib
theorem H3 (o : Int) (t : List UInt8) (ho : o = 6 ∨ o = 7 ∨ o = 8) : RnL o t 0 0 := fun A cap w htl => by
 have hut : Pr.useText o = true := by rcases ho with rfl | rfl | rfl <;> rfl
 have hun : Pr.useN o = false := by rcases ho with rfl | rfl | rfl <;> rfl
 have huk : Pr.useKids o = false := by rcases ho with rfl | rfl | rfl <;> rfl
 have hz : Pr.nodeE o t 0 0 = Pr.globE t := by rcases ho with rfl | rfl | rfl <;> (rw [Pr.nodeE_ok (by simp [hut, Pr.known])]; rfl)
 rw [hz];clear hz;obtain ⟨HB1, hx0, hx1, hx2, hx3⟩ := RnX.new o t 0 0 A cap w;generalize hw1 : w.alloc (.cells #[.int .i64 o, .string (bstr t), .int .i64 0, .slice A 0 cap] 36) = w1 at *;have HB1 := hid HB1;have HUT := hid (fun W => Ay o W);have HUN := hid (fun W => AF o W);have HUK := hid (fun W => AP o W);rw [hut] at HUT;rw [hun] at HUN;rw [huk] at HUK;have hlo : decide (o < 1) = false := decide_eq_false (by omega);have hhi : decide (17 < o) = false := decide_eq_false (by omega);have h2 : (o == 2) = false := beq_eq_false_iff_ne.2 (by omega);have hn2 : (o != 2) = true := by rw [bne, h2]; rfl
 have h3 : (o == 3) = false := beq_eq_false_iff_ne.2 (by omega);have hn3 : (o != 3) = true := by rw [bne, h3]; rfl
 have h4 : (o == 4) = false := beq_eq_false_iff_ne.2 (by omega);have hn4 : (o != 4) = true := by rw [bne, h4]; rfl
 have h9 : (o == 9) = false := beq_eq_false_iff_ne.2 (by omega);have hn9 : (o != 9) = true := by rw [bne, h9]; rfl
 have HGL := hid (fun W => FQ (bstr t) W (by rw [Ai]; exact htl));rw [show (bstr t).data.toList = t from rfl] at HGL;generalize Pr.globE t = E at *;clear hut hun huk ho;by_cases hE : E = 0
 ·subst hE;cases hte : (bstr t).toList.isEmpty
  all_goals
   go_enter Tryz.func98, Tryz.ntmps98;go_wp2_with (first | (go_at_call 46; refine (HUT.out _).mono ?_; rintro e w2 ⟨rfl, rfl⟩) | (go_at_call 47; refine (HUN.out _).mono ?_; rintro e w2 ⟨rfl, rfl⟩) | (go_at_call 130; refine (HUK.out _).mono ?_; rintro e w2 ⟨rfl, rfl⟩) | (go_at_call 131; refine (HGL.out _).mono ?_; rintro e w2 ⟨rfl, rfl⟩));refine wp_loop_once ?_;go_wp2_with fail;go_ret;exact ⟨rfl, HB1.out⟩
 ·have hEb : (E == 0) = false := beq_eq_false_iff_ne.2 hE;have hEn : (E != 0) = true := by rw [bne, hEb]; rfl
  clear hE;cases hte : (bstr t).toList.isEmpty
  all_goals
   go_enter Tryz.func98, Tryz.ntmps98;go_wp2_with (first | (go_at_call 46; refine (HUT.out _).mono ?_; rintro e w2 ⟨rfl, rfl⟩) | (go_at_call 47; refine (HUN.out _).mono ?_; rintro e w2 ⟨rfl, rfl⟩) | (go_at_call 130; refine (HUK.out _).mono ?_; rintro e w2 ⟨rfl, rfl⟩) | (go_at_call 131; refine (HGL.out _).mono ?_; rintro e w2 ⟨rfl, rfl⟩));go_ret;exact ⟨rfl, HB1.out⟩
theorem Hr (t : List UInt8) : RnL 9 t 0 0 := fun A cap w htl => by
 obtain ⟨o, ho⟩ : ∃ o : Int, o = 9 := ⟨_, rfl⟩;have hut : Pr.useText o = true := by subst ho; rfl
 have hun : Pr.useN o = false := by subst ho; rfl
 have huk : Pr.useKids o = false := by subst ho; rfl
 have hz : Pr.nodeE 9 t 0 0 = (if Pr.okName false t then 0 else 3) := by rw [Pr.nodeE_ok (by simp [Pr.known, Pr.useText])]; rfl
 rw [hz, ← ho];clear hz;obtain ⟨HB1, hx0, hx1, hx2, hx3⟩ := RnX.new o t 0 0 A cap w;generalize hw1 : w.alloc (.cells #[.int .i64 o, .string (bstr t), .int .i64 0, .slice A 0 cap] 36) = w1 at *;have HB1 := hid HB1;have HUT := hid (fun W => Ay o W);have HUN := hid (fun W => AF o W);have HUK := hid (fun W => AP o W);rw [hut] at HUT;rw [hun] at HUN;rw [huk] at HUK;have HPL := hid (fun W => Ce false (bstr t) W (by rw [Ai]; exact htl));rw [show (bstr t).data.toList = t from rfl] at HPL;generalize Pr.okName false t = E at *;clear hut hun huk;subst ho;cases E
 case true =>
  cases hte : (bstr t).toList.isEmpty
  all_goals
   go_enter Tryz.func98, Tryz.ntmps98;go_wp2_with (first | (go_at_call 46; refine (HUT.out _).mono ?_; rintro e w2 ⟨rfl, rfl⟩) | (go_at_call 47; refine (HUN.out _).mono ?_; rintro e w2 ⟨rfl, rfl⟩) | (go_at_call 130; refine (HUK.out _).mono ?_; rintro e w2 ⟨rfl, rfl⟩) | (go_at_call 96; refine (HPL.out _).mono ?_; rintro e w2 ⟨rfl, rfl⟩));refine wp_loop_once ?_;go_wp2_with fail;go_ret;exact ⟨rfl, HB1.out⟩
 case false =>
  cases hte : (bstr t).toList.isEmpty
  all_goals
   go_enter Tryz.func98, Tryz.ntmps98;go_wp2_with (first | (go_at_call 46; refine (HUT.out _).mono ?_; rintro e w2 ⟨rfl, rfl⟩) | (go_at_call 47; refine (HUN.out _).mono ?_; rintro e w2 ⟨rfl, rfl⟩) | (go_at_call 130; refine (HUK.out _).mono ?_; rintro e w2 ⟨rfl, rfl⟩) | (go_at_call 96; refine (HPL.out _).mono ?_; rintro e w2 ⟨rfl, rfl⟩));go_ret;exact ⟨rfl, HB1.out⟩
theorem H0 (o n : Int) (ho : o = 5 ∨ o = 10 ∨ o = 11 ∨ o = 12) : RnL o [] n 0 := fun A cap w htl => by
 have hut : Pr.useText o = false := by rcases ho with rfl | rfl | rfl | rfl <;> rfl
 have hun : Pr.useN o = true := by rcases ho with rfl | rfl | rfl | rfl <;> rfl
 have huk : Pr.useKids o = false := by rcases ho with rfl | rfl | rfl | rfl <;> rfl
 have hz : Pr.nodeE o [] n 0 = Pr.withinE n (Pr.boundsR o).1 (Pr.boundsR o).2 := by rcases ho with rfl | rfl | rfl | rfl <;> (rw [Pr.nodeE_ok (by simp [hun, Pr.known])]; rfl)
 rw [hz];clear hz;have hte : (bstr ([] : List UInt8)).toList.isEmpty = true := Dp rfl;obtain ⟨HB1, hx0, hx1, hx2, hx3⟩ := RnX.new o [] n 0 A cap w;generalize hw1 : w.alloc (.cells #[.int .i64 o, .string (bstr []), .int .i64 n, .slice A 0 cap] 36) = w1 at *;have HB1 := hid HB1;have HUT := hid (fun W => Ay o W);have HUN := hid (fun W => AF o W);have HUK := hid (fun W => AP o W);rw [hut] at HUT;rw [hun] at HUN;rw [huk] at HUK;have hlo : decide (o < 1) = false := decide_eq_false (by omega);have hhi : decide (17 < o) = false := decide_eq_false (by omega);have h2 : (o == 2) = false := beq_eq_false_iff_ne.2 (by omega);have hn2 : (o != 2) = true := by rw [bne, h2]; rfl
 have h3 : (o == 3) = false := beq_eq_false_iff_ne.2 (by omega);have hn3 : (o != 3) = true := by rw [bne, h3]; rfl
 have h4 : (o == 4) = false := beq_eq_false_iff_ne.2 (by omega);have hn4 : (o != 4) = true := by rw [bne, h4]; rfl
 have h9 : (o == 9) = false := beq_eq_false_iff_ne.2 (by omega);have hn9 : (o != 9) = true := by rw [bne, h9]; rfl
 have HBO := hid (fun W => Eh o W);generalize (Pr.boundsR o).1 = lo at *;generalize (Pr.boundsR o).2 = hi at *;generalize bstr ([] : List UInt8) = S at *;clear hut hun huk ho;by_cases h1 : n < lo
 ·have hw : Pr.withinE n lo hi = 2 := by unfold Pr.withinE; rw [if_pos (.inl h1)]
  rw [hw];clear hw;cases hne : (n == 0)
  all_goals
   have hnc : (n != 0) = !(n == 0) := rfl;rw [hne] at hnc;go_enter Tryz.func98, Tryz.ntmps98;go_wp2_with (first | (go_at_call 46; refine (HUT.out _).mono ?_; rintro e w2 ⟨rfl, rfl⟩) | (go_at_call 47; refine (HUN.out _).mono ?_; rintro e w2 ⟨rfl, rfl⟩) | (go_at_call 130; refine (HUK.out _).mono ?_; rintro e w2 ⟨rfl, rfl⟩) | (go_at_call 132; refine (HBO.out _).mono ?_; rintro e w2 ⟨rfl, rfl⟩));go_ret;exact ⟨rfl, HB1.out⟩
 by_cases h2 : hi < n
 ·have hw : Pr.withinE n lo hi = 2 := by unfold Pr.withinE; rw [if_pos (.inr h2)]
  rw [hw];clear hw;cases hne : (n == 0)
  all_goals
   have hnc : (n != 0) = !(n == 0) := rfl;rw [hne] at hnc;go_enter Tryz.func98, Tryz.ntmps98;go_wp2_with (first | (go_at_call 46; refine (HUT.out _).mono ?_; rintro e w2 ⟨rfl, rfl⟩) | (go_at_call 47; refine (HUN.out _).mono ?_; rintro e w2 ⟨rfl, rfl⟩) | (go_at_call 130; refine (HUK.out _).mono ?_; rintro e w2 ⟨rfl, rfl⟩) | (go_at_call 132; refine (HBO.out _).mono ?_; rintro e w2 ⟨rfl, rfl⟩));go_ret;exact ⟨rfl, HB1.out⟩
 ·have hw : Pr.withinE n lo hi = 0 := by unfold Pr.withinE; rw [if_neg (by omega)]
  rw [hw];clear hw;cases hne : (n == 0)
  all_goals
   have hnc : (n != 0) = !(n == 0) := rfl;rw [hne] at hnc;go_enter Tryz.func98, Tryz.ntmps98;go_wp2_with (first | (go_at_call 46; refine (HUT.out _).mono ?_; rintro e w2 ⟨rfl, rfl⟩) | (go_at_call 47; refine (HUN.out _).mono ?_; rintro e w2 ⟨rfl, rfl⟩) | (go_at_call 130; refine (HUK.out _).mono ?_; rintro e w2 ⟨rfl, rfl⟩) | (go_at_call 132; refine (HBO.out _).mono ?_; rintro e w2 ⟨rfl, rfl⟩));refine wp_loop_once ?_;go_wp2_with fail;go_ret;exact ⟨rfl, HB1.out⟩
theorem H8 (o : Int) (ho : o = 1 ∨ o = 13 ∨ o = 14 ∨ o = 15 ∨ o = 16 ∨ o = 17) : RnL o [] 0 0 := fun A cap w htl => by
 have hut : Pr.useText o = false := by rcases ho with rfl | rfl | rfl | rfl | rfl | rfl <;> rfl
 have hun : Pr.useN o = false := by rcases ho with rfl | rfl | rfl | rfl | rfl | rfl <;> rfl
 have huk : Pr.useKids o = false := by rcases ho with rfl | rfl | rfl | rfl | rfl | rfl <;> rfl
 have hz : Pr.nodeE o [] 0 0 = 0 := by rcases ho with rfl | rfl | rfl | rfl | rfl | rfl <;> rfl
 rw [hz];clear hz;have hte : (bstr ([] : List UInt8)).toList.isEmpty = true := Dp rfl;obtain ⟨HB1, hx0, hx1, hx2, hx3⟩ := RnX.new o [] 0 0 A cap w;generalize hw1 : w.alloc (.cells #[.int .i64 o, .string (bstr []), .int .i64 0, .slice A 0 cap] 36) = w1 at *;have HB1 := hid HB1;have HUT := hid (fun W => Ay o W);have HUN := hid (fun W => AF o W);have HUK := hid (fun W => AP o W);rw [hut] at HUT;rw [hun] at HUN;rw [huk] at HUK;have hlo : decide (o < 1) = false := decide_eq_false (by omega);have hhi : decide (17 < o) = false := decide_eq_false (by omega);have h2 : (o == 2) = false := beq_eq_false_iff_ne.2 (by omega);have hn2 : (o != 2) = true := by rw [bne, h2]; rfl
 have h3 : (o == 3) = false := beq_eq_false_iff_ne.2 (by omega);have hn3 : (o != 3) = true := by rw [bne, h3]; rfl
 have h4 : (o == 4) = false := beq_eq_false_iff_ne.2 (by omega);have hn4 : (o != 4) = true := by rw [bne, h4]; rfl
 have h9 : (o == 9) = false := beq_eq_false_iff_ne.2 (by omega);have hn9 : (o != 9) = true := by rw [bne, h9]; rfl
 generalize bstr ([] : List UInt8) = S at *;clear hut hun huk ho;go_enter Tryz.func98, Tryz.ntmps98;go_wp2_with (first | (go_at_call 46; refine (HUT.out _).mono ?_; rintro e w2 ⟨rfl, rfl⟩) | (go_at_call 47; refine (HUN.out _).mono ?_; rintro e w2 ⟨rfl, rfl⟩) | (go_at_call 130; refine (HUK.out _).mono ?_; rintro e w2 ⟨rfl, rfl⟩));refine wp_loop_once ?_;go_wp2_with fail;go_ret;exact ⟨rfl, HB1.out⟩
theorem Hv (o : Int) (m : Nat) (ho : o = 2 ∨ o = 3) (hm : m < 2) : RnL o [] 0 m := fun A cap w htl => by
 have hut : Pr.useText o = false := by rcases ho with rfl | rfl <;> rfl
 have hun : Pr.useN o = false := by rcases ho with rfl | rfl <;> rfl
 have huk : Pr.useKids o = true := by rcases ho with rfl | rfl <;> rfl
 have hz : Pr.nodeE o [] 0 m = 9 := by
  rcases ho with rfl | rfl
  all_goals
   rw [Pr.nodeE_ok (by simp [Pr.known, Pr.useKids])];show (if m < 2 then (9 : Int) else 0) = 9;rw [if_pos hm]
 rw [hz];clear hz;have hte : (bstr ([] : List UInt8)).toList.isEmpty = true := Dp rfl;obtain ⟨HB1, hx0, hx1, hx2, hx3⟩ := RnX.new o [] 0 m A cap w;generalize hw1 : w.alloc (.cells #[.int .i64 o, .string (bstr []), .int .i64 0, .slice A m cap] 36) = w1 at *;have HB1 := hid HB1;have HUT := hid (fun W => Ay o W);have HUN := hid (fun W => AF o W);have HUK := hid (fun W => AP o W);rw [hut] at HUT;rw [hun] at HUN;rw [huk] at HUK;generalize bstr ([] : List UInt8) = S at *;clear hut hun huk;have hm2 : (m : Int) < 2 := by omega
 obtain rfl | rfl : m = 0 ∨ m = 1 := by omega
 all_goals rcases ho with rfl | rfl
 all_goals
  go_enter Tryz.func98, Tryz.ntmps98;go_wp2_with (first | (go_at_call 46; refine (HUT.out _).mono ?_; rintro e w2 ⟨rfl, rfl⟩) | (go_at_call 47; refine (HUN.out _).mono ?_; rintro e w2 ⟨rfl, rfl⟩) | (go_at_call 130; refine (HUK.out _).mono ?_; rintro e w2 ⟨rfl, rfl⟩));go_ret;exact ⟨rfl, HB1.out⟩
theorem Do (o : Int) (t : List UInt8) (n : Int) (m : Nat) (h : Pr.nodeE o t n m ≠ 0 ∨ m = 0) : RnL o t n m := by
 by_cases hb : Pr.known o = false ∨ (Pr.useText o = false ∧ t ≠ []) ∨ (Pr.useN o = false ∧ n ≠ 0) ∨ (Pr.useKids o = false ∧ 0 < m) ∨ (o = 4 ∧ m ≠ 1)
 ·exact FO o t n m hb
 ·have hok := Pr.nodeE_ok hb;simp only [not_or, not_and, Bool.not_eq_false, ne_eq, Classical.not_not] at hb;obtain ⟨g1, g2, g3, g4, g5⟩ := hb;have hk : 1 ≤ o ∧ o ≤ 17 := by
   unfold Pr.known at g1
   simpa using g1
  obtain hcl | hcl | hcl | hcl | hcl | hcl : (o = 6 ∨ o = 7 ∨ o = 8) ∨ o = 9 ∨ (o = 5 ∨ o = 10 ∨ o = 11 ∨ o = 12) ∨ (o = 2 ∨ o = 3) ∨ o = 4 ∨ (o = 1 ∨ o = 13 ∨ o = 14 ∨ o = 15 ∨ o = 16 ∨ o = 17) := by omega
  ·obtain rfl : n = 0 := g3 (by rcases hcl with rfl | rfl | rfl <;> rfl);obtain rfl : m = 0 := by have := g4 (by rcases hcl with rfl | rfl | rfl <;> rfl); omega
   exact H3 o t hcl
  ·subst hcl;obtain rfl : n = 0 := g3 rfl;obtain rfl : m = 0 := by have := g4 rfl; omega
   exact Hr t
  ·obtain rfl : t = [] := g2 (by rcases hcl with rfl | rfl | rfl | rfl <;> rfl);obtain rfl : m = 0 := by have := g4 (by rcases hcl with rfl | rfl | rfl | rfl <;> rfl); omega
   exact H0 o n hcl
  ·obtain rfl : t = [] := g2 (by rcases hcl with rfl | rfl <;> rfl);obtain rfl : n = 0 := g3 (by rcases hcl with rfl | rfl <;> rfl);refine Hv o m hcl ?_;rcases h with h | h
   ·rw [hok] at h;rcases hcl with rfl | rfl
    all_goals
     have h2 : (if m < 2 then (9 : Int) else 0) ≠ 0 := h;split at h2
     ·assumption
     ·exact absurd rfl h2
   ·omega
  ·subst hcl
   exfalso
   have h1 := g5 rfl;rcases h with h | h
   ·rw [hok] at h;exact h rfl
   ·omega
  ·obtain rfl : t = [] := g2 (by rcases hcl with rfl | rfl | rfl | rfl | rfl | rfl <;> rfl);obtain rfl : n = 0 := g3 (by rcases hcl with rfl | rfl | rfl | rfl | rfl | rfl <;> rfl);obtain rfl : m = 0 := by have := g4 (by rcases hcl with rfl | rfl | rfl | rfl | rfl | rfl <;> rfl); omega
   exact H8 o hcl
theorem DY : ∀ (m : Nat) (ok : Nat → Prop) (c : Pr.Cn) (V : Array Value) (w : World), Pr.nodes c ≤ m → m ≤ 1000000 → Pr.small c → CnV w ok V c → Calls Tryz.prog 98 #[.agg V] w fun e w' => e = .returned (.int .i64 (Pr.treeE c)) ∧ Below w.heap.size w w'
 | 0, ok, c, V, w, hm, _, _, h => absurd hm (by have := Pr.nodes_pos c; omega)
 | m + 1, ok, c, V, w, hm, hm6, hsm, h => by
  have IH := hid (fun c V w (hc : Pr.nodes c ≤ m) (hs : Pr.small c) (h : CnV w ok V c) => DY m ok c V w hc (by omega) hs h);have hne := Pr.nodes_eq c;have hkl := Pr.kids_nodes c.kids;have hto := Pr.treeE_open c;obtain ⟨htl, hsk⟩ := Pr.small_open hsm;obtain ⟨A, cap, rfl, hrow⟩ := h.open;by_cases hE : Pr.nodeE c.op c.text c.num c.kids.length = 0
  ·rw [if_neg (fun e => e hE)] at hto;by_cases hk0 : c.kids.length = 0
   ·have := Do c.op c.text c.num c.kids.length (.inr hk0) A cap w htl;rw [hE] at this;rw [hto, List.eq_nil_of_length_eq_zero hk0] at *;exact this
   ·obtain ⟨hop, ht, hn⟩ := Pr.nodeE_kids hE hk0;obtain ⟨Z, hZ⟩ : ∃ Z, Pr.treeE c = Z := ⟨_, rfl⟩;rw [hZ] at hto ⊢;have HTO := hid hto;have HSK := hid hsk;clear hto hsk hZ hE hsm h;generalize c.kids = ks at *;generalize c.op = o at *;generalize c.text = t at *;generalize c.num = n at *;subst ht hn;have hkm : Pr.nodesL ks ≤ m := by omega
    clear hne hk0;have hut : Pr.useText o = false := by rcases hop with ⟨rfl | rfl, _⟩ | ⟨rfl, _⟩ <;> rfl
    have hun : Pr.useN o = false := by rcases hop with ⟨rfl | rfl, _⟩ | ⟨rfl, _⟩ <;> rfl
    have huk : Pr.useKids o = true := by rcases hop with ⟨rfl | rfl, _⟩ | ⟨rfl, _⟩ <;> rfl
    have hte : (bstr ([] : List UInt8)).toList.isEmpty = true := Dp rfl;obtain ⟨HB1, hx0, hx1, hx2, hx3⟩ := RnX.new o [] 0 ks.length A cap w;have HR1 := hid (hrow.below HB1);generalize hw1 : w.alloc (.cells #[.int .i64 o, .string (bstr []), .int .i64 0, .slice A ks.length cap] 36) = w1 at *;have HB1 := hid HB1;have HUT := hid (fun W => Ay o W);have HUN := hid (fun W => AF o W);have HUK := hid (fun W => AP o W);rw [hut] at HUT;rw [hun] at HUN;rw [huk] at HUK;generalize bstr ([] : List UInt8) = S at *;clear hut hun huk hrow;have hpI : (0 : Int) < (ks.length : Int) := by rcases hop with ⟨_, h⟩ | ⟨_, h⟩ <;> omega
    rcases hop with ⟨rfl | rfl, h2⟩ | ⟨rfl, h1⟩
    iterate 2
     ·have h2I : ¬ (ks.length : Int) < 2 := by omega
      go_enter Tryz.func98, Tryz.ntmps98;go_wp2_with (first | (go_at_call 46; refine (HUT.out _).mono ?_; rintro e w2 ⟨rfl, rfl⟩) | (go_at_call 47; refine (HUN.out _).mono ?_; rintro e w2 ⟨rfl, rfl⟩) | (go_at_call 130; refine (HUK.out _).mono ?_; rintro e w2 ⟨rfl, rfl⟩))
      go_loopw [6] (fun ix wr => ∃ k : Nat, k ≤ ks.length ∧ ix = .int .i64 (k : Int) ∧ Pr.treeEL (ks.drop k) = Z ∧ Below w1.heap.size w1 wr) (fun ix _ => ks.length - (RowKit.intOf ix).toNat)
      case atStart => exact ⟨0, Nat.zero_le _, rfl, HTO.out.symm, Below.refl _ _⟩
      case round =>
       obtain ⟨k, hk, rfl, hs, hb⟩ := hrel;have HSS := hid hs;have HB := hid hb;have hx3w := (hb.cell (An hx3)).trans hx3;clear hs hb;by_cases hlt : k < ks.length
       ·obtain ⟨x, hx⟩ : ∃ x, ks[k]? = some x := ⟨_, List.getElem?_eq_getElem hlt⟩;obtain ⟨b, off, cs, rfl, hok, hr, hcl, hcv⟩ := (HR1.out.below HB.out) k x hx;have HD := hid (Pr.treeEL_drop hx);have HSX := hid (Pr.small_kid HSK.out hx);have hnk := Pr.nodes_kid hx;have HCV := hid hcv;have HL2 : Hid ((Tryz.prog.info? 36).map (·.size) = some cs.length) := hid (by rw [Aa, hcl]);clear hx hcv;go_wp2_with ((with_reducible refine wpList_load_mid rfl 36 _ rfl b (off + k * 4) ?_ cs _ hr Tryz.underlying36 ?_ HL2.out ?_); rfl; rfl);refine (IH.out x cs.toArray wr (by omega) HSX.out HCV.out).mono ?_;rintro e w3 ⟨rfl, hb3⟩;have HB3 := hid (HB.out.trans (hb3.mono HB.out.size));have HDZ : Hid (Z = if Pr.treeE x ≠ 0 then Pr.treeE x else Pr.treeEL (ks.drop (k + 1))) := hid (by rw [← HSS.out, HD.out]);clear hb3;generalize Pr.treeE x = F at *;by_cases hF : F = 0
        ·subst hF;have HZ2 : Hid (Pr.treeEL (ks.drop (k + 1)) = Z) := hid (by rw [HDZ.out, if_neg (by simp)]);go_wp2_with fail
         go_roundw
         case rel => exact ⟨k + 1, hlt, by go_num, HZ2.out, HB3.out⟩
         case measure => simp [RowKit.intOf]; omega
        ·have HZ2 : Hid (Z = F) := hid (by rw [HDZ.out, if_pos hF]);have hFb : (F == 0) = false := beq_eq_false_iff_ne.2 hF;have hFn : (F != 0) = true := by rw [bne, hFb]; rfl
         clear hF;go_wp2_with fail;go_ret;exact ⟨congrArg (fun z => Ending.returned (.int .i64 z)) HZ2.out.symm, HB1.out.trans (HB3.out.mono HB1.out.size)⟩
       ·obtain rfl : k = ks.length := by omega
        have HZ2 : Hid (Z = 0) := hid (by rw [← HSS.out, List.drop_length]; rfl);go_wp2_with fail;go_ret;exact ⟨congrArg (fun z => Ending.returned (.int .i64 z)) HZ2.out.symm, HB1.out.trans (HB.out.mono HB1.out.size)⟩
    ·have h1I : (ks.length : Int) = 1 := by omega
     have h1b : ((ks.length : Int) == 1) = true := by rw [h1I]; rfl
     have h1c : ((ks.length : Int) != 1) = false := by rw [bne, h1b]; rfl
     have h1d : (ks.length == 1) = true := by rw [h1]; rfl
     have h1e : (ks.length != 1) = false := by rw [bne, h1d]; rfl
     clear h1 h1I;go_enter Tryz.func98, Tryz.ntmps98;go_wp2_with (first | (go_at_call 46; refine (HUT.out _).mono ?_; rintro e w2 ⟨rfl, rfl⟩) | (go_at_call 47; refine (HUN.out _).mono ?_; rintro e w2 ⟨rfl, rfl⟩) | (go_at_call 130; refine (HUK.out _).mono ?_; rintro e w2 ⟨rfl, rfl⟩))
     go_loopw [6] (fun ix wr => ∃ k : Nat, k ≤ ks.length ∧ ix = .int .i64 (k : Int) ∧ Pr.treeEL (ks.drop k) = Z ∧ Below w1.heap.size w1 wr) (fun ix _ => ks.length - (RowKit.intOf ix).toNat)
     case atStart => exact ⟨0, Nat.zero_le _, rfl, HTO.out.symm, Below.refl _ _⟩
     case round =>
      obtain ⟨k, hk, rfl, hs, hb⟩ := hrel;have HSS := hid hs;have HB := hid hb;have hx3w := (hb.cell (An hx3)).trans hx3;clear hs hb;by_cases hlt : k < ks.length
      ·obtain ⟨x, hx⟩ : ∃ x, ks[k]? = some x := ⟨_, List.getElem?_eq_getElem hlt⟩;obtain ⟨b, off, cs, rfl, hok, hr, hcl, hcv⟩ := (HR1.out.below HB.out) k x hx;have HD := hid (Pr.treeEL_drop hx);have HSX := hid (Pr.small_kid HSK.out hx);have hnk := Pr.nodes_kid hx;have HCV := hid hcv;have HL2 : Hid ((Tryz.prog.info? 36).map (·.size) = some cs.length) := hid (by rw [Aa, hcl]);clear hx hcv;go_wp2_with ((with_reducible refine wpList_load_mid rfl 36 _ rfl b (off + k * 4) ?_ cs _ hr Tryz.underlying36 ?_ HL2.out ?_); rfl; rfl);refine (IH.out x cs.toArray wr (by omega) HSX.out HCV.out).mono ?_;rintro e w3 ⟨rfl, hb3⟩;have HB3 := hid (HB.out.trans (hb3.mono HB.out.size));have HDZ : Hid (Z = if Pr.treeE x ≠ 0 then Pr.treeE x else Pr.treeEL (ks.drop (k + 1))) := hid (by rw [← HSS.out, HD.out]);clear hb3;generalize Pr.treeE x = F at *;by_cases hF : F = 0
       ·subst hF;have HZ2 : Hid (Pr.treeEL (ks.drop (k + 1)) = Z) := hid (by rw [HDZ.out, if_neg (by simp)]);go_wp2_with fail
        go_roundw
        case rel => exact ⟨k + 1, hlt, by go_num, HZ2.out, HB3.out⟩
        case measure => simp [RowKit.intOf]; omega
       ·have HZ2 : Hid (Z = F) := hid (by rw [HDZ.out, if_pos hF]);have hFb : (F == 0) = false := beq_eq_false_iff_ne.2 hF;have hFn : (F != 0) = true := by rw [bne, hFb]; rfl
        clear hF;go_wp2_with fail;go_ret;exact ⟨congrArg (fun z => Ending.returned (.int .i64 z)) HZ2.out.symm, HB1.out.trans (HB3.out.mono HB1.out.size)⟩
      ·obtain rfl : k = ks.length := by omega
       have HZ2 : Hid (Z = 0) := hid (by rw [← HSS.out, List.drop_length]; rfl);go_wp2_with fail;go_ret;exact ⟨congrArg (fun z => Ending.returned (.int .i64 z)) HZ2.out.symm, HB1.out.trans (HB.out.mono HB1.out.size)⟩
  ·rw [if_pos hE] at hto;rw [hto];exact Do c.op c.text c.num c.kids.length (.inl hE) A cap w htl
end Go.Proofs.YtchkiegehejfmaaGreatDoor
namespace Pr
theorem clash_eq (x y : Str) : clash x y = (y == x || (isSound y && isSound x)) := by
 unfold clash;rw [Bool.and_comm (isSound y)]
 congr 1
 by_cases h : x = y
 ·subst h; rfl
 ·rw [beq_eq_false_iff_ne.2 h, beq_eq_false_iff_ne.2 (fun e => h e.symm)]
theorem clash_no {x : Str} {L : List Str} {k : Nat} {y : Str} (h : ∀ z ∈ L.take k, clash x z = false) (hy : L[k]? = some y) (hn : clash x y = false) : ∀ z ∈ L.take (k + 1), clash x z = false := fun z hz => by
 obtain ⟨h1, h2⟩ := List.getElem?_eq_some_iff.1 hy;rw [List.take_succ_eq_append_getElem h1, h2] at hz;rcases List.mem_append.1 hz with hz | hz
 ·exact h z hz
 ·rw [List.mem_singleton.1 hz]; exact hn
end Pr
namespace Go.Proofs.YtchkiegehejfmaaGreatDoor
open Go.RowKit Go.Lib
theorem Bx {P : Program} {f : FuncId} {args : Array Value} {w : World} {n : Nat} {v : Value} (h : Calls P f args (w.drewN n) fun e w' => e = .returned v ∧ w.drewN n = w') : Calls P f args (w.drewN n) fun e w'' => e = .returned v ∧ ∃ m, w'' = w.drewN m := h.mono fun _ _ h => ⟨h.1, n, h.2.symm⟩
theorem D9 (l : List (List UInt8)) (A : Option Addr) (cap : Nat) (w : World) (hl : ∀ x ∈ l, x.length ≤ 1000000) (hr : Rd w A l.length (strL l)) : Calls Tryz.prog 99 #[.slice A l.length cap] w fun e w' => e = .returned (.int .i64 (Pr.doE l)) ∧ Below w.heap.size w w' := by
 have HR := hid hr;have HL := hid hl;clear hr hl;by_cases h0 : l = []
 ·subst h0;rw [show Pr.doE [] = 9 from rfl];rw [show ([] : List (List UInt8)).length = 0 from rfl];go_enter Tryz.func99, Tryz.ntmps99;go_wp2_with fail;go_ret;exact ⟨rfl, Below.refl _ _⟩
 have hpos : 0 < l.length := List.length_pos_iff.2 h0;have hq0 : ((l.length : Int) == 0) = false := by rw [beq_eq_false_iff_ne]; omega
 by_cases h5 : 5 < l.length
 ·have hd : Pr.doE l = 7 := by unfold Pr.doE; rw [if_neg h0, if_pos h5]
  have h5i : (5 : Int) < (l.length : Int) := by omega
  rw [hd];clear hd h0;go_enter Tryz.func99, Tryz.ntmps99;go_wp2_with fail;go_ret;exact ⟨rfl, Below.refl _ _⟩
 have hd : Pr.doE l = Pr.actsE [] l := by unfold Pr.doE; rw [if_neg h0, if_neg h5]
 have h5i : ¬ (5 : Int) < (l.length : Int) := by omega
 obtain ⟨Z, hZ⟩ : ∃ Z, Pr.actsE [] l = Z := ⟨_, rfl⟩;rw [hd, hZ];have HZ0 := hid hZ;have hln : ¬ (l.length : Int) = 0 := by omega
 clear hd hZ h0;go_enter Tryz.func99, Tryz.ntmps99;go_wp2_with fail
 go_loopw [3] (fun ix wr => ∃ k : Nat, k ≤ l.length ∧ ix = .int .i64 (k : Int) ∧ Pr.actsE (l.take k) (l.drop k) = Z ∧ Below w.heap.size w wr) (fun ix _ => l.length - (RowKit.intOf ix).toNat)
 case atStart => exact ⟨0, Nat.zero_le _, rfl, HZ0.out, Below.refl _ _⟩
 case round =>
  obtain ⟨k, hk, rfl, he, hb⟩ := hrel;have HE := hid he;have HB := hid hb;have hws := hb.size;clear he hb;by_cases hlt : k < l.length
  ·obtain ⟨b, off, x, rfl, hxk, hcx⟩ := (HR.out.below HB.out).str_at hlt;have HRW := hid (HR.out.below HB.out);have HXK := hid hxk;have HXL := hid (HL.out x (List.mem_of_getElem? hxk))
   have HST : Hid (Pr.actsE (l.take k) (l.drop k) = if Pr.isAct x = false then 6 else if (l.take k).any (Pr.clash x) then 4 else Pr.actsE (l.take k ++ [x]) (l.drop (k + 1))) := hid (by
    obtain ⟨h1, h2⟩ := List.getElem?_eq_some_iff.1 hxk
    rw [List.drop_eq_getElem_cons h1, h2, Pr.actsE_step])
   have HAN := hid (fun W => EH (bstr x) W (by rw [Ai]; exact HXL.out));rw [show (bstr x).data.toList = x from rfl] at HAN;have HSN := hid (fun W => Ca (bstr x) W (by rw [Ai]; exact HXL.out));rw [show (bstr x).data.toList = x from rfl] at HSN;have HSX := hid (fun y => AD y x);clear hxk
   cases his : Pr.isAct x with
   | false =>
    rw [his] at HAN;have HZ : Hid (Z = 6) := hid (by rw [← HE.out, HST.out, his]; rfl);clear his;generalize hXB : bstr x = XB at *;go_wp2_with fail;refine (HAN.out _).mono ?_;rintro e w3 ⟨rfl, rfl⟩;go_wp2_with fail;go_ret;exact ⟨congrArg (fun z => Ending.returned (.int .i64 z)) HZ.out.symm, HB.out⟩
   | true =>
    rw [his] at HAN;have HIS := hid his;clear his;generalize hXB : bstr x = XB at *;have HXB := hid hXB;clear hXB;go_wp2_with fail;refine (HAN.out _).mono ?_;rintro e w3 ⟨rfl, rfl⟩;go_wp2_with fail;obtain ⟨w5, rfl⟩ : ∃ w5, w5 = wr := ⟨_, rfl⟩
    go_loopw [4] (fun jx wq => ∃ j : Nat, j ≤ k ∧ jx = .int .i64 (j : Int) ∧ Below w5.heap.size w5 wq ∧ ∀ z ∈ l.take j, Pr.clash x z = false) (fun jx _ => k - (RowKit.intOf jx).toNat)
    case atStart => exact ⟨0, Nat.zero_le _, rfl, Below.refl _ _, fun z hz => by simp at hz⟩
    case round =>
     obtain ⟨j, hj, rfl, hwq, hall⟩ := hrel;have HALL := hid hall;have HQ := hid hwq;have hcxq := (HQ.out.cell (An hcx)).trans hcx;clear hall hwq;by_cases hjk : j < k
     ·obtain ⟨y, hyj, hcy⟩ : ∃ y, l[j]? = some y ∧ w5.cell? ⟨b, off + j, none⟩ = some (.string (bstr y)) := by
       obtain ⟨b2, off2, y, e, h1, h2⟩ := HRW.out.str_at (show j < l.length by omega);injection e with e;have e1 : b = b2 := by injection e
       have e2 : off = off2 := by injection e
       subst e1 e2;exact ⟨y, h1, h2⟩
      have hcyq := (HQ.out.cell (An hcy)).trans hcy;have HYJ := hid hyj;have HYL := hid (HL.out y (List.mem_of_getElem? hyj));have HSM := hid (fun W => Ca (bstr y) W (by rw [Ai]; exact HYL.out));rw [show (bstr y).data.toList = y from rfl] at HSM;have hyx : ((bstr y).toList == XB.toList) = (y == x) := by rw [← HXB.out, Lib.toList_data, Lib.toList_data]; rfl
      have hce := Pr.clash_eq x y;have hjI : (j : Int) < (l.length : Int) := by omega
      have hkI : (k : Int) < (l.length : Int) := by omega
      have HC1 : Hid (Pr.clash x y = true → (l.take k).any (Pr.clash x) = true) := hid (fun h => List.any_eq_true.2 ⟨y, List.mem_of_getElem? (by rw [List.getElem?_take, if_pos hjk]; exact HYJ.out : (l.take k)[j]? = some y), h⟩);have HC0 : Hid (Pr.clash x y = false → ∀ z ∈ l.take (j + 1), Pr.clash x z = false) := hid (fun h => Pr.clash_no HALL.out HYJ.out h);clear hyj;have hdis : (Pr.clash x y = true ∧ (y == x) = true) ∨ (Pr.clash x y = false ∧ (y == x) = false ∧ Pr.isSound y = false) ∨ (Pr.clash x y = Pr.isSound x ∧ (y == x) = false ∧ Pr.isSound y = true) := by
       rw [hce];cases (y == x) <;> cases Pr.isSound y <;> simp
      clear hce;rcases hdis with ⟨d0, d1⟩ | ⟨d0, d1, d2⟩ | ⟨d0, d1, d2⟩
      ·rw [d1] at hyx;have HZ : Hid (Z = 4) := hid (by rw [← HE.out, HST.out, HIS.out, HC1.out d0]; rfl);clear d0 d1;generalize bstr y = YB at *;go_wp2_with fail
       go_quiet (fail)
       go_wp2_with fail;go_ret;exact ⟨congrArg (fun z => Ending.returned (.int .i64 z)) HZ.out.symm, below_drewN (HB.out.trans (HQ.out.mono hws)) _⟩
      ·rw [d1] at hyx;rw [d2] at HSM;have HN := hid (HC0.out d0);clear d0 d1 d2;generalize bstr y = YB at *;go_wp2_with fail
       go_quiet ((go_at_call 134; exact Bx (HSM.out _)))
       go_wp2_with fail
       go_roundw
       case rel => exact ⟨j + 1, hjk, by go_num, below_drewN HQ.out _, HN.out⟩
       case measure => simp [RowKit.intOf]; omega
      ·rw [d1] at hyx;rw [d2] at HSM
       cases hsx : Pr.isSound x with
       | true =>
        rw [hsx] at HSN d0;have HZ : Hid (Z = 4) := hid (by rw [← HE.out, HST.out, HIS.out, HC1.out d0]; rfl);clear d0 d1 d2 hsx;generalize bstr y = YB at *;go_wp2_with fail
        go_quiet ((first | (go_at_call_of 134 (Value.string YB); exact Bx (HSM.out _)) | (go_at_call 134; exact Bx (HSN.out _))))
        go_wp2_with fail;go_ret;exact ⟨congrArg (fun z => Ending.returned (.int .i64 z)) HZ.out.symm, below_drewN (HB.out.trans (HQ.out.mono hws)) _⟩
       | false =>
        rw [hsx] at HSN d0;have HN := hid (HC0.out d0);clear d0 d1 d2 hsx;generalize bstr y = YB at *;go_wp2_with fail
        go_quiet ((first | (go_at_call_of 134 (Value.string YB); exact Bx (HSM.out _)) | (go_at_call 134; exact Bx (HSN.out _))))
        go_wp2_with fail
        go_roundw
        case rel => exact ⟨j + 1, hjk, by go_num, below_drewN HQ.out _, HN.out⟩
        case measure => simp [RowKit.intOf]; omega
     ·obtain rfl : j = k := by omega
      have HZ : Hid (Pr.actsE (l.take (j + 1)) (l.drop (j + 1)) = Z) := hid (by
       rw [AS HXK.out, ← HE.out, HST.out, HIS.out, List.any_eq_false.2 (fun z hz => by rw [HALL.out z hz]; decide)]
       rfl)
      go_wp2_with fail
      go_roundw
      case rel => exact ⟨j + 1, by omega, by go_num, HZ.out, HB.out.trans (HQ.out.mono hws)⟩
      case measure => simp [RowKit.intOf]; omega
  ·obtain rfl : k = l.length := by omega
   have HZ : Hid (Z = 0) := hid (by rw [← HE.out, List.drop_length]; rfl);go_wp2_with fail;go_ret;exact ⟨congrArg (fun z => Ending.returned (.int .i64 z)) HZ.out.symm, HB.out⟩
end Go.Proofs.YtchkiegehejfmaaGreatDoor
