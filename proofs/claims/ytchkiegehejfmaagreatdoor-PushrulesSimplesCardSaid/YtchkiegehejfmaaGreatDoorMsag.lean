/- The texts Ul, Uc, Um of this proof, one behind the other. -/
import Derived.Test.YtchkiegehejfmaaGreatDoorMsaf
set_option linter.unusedSimpArgs false
set_option maxHeartbeats 16000000
set_option maxRecDepth 100000
set_option linter.unusedVariables false
namespace Pr
theorem nodeE_bad {o : Int} {t : Str} {n : Int} {m : Nat} (h : known o = false ∨ (useText o = false ∧ t ≠ []) ∨ (useN o = false ∧ n ≠ 0) ∨ (useKids o = false ∧ 0 < m) ∨ (o = 4 ∧ m ≠ 1)) : nodeE o t n m = 1 := by unfold nodeE; rw [if_pos h]
theorem nodeE_ok {o : Int} {t : Str} {n : Int} {m : Nat} (h : ¬ (known o = false ∨ (useText o = false ∧ t ≠ []) ∨ (useN o = false ∧ n ≠ 0) ∨ (useKids o = false ∧ 0 < m) ∨ (o = 4 ∧ m ≠ 1))) : nodeE o t n m = fieldE o t n m := by unfold nodeE; rw [if_neg h]
end Pr
namespace Go.Proofs.YtchkiegehejfmaaGreatDoor
open Go.RowKit Go.Lib
theorem Dp {t : List UInt8} (h : t = []) : (bstr t).toList.isEmpty = true := by rw [h, Lib.toList_data]; rfl
theorem bfull {t : List UInt8} (h : t ≠ []) : (bstr t).toList.isEmpty = false := by
 rw [Lib.toList_data];show t.isEmpty = false
 cases t with
 | nil => exact absurd rfl h
 | cons c b => rfl
theorem FU (ok : Nat → Prop) (c : Pr.Cn) (V : Array Value) (w : World) (h : CnV w ok V c) (htl : c.text.length ≤ 1000000) : Calls Tryz.prog 126 #[.agg V] w fun e w' => e = .returned (.int .i64 (Pr.nodeE c.op c.text c.num c.kids.length)) ∧ Below w.heap.size w w' := by
 obtain ⟨A, cap, rfl, -⟩ := h.open;have hk1 := Blk.new w 36 #[.int .i64 c.op, .string (bstr c.text), .int .i64 c.num, .slice A c.kids.length cap];have HB1 := hid ((Below.refl w.heap.size w).alloc (Nat.le_refl _) (.cells #[.int .i64 c.op, .string (bstr c.text), .int .i64 c.num, .slice A c.kids.length cap] 36));have hx0 := hk1.cell 0;have hx1 := hk1.cell 1;have hx2 := hk1.cell 2;have hx3 := hk1.cell 3;simp only [List.getElem?_toArray, List.getElem?_cons_zero, List.getElem?_cons_succ] at hx0 hx1 hx2 hx3;generalize hw1 : w.alloc (.cells #[.int .i64 c.op, .string (bstr c.text), .int .i64 c.num, .slice A c.kids.length cap] 36) = w1 at *;clear h hk1;generalize c.op = o at *;generalize c.num = n at *;generalize c.kids.length = m at *;generalize c.text = t at *;have HU := hid (fun W => Ez o W);have HG := hid (fun W => GT (bstr t) W (by rw [Ai]; exact htl));have HW := hid (fun W => E7 (bstr t) W (by rw [Ai]; exact htl));rw [show (bstr t).data.toList = t from rfl] at HG HW;have HI := hid (fun lo hi W => Fg n lo hi W);have hts : t = [] → (bstr t).toList.isEmpty = true := Dp;have htf : t ≠ [] → (bstr t).toList.isEmpty = false := bfull;have HTS := hid hts;have HTF := hid htf;clear hts htf
 cases hkn : Pr.known o with
 | false =>
  have hz : Pr.nodeE o t n m = 1 := Pr.nodeE_bad (.inl hkn);rw [hkn] at HU;generalize hU : Pr.usesV o = U at *;rw [hz];clear hz hkn hU;go_enter Tryz.func126, Tryz.ntmps126;go_wp2_with fail;refine (HU.out _).mono ?_;rintro e w2 ⟨rfl, rfl⟩;go_wp2_with fail;go_ret;exact ⟨rfl, HB1.out⟩
 | true =>
  have hrange : 1 ≤ o ∧ o ≤ 17 := by
   unfold Pr.known at hkn;rw [Bool.and_eq_true, decide_eq_true_iff, decide_eq_true_iff] at hkn;exact hkn
  obtain hcl | hcl | hcl | hcl : (o = 6 ∨ o = 7 ∨ o = 8 ∨ o = 9) ∨ (o = 5 ∨ o = 10 ∨ o = 11 ∨ o = 12) ∨ (o = 2 ∨ o = 3 ∨ o = 4) ∨ (o = 1 ∨ o = 13 ∨ o = 14 ∨ o = 15 ∨ o = 16 ∨ o = 17) := by omega
  ·have htx : Pr.useText o = true := by rcases hcl with rfl | rfl | rfl | rfl <;> rfl
   have hu : Pr.usesV o = 1 := by rcases hcl with rfl | rfl | rfl | rfl <;> rfl
   have hn0 : Pr.useN o = false := by rcases hcl with rfl | rfl | rfl | rfl <;> rfl
   have hk0 : Pr.useKids o = false := by rcases hcl with rfl | rfl | rfl | rfl <;> rfl
   rw [hkn, hu] at HU;by_cases hn : n = 0
   ·subst hn;by_cases hm : m = 0
    ·subst hm;have hok : Pr.nodeE o t 0 0 = Pr.fieldE o t 0 0 := Pr.nodeE_ok (by rw [hkn, htx, hk0]; simp; omega);rw [hok];clear hok htx hu hn0 hk0 hkn;rcases hcl with rfl | rfl | rfl | rfl
     iterate 3
      ·rw [show Pr.fieldE _ t 0 0 = Pr.globE t from rfl];go_enter Tryz.func126, Tryz.ntmps126;go_wp2_with fail;refine (HU.out _).mono ?_;rintro e w2 ⟨rfl, rfl⟩;go_wp2_with fail;refine (HG.out _).mono ?_;rintro e w2 ⟨rfl, rfl⟩;go_wp2_with fail;go_ret;exact ⟨rfl, HB1.out⟩
     ·rw [show Pr.fieldE 9 t 0 0 = (if Pr.okName false t then 0 else 3) from rfl]
      cases hw : Pr.okName false t with
      | true =>
       rw [hw] at HW;clear hw;go_enter Tryz.func126, Tryz.ntmps126;go_wp2_with fail;refine (HU.out _).mono ?_;rintro e w2 ⟨rfl, rfl⟩;go_wp2_with fail;refine (HW.out _).mono ?_;rintro e w2 ⟨rfl, rfl⟩;go_wp2_with fail;go_ret;exact ⟨rfl, HB1.out⟩
      | false =>
       rw [hw] at HW;clear hw;go_enter Tryz.func126, Tryz.ntmps126;go_wp2_with fail;refine (HU.out _).mono ?_;rintro e w2 ⟨rfl, rfl⟩;go_wp2_with fail;refine (HW.out _).mono ?_;rintro e w2 ⟨rfl, rfl⟩;go_wp2_with fail;go_ret;exact ⟨rfl, HB1.out⟩
    ·have hz : Pr.nodeE o t 0 m = 1 := Pr.nodeE_bad (.inr (.inr (.inr (.inl ⟨hk0, by omega⟩))));have hmI : (0 : Int) < (m : Int) := by omega
     rw [hz];clear hz htx hu hn0 hk0 hkn hcl hm;go_enter Tryz.func126, Tryz.ntmps126;go_wp2_with fail;refine (HU.out _).mono ?_;rintro e w2 ⟨rfl, rfl⟩;go_wp2_with fail;go_ret;exact ⟨rfl, HB1.out⟩
   ·have hz : Pr.nodeE o t n m = 1 := Pr.nodeE_bad (.inr (.inr (.inl ⟨hn0, hn⟩)));have hnb : (n == 0) = false := beq_eq_false_iff_ne.2 hn;have hnc : (n != 0) = true := by rw [bne, hnb]; rfl
    rw [hz];clear hz htx hu hn0 hk0 hkn hcl hn;go_enter Tryz.func126, Tryz.ntmps126;go_wp2_with fail;refine (HU.out _).mono ?_;rintro e w2 ⟨rfl, rfl⟩;go_wp2_with fail;go_ret;exact ⟨rfl, HB1.out⟩
  ·have htx : Pr.useText o = false := by rcases hcl with rfl | rfl | rfl | rfl <;> rfl
   have hu : Pr.usesV o = 2 := by rcases hcl with rfl | rfl | rfl | rfl <;> rfl
   have hn1 : Pr.useN o = true := by rcases hcl with rfl | rfl | rfl | rfl <;> rfl
   have hk0 : Pr.useKids o = false := by rcases hcl with rfl | rfl | rfl | rfl <;> rfl
   rw [hkn, hu] at HU;by_cases ht : t = []
   ·have hte := HTS.out ht;by_cases hm : m = 0
    ·subst hm;have hok : Pr.nodeE o t n 0 = Pr.fieldE o t n 0 := Pr.nodeE_ok (by rw [hkn, hn1, hk0]; simp [ht]; omega);rw [hok];clear hok htx hu hn1 hk0 hkn ht;rcases hcl with rfl | rfl | rfl | rfl
     ·rw [show Pr.fieldE 5 t n 0 = Pr.withinE n 1 14 from rfl];go_enter Tryz.func126, Tryz.ntmps126;go_wp2_with fail;refine (HU.out _).mono ?_;rintro e w2 ⟨rfl, rfl⟩;go_wp2_with fail;refine (HI.out _ _ _).mono ?_;rintro e w2 ⟨rfl, rfl⟩;go_wp2_with fail;go_ret;exact ⟨rfl, HB1.out⟩
     ·rw [show Pr.fieldE 10 t n 0 = Pr.withinE n (-1000) 1000 from rfl];go_enter Tryz.func126, Tryz.ntmps126;go_wp2_with fail;refine (HU.out _).mono ?_;rintro e w2 ⟨rfl, rfl⟩;go_wp2_with fail;refine (HI.out _ _ _).mono ?_;rintro e w2 ⟨rfl, rfl⟩;go_wp2_with fail;go_ret;exact ⟨rfl, HB1.out⟩
     ·rw [show Pr.fieldE 11 t n 0 = Pr.withinE n 0 1000000000000 from rfl];go_enter Tryz.func126, Tryz.ntmps126;go_wp2_with fail;refine (HU.out _).mono ?_;rintro e w2 ⟨rfl, rfl⟩;go_wp2_with fail;refine (HI.out _ _ _).mono ?_;rintro e w2 ⟨rfl, rfl⟩;go_wp2_with fail;go_ret;exact ⟨rfl, HB1.out⟩
     ·rw [show Pr.fieldE 12 t n 0 = Pr.withinE n 0 1000000000 from rfl];go_enter Tryz.func126, Tryz.ntmps126;go_wp2_with fail;refine (HU.out _).mono ?_;rintro e w2 ⟨rfl, rfl⟩;go_wp2_with fail;refine (HI.out _ _ _).mono ?_;rintro e w2 ⟨rfl, rfl⟩;go_wp2_with fail;go_ret;exact ⟨rfl, HB1.out⟩
    ·have hz : Pr.nodeE o t n m = 1 := Pr.nodeE_bad (.inr (.inr (.inr (.inl ⟨hk0, by omega⟩))));have hmI : (0 : Int) < (m : Int) := by omega
     rw [hz];clear hz htx hu hn1 hk0 hkn hcl hm ht;go_enter Tryz.func126, Tryz.ntmps126;go_wp2_with fail;refine (HU.out _).mono ?_;rintro e w2 ⟨rfl, rfl⟩;go_wp2_with fail;go_ret;exact ⟨rfl, HB1.out⟩
   ·have hz : Pr.nodeE o t n m = 1 := Pr.nodeE_bad (.inr (.inl ⟨htx, ht⟩));have hte := HTF.out ht;rw [hz];clear hz htx hu hn1 hk0 hkn hcl ht;go_enter Tryz.func126, Tryz.ntmps126;go_wp2_with fail;refine (HU.out _).mono ?_;rintro e w2 ⟨rfl, rfl⟩;go_wp2_with fail;go_ret;exact ⟨rfl, HB1.out⟩
  ·have htx : Pr.useText o = false := by rcases hcl with rfl | rfl | rfl <;> rfl
   have hu : Pr.usesV o = 4 := by rcases hcl with rfl | rfl | rfl <;> rfl
   have hn0 : Pr.useN o = false := by rcases hcl with rfl | rfl | rfl <;> rfl
   have hk1 : Pr.useKids o = true := by rcases hcl with rfl | rfl | rfl <;> rfl
   rw [hkn, hu] at HU;by_cases ht : t = []
   ·have hte := HTS.out ht;by_cases hn : n = 0
    ·subst hn;rcases hcl with rfl | rfl | rfl
     iterate 2
      ·rw [Pr.nodeE_ok (by rw [hkn, hk1, htx, hn0]; simp [ht]; done), show Pr.fieldE _ t 0 m = (if m < 2 then 9 else 0) from rfl];clear htx hu hn0 hk1 hkn ht;by_cases hm : m < 2
       ·have hmI : (m : Int) < 2 := by omega
        rw [if_pos hm];go_enter Tryz.func126, Tryz.ntmps126;go_wp2_with fail;refine (HU.out _).mono ?_;rintro e w2 ⟨rfl, rfl⟩;go_wp2_with fail;go_ret;exact ⟨rfl, HB1.out⟩
       ·have hmI : ¬ (m : Int) < 2 := by omega
        rw [if_neg hm];go_enter Tryz.func126, Tryz.ntmps126;go_wp2_with fail;refine (HU.out _).mono ?_;rintro e w2 ⟨rfl, rfl⟩;go_wp2_with fail;go_ret;exact ⟨rfl, HB1.out⟩
     ·by_cases hm : m = 1
      ·subst hm;rw [Pr.nodeE_ok (by rw [hkn, hk1, htx, hn0]; simp [ht]; done), show Pr.fieldE 4 t 0 1 = 0 from rfl];clear htx hu hn0 hk1 hkn ht;go_enter Tryz.func126, Tryz.ntmps126;go_wp2_with fail;refine (HU.out _).mono ?_;rintro e w2 ⟨rfl, rfl⟩;go_wp2_with fail;go_ret;exact ⟨rfl, HB1.out⟩
      ·rw [Pr.nodeE_bad (.inr (.inr (.inr (.inr ⟨rfl, hm⟩))))];have hmb : ((m : Int) == 1) = false := by rw [beq_eq_false_iff_ne]; omega
       have hmc : ((m : Int) != 1) = true := by rw [bne, hmb]; rfl
       have hmd : (m == 1) = false := beq_eq_false_iff_ne.2 hm;have hme : (m != 1) = true := by rw [bne, hmd]; rfl
       clear htx hu hn0 hk1 hkn ht hm;go_enter Tryz.func126, Tryz.ntmps126;go_wp2_with fail;refine (HU.out _).mono ?_;rintro e w2 ⟨rfl, rfl⟩;go_wp2_with fail;go_ret;exact ⟨rfl, HB1.out⟩
    ·have hz : Pr.nodeE o t n m = 1 := Pr.nodeE_bad (.inr (.inr (.inl ⟨hn0, hn⟩)));have hnb : (n == 0) = false := beq_eq_false_iff_ne.2 hn;have hnc : (n != 0) = true := by rw [bne, hnb]; rfl
     rw [hz];clear hz htx hu hn0 hk1 hkn hcl hn ht;go_enter Tryz.func126, Tryz.ntmps126;go_wp2_with fail;refine (HU.out _).mono ?_;rintro e w2 ⟨rfl, rfl⟩;go_wp2_with fail;go_ret;exact ⟨rfl, HB1.out⟩
   ·have hz : Pr.nodeE o t n m = 1 := Pr.nodeE_bad (.inr (.inl ⟨htx, ht⟩));have hte := HTF.out ht;rw [hz];clear hz htx hu hn0 hk1 hkn hcl ht;go_enter Tryz.func126, Tryz.ntmps126;go_wp2_with fail;refine (HU.out _).mono ?_;rintro e w2 ⟨rfl, rfl⟩;go_wp2_with fail;go_ret;exact ⟨rfl, HB1.out⟩
  ·have htx : Pr.useText o = false := by rcases hcl with rfl | rfl | rfl | rfl | rfl | rfl <;> rfl
   have hu : Pr.usesV o = 0 := by rcases hcl with rfl | rfl | rfl | rfl | rfl | rfl <;> rfl
   have hn0 : Pr.useN o = false := by rcases hcl with rfl | rfl | rfl | rfl | rfl | rfl <;> rfl
   have hk0 : Pr.useKids o = false := by rcases hcl with rfl | rfl | rfl | rfl | rfl | rfl <;> rfl
   have hf0 : ∀ t n m, Pr.fieldE o t n m = 0 := by rcases hcl with rfl | rfl | rfl | rfl | rfl | rfl <;> (intro t n m; rfl)
   have d2 : (o == 2) = false := by rw [beq_eq_false_iff_ne]; omega
   have d3 : (o == 3) = false := by rw [beq_eq_false_iff_ne]; omega
   have d4 : (o == 4) = false := by rw [beq_eq_false_iff_ne]; omega
   have d5 : (o == 5) = false := by rw [beq_eq_false_iff_ne]; omega
   have d6 : (o == 6) = false := by rw [beq_eq_false_iff_ne]; omega
   have d7 : (o == 7) = false := by rw [beq_eq_false_iff_ne]; omega
   have d8 : (o == 8) = false := by rw [beq_eq_false_iff_ne]; omega
   have d9 : (o == 9) = false := by rw [beq_eq_false_iff_ne]; omega
   have d10 : (o == 10) = false := by rw [beq_eq_false_iff_ne]; omega
   have d11 : (o == 11) = false := by rw [beq_eq_false_iff_ne]; omega
   have d12 : (o == 12) = false := by rw [beq_eq_false_iff_ne]; omega
   rw [hkn, hu] at HU;by_cases ht : t = []
   ·have hte := HTS.out ht;by_cases hn : n = 0
    ·subst hn;by_cases hm : m = 0
     ·subst hm;rw [Pr.nodeE_ok (by rw [hkn, htx, hn0, hk0]; simp [ht]; omega), hf0];clear htx hu hn0 hk0 hkn ht hf0 hcl;go_enter Tryz.func126, Tryz.ntmps126;go_wp2_with fail;refine (HU.out _).mono ?_;rintro e w2 ⟨rfl, rfl⟩;go_wp2_with fail;go_ret;exact ⟨rfl, HB1.out⟩
     ·have hmI : (0 : Int) < (m : Int) := by omega
      rw [Pr.nodeE_bad (.inr (.inr (.inr (.inl ⟨hk0, by omega⟩))))];clear htx hu hn0 hk0 hkn hcl hm ht hf0;go_enter Tryz.func126, Tryz.ntmps126;go_wp2_with fail;refine (HU.out _).mono ?_;rintro e w2 ⟨rfl, rfl⟩;go_wp2_with fail;go_ret;exact ⟨rfl, HB1.out⟩
    ·have hnb : (n == 0) = false := beq_eq_false_iff_ne.2 hn;have hnc : (n != 0) = true := by rw [bne, hnb]; rfl
     rw [Pr.nodeE_bad (.inr (.inr (.inl ⟨hn0, hn⟩)))];clear htx hu hn0 hk0 hkn hcl hn ht hf0;go_enter Tryz.func126, Tryz.ntmps126;go_wp2_with fail;refine (HU.out _).mono ?_;rintro e w2 ⟨rfl, rfl⟩;go_wp2_with fail;go_ret;exact ⟨rfl, HB1.out⟩
   ·have hte := HTF.out ht;rw [Pr.nodeE_bad (.inr (.inl ⟨htx, ht⟩))];clear htx hu hn0 hk0 hkn hcl ht hf0;go_enter Tryz.func126, Tryz.ntmps126;go_wp2_with fail;refine (HU.out _).mono ?_;rintro e w2 ⟨rfl, rfl⟩;go_wp2_with fail;go_ret;exact ⟨rfl, HB1.out⟩
end Go.Proofs.YtchkiegehejfmaaGreatDoor
namespace Pr
theorem depthL_take : ∀ (ks : List Cn) (i : Nat) (c : Cn), ks[i]? = some c → depthL (ks.take (i + 1)) = max (depthL (ks.take i)) (depth c)
 | [], i, c, h => by cases h
 | k :: r, 0, c, h => by injection h with h; subst h; simp [depthL]
 | k :: r, i + 1, c, h => by
  rw [List.getElem?_cons_succ] at h;rw [List.take_succ_cons, List.take_succ_cons];unfold depthL;rw [depthL_take r i c h, Nat.max_assoc]
mutual
theorem depth_nodes : ∀ c : Cn, depth c ≤ nodes c
 | .mk _ _ _ ks => by unfold depth nodes; have := depthL_nodes ks; omega
theorem depthL_nodes : ∀ ks : List Cn, depthL ks ≤ nodesL ks
 | [] => Nat.le_refl _
 | c :: r => by unfold depthL nodesL; have h1 := depth_nodes c; have h2 := depthL_nodes r; omega
end
theorem depth_eq (c : Cn) : depth c = depthL c.kids + 1 := by cases c; rfl
end Pr
namespace Go.Proofs.YtchkiegehejfmaaGreatDoor
open Go.RowKit Go.Lib
theorem BF : ∀ (m : Nat) (ok : Nat → Prop) (c : Pr.Cn) (V : Array Value) (w : World), Pr.nodes c ≤ m → m ≤ 1000000 → CnV w ok V c → Calls Tryz.prog 18 #[.agg V] w fun e w' => e = .returned (.int .i64 (Pr.nodes c : Int)) ∧ Below w.heap.size w w'
 | 0, ok, c, V, w, hm, _, h => absurd hm (by have := Pr.nodes_pos c; omega)
 | m + 1, ok, c, V, w, hm, hm6, h => by
  have IH := hid (fun c V w (hc : Pr.nodes c ≤ m) (h : CnV w ok V c) => BF m ok c V w hc (by omega) h);have hne := Pr.nodes_eq c;have hde := Pr.nodes_eq c;have hkl := Pr.kids_nodes c.kids;have HV := hid (h.bel ((Below.refl w.heap.size w).alloc (Nat.le_refl _) (.cells V 36)));have hb1 := (Below.refl w.heap.size w).alloc (Nat.le_refl _) (.cells V 36);obtain ⟨A, cap, rfl, hrow⟩ := HV.out.open;have HB1 := hid hb1;have HR1 := hid hrow;clear hb1 hrow h HV;have hc3 : (w.alloc (.cells #[.int .i64 c.op, .string (bstr c.text), .int .i64 c.num, .slice A c.kids.length cap] 36)).cell? ⟨w.heap.size, 3, none⟩ = some (.slice A c.kids.length cap) := (Blk.new w 36 _).cell 3;generalize hw1 : w.alloc (.cells #[.int .i64 c.op, .string (bstr c.text), .int .i64 c.num, .slice A c.kids.length cap] 36) = w1 at *;generalize c.kids = ks at *;have HNE := hid hde;have hkm : Pr.nodesL ks ≤ m := by omega
  have hdl := Pr.depthL_nodes ks;clear hne hde;generalize Pr.nodes c = nc at *;go_enter Tryz.func18, Tryz.ntmps18;go_wp2_with fail
  go_loopw [3, 9] (fun sx ix wr => ∃ k : Nat, k ≤ ks.length ∧ ix = .int .i64 (k : Int) ∧ sx = .int .i64 ((Pr.nodesL (ks.take k) + 1 : Nat) : Int) ∧ Below w1.heap.size w1 wr) (fun _ ix _ => ks.length - (RowKit.intOf ix).toNat)
  case atStart => exact ⟨0, Nat.zero_le _, rfl, by simp [Pr.nodesL], Below.refl _ _⟩
  case round =>
   obtain ⟨k, hk, rfl, rfl, hb⟩ := hrel;have HB := hid hb;have hws := hb.size;clear hb;by_cases hlt : k < ks.length
   ·obtain ⟨x, hx⟩ : ∃ x, ks[k]? = some x := ⟨_, List.getElem?_eq_getElem hlt⟩;obtain ⟨b, off, cs, rfl, hok, hr, hcl, hcv⟩ := (HR1.out.below HB.out) k x hx;have HNX := hid (Pr.nodesL_take ks k x hx);have HDX := hid (Pr.nodesL_take ks k x hx);have hnk := Pr.nodes_kid hx;have hne2 := Pr.nodesL_le ks (k + 1);have hsum : Pr.nodesL (ks.take k) + Pr.nodes x ≤ 1000000 := by rw [HNX.out] at hne2; omega
    have hdep := Pr.depth_nodes x;have hdtk := Pr.depthL_nodes (ks.take k);have HCV := hid hcv;have hone := hcv.one;have HL2 : Hid ((Tryz.prog.info? 36).map (·.size) = some cs.length) := hid (by rw [Aa, hcl]);have HL3 : Hid ((Tryz.prog.info? 36).map (·.size) = some cs.toArray.size) := hid (by rw [Aa, List.size_toArray, hcl]);have HSZ : Hid (zCn.size = cs.toArray.size) := hid (by show 4 = cs.toArray.size; rw [List.size_toArray, hcl]);clear hx hcv
    go_wp2_with (first
     | ((with_reducible refine wpList_load_mid rfl 36 _ rfl b (off + k * 4) ?_ cs _ hr Tryz.underlying36 ?_ HL2.out ?_); rfl; rfl)
     | ((with_reducible refine Ah rfl 36 _ _ rfl wr.heap.size cs.toArray ?_ ?_ 36 _ (Blk.new wr 36 _) HL3.out ?_ hone ?_); rfl; rfl; exact HSZ.out; intro w2 hk2 hs2 hbl2)
     | (refine wpList_load_row rfl 36 _ rfl wr.heap.size rfl 36 cs.toArray (0, 0) _ hk2 Tryz.underlying36 rfl HL3.out ?_))
    have HBR2 : Hid (Below wr.heap.size wr w2) := hid (((Below.refl _ wr).alloc (Nat.le_refl _) (.cells zCn 36)).trans (hbl2 wr.heap.size (Nat.le_refl _)));refine (IH.out x cs.toArray w2 (by omega) (HCV.out.bel HBR2.out)).mono ?_;rintro e w3 ⟨rfl, hb3⟩;have HB3 := hid (HB.out.trans ((HBR2.out.trans (hb3.mono HBR2.out.size)).mono hws));clear hb3;go_wp2_with fail
    go_roundw
    case rel => exact ⟨k + 1, hlt, by go_num, by rw [HDX.out]; go_num, HB3.out⟩
    case measure => simp [RowKit.intOf]; omega
   ·obtain rfl : k = ks.length := by omega
    have htk : ks.take ks.length = ks := List.take_length;go_wp2_with fail;go_ret;refine ⟨?_, HB1.out.trans (HB.out.mono HB1.out.size)⟩;have hz := HNE.out;exact congrArg (fun n : Nat => Ending.returned (.int .i64 (n : Int))) (by rw [hz, htk])
theorem B7 : ∀ (m : Nat) (ok : Nat → Prop) (c : Pr.Cn) (V : Array Value) (w : World), Pr.nodes c ≤ m → m ≤ 1000000 → CnV w ok V c → Calls Tryz.prog 19 #[.agg V] w fun e w' => e = .returned (.int .i64 (Pr.nodes c : Int)) ∧ Below w.heap.size w w'
 | 0, ok, c, V, w, hm, _, h => absurd hm (by have := Pr.nodes_pos c; omega)
 | m + 1, ok, c, V, w, hm, hm6, h => by
  have IH := hid (fun c V w (hc : Pr.nodes c ≤ m) (h : CnV w ok V c) => B7 m ok c V w hc (by omega) h);have hne := Pr.nodes_eq c;have hde := Pr.nodes_eq c;have hkl := Pr.kids_nodes c.kids;have HV := hid (h.bel ((Below.refl w.heap.size w).alloc (Nat.le_refl _) (.cells V 36)));have hb1 := (Below.refl w.heap.size w).alloc (Nat.le_refl _) (.cells V 36);obtain ⟨A, cap, rfl, hrow⟩ := HV.out.open;have HB1 := hid hb1;have HR1 := hid hrow;clear hb1 hrow h HV;have hc3 : (w.alloc (.cells #[.int .i64 c.op, .string (bstr c.text), .int .i64 c.num, .slice A c.kids.length cap] 36)).cell? ⟨w.heap.size, 3, none⟩ = some (.slice A c.kids.length cap) := (Blk.new w 36 _).cell 3;generalize hw1 : w.alloc (.cells #[.int .i64 c.op, .string (bstr c.text), .int .i64 c.num, .slice A c.kids.length cap] 36) = w1 at *;generalize c.kids = ks at *;have HNE := hid hde;have hkm : Pr.nodesL ks ≤ m := by omega
  have hdl := Pr.depthL_nodes ks;clear hne hde;generalize Pr.nodes c = nc at *;go_enter Tryz.func19, Tryz.ntmps19;go_wp2_with fail
  go_loopw [3, 4] (fun sx ix wr => ∃ k : Nat, k ≤ ks.length ∧ ix = .int .i64 (k : Int) ∧ sx = .int .i64 ((Pr.nodesL (ks.take k) + 1 : Nat) : Int) ∧ Below w1.heap.size w1 wr) (fun _ ix _ => ks.length - (RowKit.intOf ix).toNat)
  case atStart => exact ⟨0, Nat.zero_le _, rfl, by simp [Pr.nodesL], Below.refl _ _⟩
  case round =>
   obtain ⟨k, hk, rfl, rfl, hb⟩ := hrel;have HB := hid hb;have hws := hb.size;have hcw := (Below.cell hb (An hc3)).trans hc3;clear hb;by_cases hlt : k < ks.length
   ·obtain ⟨x, hx⟩ : ∃ x, ks[k]? = some x := ⟨_, List.getElem?_eq_getElem hlt⟩;obtain ⟨b, off, cs, rfl, hok, hr, hcl, hcv⟩ := (HR1.out.below HB.out) k x hx;have HNX := hid (Pr.nodesL_take ks k x hx);have HDX := hid (Pr.nodesL_take ks k x hx);have hnk := Pr.nodes_kid hx;have hne2 := Pr.nodesL_le ks (k + 1);have hsum : Pr.nodesL (ks.take k) + Pr.nodes x ≤ 1000000 := by rw [HNX.out] at hne2; omega
    have hdep := Pr.depth_nodes x;have hdtk := Pr.depthL_nodes (ks.take k);have HCV := hid hcv;have hone := hcv.one;have HL2 : Hid ((Tryz.prog.info? 36).map (·.size) = some cs.length) := hid (by rw [Aa, hcl]);have HL3 : Hid ((Tryz.prog.info? 36).map (·.size) = some cs.toArray.size) := hid (by rw [Aa, List.size_toArray, hcl]);have HSZ : Hid (zCn.size = cs.toArray.size) := hid (by show 4 = cs.toArray.size; rw [List.size_toArray, hcl]);clear hx hcv;go_wp2_with ((with_reducible refine wpList_load_mid rfl 36 _ rfl b (off + k * 4) ?_ cs _ hr Tryz.underlying36 ?_ HL2.out ?_); rfl; rfl);refine (IH.out x cs.toArray wr (by omega) HCV.out).mono ?_;rintro e w3 ⟨rfl, hb3⟩;have HB3 := hid (HB.out.trans (hb3.mono hws));clear hb3;go_wp2_with fail
    go_roundw
    case rel => exact ⟨k + 1, hlt, by go_num, by rw [HDX.out]; go_num, HB3.out⟩
    case measure => simp [RowKit.intOf]; omega
   ·obtain rfl : k = ks.length := by omega
    have htk : ks.take ks.length = ks := List.take_length;go_wp2_with fail;go_ret;refine ⟨?_, HB1.out.trans (HB.out.mono HB1.out.size)⟩;have hz := HNE.out;exact congrArg (fun n : Nat => Ending.returned (.int .i64 (n : Int))) (by rw [hz, htk])
theorem Dc : ∀ (m : Nat) (ok : Nat → Prop) (c : Pr.Cn) (V : Array Value) (w : World), Pr.nodes c ≤ m → m ≤ 1000000 → CnV w ok V c → Calls Tryz.prog 93 #[.agg V] w fun e w' => e = .returned (.int .i64 (Pr.depth c : Int)) ∧ Below w.heap.size w w'
 | 0, ok, c, V, w, hm, _, h => absurd hm (by have := Pr.nodes_pos c; omega)
 | m + 1, ok, c, V, w, hm, hm6, h => by
  have IH := hid (fun c V w (hc : Pr.nodes c ≤ m) (h : CnV w ok V c) => Dc m ok c V w hc (by omega) h);have hne := Pr.nodes_eq c;have hde := Pr.depth_eq c;have hkl := Pr.kids_nodes c.kids;have HV := hid (h.bel ((Below.refl w.heap.size w).alloc (Nat.le_refl _) (.cells V 36)));have hb1 := (Below.refl w.heap.size w).alloc (Nat.le_refl _) (.cells V 36);obtain ⟨A, cap, rfl, hrow⟩ := HV.out.open;have HB1 := hid hb1;have HR1 := hid hrow;clear hb1 hrow h HV;have hc3 : (w.alloc (.cells #[.int .i64 c.op, .string (bstr c.text), .int .i64 c.num, .slice A c.kids.length cap] 36)).cell? ⟨w.heap.size, 3, none⟩ = some (.slice A c.kids.length cap) := (Blk.new w 36 _).cell 3;generalize hw1 : w.alloc (.cells #[.int .i64 c.op, .string (bstr c.text), .int .i64 c.num, .slice A c.kids.length cap] 36) = w1 at *;generalize c.kids = ks at *;have HNE := hid hde;have hkm : Pr.nodesL ks ≤ m := by omega
  have hdl := Pr.depthL_nodes ks;clear hne hde;generalize Pr.depth c = nc at *;go_enter Tryz.func93, Tryz.ntmps93;go_wp2_with fail
  go_loopw [3, 9] (fun sx ix wr => ∃ k : Nat, k ≤ ks.length ∧ ix = .int .i64 (k : Int) ∧ sx = .int .i64 ((Pr.depthL (ks.take k) : Nat) : Int) ∧ Below w1.heap.size w1 wr) (fun _ ix _ => ks.length - (RowKit.intOf ix).toNat)
  case atStart => exact ⟨0, Nat.zero_le _, rfl, by simp [Pr.depthL], Below.refl _ _⟩
  case round =>
   obtain ⟨k, hk, rfl, rfl, hb⟩ := hrel;have HB := hid hb;have hws := hb.size;clear hb;by_cases hlt : k < ks.length
   ·obtain ⟨x, hx⟩ : ∃ x, ks[k]? = some x := ⟨_, List.getElem?_eq_getElem hlt⟩;obtain ⟨b, off, cs, rfl, hok, hr, hcl, hcv⟩ := (HR1.out.below HB.out) k x hx;have HNX := hid (Pr.nodesL_take ks k x hx);have HDX := hid (Pr.depthL_take ks k x hx);have hnk := Pr.nodes_kid hx;have hne2 := Pr.nodesL_le ks (k + 1);have hsum : Pr.nodesL (ks.take k) + Pr.nodes x ≤ 1000000 := by rw [HNX.out] at hne2; omega
    have hdep := Pr.depth_nodes x;have hdtk := Pr.depthL_nodes (ks.take k);have HCV := hid hcv;have hone := hcv.one;have HL2 : Hid ((Tryz.prog.info? 36).map (·.size) = some cs.length) := hid (by rw [Aa, hcl]);have HL3 : Hid ((Tryz.prog.info? 36).map (·.size) = some cs.toArray.size) := hid (by rw [Aa, List.size_toArray, hcl]);have HSZ : Hid (zCn.size = cs.toArray.size) := hid (by show 4 = cs.toArray.size; rw [List.size_toArray, hcl]);clear hx hcv
    go_wp2_with (first
     | ((with_reducible refine wpList_load_mid rfl 36 _ rfl b (off + k * 4) ?_ cs _ hr Tryz.underlying36 ?_ HL2.out ?_); rfl; rfl)
     | ((with_reducible refine Ah rfl 36 _ _ rfl wr.heap.size cs.toArray ?_ ?_ 36 _ (Blk.new wr 36 _) HL3.out ?_ hone ?_); rfl; rfl; exact HSZ.out; intro w2 hk2 hs2 hbl2)
     | (refine wpList_load_row rfl 36 _ rfl wr.heap.size rfl 36 cs.toArray (0, 0) _ hk2 Tryz.underlying36 rfl HL3.out ?_))
    have HBR2 : Hid (Below wr.heap.size wr w2) := hid (((Below.refl _ wr).alloc (Nat.le_refl _) (.cells zCn 36)).trans (hbl2 wr.heap.size (Nat.le_refl _)));refine (IH.out x cs.toArray w2 (by omega) (HCV.out.bel HBR2.out)).mono ?_;rintro e w3 ⟨rfl, hb3⟩;have HB3 := hid (HB.out.trans ((HBR2.out.trans (hb3.mono HBR2.out.size)).mono hws));clear hb3;go_wp2_with fail
    go_roundw
    case rel => exact ⟨k + 1, hlt, by go_num, by rw [HDX.out]; go_num, HB3.out⟩
    case measure => simp [RowKit.intOf]; omega
   ·obtain rfl : k = ks.length := by omega
    have htk : ks.take ks.length = ks := List.take_length;go_wp2_with fail;go_ret;refine ⟨?_, HB1.out.trans (HB.out.mono HB1.out.size)⟩;have hz := HNE.out;rw [htk];exact congrArg Ending.returned (show _ = Value.int .i64 (nc : Int) by rw [hz]; go_num)
theorem CH : ∀ (m : Nat) (ok : Nat → Prop) (c : Pr.Cn) (V : Array Value) (w : World), Pr.nodes c ≤ m → m ≤ 1000000 → CnV w ok V c → Calls Tryz.prog 97 #[.agg V] w fun e w' => e = .returned (.int .i64 (Pr.depth c : Int)) ∧ Below w.heap.size w w'
 | 0, ok, c, V, w, hm, _, h => absurd hm (by have := Pr.nodes_pos c; omega)
 | m + 1, ok, c, V, w, hm, hm6, h => by
  have IH := hid (fun c V w (hc : Pr.nodes c ≤ m) (h : CnV w ok V c) => CH m ok c V w hc (by omega) h);have hne := Pr.nodes_eq c;have hde := Pr.depth_eq c;have hkl := Pr.kids_nodes c.kids;have HV := hid (h.bel ((Below.refl w.heap.size w).alloc (Nat.le_refl _) (.cells V 36)));have hb1 := (Below.refl w.heap.size w).alloc (Nat.le_refl _) (.cells V 36);obtain ⟨A, cap, rfl, hrow⟩ := HV.out.open;have HB1 := hid hb1;have HR1 := hid hrow;clear hb1 hrow h HV;have hc3 : (w.alloc (.cells #[.int .i64 c.op, .string (bstr c.text), .int .i64 c.num, .slice A c.kids.length cap] 36)).cell? ⟨w.heap.size, 3, none⟩ = some (.slice A c.kids.length cap) := (Blk.new w 36 _).cell 3;generalize hw1 : w.alloc (.cells #[.int .i64 c.op, .string (bstr c.text), .int .i64 c.num, .slice A c.kids.length cap] 36) = w1 at *;generalize c.kids = ks at *;have HNE := hid hde;have hkm : Pr.nodesL ks ≤ m := by omega
  have hdl := Pr.depthL_nodes ks;clear hne hde;generalize Pr.depth c = nc at *;go_enter Tryz.func97, Tryz.ntmps97;go_wp2_with fail
  go_loopw [3, 4] (fun sx ix wr => ∃ k : Nat, k ≤ ks.length ∧ ix = .int .i64 (k : Int) ∧ sx = .int .i64 ((Pr.depthL (ks.take k) : Nat) : Int) ∧ Below w1.heap.size w1 wr) (fun _ ix _ => ks.length - (RowKit.intOf ix).toNat)
  case atStart => exact ⟨0, Nat.zero_le _, rfl, by simp [Pr.depthL], Below.refl _ _⟩
  case round =>
   obtain ⟨k, hk, rfl, rfl, hb⟩ := hrel;have HB := hid hb;have hws := hb.size;have hcw := (Below.cell hb (An hc3)).trans hc3;clear hb;by_cases hlt : k < ks.length
   ·obtain ⟨x, hx⟩ : ∃ x, ks[k]? = some x := ⟨_, List.getElem?_eq_getElem hlt⟩;obtain ⟨b, off, cs, rfl, hok, hr, hcl, hcv⟩ := (HR1.out.below HB.out) k x hx;have HNX := hid (Pr.nodesL_take ks k x hx);have HDX := hid (Pr.depthL_take ks k x hx);have hnk := Pr.nodes_kid hx;have hne2 := Pr.nodesL_le ks (k + 1);have hsum : Pr.nodesL (ks.take k) + Pr.nodes x ≤ 1000000 := by rw [HNX.out] at hne2; omega
    have hdep := Pr.depth_nodes x;have hdtk := Pr.depthL_nodes (ks.take k);have HCV := hid hcv;have hone := hcv.one;have HL2 : Hid ((Tryz.prog.info? 36).map (·.size) = some cs.length) := hid (by rw [Aa, hcl]);have HL3 : Hid ((Tryz.prog.info? 36).map (·.size) = some cs.toArray.size) := hid (by rw [Aa, List.size_toArray, hcl]);have HSZ : Hid (zCn.size = cs.toArray.size) := hid (by show 4 = cs.toArray.size; rw [List.size_toArray, hcl]);clear hx hcv;go_wp2_with ((with_reducible refine wpList_load_mid rfl 36 _ rfl b (off + k * 4) ?_ cs _ hr Tryz.underlying36 ?_ HL2.out ?_); rfl; rfl);refine (IH.out x cs.toArray wr (by omega) HCV.out).mono ?_;rintro e w3 ⟨rfl, hb3⟩;have HB3 := hid (HB.out.trans (hb3.mono hws));clear hb3;go_wp2_with fail
    go_roundw
    case rel => exact ⟨k + 1, hlt, by go_num, by rw [HDX.out]; go_num, HB3.out⟩
    case measure => simp [RowKit.intOf]; omega
   ·obtain rfl : k = ks.length := by omega
    have htk : ks.take ks.length = ks := List.take_length;go_wp2_with fail;go_ret;refine ⟨?_, HB1.out.trans (HB.out.mono HB1.out.size)⟩;have hz := HNE.out;rw [htk];exact congrArg Ending.returned (show _ = Value.int .i64 (nc : Int) by rw [hz]; go_num)
end Go.Proofs.YtchkiegehejfmaaGreatDoor
namespace Pr
mutual
def small : Cn → Prop
 | .mk _ t _ ks => t.length ≤ 1000000 ∧ smallL ks
def smallL : List Cn → Prop
 | [] => True
 | c :: r => small c ∧ smallL r
end
theorem small_kid : ∀ {ks : List Cn} {i : Nat} {c : Cn}, smallL ks → ks[i]? = some c → small c
 | [], i, c, _, h => by cases h
 | k :: r, 0, c, hs, h => by injection h with h; subst h; unfold smallL at hs; exact hs.1
 | k :: r, i + 1, c, hs, h => by rw [List.getElem?_cons_succ] at h; unfold smallL at hs; exact small_kid hs.2 h
theorem small_open {c : Cn} (h : small c) : c.text.length ≤ 1000000 ∧ smallL c.kids := by cases c; unfold small at h; exact h
theorem treeE_open (c : Cn) : treeE c = if nodeE c.op c.text c.num c.kids.length ≠ 0 then nodeE c.op c.text c.num c.kids.length else treeEL c.kids := by cases c; unfold treeE; rfl
theorem treeEL_drop {ks : List Cn} {k : Nat} {c : Cn} (h : ks[k]? = some c) : treeEL (ks.drop k) = if treeE c ≠ 0 then treeE c else treeEL (ks.drop (k + 1)) := by
 obtain ⟨h1, h2⟩ := List.getElem?_eq_some_iff.1 h;rw [List.drop_eq_getElem_cons h1, h2, treeEL]
end Pr
namespace Go.Proofs.YtchkiegehejfmaaGreatDoor
open Go.RowKit Go.Lib
theorem DW : ∀ (m : Nat) (ok : Nat → Prop) (c : Pr.Cn) (V : Array Value) (w : World), Pr.nodes c ≤ m → m ≤ 1000000 → Pr.small c → CnV w ok V c → Calls Tryz.prog 94 #[.agg V] w fun e w' => e = .returned (.int .i64 (Pr.treeE c)) ∧ Below w.heap.size w w'
 | 0, ok, c, V, w, hm, _, _, h => absurd hm (by have := Pr.nodes_pos c; omega)
 | m + 1, ok, c, V, w, hm, hm6, hsm, h => by
  have IH := hid (fun c V w (hc : Pr.nodes c ≤ m) (hs : Pr.small c) (h : CnV w ok V c) => DW m ok c V w hc (by omega) hs h);have hne := Pr.nodes_eq c;have hkl := Pr.kids_nodes c.kids;have hto := Pr.treeE_open c;obtain ⟨htl, hsk⟩ := Pr.small_open hsm;have hb1 := (Below.refl w.heap.size w).alloc (Nat.le_refl _) (.cells V 36);have hV1 := h.bel hb1;have HND := hid (FU ok c V (w.alloc (.cells V 36)) hV1 htl);have hk1 := Blk.new w 36 V;have hvs := h.size;obtain ⟨A, cap, rfl, hrow⟩ := hV1.open;have HB1 := hid hb1;have HR1 := hid hrow;have HK1 := hid hk1;have HSC : Hid ((Tryz.prog.info? 36).map (·.size) = some (#[.int .i64 c.op, .string (bstr c.text), .int .i64 c.num, .slice A c.kids.length cap] : Array Value).size) := hid (by rw [Aa]; rfl);have hc3 : (w.alloc (.cells #[.int .i64 c.op, .string (bstr c.text), .int .i64 c.num, .slice A c.kids.length cap] 36)).cell? ⟨w.heap.size, 3, none⟩ = some (.slice A c.kids.length cap) := hk1.cell 3;clear hb1 hV1 h hrow hk1 hvs hsm;obtain ⟨Z, hZ⟩ : ∃ Z, Pr.treeE c = Z := ⟨_, rfl⟩;rw [hZ] at hto ⊢;have HTO := hid hto;have HSK := hid hsk;clear hto hsk hZ;generalize hw1 : w.alloc (.cells #[.int .i64 c.op, .string (bstr c.text), .int .i64 c.num, .slice A c.kids.length cap] 36) = w1 at *;generalize Pr.nodeE c.op c.text c.num c.kids.length = E at *;generalize c.kids = ks at *;have hkm : Pr.nodesL ks ≤ m := by omega
  clear hne;go_enter Tryz.func94, Tryz.ntmps94;go_wp2_with (refine wpList_load_row rfl 36 _ rfl w.heap.size rfl 36 _ (0, 0) _ HK1.out Tryz.underlying36 rfl HSC.out ?_);refine HND.out.mono ?_;rintro e w2 ⟨rfl, hb2⟩;have HB2 := hid (HB1.out.trans (hb2.mono HB1.out.size));have HR2 := hid (HR1.out.below hb2);have hc32 := (Below.cell hb2 (An hc3)).trans hc3;clear hb2;by_cases hE : E = 0
  ·subst hE;have HT2 : Hid (Z = Pr.treeEL ks) := hid (by rw [HTO.out, if_neg (by simp)]);go_wp2_with fail
   go_loopw [15] (fun ix wr => ∃ k : Nat, k ≤ ks.length ∧ ix = .int .i64 (k : Int) ∧ Pr.treeEL (ks.drop k) = Z ∧ Below w2.heap.size w2 wr) (fun ix _ => ks.length - (RowKit.intOf ix).toNat)
   case atStart => exact ⟨0, Nat.zero_le _, rfl, HT2.out.symm, Below.refl _ _⟩
   case round =>
    obtain ⟨k, hk, rfl, hs, hb⟩ := hrel;have HSS := hid hs;have HB := hid hb;have hws := hb.size;clear hs hb;by_cases hlt : k < ks.length
    ·obtain ⟨x, hx⟩ : ∃ x, ks[k]? = some x := ⟨_, List.getElem?_eq_getElem hlt⟩;obtain ⟨b, off, cs, rfl, hok, hr, hcl, hcv⟩ := (HR2.out.below HB.out) k x hx;have HD := hid (Pr.treeEL_drop hx);have HSX := hid (Pr.small_kid HSK.out hx);have hnk := Pr.nodes_kid hx;have HCV := hid hcv;have hone := hcv.one;have HL2 : Hid ((Tryz.prog.info? 36).map (·.size) = some cs.length) := hid (by rw [Aa, hcl]);have HL3 : Hid ((Tryz.prog.info? 36).map (·.size) = some cs.toArray.size) := hid (by rw [Aa, List.size_toArray, hcl]);have HSZ : Hid (zCn.size = cs.toArray.size) := hid (by show 4 = cs.toArray.size; rw [List.size_toArray, hcl]);clear hx hcv
     go_wp2_with (first
      | ((with_reducible refine wpList_load_mid rfl 36 _ rfl b (off + k * 4) ?_ cs _ hr Tryz.underlying36 ?_ HL2.out ?_); rfl; rfl)
      | ((with_reducible refine Ah rfl 36 _ _ rfl wr.heap.size cs.toArray ?_ ?_ 36 _ (Blk.new wr 36 _) HL3.out ?_ hone ?_); rfl; rfl; exact HSZ.out; intro w3 hk3 hs3 hbl3)
      | (refine wpList_load_row rfl 36 _ rfl wr.heap.size rfl 36 cs.toArray (0, 0) _ hk3 Tryz.underlying36 rfl HL3.out ?_))
     have HBR : Hid (Below wr.heap.size wr w3) := hid (((Below.refl _ wr).alloc (Nat.le_refl _) (.cells zCn 36)).trans (hbl3 wr.heap.size (Nat.le_refl _)));clear hk3 hs3 hbl3;refine (IH.out x cs.toArray w3 (by omega) HSX.out (HCV.out.bel HBR.out)).mono ?_;rintro e w4 ⟨rfl, hb4⟩;have HB4 := hid (HB.out.trans ((HBR.out.trans (hb4.mono HBR.out.size)).mono hws));clear hb4;have HDZ : Hid (Z = if Pr.treeE x ≠ 0 then Pr.treeE x else Pr.treeEL (ks.drop (k + 1))) := hid (by rw [← HSS.out, HD.out]);generalize Pr.treeE x = F at *;by_cases hF : F = 0
     ·subst hF;have HZ2 : Hid (Pr.treeEL (ks.drop (k + 1)) = Z) := hid (by rw [HDZ.out, if_neg (by simp)]);go_wp2_with fail
      go_roundw
      case rel => exact ⟨k + 1, hlt, by go_num, HZ2.out, HB4.out⟩
      case measure => simp [RowKit.intOf]; omega
     ·have HZ2 : Hid (Z = F) := hid (by rw [HDZ.out, if_pos hF]);have hFb : (F == 0) = false := beq_eq_false_iff_ne.2 hF;have hFn : (F != 0) = true := by rw [bne, hFb]; rfl
      clear hF;go_wp2_with fail;go_ret;exact ⟨congrArg (fun z => Ending.returned (.int .i64 z)) HZ2.out.symm, HB2.out.trans (HB4.out.mono HB2.out.size)⟩
    ·obtain rfl : k = ks.length := by omega
     have HZ2 : Hid (Z = 0) := hid (by rw [← HSS.out, List.drop_length]; rfl);go_wp2_with fail;go_ret;exact ⟨congrArg (fun z => Ending.returned (.int .i64 z)) HZ2.out.symm, HB2.out.trans (HB.out.mono HB2.out.size)⟩
  ·have HZ2 : Hid (Z = E) := hid (by rw [HTO.out, if_pos hE]);have hFb : (E == 0) = false := beq_eq_false_iff_ne.2 hE;have hFn : (E != 0) = true := by rw [bne, hFb]; rfl
   clear hE;go_wp2_with fail;go_ret;exact ⟨congrArg (fun z => Ending.returned (.int .i64 z)) HZ2.out.symm, HB2.out⟩
end Go.Proofs.YtchkiegehejfmaaGreatDoor
