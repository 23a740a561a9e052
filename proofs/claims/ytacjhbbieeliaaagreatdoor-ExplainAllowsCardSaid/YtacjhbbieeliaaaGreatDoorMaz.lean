/- The texts Ng, Ib, Ic, Nh, Ni of this proof, one behind the other. -/
import Derived.Test.YtacjhbbieeliaaaGreatDoorMay
import Derived.Test.YtacjhbbieeliaaaGreatDoorMar
import Derived.Test.YtacjhbbieeliaaaGreatDoorMau
set_option linter.unusedSimpArgs false
set_option maxHeartbeats 16000000
set_option maxRecDepth 100000
/- The text Ng. -/
namespace Go.Proofs.YtacjhbbieeliaaaGreatDoor
open Go.RowKit Go.Lib
set_option linter.unusedVariables false
set_option linter.unusedSimpArgs false
def restE (e : Co.Ev) (l : List Co.Ev) : Int :=
 if (e.key == e.sender) = true ∧ Co.memOf l e.key = 4 then 19
 else if Co.move (Co.memOf l e.key) e.n (e.key == e.sender) = false then 18
 else if e.key == e.sender then Co.selfE e l
 else Co.otherE e l
theorem lrow_w {ops : Array Oper} {rest : List Oper} {o : Oper} {a : Act} {w : World} {Q : Exit → Act → World → Prop} (hw : Region.wanted o (yielded ops a.tmps) = true) (ty : TypeId) (x : Operand) (ho : o.op = .load ty x)
  (g : Nat) (hx : a.eval x = .pointer (some ⟨g, 0, none⟩)) (t : TypeId) (cs : Array Value) (fr : Nat × Nat) (d : TypeDesc) (hd : (match d with | .struct _ | .array _ _ => true | _ => false) = true) (hg : w.heap[g]? = some (.cells cs t fr))
  (hu : Tryz.prog.underlying ty = some d) (hi : (Tryz.prog.info? ty).map (·.size) = some cs.size)
  (h : wpList Tryz.prog ops Q rest (a.put o.dst (.agg cs)) w) : wpList Tryz.prog ops Q (o :: rest) a w :=
 wpList_step fun K hK => by
  rw [if_pos hw]
  exact wp_load_row ty x ho g hx t cs fr d hg hu (by cases d <;> first | rfl | cases hd) hi (hK _ _ h)
theorem member1_any (ok : Nat → Prop) (e : Co.Ev) (l : List Co.Ev) (A : Option Addr) (cap LB EB : Nat) (X : List Value) (w : World) (hLB : Blk w LB 35 #[.slice A l.length cap]) (hEB : Blk w EB 34 X.toArray) (hX : EvV ok w X e) (h : EvRow ok w A l) (hl : l.length ≤ 1000000) (hs : ∀ x ∈ l, x.users.length ≤ 1000000 ∧ x.kinds.length ≤ 1000000) (hal : ∀ x ∈ l, x.allow.length ≤ 1000000) :
  Calls Tryz.prog 80 #[.pointer (some ⟨EB, 0, none⟩), .pointer (some ⟨LB, 0, none⟩)] w fun r w' => DecA (restE e l) r ∧ Below w.heap.size w w' := by
 have HM1 := hid (fun m => (memof_any ok l A cap e.key (w.drewN m) (h.bel (below_drewN (Below.refl _ _) m)) hl).mono (fun r w' (hq : _ ∧ _) => And.intro hq.1 hq.2.symm))
 have HM2 := hid (fun (u : List UInt8) (W : World) (hr : EvRow ok W A l) => memof_any ok l A cap u W hr hl)
 have HOWN := hid (fun (n now : Int) (W : World) (hr : EvRow ok W A l) => aown_any ok l A cap n now W hr hl hal)
 have HLO := hid (fun (W : World) (hr : EvRow ok W A l) => lvof_any ok l A cap W hr hl hs)
 have HLS := hid (lv_small hs)
 have HX := hid hX
 have HROW := hid h
 have hcl : w.cell? ⟨LB, 0, none⟩ = some (.slice A l.length cap) := hLB.cell 0
 have hc5 : w.cell? ⟨EB, 5, none⟩ = some (.string (bstr e.key)) := (hEB.cell 5).trans (by rw [List.getElem?_toArray]; exact hX.c5)
 have hc11 : w.cell? ⟨EB, 11, none⟩ = some (.int .i64 e.n) := (hEB.cell 11).trans (by rw [List.getElem?_toArray]; exact hX.c11)
 have hc2 : w.cell? ⟨EB, 2, none⟩ = some (.string (bstr e.sender)) := (hEB.cell 2).trans (by rw [List.getElem?_toArray]; exact hX.c2)
 have HLB := hid hLB
 have HEB := hid hEB
 obtain ⟨R, hR⟩ : ∃ R, R = restE e l := ⟨_, rfl⟩
 have HR : Hid (R = if (e.key == e.sender) = true ∧ Co.memOf l e.key = 4 then 19 else if Co.move (Co.memOf l e.key) e.n (e.key == e.sender) = false then 18 else if e.key == e.sender then Co.selfE e l else Co.otherE e l) := hid hR
 rw [← hR]
 clear hLB hEB hX h hs hal hR
 go_enter Tryz.func80, Tryz.ntmps80
 go_step3
 go_wp2_with fail
 go_quiet (exact Calls.quiet_of_same (HM1.out _))
 have HBW : Hid (Below w.heap.size w (w.drewN nq)) := hid (below_drewN (Below.refl w.heap.size w) nq)
 have hsd := str_dec e.key (bstr e.sender)
 rw [show (bstr e.sender).data.toList = e.sender from rfl] at hsd
 generalize hwq : w.drewN nq = w1 at *
 clear hwq hcl hc5 hc11 hc2
 have hcl : w1.cell? ⟨LB, 0, none⟩ = some (.slice A l.length cap) := (HLB.out.below HBW.out HLB.out.lt).cell 0
 have hc2 : w1.cell? ⟨EB, 2, none⟩ = some (.string (bstr e.sender)) := ((HEB.out.below HBW.out HEB.out.lt).cell 2).trans (by rw [List.getElem?_toArray]; exact HX.out.c2)
 have HMV := hid (fun (s : Bool) (W : World) => move_any (Co.memOf l e.key) e.n s W)
 have HOW := hid (HOWN.out e.n (Co.memOf l e.key))
 by_cases hself : e.key = e.sender
 ·rw [decide_eq_true hself] at hsd
  have HKS := hid (beq_iff_eq.2 hself)
  have HSE : Hid (Co.selfE e l = ownE e.n (Co.memOf l e.key) l) := hid rfl
  by_cases hban : Co.memOf l e.key = 4
  ·have HRES : Hid (R = 19) := hid (by rw [HR.out, if_pos ⟨HKS.out, hban⟩])
   have hb4 : (Co.memOf l e.key != 4) = false := neb_false hban
   clear hself hban
   generalize Co.memOf l e.key = NW at *
   go_wp2_with fail
   refine (need_no 19 _).mono ?_
   rintro r wx ⟨rfl, rfl⟩
   exact ⟨rfl, .inl (by rw [HRES.out]), HBW.out⟩
  ·have hb4 : (Co.memOf l e.key != 4) = true := neb_true hban
   have HR : Hid (R = if Co.move (Co.memOf l e.key) e.n true = false then 18 else ownE e.n (Co.memOf l e.key) l) := hid (by rw [HR.out, if_neg (fun h => hban h.2), HKS.out, HSE.out]; simp)
   clear hself hban HSE
   generalize hNW : Co.memOf l e.key = NW at *
   clear hNW
   go_wp2_with fail
   refine (need_yes 19 _).mono ?_
   rintro r wx ⟨rfl, rfl⟩
   go_wp2_with fail
   refine (HMV.out true _).mono ?_
   rintro r w2 ⟨rfl, hb2⟩
   have HBW := hid (HBW.out.trans (hb2.mono HBW.out.size))
   have hcl : w2.cell? ⟨LB, 0, none⟩ = some (.slice A l.length cap) := (HLB.out.below HBW.out HLB.out.lt).cell 0
   clear hb2
   cases hmv : Co.move NW e.n true with
   | false =>
    have HRES : Hid (R = 18) := hid (by rw [HR.out, if_pos hmv])
    clear hmv
    go_wp2_with fail
    refine (need_no 18 _).mono ?_
    rintro r wx ⟨rfl, rfl⟩
    exact ⟨rfl, .inl (by rw [HRES.out]), HBW.out⟩
   | true =>
    have HRES : Hid (R = ownE e.n NW l) := hid (by rw [HR.out, if_neg (by rw [hmv]; decide)])
    clear hmv HR
    go_wp2_with fail
    refine (need_yes 18 _).mono ?_
    rintro r wx ⟨rfl, rfl⟩
    go_wp2_with fail
    refine (HOW.out _ (HROW.out.bel HBW.out)).mono ?_
    rintro r w3 ⟨rfl, hb3⟩
    have HBW := hid (HBW.out.trans (hb3.mono HBW.out.size))
    clear hb3
    generalize ownE e.n NW l = OE at *
    go_wp2_with fail
    refine (decide_pan OE _).mono ?_
    rintro r w4 ⟨rfl, rfl⟩
    exact ⟨rfl, .inl (by rw [HRES.out]), HBW.out⟩
 ·rw [decide_eq_false hself] at hsd
  have HKS := hid (beq_eq_false_iff_ne.2 hself)
  have HR : Hid (R = if Co.move (Co.memOf l e.key) e.n false = false then 18 else Co.otherE e l) := hid (by rw [HR.out, if_neg (by rw [HKS.out]; simp), HKS.out]; simp)
  clear hself
  have hfn : (!false) = true := rfl
  go_wp2_with fail
  refine (need_yes 19 _).mono ?_
  rintro r wx ⟨rfl, rfl⟩
  go_wp2_with fail
  refine (HMV.out false _).mono ?_
  rintro r w2 ⟨rfl, hb2⟩
  have HBW := hid (HBW.out.trans (hb2.mono HBW.out.size))
  have hcl : w2.cell? ⟨LB, 0, none⟩ = some (.slice A l.length cap) := (HLB.out.below HBW.out HLB.out.lt).cell 0
  have hc2 : w2.cell? ⟨EB, 2, none⟩ = some (.string (bstr e.sender)) := ((HEB.out.below HBW.out HEB.out.lt).cell 2).trans (by rw [List.getElem?_toArray]; exact HX.out.c2)
  clear hb2
  cases hmv : Co.move (Co.memOf l e.key) e.n false with
  | false =>
   have HRES : Hid (R = 18) := hid (by rw [HR.out, if_pos hmv])
   clear hmv
   go_wp2_with fail
   refine (need_no 18 _).mono ?_
   rintro r wx ⟨rfl, rfl⟩
   exact ⟨rfl, .inl (by rw [HRES.out]), HBW.out⟩
  | true =>
   have HR : Hid (R = if Co.memOf l e.sender ≠ 3 then 18 else if e.n = 1 ∧ Co.userLv (Co.levelsOf l) e.sender < (Co.levelsOf l).li then 20 else if e.n = 0 ∧ ((Co.memOf l e.key = 4 ∧ Co.userLv (Co.levelsOf l) e.sender < (Co.levelsOf l).lb) ∨ Co.userLv (Co.levelsOf l) e.sender < (Co.levelsOf l).lk ∨ Co.userLv (Co.levelsOf l) e.sender ≤ Co.userLv (Co.levelsOf l) e.key) then 20 else if e.n = 4 ∧ (Co.userLv (Co.levelsOf l) e.sender < (Co.levelsOf l).lb ∨ Co.userLv (Co.levelsOf l) e.sender ≤ Co.userLv (Co.levelsOf l) e.key) then 20 else 0) := hid (by rw [HR.out, if_neg (by rw [hmv]; decide)]; rfl)
   clear hmv
   go_wp2_with fail
   refine (need_yes 18 _).mono ?_
   rintro r wx ⟨rfl, rfl⟩
   go_wp2_with fail
   refine (HM2.out e.sender _ (HROW.out.bel HBW.out)).mono ?_
   rintro r w3 ⟨rfl, rfl⟩
   by_cases hse : Co.memOf l e.sender = 3
   ·have hb3 : (Co.memOf l e.sender == 3) = true := eqb_true hse
    have HQ : Hid (R = if e.n = 1 ∧ Co.userLv (Co.levelsOf l) e.sender < (Co.levelsOf l).li then 20 else if e.n = 0 ∧ ((Co.memOf l e.key = 4 ∧ Co.userLv (Co.levelsOf l) e.sender < (Co.levelsOf l).lb) ∨ Co.userLv (Co.levelsOf l) e.sender < (Co.levelsOf l).lk ∨ Co.userLv (Co.levelsOf l) e.sender ≤ Co.userLv (Co.levelsOf l) e.key) then 20 else if e.n = 4 ∧ (Co.userLv (Co.levelsOf l) e.sender < (Co.levelsOf l).lb ∨ Co.userLv (Co.levelsOf l) e.sender ≤ Co.userLv (Co.levelsOf l) e.key) then 20 else 0) := hid (by rw [HR.out, if_neg (fun h => h hse)])
    clear hse
    generalize Co.memOf l e.sender = SE at *
    generalize hNW : Co.memOf l e.key = NW at *
    clear hNW
    go_wp2_with fail
    refine (need_yes 18 _).mono ?_
    rintro r wx ⟨rfl, rfl⟩
    go_wp2_with fail
    refine (HLO.out _ (HROW.out.bel HBW.out)).mono ?_
    rintro r w4 ⟨⟨Y, rfl, hY⟩, hb4⟩
    have HSY := hid (size_lvX hY)
    have HSZ : Hid (zLv.size = Y.toArray.size) := hid (by show 9 = Y.toArray.size; rw [List.size_toArray, hY.len])
    have HOV : Hid (Y.toArray.all (·.oneCell') = true) := hid (all_oneCell_toArray hY.one)
    have HNEW := hid (Blk.new w4 28 zLv)
    have hb5 := below_setRow (g := w4.heap.size) ((Below.refl w4.heap.size w4).alloc (Nat.le_refl _) (.cells zLv 28)) (Nat.le_refl _) Y.toArray
    have HY5 : Hid (Blk ((w4.alloc (.cells zLv 28)).setRow w4.heap.size Y.toArray) w4.heap.size 28 Y.toArray) := hid (setRow_heap _ _ _ _ _ _ HNEW.out)
    have HB45 := hid (hb4.trans (hb5.mono hb4.size))
    have HBW := hid (HBW.out.trans (HB45.out.mono HBW.out.size))
    have HV5 := hid (hY.bel hb5)
    have hc2 : ((w4.alloc (.cells zLv 28)).setRow w4.heap.size Y.toArray).cell? ⟨EB, 2, none⟩ = some (.string (bstr e.sender)) := ((HEB.out.below HBW.out HEB.out.lt).cell 2).trans (by rw [List.getElem?_toArray]; exact HX.out.c2)
    clear hb4 hb5 hcl
    obtain ⟨cu, ck, hYX, -, -⟩ := hY
    have HYX := hid hYX
    clear hYX
    generalize hw5 : (w4.alloc (.cells zLv 28)).setRow w4.heap.size Y.toArray = w5 at *
    go_upto_region 8 with ((with_reducible refine store_rowe rfl 28 _ _ rfl w4.heap.size Y.toArray ?_ ?_ 28 zLv HNEW.out HSY.out HSZ.out HOV.out ?_); rfl; rfl; rw [hw5])
    go_wp2_with (refine wpList_load_row rfl 28 _ rfl w4.heap.size rfl 28 Y.toArray (0, 0) _ HY5.out Tryz.underlying28 rfl HSY.out ?_)
    refine (lvuser_any _ (Co.levelsOf l) Y e.sender _ HV5.out HLS.out.1).mono ?_
    rintro r w6 ⟨rfl, hb6⟩
    have HBW := hid (HBW.out.trans (hb6.mono HBW.out.size))
    have HY6 := hid (HY5.out.below hb6 HY5.out.lt)
    have HV6 := hid (HV5.out.bel hb6)
    have hy5 : w6.cell? ⟨w4.heap.size, 5, none⟩ = some (.int .i64 (Co.levelsOf l).li) := (HY6.out.cell 5).trans (by rw [List.getElem?_toArray, HYX.out]; rfl)
    have hy6 : w6.cell? ⟨w4.heap.size, 6, none⟩ = some (.int .i64 (Co.levelsOf l).lk) := (HY6.out.cell 6).trans (by rw [List.getElem?_toArray, HYX.out]; rfl)
    have hy7 : w6.cell? ⟨w4.heap.size, 7, none⟩ = some (.int .i64 (Co.levelsOf l).lb) := (HY6.out.cell 7).trans (by rw [List.getElem?_toArray, HYX.out]; rfl)
    clear hb6 hc2
    obtain ⟨uk, huk⟩ : ∃ uk, Co.userLv (Co.levelsOf l) e.key = uk := ⟨_, rfl⟩
    have HUK := hid huk
    rw [huk] at HQ
    clear huk
    generalize Co.userLv (Co.levelsOf l) e.sender = ul at *
    generalize (Co.levelsOf l).li = li at *
    generalize (Co.levelsOf l).lk = lk at *
    generalize (Co.levelsOf l).lb = lb at *
    generalize e.n = nn at *
    go_wp2_with fail
    go_step3
    by_cases h1 : nn = 1
    ·subst h1
     by_cases hli : ul < li
     ·have hd_li : decide (li ≤ ul) = false := decide_eq_false (by omega)
      have HRES : Hid (R = 20) := hid (by rw [HQ.out]; (repeat' split) <;> first | rfl | (exfalso; (try simp only [true_and, and_true, false_and] at *); omega))
      go_wp2_with fail
      refine (need_no 20 _).mono ?_
      rintro r wx ⟨rfl, rfl⟩
      exact ⟨rfl, .inl (by rw [HRES.out]), HBW.out⟩
     ·have hd_li : decide (li ≤ ul) = true := decide_eq_true (by omega)
      have HRES : Hid (R = 0) := hid (by rw [HQ.out]; (repeat' split) <;> first | rfl | (exfalso; (try simp only [true_and, and_true, false_and] at *); omega))
      go_wp2_with fail
      refine (need_yes 20 _).mono ?_
      rintro r wx ⟨rfl, rfl⟩
      go_wp2_with fail
      try rw [Exit.noGoto_normal]
      go_end0
      exact ⟨.inr ⟨rfl, HRES.out⟩, HBW.out⟩
    by_cases h0 : nn = 0
    ·subst h0
     by_cases hnw : NW = 4
     ·have hb4 : (NW != 4) = false := neb_false hnw
      by_cases hlb : ul < lb
      ·have hd_lb : decide (lb ≤ ul) = false := decide_eq_false (by omega)
       have HRES : Hid (R = 20) := hid (by rw [HQ.out]; (repeat' split) <;> first | rfl | (exfalso; (try simp only [true_and, and_true, false_and] at *); omega))
       go_wp2_with fail
       refine (need_no 20 _).mono ?_
       rintro r wx ⟨rfl, rfl⟩
       exact ⟨rfl, .inl (by rw [HRES.out]), HBW.out⟩
      ·have hd_lb : decide (lb ≤ ul) = true := decide_eq_true (by omega)
       go_wp2_with fail
       refine (need_yes 20 _).mono ?_
       rintro r wx ⟨rfl, rfl⟩
       by_cases hlk : ul < lk
       ·have hd_lk : decide (lk ≤ ul) = false := decide_eq_false (by omega)
        have HRES : Hid (R = 20) := hid (by rw [HQ.out]; (repeat' split) <;> first | rfl | (exfalso; (try simp only [true_and, and_true, false_and] at *); omega))
        go_wp2_with fail
        refine (need_no 20 _).mono ?_
        rintro r wx ⟨rfl, rfl⟩
        exact ⟨rfl, .inl (by rw [HRES.out]), HBW.out⟩
       ·have hd_lk : decide (lk ≤ ul) = true := decide_eq_true (by omega)
        go_wp2_with (first | (refine lrow_w (by rfl) 28 _ rfl w4.heap.size rfl 28 Y.toArray (0, 0) _ (by rfl) HY6.out Tryz.underlying28 HSY.out ?_) | refine wpList_load_row rfl 28 _ rfl w4.heap.size rfl 28 Y.toArray (0, 0) _ HY6.out Tryz.underlying28 rfl HSY.out ?_)
        refine (lvuser_any _ (Co.levelsOf l) Y e.key _ HV6.out HLS.out.1).mono ?_
        rintro r w7 ⟨rfl, hb7⟩
        have HBW := hid (HBW.out.trans (hb7.mono HBW.out.size))
        clear hb7
        rw [HUK.out]
        by_cases hku : uk < ul
        ·have hdk : decide (uk < ul) = true := decide_eq_true hku
         have HRES : Hid (R = 0) := hid (by rw [HQ.out]; (repeat' split) <;> first | rfl | (exfalso; (try simp only [true_and, and_true, false_and] at *); omega))
         go_wp2_with fail
         refine (need_yes 20 _).mono ?_
         rintro r wx ⟨rfl, rfl⟩
         go_wp2_with fail
         try rw [Exit.noGoto_normal]
         go_end0
         exact ⟨.inr ⟨rfl, HRES.out⟩, HBW.out⟩
        ·have hdk : decide (uk < ul) = false := decide_eq_false hku
         have HRES : Hid (R = 20) := hid (by rw [HQ.out]; (repeat' split) <;> first | rfl | (exfalso; (try simp only [true_and, and_true, false_and] at *); omega))
         go_wp2_with fail
         refine (need_no 20 _).mono ?_
         rintro r wx ⟨rfl, rfl⟩
         exact ⟨rfl, .inl (by rw [HRES.out]), HBW.out⟩
     ·have hb4 : (NW != 4) = true := neb_true hnw
      go_wp2_with fail
      refine (need_yes 20 _).mono ?_
      rintro r wx ⟨rfl, rfl⟩
      by_cases hlk : ul < lk
      ·have hd_lk : decide (lk ≤ ul) = false := decide_eq_false (by omega)
       have HRES : Hid (R = 20) := hid (by rw [HQ.out]; (repeat' split) <;> first | rfl | (exfalso; (try simp only [true_and, and_true, false_and] at *); omega))
       go_wp2_with fail
       refine (need_no 20 _).mono ?_
       rintro r wx ⟨rfl, rfl⟩
       exact ⟨rfl, .inl (by rw [HRES.out]), HBW.out⟩
      ·have hd_lk : decide (lk ≤ ul) = true := decide_eq_true (by omega)
       go_wp2_with (first | (refine lrow_w (by rfl) 28 _ rfl w4.heap.size rfl 28 Y.toArray (0, 0) _ (by rfl) HY6.out Tryz.underlying28 HSY.out ?_) | refine wpList_load_row rfl 28 _ rfl w4.heap.size rfl 28 Y.toArray (0, 0) _ HY6.out Tryz.underlying28 rfl HSY.out ?_)
       refine (lvuser_any _ (Co.levelsOf l) Y e.key _ HV6.out HLS.out.1).mono ?_
       rintro r w7 ⟨rfl, hb7⟩
       have HBW := hid (HBW.out.trans (hb7.mono HBW.out.size))
       clear hb7
       rw [HUK.out]
       by_cases hku : uk < ul
       ·have hdk : decide (uk < ul) = true := decide_eq_true hku
        have HRES : Hid (R = 0) := hid (by rw [HQ.out]; (repeat' split) <;> first | rfl | (exfalso; (try simp only [true_and, and_true, false_and] at *); omega))
        go_wp2_with fail
        refine (need_yes 20 _).mono ?_
        rintro r wx ⟨rfl, rfl⟩
        go_wp2_with fail
        try rw [Exit.noGoto_normal]
        go_end0
        exact ⟨.inr ⟨rfl, HRES.out⟩, HBW.out⟩
       ·have hdk : decide (uk < ul) = false := decide_eq_false hku
        have HRES : Hid (R = 20) := hid (by rw [HQ.out]; (repeat' split) <;> first | rfl | (exfalso; (try simp only [true_and, and_true, false_and] at *); omega))
        go_wp2_with fail
        refine (need_no 20 _).mono ?_
        rintro r wx ⟨rfl, rfl⟩
        exact ⟨rfl, .inl (by rw [HRES.out]), HBW.out⟩
    by_cases h4 : nn = 4
    ·subst h4
     by_cases hlb : ul < lb
     ·have hd_lb : decide (lb ≤ ul) = false := decide_eq_false (by omega)
      have HRES : Hid (R = 20) := hid (by rw [HQ.out]; (repeat' split) <;> first | rfl | (exfalso; (try simp only [true_and, and_true, false_and] at *); omega))
      go_wp2_with fail
      refine (need_no 20 _).mono ?_
      rintro r wx ⟨rfl, rfl⟩
      exact ⟨rfl, .inl (by rw [HRES.out]), HBW.out⟩
     ·have hd_lb : decide (lb ≤ ul) = true := decide_eq_true (by omega)
      go_wp2_with (first | (refine lrow_w (by rfl) 28 _ rfl w4.heap.size rfl 28 Y.toArray (0, 0) _ (by rfl) HY6.out Tryz.underlying28 HSY.out ?_) | refine wpList_load_row rfl 28 _ rfl w4.heap.size rfl 28 Y.toArray (0, 0) _ HY6.out Tryz.underlying28 rfl HSY.out ?_)
      refine (lvuser_any _ (Co.levelsOf l) Y e.key _ HV6.out HLS.out.1).mono ?_
      rintro r w7 ⟨rfl, hb7⟩
      have HBW := hid (HBW.out.trans (hb7.mono HBW.out.size))
      clear hb7
      rw [HUK.out]
      by_cases hku : uk < ul
      ·have hdk : decide (uk < ul) = true := decide_eq_true hku
       have HRES : Hid (R = 0) := hid (by rw [HQ.out]; (repeat' split) <;> first | rfl | (exfalso; (try simp only [true_and, and_true, false_and] at *); omega))
       go_wp2_with fail
       refine (need_yes 20 _).mono ?_
       rintro r wx ⟨rfl, rfl⟩
       go_wp2_with fail
       try rw [Exit.noGoto_normal]
       go_end0
       exact ⟨.inr ⟨rfl, HRES.out⟩, HBW.out⟩
      ·have hdk : decide (uk < ul) = false := decide_eq_false hku
       have HRES : Hid (R = 20) := hid (by rw [HQ.out]; (repeat' split) <;> first | rfl | (exfalso; (try simp only [true_and, and_true, false_and] at *); omega))
       go_wp2_with fail
       refine (need_no 20 _).mono ?_
       rintro r wx ⟨rfl, rfl⟩
       exact ⟨rfl, .inl (by rw [HRES.out]), HBW.out⟩
    have HRES : Hid (R = 0) := hid (by rw [HQ.out]; (repeat' split) <;> first | rfl | (exfalso; (try simp only [true_and, and_true, false_and] at *); omega))
    have e1 := eqb_false h1
    have e0 := eqb_false h0
    have e4 := eqb_false h4
    clear h1 h0 h4
    go_wp2_with fail
    try rw [Exit.noGoto_normal]
    go_end0
    exact ⟨.inr ⟨rfl, HRES.out⟩, HBW.out⟩
   ·have hb3 : (Co.memOf l e.sender == 3) = false := eqb_false hse
    have HRES : Hid (R = 18) := hid (by rw [HR.out, if_pos hse])
    clear hse HR
    generalize Co.memOf l e.sender = SE at *
    go_wp2_with fail
    refine (need_no 18 _).mono ?_
    rintro r wx ⟨rfl, rfl⟩
    exact ⟨rfl, .inl (by rw [HRES.out]), HBW.out⟩
end Go.Proofs.YtacjhbbieeliaaaGreatDoor
/- The text Ib. -/
namespace Pr
theorem take_snoc {s : Str} {k : Nat} {c : UInt8} (h : s[k]? = some c) : s.take (k + 1) = s.take k ++ [c] := by
 obtain ⟨h1, h2⟩ := List.getElem?_eq_some_iff.1 h
 rw [List.take_succ_eq_append_getElem h1, h2]
end Pr
namespace Go.Proofs.YtacjhbbieeliaaaGreatDoor
open Go.RowKit Go.Lib
set_option linter.unusedVariables false
set_option linter.unusedSimpArgs false
theorem extract_drop (s : ByteArray) (k : Nat) : s.extract k s.size = bstr (s.data.toList.drop k) := str_eq (by rw [Lib.extract_to_end]; rfl)
theorem letter_any (n : Nat) (w : World) : Calls Tryz.prog 120 #[.int .u8 (n : Int)] w fun e w' => e = .returned (.bool (Pr.letterN n)) ∧ w = w' := by
 by_cases ha : 97 ≤ n
 ·by_cases hb : n ≤ 122
  ·have hx : ¬ n ≤ 57 := by omega
   have e : Pr.letterN n = true := by unfold Pr.letterN; rw [decide_eq_true (p := 97 ≤ n) (by omega), decide_eq_true (p := n ≤ 122) (by omega), decide_eq_true (p := 48 ≤ n) (by omega), decide_eq_false (p := n ≤ 57) (by omega)]; rfl
   rw [e]
   clear e
   have qa : decide ((97 : Int) ≤ (n : Int)) = true := decide_eq_true (by omega)
   have qb : decide ((n : Int) ≤ 122) = true := decide_eq_true (by omega)
   have qc : decide ((48 : Int) ≤ (n : Int)) = true := decide_eq_true (by omega)
   have qd : decide ((n : Int) ≤ 57) = false := decide_eq_false (by omega)
   go_enter Tryz.func120, Tryz.ntmps120
   go_wp2_with fail
   go_ret
   exact ⟨rfl, rfl⟩
  ·have hx : ¬ n ≤ 57 := by omega
   have e : Pr.letterN n = false := by unfold Pr.letterN; rw [decide_eq_true (p := 97 ≤ n) (by omega), decide_eq_false (p := n ≤ 122) (by omega), decide_eq_true (p := 48 ≤ n) (by omega), decide_eq_false (p := n ≤ 57) (by omega)]; rfl
   rw [e]
   clear e
   have qa : decide ((97 : Int) ≤ (n : Int)) = true := decide_eq_true (by omega)
   have qb : decide ((n : Int) ≤ 122) = false := decide_eq_false (by omega)
   have qc : decide ((48 : Int) ≤ (n : Int)) = true := decide_eq_true (by omega)
   have qd : decide ((n : Int) ≤ 57) = false := decide_eq_false (by omega)
   go_enter Tryz.func120, Tryz.ntmps120
   go_wp2_with fail
   go_ret
   exact ⟨rfl, rfl⟩
 ·have hx : n ≤ 122 := by omega
  by_cases hc : 48 ≤ n
  ·by_cases hd : n ≤ 57
   ·have e : Pr.letterN n = true := by unfold Pr.letterN; rw [decide_eq_false (p := 97 ≤ n) (by omega), decide_eq_true (p := n ≤ 122) (by omega), decide_eq_true (p := 48 ≤ n) (by omega), decide_eq_true (p := n ≤ 57) (by omega)]; rfl
    rw [e]
    clear e
    have qa : decide ((97 : Int) ≤ (n : Int)) = false := decide_eq_false (by omega)
    have qb : decide ((n : Int) ≤ 122) = true := decide_eq_true (by omega)
    have qc : decide ((48 : Int) ≤ (n : Int)) = true := decide_eq_true (by omega)
    have qd : decide ((n : Int) ≤ 57) = true := decide_eq_true (by omega)
    go_enter Tryz.func120, Tryz.ntmps120
    go_wp2_with fail
    go_ret
    exact ⟨rfl, rfl⟩
   ·have e : Pr.letterN n = false := by unfold Pr.letterN; rw [decide_eq_false (p := 97 ≤ n) (by omega), decide_eq_true (p := n ≤ 122) (by omega), decide_eq_true (p := 48 ≤ n) (by omega), decide_eq_false (p := n ≤ 57) (by omega)]; rfl
    rw [e]
    clear e
    have qa : decide ((97 : Int) ≤ (n : Int)) = false := decide_eq_false (by omega)
    have qb : decide ((n : Int) ≤ 122) = true := decide_eq_true (by omega)
    have qc : decide ((48 : Int) ≤ (n : Int)) = true := decide_eq_true (by omega)
    have qd : decide ((n : Int) ≤ 57) = false := decide_eq_false (by omega)
    go_enter Tryz.func120, Tryz.ntmps120
    go_wp2_with fail
    go_ret
    exact ⟨rfl, rfl⟩
  ·have e : Pr.letterN n = false := by unfold Pr.letterN; rw [decide_eq_false (p := 97 ≤ n) (by omega), decide_eq_true (p := n ≤ 122) (by omega), decide_eq_false (p := 48 ≤ n) (by omega), decide_eq_true (p := n ≤ 57) (by omega)]; rfl
   rw [e]
   clear e
   have qa : decide ((97 : Int) ≤ (n : Int)) = false := decide_eq_false (by omega)
   have qb : decide ((n : Int) ≤ 122) = true := decide_eq_true (by omega)
   have qc : decide ((48 : Int) ≤ (n : Int)) = false := decide_eq_false (by omega)
   have qd : decide ((n : Int) ≤ 57) = true := decide_eq_true (by omega)
   go_enter Tryz.func120, Tryz.ntmps120
   go_wp2_with fail
   go_ret
   exact ⟨rfl, rfl⟩
theorem loc1_any (n : Nat) (w : World) : Calls Tryz.prog 118 #[.int .u8 (n : Int)] w fun e w' => e = .returned (.bool (Pr.locN n)) ∧ w = w' := by
 by_cases h95 : n = 95
 ·subst h95
  rw [show Pr.locN 95 = true from rfl]
  go_enter Tryz.func118, Tryz.ntmps118
  go_wp2_with fail
  go_ret
  exact ⟨rfl, rfl⟩
 by_cases h46 : n = 46
 ·subst h46
  rw [show Pr.locN 46 = true from rfl]
  go_enter Tryz.func118, Tryz.ntmps118
  go_wp2_with fail
  go_ret
  exact ⟨rfl, rfl⟩
 by_cases h45 : n = 45
 ·subst h45
  rw [show Pr.locN 45 = true from rfl]
  go_enter Tryz.func118, Tryz.ntmps118
  go_wp2_with fail
  go_ret
  exact ⟨rfl, rfl⟩
 by_cases h61 : n = 61
 ·subst h61
  rw [show Pr.locN 61 = true from rfl]
  go_enter Tryz.func118, Tryz.ntmps118
  go_wp2_with fail
  go_ret
  exact ⟨rfl, rfl⟩
 have e : Pr.locN n = false := by unfold Pr.locN; simp [h95, h46, h45, h61]
 have d95 : ((n : Int) == 95) = false := by rw [beq_eq_false_iff_ne]; omega
 have d46 : ((n : Int) == 46) = false := by rw [beq_eq_false_iff_ne]; omega
 have d45 : ((n : Int) == 45) = false := by rw [beq_eq_false_iff_ne]; omega
 have d61 : ((n : Int) == 61) = false := by rw [beq_eq_false_iff_ne]; omega
 rw [e]
 clear e h95 h46 h45 h61
 go_enter Tryz.func118, Tryz.ntmps118
 go_wp2_with fail
 go_ret
 exact ⟨rfl, rfl⟩
theorem srv1_any (n : Nat) (w : World) : Calls Tryz.prog 119 #[.int .u8 (n : Int)] w fun e w' => e = .returned (.bool (Pr.srvN n)) ∧ w = w' := by
 by_cases h46 : n = 46
 ·subst h46
  rw [show Pr.srvN 46 = true from rfl]
  go_enter Tryz.func119, Tryz.ntmps119
  go_wp2_with fail
  go_ret
  exact ⟨rfl, rfl⟩
 by_cases h45 : n = 45
 ·subst h45
  rw [show Pr.srvN 45 = true from rfl]
  go_enter Tryz.func119, Tryz.ntmps119
  go_wp2_with fail
  go_ret
  exact ⟨rfl, rfl⟩
 have e : Pr.srvN n = false := by unfold Pr.srvN; simp [h46, h45]
 have d46 : ((n : Int) == 46) = false := by rw [beq_eq_false_iff_ne]; omega
 have d45 : ((n : Int) == 45) = false := by rw [beq_eq_false_iff_ne]; omega
 rw [e]
 clear e h46 h45
 go_enter Tryz.func119, Tryz.ntmps119
 go_wp2_with fail
 go_ret
 exact ⟨rfl, rfl⟩
theorem valid_loc (S : ByteArray) (w : World) (hs : S.size ≤ 1000000) : Calls Tryz.prog 117 #[.string S, .func (.func 118) #[] #[]] w fun e w' => e = .returned (.bool (Pr.validL Pr.locN S.data.toList)) ∧ w = w' := by
 have HAT := hid (at_str S)
 have hsz : S.data.toList.length = S.size := (str_size S).symm
 have HO := hid (fun n W => loc1_any n W)
 have HLE := hid (fun n W => letter_any n W)
 generalize hLL : S.data.toList = L at *
 clear hLL
 by_cases h1 : S.size < 1
 ·have e : Pr.validL Pr.locN L = false := by unfold Pr.validL; rw [decide_eq_false (by omega)]; rfl
  rw [e]
  have hq : S.size = 0 := by omega
  clear e
  go_enter Tryz.func117, Tryz.ntmps117
  go_wp2_with fail
  go_ret
  exact ⟨rfl, rfl⟩
 by_cases h2 : 32 < S.size
 ·have e : Pr.validL Pr.locN L = false := by unfold Pr.validL; rw [decide_eq_false (p := L.length ≤ 32) (by omega)]; simp
  rw [e]
  clear e
  go_enter Tryz.func117, Tryz.ntmps117
  go_wp2_with fail
  go_ret
  exact ⟨rfl, rfl⟩
 have e : Pr.validL Pr.locN L = L.all fun c => Pr.letterN c.toNat || Pr.locN c.toNat := by unfold Pr.validL; rw [decide_eq_true (p := 1 ≤ L.length) (by omega), decide_eq_true (p := L.length ≤ 32) (by omega)]; rfl
 rw [e]
 clear e
 obtain ⟨p, hp⟩ : ∃ p : UInt8 → Bool, (fun c : UInt8 => Pr.letterN c.toNat || Pr.locN c.toNat) = p := ⟨_, rfl⟩
 rw [hp]
 obtain ⟨R, hR⟩ : ∃ R, L.all p = R := ⟨_, rfl⟩
 rw [hR]
 have HR := hid hR
 have HP : Hid (∀ c, p c = (Pr.letterN c.toNat || Pr.locN c.toNat)) := hid (fun c => by rw [← hp])
 clear hR hp
 go_enter Tryz.func117, Tryz.ntmps117
 go_wp2_with fail
 go_loopw [16] (fun ix wr => ∃ k : Nat, k ≤ S.size ∧ ix = .int .i64 k ∧ w = wr ∧ Hid (∀ c ∈ L.take k, p c = true)) (fun ix _ => S.size - (RowKit.intOf ix).toNat)
 case atStart => exact ⟨0, Nat.zero_le _, rfl, rfl, hid (fun c h => by simp at h)⟩
 case round =>
  obtain ⟨k, hk, rfl, rfl, hall⟩ := hrel
  by_cases hlt : k < S.size
  ·have hch := HP.out S[k]
   have HN0 : Hid (p S[k] = true → Hid (∀ c ∈ L.take (k + 1), p c = true)) := hid (fun hn => hid fun c hc => by
    rw [Pr.take_snoc (HAT.out k hlt)] at hc
    rcases List.mem_append.1 hc with hc | hc
    ·exact hall.out c hc
    ·rw [List.mem_singleton.1 hc]; exact hn)
   have HF0 : Hid (p S[k] = false → R = false) := hid (fun hn => by rw [← HR.out]; exact Pr.all_fail (HAT.out k hlt) hn)
   have HL := hid (HLE.out (S[k]).toNat)
   have HJ := hid (HO.out (S[k]).toNat)
   have hc2 := (S[k]).toNat_lt
   rcases Bool.eq_false_or_eq_true (Pr.letterN (S[k]).toNat) with hl | hl
   ·have HN := HN0.out (by rw [hch, hl]; rfl)
    rw [hl] at HL
    clear hch hl
    go_wp2_with (go_at_call 120; refine (HL.out _).mono ?_; rintro e w2 ⟨rfl, rfl⟩)
    go_roundw
    case rel => exact ⟨k + 1, by omega, by go_num, by trivial, HN⟩
    case measure => simp [RowKit.intOf]; omega
   ·rw [hl] at HL
    rcases Bool.eq_false_or_eq_true (Pr.locN (S[k]).toNat) with hj | hj
    ·have HN := HN0.out (by rw [hch, hj]; simp)
     rw [hj] at HJ
     clear hch hl hj
     go_wp2_with (go_at_call 120; refine (HL.out _).mono ?_; rintro e w2 ⟨rfl, rfl⟩)
     refine (HJ.out _).mono ?_
     rintro e w2 ⟨rfl, rfl⟩
     go_wp2_with fail
     go_roundw
     case rel => exact ⟨k + 1, by omega, by go_num, by trivial, HN⟩
     case measure => simp [RowKit.intOf]; omega
    ·have HF := hid (HF0.out (by rw [hch, hl, hj]; rfl))
     rw [hj] at HJ
     clear hch hl hj
     go_wp2_with (go_at_call 120; refine (HL.out _).mono ?_; rintro e w2 ⟨rfl, rfl⟩)
     refine (HJ.out _).mono ?_
     rintro e w2 ⟨rfl, rfl⟩
     go_wp2_with fail
     go_ret
     exact ⟨congrArg (fun b => Ending.returned (.bool b)) HF.out.symm, by trivial⟩
  ·obtain rfl : k = S.size := by omega
   have HE : Hid (R = true) := hid (by rw [← HR.out]; exact Pr.all_done (by rw [hsz]; exact hall.out))
   go_wp2_with fail
   go_ret
   exact ⟨congrArg (fun b => Ending.returned (.bool b)) HE.out.symm, by trivial⟩
theorem valid_srv (S : ByteArray) (w : World) (hs : S.size ≤ 1000000) : Calls Tryz.prog 117 #[.string S, .func (.func 119) #[] #[]] w fun e w' => e = .returned (.bool (Pr.validL Pr.srvN S.data.toList)) ∧ w = w' := by
 have HAT := hid (at_str S)
 have hsz : S.data.toList.length = S.size := (str_size S).symm
 have HO := hid (fun n W => srv1_any n W)
 have HLE := hid (fun n W => letter_any n W)
 generalize hLL : S.data.toList = L at *
 clear hLL
 by_cases h1 : S.size < 1
 ·have e : Pr.validL Pr.srvN L = false := by unfold Pr.validL; rw [decide_eq_false (by omega)]; rfl
  rw [e]
  have hq : S.size = 0 := by omega
  clear e
  go_enter Tryz.func117, Tryz.ntmps117
  go_wp2_with fail
  go_ret
  exact ⟨rfl, rfl⟩
 by_cases h2 : 32 < S.size
 ·have e : Pr.validL Pr.srvN L = false := by unfold Pr.validL; rw [decide_eq_false (p := L.length ≤ 32) (by omega)]; simp
  rw [e]
  clear e
  go_enter Tryz.func117, Tryz.ntmps117
  go_wp2_with fail
  go_ret
  exact ⟨rfl, rfl⟩
 have e : Pr.validL Pr.srvN L = L.all fun c => Pr.letterN c.toNat || Pr.srvN c.toNat := by unfold Pr.validL; rw [decide_eq_true (p := 1 ≤ L.length) (by omega), decide_eq_true (p := L.length ≤ 32) (by omega)]; rfl
 rw [e]
 clear e
 obtain ⟨p, hp⟩ : ∃ p : UInt8 → Bool, (fun c : UInt8 => Pr.letterN c.toNat || Pr.srvN c.toNat) = p := ⟨_, rfl⟩
 rw [hp]
 obtain ⟨R, hR⟩ : ∃ R, L.all p = R := ⟨_, rfl⟩
 rw [hR]
 have HR := hid hR
 have HP : Hid (∀ c, p c = (Pr.letterN c.toNat || Pr.srvN c.toNat)) := hid (fun c => by rw [← hp])
 clear hR hp
 go_enter Tryz.func117, Tryz.ntmps117
 go_wp2_with fail
 go_loopw [16] (fun ix wr => ∃ k : Nat, k ≤ S.size ∧ ix = .int .i64 k ∧ w = wr ∧ Hid (∀ c ∈ L.take k, p c = true)) (fun ix _ => S.size - (RowKit.intOf ix).toNat)
 case atStart => exact ⟨0, Nat.zero_le _, rfl, rfl, hid (fun c h => by simp at h)⟩
 case round =>
  obtain ⟨k, hk, rfl, rfl, hall⟩ := hrel
  by_cases hlt : k < S.size
  ·have hch := HP.out S[k]
   have HN0 : Hid (p S[k] = true → Hid (∀ c ∈ L.take (k + 1), p c = true)) := hid (fun hn => hid fun c hc => by
    rw [Pr.take_snoc (HAT.out k hlt)] at hc
    rcases List.mem_append.1 hc with hc | hc
    ·exact hall.out c hc
    ·rw [List.mem_singleton.1 hc]; exact hn)
   have HF0 : Hid (p S[k] = false → R = false) := hid (fun hn => by rw [← HR.out]; exact Pr.all_fail (HAT.out k hlt) hn)
   have HL := hid (HLE.out (S[k]).toNat)
   have HJ := hid (HO.out (S[k]).toNat)
   have hc2 := (S[k]).toNat_lt
   rcases Bool.eq_false_or_eq_true (Pr.letterN (S[k]).toNat) with hl | hl
   ·have HN := HN0.out (by rw [hch, hl]; rfl)
    rw [hl] at HL
    clear hch hl
    go_wp2_with (go_at_call 120; refine (HL.out _).mono ?_; rintro e w2 ⟨rfl, rfl⟩)
    go_roundw
    case rel => exact ⟨k + 1, by omega, by go_num, by trivial, HN⟩
    case measure => simp [RowKit.intOf]; omega
   ·rw [hl] at HL
    rcases Bool.eq_false_or_eq_true (Pr.srvN (S[k]).toNat) with hj | hj
    ·have HN := HN0.out (by rw [hch, hj]; simp)
     rw [hj] at HJ
     clear hch hl hj
     go_wp2_with (go_at_call 120; refine (HL.out _).mono ?_; rintro e w2 ⟨rfl, rfl⟩)
     refine (HJ.out _).mono ?_
     rintro e w2 ⟨rfl, rfl⟩
     go_wp2_with fail
     go_roundw
     case rel => exact ⟨k + 1, by omega, by go_num, by trivial, HN⟩
     case measure => simp [RowKit.intOf]; omega
    ·have HF := hid (HF0.out (by rw [hch, hl, hj]; rfl))
     rw [hj] at HJ
     clear hch hl hj
     go_wp2_with (go_at_call 120; refine (HL.out _).mono ?_; rintro e w2 ⟨rfl, rfl⟩)
     refine (HJ.out _).mono ?_
     rintro e w2 ⟨rfl, rfl⟩
     go_wp2_with fail
     go_ret
     exact ⟨congrArg (fun b => Ending.returned (.bool b)) HF.out.symm, by trivial⟩
  ·obtain rfl : k = S.size := by omega
   have HE : Hid (R = true) := hid (by rw [← HR.out]; exact Pr.all_done (by rw [hsz]; exact hall.out))
   go_wp2_with fail
   go_ret
   exact ⟨congrArg (fun b => Ending.returned (.bool b)) HE.out.symm, by trivial⟩
theorem local_any (S : ByteArray) (w : World) (hs : S.size ≤ 1000000) : Calls Tryz.prog 83 #[.string S] w fun e w' => e = .returned (.bool (Pr.localL S.data.toList)) ∧ w = w' := by
 have HV := hid (valid_loc S w hs)
 unfold Pr.localL
 go_enter Tryz.func83, Tryz.ntmps83
 go_wp2_with (go_at_call 117; refine HV.out.mono ?_; rintro e w2 ⟨rfl, rfl⟩)
 go_ret
 exact ⟨rfl, rfl⟩
theorem server_any (S : ByteArray) (w : World) (hs : S.size ≤ 1000000) : Calls Tryz.prog 84 #[.string S] w fun e w' => e = .returned (.bool (Pr.serverL S.data.toList)) ∧ w = w' := by
 have HV := hid (valid_srv S w hs)
 have hsz : S.data.toList.length = S.size := (str_size S).symm
 obtain ⟨B, hB⟩ : ∃ B, Pr.validL Pr.srvN S.data.toList = B := ⟨_, rfl⟩
 rw [hB] at HV
 cases B
 ·have e : Pr.serverL S.data.toList = false := by unfold Pr.serverL; rw [hB]; rfl
  rw [e]
  clear e hB
  go_enter Tryz.func84, Tryz.ntmps84
  go_wp2_with (go_at_call 117; refine HV.out.mono ?_; rintro e w2 ⟨rfl, rfl⟩)
  go_ret
  exact ⟨rfl, rfl⟩
 ·have h1 : 1 ≤ S.size := by
   unfold Pr.validL at hB
   rw [Bool.and_eq_true, decide_eq_true_eq] at hB
   omega
  have hf : S.data.toList.headD 0 = S[0] := by
   have h0 := at_str S 0 (by omega)
   cases hl : S.data.toList with
   | nil => rw [hl] at h0; cases h0
   | cons c r => rw [hl] at h0; injection h0
  have hg : S.data.toList.getLastD 0 = S[S.size - 1] := by
   have h0 := at_str S (S.size - 1) (by omega)
   rw [List.getLastD_eq_getLast?, List.getLast?_eq_getElem?, hsz, h0]
   rfl
  have e : Pr.serverL S.data.toList = (Pr.letterN (S[0]).toNat && Pr.letterN (S[S.size - 1]).toNat) := by unfold Pr.serverL; rw [hB, hf, hg]; rfl
  rw [e]
  clear e hB hf hg
  have HL0 := hid (letter_any (S[0]).toNat)
  have HL1 := hid (letter_any (S[S.size - 1]).toNat)
  have hlast : S.size - 1 < S.size := by omega
  generalize hn0 : (S[0]).toNat = n0 at *
  generalize hn1 : (S[S.size - 1]).toNat = n1 at *
  have hw1 : IntKind.i64.wrap ((S.size : Int) - 1) = ((S.size - 1 : Nat) : Int) := by rw [IntWalk.i64_in _ (by omega)]; omega
  rcases Bool.eq_false_or_eq_true (Pr.letterN n0) with h0 | h0
  ·rw [h0] at HL0 ⊢
   generalize Pr.letterN n1 = b1 at *
   clear h0
   go_enter Tryz.func84, Tryz.ntmps84
   go_wp2_with (first
    | (go_at_call 117; refine HV.out.mono ?_; rintro e w2 ⟨rfl, rfl⟩)
    | (go_at_call_of 120 (Value.int .u8 (n0 : Int)); refine (HL0.out _).mono ?_; rintro e w2 ⟨rfl, rfl⟩)
    | (go_at_call_of 120 (Value.int .u8 (n1 : Int)); refine (HL1.out _).mono ?_; rintro e w2 ⟨rfl, rfl⟩))
   go_ret
   exact ⟨by simp, rfl⟩
  ·rw [h0] at HL0 ⊢
   clear h0
   go_enter Tryz.func84, Tryz.ntmps84
   go_wp2_with (first
    | (go_at_call 117; refine HV.out.mono ?_; rintro e w2 ⟨rfl, rfl⟩)
    | (go_at_call 120; refine (HL0.out _).mono ?_; rintro e w2 ⟨rfl, rfl⟩))
   go_ret
   exact ⟨rfl, rfl⟩
end Go.Proofs.YtacjhbbieeliaaaGreatDoor
/- The text Ic. -/
namespace Pr
def fstS (x : Option (Str × Str)) : Str := match x with
 | some p => p.1
 | none => []
def sndS (x : Option (Str × Str)) : Str := match x with
 | some p => p.2
 | none => []
theorem index_in : ∀ (ms : Str) (c : UInt8), (ms.contains c = true → 0 ≤ Go.Lib.indexByte ms c) ∧ (ms.contains c = false → Go.Lib.indexByte ms c = -1)
 | [], c => ⟨fun h => by simp at h, fun _ => rfl⟩
 | b :: l, c => by
  have ih := index_in l c
  unfold Go.Lib.indexByte
  by_cases h : b = c
  ·subst h
   simp
  ·have hb : (b == c) = false := beq_eq_false_iff_ne.2 h
   have hb2 : (c == b) = false := beq_eq_false_iff_ne.2 (Ne.symm h)
   rw [hb, List.contains_cons, hb2, Bool.false_or]
   refine ⟨fun h1 => ?_, fun h1 => ?_⟩
   ·have := ih.1 h1
    have e : (Go.Lib.indexByte l c == -1) = false := by rw [beq_eq_false_iff_ne]; omega
    simp [e]
    omega
   ·rw [ih.2 h1]
    rfl
theorem split_empty (ms : Str) : splitP ms [] = none := rfl
theorem split_mark {ms : Str} {c : UInt8} {r : Str} (h : ms.contains c = false) : splitP ms (c :: r) = none := by simp only [splitP, h, Bool.false_eq_true, if_true, if_false]
theorem split_cut {ms : Str} {c : UInt8} {r : Str} (h : ms.contains c = true) (h2 : cutC r = none) : splitP ms (c :: r) = none := by simp only [splitP, h, h2, Bool.false_eq_true, if_true, if_false]
theorem split_bad {ms : Str} {c : UInt8} {r a b : Str} (h : ms.contains c = true) (h2 : cutC r = some (a, b)) (h3 : (localL a && serverL b) = false) : splitP ms (c :: r) = none := by simp only [splitP, h, h2, h3, Bool.false_eq_true, if_true, if_false]
theorem split_good {ms : Str} {c : UInt8} {r a b : Str} (h : ms.contains c = true) (h2 : cutC r = some (a, b)) (h3 : (localL a && serverL b) = true) : splitP ms (c :: r) = some (a, b) := by simp only [splitP, h, h2, h3, Bool.false_eq_true, if_true, if_false]
end Pr
namespace Go.Proofs.YtacjhbbieeliaaaGreatDoor
open Go.RowKit Go.Lib
set_option linter.unusedVariables false
set_option linter.unusedSimpArgs false
theorem split_any (M S : ByteArray) (m : Int) (w : World) (hs : S.size ≤ 1000000) (hm : w.cell? ⟨0, 0, none⟩ = some (.int .i64 m)) :
  Calls Tryz.prog 43 #[.string S, .string M] w fun e w' => e = .returned (.tuple #[.string (bstr (Pr.fstS (Pr.splitP M.data.toList S.data.toList))), .string (bstr (Pr.sndS (Pr.splitP M.data.toList S.data.toList))), .bool (Pr.splitP M.data.toList S.data.toList).isSome]) ∧ Below w.heap.size w w' := by
 have hsz : S.data.toList.length = S.size := (str_size S).symm
 by_cases h0 : S.size = 0
 ·have e : S = ⟨#[]⟩ := by
   have : S.data.toList = [] := List.eq_nil_of_length_eq_zero (by omega)
   cases S with | mk d => cases d with | mk l => exact congrArg (fun l => (⟨⟨l⟩⟩ : ByteArray)) this
  subst e
  rw [show Pr.splitP M.data.toList (⟨#[]⟩ : ByteArray).data.toList = none from rfl]
  clear h0 hsz hs
  go_enter Tryz.func43, Tryz.ntmps43
  go_wp2_with fail
  go_ret3
  exact ⟨rfl, Below.refl _ _⟩
 have hne0 : S.toList ≠ [] := fun h => by
  rw [Lib.toList_data] at h
  rw [h] at hsz
  simp at hsz
  omega
 have hne : S.toList.isEmpty = false := by
  cases hl : S.toList with
  | nil => exact absurd hl hne0
  | cons c r => rfl
 have hne2 : (S.toList == []) = false := beq_eq_false_iff_ne.2 hne0
 clear hne0
 have h1 : 0 < S.size := by omega
 obtain ⟨c, r, hcr⟩ : ∃ c r, S.data.toList = c :: r := by
  cases hl : S.data.toList with
  | nil => rw [hl] at hsz; simp at hsz; omega
  | cons c r => exact ⟨c, r, rfl⟩
 have hcS : S[0] = c := by
  have h2 := at_str S 0 h1
  rw [hcr] at h2
  injection h2 with h2
  exact h2.symm
 have hrS : (S.extract 1 S.size).data.toList = r := by
  rw [extract_drop, hcr]
  rfl
 rw [hcr]
 have hix := Pr.index_in M.data.toList c
 have HIB := hid (Tryz.strings_IndexByte M (c.toNat : Int))
 rw [show ((c.toNat : Int)).toNat.toUInt8 = c by simp] at HIB
 generalize hn0 : (S[0]).toNat = n0 at *
 have hn1 : c.toNat = n0 := by rw [← hn0, hcS]
 rw [hn1] at HIB
 clear hn1 hcS
 rcases Bool.eq_false_or_eq_true (M.data.toList.contains c) with hmc | hmc
 ·have hge := hix.1 hmc
  generalize Go.Lib.indexByte M.data.toList c = ii at *
  clear hix
  have hii : ¬ ii < 0 := by omega
  have hxs : (S.extract 1 S.size).size < 4294967281 := by rw [ByteArray.size_extract]; omega
  have HCU := hid (fun w hm => Tryz.strings_Cut (S.extract 1 S.size) ⟨#[58]⟩ m w hxs hm)
  rw [hrS, show (⟨#[58]⟩ : ByteArray).data.toList = [58] from rfl, Pr.lib_cut] at HCU
  have hrl : r.length ≤ 1000000 := by have := congrArg List.length hcr; simp at this; omega
  cases hcut : Pr.cutC r with
  | none =>
   rw [hcut] at HCU
   rw [Pr.split_cut hmc hcut]
   clear hcut hmc hcr
   go_enter Tryz.func43, Tryz.ntmps43
   go_wp2_with (first
    | (go_at_call 82; refine (HIB.out _).mono ?_; rintro e w2 ⟨rfl, rfl⟩)
    | (go_at_call 68; refine (HCU.out _ hm).mono ?_; rintro e w2 ⟨rfl, nn, rfl⟩))
   go_ret3
   exact ⟨rfl, below_drewN (Below.refl _ _) _⟩
  | some p =>
   obtain ⟨a, b⟩ := p
   rw [hcut] at HCU
   have hab := Pr.cutC_len r a b hcut
   have HLO := hid (fun w => local_any (bstr a) w (by rw [bstr_size]; omega))
   have HSV := hid (fun w => server_any (bstr b) w (by rw [bstr_size]; omega))
   rw [bstr_list] at HLO HSV
   rcases Bool.eq_false_or_eq_true (Pr.localL a) with hla | hla
   ·rcases Bool.eq_false_or_eq_true (Pr.serverL b) with hsb | hsb
    ·rw [Pr.split_good hmc hcut (by rw [hla, hsb]; rfl)]
     rw [hla] at HLO
     rw [hsb] at HSV
     clear hcut hmc hcr hla hsb
     go_enter Tryz.func43, Tryz.ntmps43
     go_wp2_with (first
      | (go_at_call 82; refine (HIB.out _).mono ?_; rintro e w2 ⟨rfl, rfl⟩)
      | (go_at_call 68; refine (HCU.out _ hm).mono ?_; rintro e w2 ⟨rfl, nn, rfl⟩)
      | (go_at_call 83; refine (HLO.out _).mono ?_; rintro e w3 ⟨rfl, rfl⟩)
      | (go_at_call 84; refine (HSV.out _).mono ?_; rintro e w4 ⟨rfl, rfl⟩))
     go_ret3
     exact ⟨rfl, below_drewN (Below.refl _ _) _⟩
    ·rw [Pr.split_bad hmc hcut (by rw [hla, hsb]; rfl)]
     rw [hla] at HLO
     rw [hsb] at HSV
     clear hcut hmc hcr hla hsb
     go_enter Tryz.func43, Tryz.ntmps43
     go_wp2_with (first
      | (go_at_call 82; refine (HIB.out _).mono ?_; rintro e w2 ⟨rfl, rfl⟩)
      | (go_at_call 68; refine (HCU.out _ hm).mono ?_; rintro e w2 ⟨rfl, nn, rfl⟩)
      | (go_at_call 83; refine (HLO.out _).mono ?_; rintro e w3 ⟨rfl, rfl⟩)
      | (go_at_call 84; refine (HSV.out _).mono ?_; rintro e w4 ⟨rfl, rfl⟩))
     go_ret3
     exact ⟨rfl, below_drewN (Below.refl _ _) _⟩
   ·rw [Pr.split_bad hmc hcut (by rw [hla]; rfl)]
    rw [hla] at HLO
    clear hcut hmc hcr hla
    go_enter Tryz.func43, Tryz.ntmps43
    go_wp2_with (first
     | (go_at_call 82; refine (HIB.out _).mono ?_; rintro e w2 ⟨rfl, rfl⟩)
     | (go_at_call 68; refine (HCU.out _ hm).mono ?_; rintro e w2 ⟨rfl, nn, rfl⟩)
     | (go_at_call 83; refine (HLO.out _).mono ?_; rintro e w3 ⟨rfl, rfl⟩)
     | (go_at_call 84; refine (HSV.out _).mono ?_; rintro e w4 ⟨rfl, rfl⟩))
    go_ret3
    exact ⟨rfl, below_drewN (Below.refl _ _) _⟩
 ·have hge := hix.2 hmc
  rw [hge] at HIB
  rw [Pr.split_mark hmc]
  clear hix hmc hcr hge
  go_enter Tryz.func43, Tryz.ntmps43
  go_wp2_with (go_at_call 82; refine (HIB.out _).mono ?_; rintro e w2 ⟨rfl, rfl⟩)
  go_ret3
  exact ⟨rfl, Below.refl _ _⟩
theorem ident_any (M S : ByteArray) (m : Int) (w : World) (hs : S.size ≤ 1000000) (hm : w.cell? ⟨0, 0, none⟩ = some (.int .i64 m)) :
  Calls Tryz.prog 215 #[.string S, .string M] w fun e w' => e = .returned (.int .i64 (if (Pr.splitP M.data.toList S.data.toList).isSome then 0 else 3)) ∧ Below w.heap.size w w' := by
 have HSP := hid (split_any M S m w hs hm)
 rcases Bool.eq_false_or_eq_true (Pr.splitP M.data.toList S.data.toList).isSome with h | h
 ·rw [h] at HSP ⊢
  rw [if_pos rfl]
  clear h
  go_enter Tryz.func215, Tryz.ntmps215
  go_wp2_with (go_at_call 43; refine HSP.out.mono ?_; rintro e w2 ⟨rfl, hb⟩)
  go_ret
  exact ⟨rfl, hb⟩
 ·rw [h] at HSP ⊢
  rw [if_neg (by decide)]
  clear h
  go_enter Tryz.func215, Tryz.ntmps215
  go_wp2_with (go_at_call 43; refine HSP.out.mono ?_; rintro e w2 ⟨rfl, hb⟩)
  go_ret
  exact ⟨rfl, hb⟩
theorem user_any (S : ByteArray) (m : Int) (w : World) (hs : S.size ≤ 1000000) (hm : w.cell? ⟨0, 0, none⟩ = some (.int .i64 m)) :
  Calls Tryz.prog 189 #[.string S] w fun e w' => e = .returned (.int .i64 (Pr.userE S.data.toList)) ∧ Below w.heap.size w w' := by
 have HSP := hid (ident_any ⟨#[64]⟩ S m w hs hm)
 have e : (if (Pr.splitP (⟨#[64]⟩ : ByteArray).data.toList S.data.toList).isSome then (0 : Int) else 3) = Pr.userE S.data.toList := rfl
 rw [e] at HSP
 generalize Pr.userE S.data.toList = X at *
 clear e
 go_enter Tryz.func189, Tryz.ntmps189
 go_wp2_with (go_at_call 215; refine HSP.out.mono ?_; rintro e w2 ⟨rfl, hb⟩)
 go_ret
 exact ⟨rfl, hb⟩
theorem serverof_any (S : ByteArray) (m : Int) (w : World) (hs : S.size ≤ 1000000) (hm : w.cell? ⟨0, 0, none⟩ = some (.int .i64 m)) :
  Calls Tryz.prog 16 #[.string S] w fun e w' => e = .returned (.string (bstr (Pr.serverOf S.data.toList))) ∧ Below w.heap.size w w' := by
 have HSP := hid (split_any ⟨#[64, 33]⟩ S m w hs hm)
 have e : Pr.sndS (Pr.splitP (⟨#[64, 33]⟩ : ByteArray).data.toList S.data.toList) = Pr.serverOf S.data.toList := by
  unfold Pr.serverOf
  rw [show (⟨#[64, 33]⟩ : ByteArray).data.toList = [64, 33] from rfl]
  cases Pr.splitP [64, 33] S.data.toList <;> rfl
 rw [e] at HSP
 generalize Pr.serverOf S.data.toList = X at *
 clear e
 generalize Pr.splitP (⟨#[64, 33]⟩ : ByteArray).data.toList S.data.toList = Y at *
 go_enter Tryz.func16, Tryz.ntmps16
 go_wp2_with (go_at_call 43; refine HSP.out.mono ?_; rintro e w2 ⟨rfl, hb⟩)
 go_ret
 exact ⟨rfl, hb⟩
end Go.Proofs.YtacjhbbieeliaaaGreatDoor
/- The text Nh. -/
namespace Go.Proofs.YtacjhbbieeliaaaGreatDoor
open Go.RowKit Go.Lib
set_option linter.unusedVariables false
set_option linter.unusedSimpArgs false
theorem serverofb_any (s : List UInt8) (m : Int) (w : World) (hs : s.length ≤ 1000000) (hm : w.cell? ⟨0, 0, none⟩ = some (.int .i64 m)) : Calls Tryz.prog 16 #[.string (bstr s)] w fun e w' => e = .returned (.string (bstr (Pr.serverOf s))) ∧ Below w.heap.size w w' := serverof_any (bstr s) m w (by rw [bstr_size]; exact hs) hm
theorem member_rest (e : Co.Ev) (l : List Co.Ev) : Co.memberE e l = if Co.firstB e l then 0 else restE e l := rfl
theorem amember_any (ok : Nat → Prop) (e : Co.Ev) (l : List Co.Ev) (A : Option Addr) (cap : Nat) (X : List Value) (w : World) (hX : EvV ok w X e) (h : EvRow ok w A l) (hl : l.length ≤ 1000000) (hs : ∀ x ∈ l, x.users.length ≤ 1000000 ∧ x.kinds.length ≤ 1000000) (hal : ∀ x ∈ l, x.allow.length ≤ 1000000) (hp : e.prev.length ≤ 1000000) :
  Calls Tryz.prog 40 #[.agg X.toArray, .slice A l.length cap] w fun r w' => r = .returned (.int .i64 (Co.memberE e l)) ∧ Below w.heap.size w w' := by
 have hb1 := (Below.refl w.heap.size w).alloc (Nat.le_refl _) (.cells X.toArray 34)
 have hk1' := (Blk.new w 34 X.toArray).alloc (.cells #[.slice A l.length cap] 35)
 have hk2' := Blk.new (w.alloc (.cells X.toArray 34)) 35 #[.slice A l.length cap]
 have hb2 := hb1.alloc (by rw [World.size_alloc]; omega) (.cells #[.slice A l.length cap] 35)
 rw [World.size_alloc] at hk2'
 have HB2 := hid hb2
 have HE2 := hid hk1'
 have HL2 := hid hk2'
 have HX2 := hid (hX.bel hb2)
 have HR2 := hid (h.bel hb2)
 have HSE := hid (size_evA hX)
 obtain ⟨R, hR⟩ : ∃ R, R = Co.memberE e l := ⟨_, rfl⟩
 have HR : Hid (R = if Co.firstB e l then 0 else restE e l) := hid hR
 have HFI := hid (afirst_any ok e X l A cap _ HX2.out HR2.out hl hp)
 have HD := hid (fun W0 (hb0 : Below ((w.alloc (.cells X.toArray 34)).alloc (.cells #[.slice A l.length cap] 35)).heap.size ((w.alloc (.cells X.toArray 34)).alloc (.cells #[.slice A l.length cap] 35)) W0) => decided_any 80 #[.pointer (some ⟨w.heap.size, 0, none⟩), .pointer (some ⟨w.heap.size + 1, 0, none⟩)] (restE e l) W0 (enters_of Tryz.func80 (by kernel_rfl) rfl) (fun W hW _ =>
  member1_any ok e l A cap (w.heap.size + 1) w.heap.size X W ((HL2.out.below hb0 HL2.out.lt).below hW (HL2.out.below hb0 HL2.out.lt).lt) ((HE2.out.below hb0 HE2.out.lt).below hW (HE2.out.below hb0 HE2.out.lt).lt) ((HX2.out.bel hb0).bel hW) ((HR2.out.bel hb0).bel hW) hl hs hal))
 rw [← hR]
 clear hb1 hk1' hk2' hb2 hX h hs hal hp hR
 generalize restE e l = RE at *
 generalize Co.firstB e l = FB at *
 generalize hw2 : (w.alloc (.cells X.toArray 34)).alloc (.cells #[.slice A l.length cap] 35) = w2 at *
 have hcl : w2.cell? ⟨w.heap.size + 1, 0, none⟩ = some (.slice A l.length cap) := HL2.out.cell 0
 go_enter Tryz.func40, Tryz.ntmps40
 go_wp2_with (refine wpList_load_row rfl 34 _ rfl w.heap.size rfl 34 X.toArray (0, 0) _ HE2.out Tryz.underlying34 rfl HSE.out ?_)
 refine HFI.out.mono ?_
 rintro r w3 ⟨rfl, hb3⟩
 have HB3 := hid (HB2.out.trans (hb3.mono HB2.out.size))
 cases FB with
 | true =>
  have HRES : Hid (R = 0) := hid HR.out
  clear hb3
  go_wp2_with fail
  go_ret
  exact ⟨ret_int HRES.out.symm, HB3.out⟩
 | false =>
  have HRES : Hid (R = RE) := hid HR.out
  have HDD := hid (HD.out w3 hb3)
  clear hb3
  go_wp2_with fail
  refine HDD.out.mono ?_
  rintro r w4 ⟨rfl, hb4⟩
  have HB4 := hid (HB3.out.trans (hb4.mono HB3.out.size))
  clear hb4
  go_wp2_with fail
  go_ret
  exact ⟨ret_int HRES.out.symm, HB4.out⟩
theorem allowed1_k1 (ok : Nat → Prop) (e : Co.Ev) (l : List Co.Ev) (A : Option Addr) (cap LB EB : Nat) (X : List Value) (m : Int) (w : World) (hLB : Blk w LB 35 #[.slice A l.length cap]) (hEB : Blk w EB 34 X.toArray) (hX : EvV ok w X e) (h : EvRow ok w A l) (hl : l.length ≤ 1000000) (hk1 : e.kind = 1) (hsz : e.sender.length ≤ 1000000 ∧ e.room.length ≤ 1000000) (hm : w.cell? ⟨0, 0, none⟩ = some (.int .i64 m)) :
  Calls Tryz.prog 36 #[.pointer (some ⟨LB, 0, none⟩), .pointer (some ⟨EB, 0, none⟩)] w fun r w' => DecA (Co.allowedE e l) r ∧ Below w.heap.size w w' := by
 have HX := hid hX
 have HROW := hid h
 have HCR := hid (show Calls Tryz.prog 37 #[.slice A l.length cap] w fun e w' => FoundA ok (Co.createOf l) e w' ∧ Below w.heap.size w w' from create_any ok l A cap w h hl)
 have hclb := hLB.cell 0
 have HLB := hid hLB
 have HEB := hid hEB
 have HM := hid hm
 have HSZS := hid hsz.1
 have HSZR := hid hsz.2
 obtain ⟨R, hR⟩ : ∃ R, R = Co.allowedE e l := ⟨_, rfl⟩
 have HR : Hid (R = if (Co.createOf l).isNone = true ∧ Co.sameServer e = true then 0 else 17) := hid (by rw [hR]; unfold Co.allowedE; rw [if_pos hk1])
 have HKK := hid (eqb_true hk1)
 rw [← hR]
 clear hLB hEB hX h hk1 hsz hm hR
 go_enter Tryz.func36, Tryz.ntmps36
 go_wp2_with fail
 refine HCR.out.mono ?_
 rintro r w2 ⟨⟨V, rfl, hv⟩, hb2⟩
 have hvl := hv.len
 rw [Array.length_toList] at hvl
 have HSX : Hid ((Tryz.prog.info? 34).map (·.size) = some V.size) := hid (by rw [size_ev, hvl])
 have HSZ : Hid (zEv.size = V.size) := hid hvl.symm
 have HOV : Hid (V.all (·.oneCell') = true) := hid (by have := EvS.all hv; rwa [Array.toArray_toList] at this)
 have HN := hid (Blk.new w2 34 zEv)
 have hb3 := below_setRow (g := w2.heap.size) (hb2.alloc hb2.size (.cells zEv 34)) hb2.size V
 have HB3 := hid hb3
 have HEB3 := hid (HEB.out.below hb3 HEB.out.lt)
 have HX3 := hid (HX.out.bel hb3)
 have hc3 : ((w2.alloc (.cells zEv 34)).setRow w2.heap.size V).cell? ⟨EB, 3, none⟩ = some (.int .i64 e.kind) := (HEB3.out.cell 3).trans (by rw [List.getElem?_toArray]; exact HX.out.c3)
 have HEC2 : Hid (((w2.alloc (.cells zEv 34)).setRow w2.heap.size V).cell? ⟨EB, 2, none⟩ = some (.string (bstr e.sender))) := hid ((HEB3.out.cell 2).trans (by rw [List.getElem?_toArray]; exact HX.out.c2))
 have HEC1 : Hid (((w2.alloc (.cells zEv 34)).setRow w2.heap.size V).cell? ⟨EB, 1, none⟩ = some (.string (bstr e.room))) := hid ((HEB3.out.cell 1).trans (by rw [List.getElem?_toArray]; exact HX.out.c1))
 have HM3 : Hid (((w2.alloc (.cells zEv 34)).setRow w2.heap.size V).cell? ⟨0, 0, none⟩ = some (.int .i64 m)) := hid ((Below.cell hb3 (p := ⟨0, 0, none⟩) (block_lt HM.out)).trans HM.out)
 have HM03 : Hid (0 < ((w2.alloc (.cells zEv 34)).setRow w2.heap.size V).heap.size) := hid (block_lt HM3.out)
 have hkb := HKK.out
 clear hv hvl hb2 hb3 hclb
 generalize hw3 : (w2.alloc (.cells zEv 34)).setRow w2.heap.size V = w3 at *
 go_upto_region 2 with ((with_reducible refine store_rowe rfl 34 _ _ rfl w2.heap.size V ?_ ?_ 34 zEv HN.out HSX.out HSZ.out HOV.out ?_); rfl; rfl; rw [hw3])
 clear hc3 hkb
 cases hmade : (Co.createOf l).isSome with
 | true =>
  have HRES : Hid (R = 17) := hid (by rw [HR.out, if_neg]; rintro ⟨h1, _⟩; rw [Option.isNone_iff_eq_none] at h1; rw [h1] at hmade; cases hmade)
  clear hmade
  refine region_till (fun W => Below w3.heap.size w3 W) (fun _ => false) (by kernel_rfl) ((Below.refl _ _).drew) (fun hHeld => ?_)
  generalize hwd : w3.drew = wd at *
  have HBd := hid hHeld
  refine till_take (i := 0) (oi := _) (v := ?_) rfl (by kernel_rfl) (by kernel_rfl) (by kernel_rfl) (by kernel_rfl) (fun _ _ _ h => h) (Or.inl ⟨by kernel_rfl, ?_⟩) hHeld ?_
  rotate_left
  ·intro wq hSw
   go_simp
   (try with_reducible rfl)
  (try simp only [Act.put, List.getElem_toArray, List.getElem_cons_zero, List.getElem_cons_succ, List.setIfInBounds_toArray, List.set_cons_zero, List.set_cons_succ])
  refine till_take (i := 1) (oi := _) (v := ?_) rfl (by kernel_rfl) (by kernel_rfl) (by kernel_rfl) (by kernel_rfl) (fun _ _ _ h => h) (Or.inl ⟨by kernel_rfl, ?_⟩) hHeld ?_
  rotate_left
  ·intro wq hSw
   go_simp
   (try with_reducible rfl)
  (try simp only [Act.put, List.getElem_toArray, List.getElem_cons_zero, List.getElem_cons_succ, List.setIfInBounds_toArray, List.set_cons_zero, List.set_cons_succ])
  refine till_take (i := 2) (oi := _) (v := ?_) rfl (by kernel_rfl) (by kernel_rfl) (by kernel_rfl) (by kernel_rfl) (fun _ _ _ h => h) (Or.inl ⟨by kernel_rfl, ?_⟩) hHeld ?_
  rotate_left
  ·intro wq hSw
   go_simp
   (try with_reducible rfl)
  (try simp only [Act.put, List.getElem_toArray, List.getElem_cons_zero, List.getElem_cons_succ, List.setIfInBounds_toArray, List.set_cons_zero, List.set_cons_succ])
  refine till_take (i := 3) (oi := _) (v := undef) rfl (by kernel_rfl) (by kernel_rfl) (by kernel_rfl) (by kernel_rfl) (fun _ _ _ h => h) (Or.inr ⟨by kernel_rfl, rfl⟩) hHeld ?_
  (try simp only [Act.put, List.getElem_toArray, List.getElem_cons_zero, List.getElem_cons_succ, List.setIfInBounds_toArray, List.set_cons_zero, List.set_cons_succ])
  refine till_take (i := 4) (oi := _) (v := undef) rfl (by kernel_rfl) (by kernel_rfl) (by kernel_rfl) (by kernel_rfl) (fun _ _ _ h => h) (Or.inr ⟨by kernel_rfl, rfl⟩) hHeld ?_
  (try simp only [Act.put, List.getElem_toArray, List.getElem_cons_zero, List.getElem_cons_succ, List.setIfInBounds_toArray, List.set_cons_zero, List.set_cons_succ])
  refine till_take (i := 5) (oi := _) (v := undef) rfl (by kernel_rfl) (by kernel_rfl) (by kernel_rfl) (by kernel_rfl) (fun _ _ _ h => h) (Or.inr ⟨by kernel_rfl, rfl⟩) hHeld ?_
  (try simp only [Act.put, List.getElem_toArray, List.getElem_cons_zero, List.getElem_cons_succ, List.setIfInBounds_toArray, List.set_cons_zero, List.set_cons_succ])
  refine till_take (i := 6) (oi := _) (v := undef) rfl (by kernel_rfl) (by kernel_rfl) (by kernel_rfl) (by kernel_rfl) (fun _ _ _ h => h) (Or.inr ⟨by kernel_rfl, rfl⟩) hHeld ?_
  (try simp only [Act.put, List.getElem_toArray, List.getElem_cons_zero, List.getElem_cons_succ, List.setIfInBounds_toArray, List.set_cons_zero, List.set_cons_succ])
  refine till_take (i := 7) (oi := _) (v := undef) rfl (by kernel_rfl) (by kernel_rfl) (by kernel_rfl) (by kernel_rfl) (fun _ _ _ h => h) (Or.inr ⟨by kernel_rfl, rfl⟩) hHeld ?_
  (try simp only [Act.put, List.getElem_toArray, List.getElem_cons_zero, List.getElem_cons_succ, List.setIfInBounds_toArray, List.set_cons_zero, List.set_cons_succ])
  refine till_take (i := 8) (oi := _) (v := undef) rfl (by kernel_rfl) (by kernel_rfl) (by kernel_rfl) (by kernel_rfl) (fun _ _ _ h => h) (Or.inr ⟨by kernel_rfl, rfl⟩) hHeld ?_
  (try simp only [Act.put, List.getElem_toArray, List.getElem_cons_zero, List.getElem_cons_succ, List.setIfInBounds_toArray, List.set_cons_zero, List.set_cons_succ])
  refine till_take (i := 9) (oi := _) (v := undef) rfl (by kernel_rfl) (by kernel_rfl) (by kernel_rfl) (by kernel_rfl) (fun _ _ _ h => h) (Or.inr ⟨by kernel_rfl, rfl⟩) hHeld ?_
  (try simp only [Act.put, List.getElem_toArray, List.getElem_cons_zero, List.getElem_cons_succ, List.setIfInBounds_toArray, List.set_cons_zero, List.set_cons_succ])
  refine till_take (i := 10) (oi := _) (v := ?_) rfl (by kernel_rfl) (by kernel_rfl) (by kernel_rfl) (by kernel_rfl) (fun _ _ _ h => h) (Or.inl ⟨by kernel_rfl, ?_⟩) hHeld ?_
  rotate_left
  ·intro wq hSw
   go_simp
   (try with_reducible rfl)
  (try simp only [Act.put, List.getElem_toArray, List.getElem_cons_zero, List.getElem_cons_succ, List.setIfInBounds_toArray, List.set_cons_zero, List.set_cons_succ])
  refine till_ready (rs := [11]) (by kernel_rfl) (by simp) ?_
  refine ReadyT.cons (o := _) rfl (fun K hK => ?_) ReadyT.nil
  go_simp
  go_at_call 38
  refine (need_no 17 _).mono ?_
  rintro r wx ⟨rfl, rfl⟩
  exact ⟨rfl, .inl (by rw [HRES.out]), HB3.out.trans (HBd.out.mono HB3.out.size)⟩
 | false =>
  have HRN : Hid (R = if Co.sameServer e = true then 0 else 17) := hid (by rw [HR.out]; cases hc : Co.createOf l with | none => simp | some c => rw [hc] at hmade; cases hmade)
  clear hmade
  have hsd := str_dec (Pr.serverOf e.sender) (bstr (Pr.serverOf e.room))
  rw [show (bstr (Pr.serverOf e.room)).data.toList = Pr.serverOf e.room from rfl] at hsd
  by_cases hss : Pr.serverOf e.sender = Pr.serverOf e.room
  ·have HRES : Hid (R = 0) := hid (by rw [HRN.out, if_pos]; unfold Co.sameServer; rw [beq_iff_eq]; exact hss)
   rw [decide_eq_true hss] at hsd
   clear hss
   refine region_till (fun W => Below w3.heap.size w3 W) (fun _ => false) (by kernel_rfl) ((Below.refl _ _).drew) (fun hHeld => ?_)
   generalize hwd : w3.drew = wd at *
   have HBd := hid hHeld
   refine till_take (i := 0) (oi := _) (v := ?_) rfl (by kernel_rfl) (by kernel_rfl) (by kernel_rfl) (by kernel_rfl) (fun _ _ _ h => h) (Or.inl ⟨by kernel_rfl, ?_⟩) hHeld ?_
   rotate_left
   ·intro wq hSw
    go_simp
    (try with_reducible rfl)
   (try simp only [Act.put, List.getElem_toArray, List.getElem_cons_zero, List.getElem_cons_succ, List.setIfInBounds_toArray, List.set_cons_zero, List.set_cons_succ])
   refine till_take (i := 1) (oi := _) (v := ?_) rfl (by kernel_rfl) (by kernel_rfl) (by kernel_rfl) (by kernel_rfl) (fun _ _ _ h => h) (Or.inl ⟨by kernel_rfl, ?_⟩) hHeld ?_
   rotate_left
   ·intro wq hSw
    go_simp
    (try with_reducible rfl)
   (try simp only [Act.put, List.getElem_toArray, List.getElem_cons_zero, List.getElem_cons_succ, List.setIfInBounds_toArray, List.set_cons_zero, List.set_cons_succ])
   refine till_take (i := 2) (oi := _) (v := ?_) rfl (by kernel_rfl) (by kernel_rfl) (by kernel_rfl) (by kernel_rfl) (fun _ _ _ h => h) (Or.inl ⟨by kernel_rfl, ?_⟩) hHeld ?_
   rotate_left
   ·intro wq hSw
    go_simp
    (try with_reducible rfl)
   (try simp only [Act.put, List.getElem_toArray, List.getElem_cons_zero, List.getElem_cons_succ, List.setIfInBounds_toArray, List.set_cons_zero, List.set_cons_succ])
   refine till_take (i := 3) (oi := _) (v := ?_) rfl (by kernel_rfl) (by kernel_rfl) (by kernel_rfl) (by kernel_rfl) (fun _ _ _ h => h) (Or.inl ⟨by kernel_rfl, ?_⟩) hHeld ?_
   rotate_left
   ·intro wq hSw
    go_simp
    (try with_reducible rfl)
   (try simp only [Act.put, List.getElem_toArray, List.getElem_cons_zero, List.getElem_cons_succ, List.setIfInBounds_toArray, List.set_cons_zero, List.set_cons_succ])
   refine till_take (i := 4) (oi := _) (v := ?_) rfl (by kernel_rfl) (by kernel_rfl) (by kernel_rfl) (by kernel_rfl) (fun _ _ _ h => h) (Or.inl ⟨by kernel_rfl, ?_⟩) hHeld ?_
   rotate_left
   ·intro wq hSw
    have hx2 : wq.cell? ⟨EB, 2, none⟩ = some (.string (bstr e.sender)) := (Below.cell hSw (p := ⟨EB, 2, none⟩) HEB3.out.lt).trans (HEC2.out)
    go_simp
    (try with_reducible rfl)
   (try simp only [Act.put, List.getElem_toArray, List.getElem_cons_zero, List.getElem_cons_succ, List.setIfInBounds_toArray, List.set_cons_zero, List.set_cons_succ])
   refine till_take (i := 6) (oi := _) (v := ?_) rfl (by kernel_rfl) (by kernel_rfl) (by kernel_rfl) (by kernel_rfl) (fun _ _ _ h => h) (Or.inl ⟨by kernel_rfl, ?_⟩) hHeld ?_
   rotate_left
   ·intro wq hSw
    go_simp
    (try with_reducible rfl)
   (try simp only [Act.put, List.getElem_toArray, List.getElem_cons_zero, List.getElem_cons_succ, List.setIfInBounds_toArray, List.set_cons_zero, List.set_cons_succ])
   refine till_take (i := 7) (oi := _) (v := ?_) rfl (by kernel_rfl) (by kernel_rfl) (by kernel_rfl) (by kernel_rfl) (fun _ _ _ h => h) (Or.inl ⟨by kernel_rfl, ?_⟩) hHeld ?_
   rotate_left
   ·intro wq hSw
    have hx1 : wq.cell? ⟨EB, 1, none⟩ = some (.string (bstr e.room)) := (Below.cell hSw (p := ⟨EB, 1, none⟩) HEB3.out.lt).trans (HEC1.out)
    go_simp
    (try with_reducible rfl)
   (try simp only [Act.put, List.getElem_toArray, List.getElem_cons_zero, List.getElem_cons_succ, List.setIfInBounds_toArray, List.set_cons_zero, List.set_cons_succ])
   refine till_ready (rs := [5]) (by kernel_rfl) (by simp) ?_
   refine ReadyT.cons (o := _) rfl (fun K hK => ?_) ReadyT.nil
   go_simp
   go_at_call 16
   refine (serverofb_any e.sender m wd HSZS.out ((Below.cell HBd.out (p := ⟨0, 0, none⟩) HM03.out).trans HM3.out)).mono ?_
   rintro r wa ⟨rfl, hba⟩
   have HBa := hid (HBd.out.trans (hba.mono HBd.out.size))
   clear hba
   refine hK.out _ _ (.inr HBa.out) ?_
   clear hHeld
   have hHeld := HBa.out
   clear hK K
   (try simp only [Act.put, List.getElem_toArray, List.getElem_cons_zero, List.getElem_cons_succ, List.setIfInBounds_toArray, List.set_cons_zero, List.set_cons_succ])
   refine till_ready (rs := [8]) (by kernel_rfl) (by simp) ?_
   refine ReadyT.cons (o := _) rfl (fun K hK => ?_) ReadyT.nil
   go_simp
   go_at_call 16
   refine (serverofb_any e.room m wa HSZR.out ((Below.cell HBa.out (p := ⟨0, 0, none⟩) HM03.out).trans HM3.out)).mono ?_
   rintro r wb ⟨rfl, hbb⟩
   have HBb := hid (HBa.out.trans (hbb.mono HBa.out.size))
   clear hbb
   refine hK.out _ _ (.inr HBb.out) ?_
   clear hHeld
   have hHeld := HBb.out
   clear hK K
   (try simp only [Act.put, List.getElem_toArray, List.getElem_cons_zero, List.getElem_cons_succ, List.setIfInBounds_toArray, List.set_cons_zero, List.set_cons_succ])
   refine till_take (i := 9) (oi := _) (v := ?_) rfl (by kernel_rfl) (by kernel_rfl) (by kernel_rfl) (by kernel_rfl) (fun _ _ _ h => h) (Or.inl ⟨by kernel_rfl, ?_⟩) hHeld ?_
   rotate_left
   ·intro wq hSw
    go_simp
    (try with_reducible rfl)
   (try simp only [Act.put, List.getElem_toArray, List.getElem_cons_zero, List.getElem_cons_succ, List.setIfInBounds_toArray, List.set_cons_zero, List.set_cons_succ])
   refine till_take (i := 10) (oi := _) (v := ?_) rfl (by kernel_rfl) (by kernel_rfl) (by kernel_rfl) (by kernel_rfl) (fun _ _ _ h => h) (Or.inl ⟨by kernel_rfl, ?_⟩) hHeld ?_
   rotate_left
   ·intro wq hSw
    go_simp
    (try with_reducible rfl)
   (try simp only [Act.put, List.getElem_toArray, List.getElem_cons_zero, List.getElem_cons_succ, List.setIfInBounds_toArray, List.set_cons_zero, List.set_cons_succ])
   refine till_ready (rs := [11]) (by kernel_rfl) (by simp) ?_
   refine ReadyT.cons (o := _) rfl (fun K hK => ?_) ReadyT.nil
   go_simp
   go_at_call 38
   refine (need_yes 17 _).mono ?_
   rintro r wx ⟨rfl, rfl⟩
   refine hK.out _ _ (.inr HBb.out) ?_
   clear hHeld
   clear hK K
   (try simp only [Act.put, List.getElem_toArray, List.getElem_cons_zero, List.getElem_cons_succ, List.setIfInBounds_toArray, List.set_cons_zero, List.set_cons_succ])
   refine till_done (by kernel_rfl) ?_ _
   go_wp2_with fail
   refine (decide_pan 0 _).mono ?_
   rintro r wx ⟨rfl, rfl⟩
   exact ⟨rfl, .inl (by rw [HRES.out]), HB3.out.trans (HBb.out.mono HB3.out.size)⟩
  ·have HRES : Hid (R = 17) := hid (by rw [HRN.out, if_neg]; unfold Co.sameServer; rw [beq_iff_eq]; exact hss)
   rw [decide_eq_false hss] at hsd
   clear hss
   refine region_till (fun W => Below w3.heap.size w3 W) (fun _ => false) (by kernel_rfl) ((Below.refl _ _).drew) (fun hHeld => ?_)
   generalize hwd : w3.drew = wd at *
   have HBd := hid hHeld
   refine till_take (i := 0) (oi := _) (v := ?_) rfl (by kernel_rfl) (by kernel_rfl) (by kernel_rfl) (by kernel_rfl) (fun _ _ _ h => h) (Or.inl ⟨by kernel_rfl, ?_⟩) hHeld ?_
   rotate_left
   ·intro wq hSw
    go_simp
    (try with_reducible rfl)
   (try simp only [Act.put, List.getElem_toArray, List.getElem_cons_zero, List.getElem_cons_succ, List.setIfInBounds_toArray, List.set_cons_zero, List.set_cons_succ])
   refine till_take (i := 1) (oi := _) (v := ?_) rfl (by kernel_rfl) (by kernel_rfl) (by kernel_rfl) (by kernel_rfl) (fun _ _ _ h => h) (Or.inl ⟨by kernel_rfl, ?_⟩) hHeld ?_
   rotate_left
   ·intro wq hSw
    go_simp
    (try with_reducible rfl)
   (try simp only [Act.put, List.getElem_toArray, List.getElem_cons_zero, List.getElem_cons_succ, List.setIfInBounds_toArray, List.set_cons_zero, List.set_cons_succ])
   refine till_take (i := 2) (oi := _) (v := ?_) rfl (by kernel_rfl) (by kernel_rfl) (by kernel_rfl) (by kernel_rfl) (fun _ _ _ h => h) (Or.inl ⟨by kernel_rfl, ?_⟩) hHeld ?_
   rotate_left
   ·intro wq hSw
    go_simp
    (try with_reducible rfl)
   (try simp only [Act.put, List.getElem_toArray, List.getElem_cons_zero, List.getElem_cons_succ, List.setIfInBounds_toArray, List.set_cons_zero, List.set_cons_succ])
   refine till_take (i := 3) (oi := _) (v := ?_) rfl (by kernel_rfl) (by kernel_rfl) (by kernel_rfl) (by kernel_rfl) (fun _ _ _ h => h) (Or.inl ⟨by kernel_rfl, ?_⟩) hHeld ?_
   rotate_left
   ·intro wq hSw
    go_simp
    (try with_reducible rfl)
   (try simp only [Act.put, List.getElem_toArray, List.getElem_cons_zero, List.getElem_cons_succ, List.setIfInBounds_toArray, List.set_cons_zero, List.set_cons_succ])
   refine till_take (i := 4) (oi := _) (v := ?_) rfl (by kernel_rfl) (by kernel_rfl) (by kernel_rfl) (by kernel_rfl) (fun _ _ _ h => h) (Or.inl ⟨by kernel_rfl, ?_⟩) hHeld ?_
   rotate_left
   ·intro wq hSw
    have hx2 : wq.cell? ⟨EB, 2, none⟩ = some (.string (bstr e.sender)) := (Below.cell hSw (p := ⟨EB, 2, none⟩) HEB3.out.lt).trans (HEC2.out)
    go_simp
    (try with_reducible rfl)
   (try simp only [Act.put, List.getElem_toArray, List.getElem_cons_zero, List.getElem_cons_succ, List.setIfInBounds_toArray, List.set_cons_zero, List.set_cons_succ])
   refine till_take (i := 6) (oi := _) (v := ?_) rfl (by kernel_rfl) (by kernel_rfl) (by kernel_rfl) (by kernel_rfl) (fun _ _ _ h => h) (Or.inl ⟨by kernel_rfl, ?_⟩) hHeld ?_
   rotate_left
   ·intro wq hSw
    go_simp
    (try with_reducible rfl)
   (try simp only [Act.put, List.getElem_toArray, List.getElem_cons_zero, List.getElem_cons_succ, List.setIfInBounds_toArray, List.set_cons_zero, List.set_cons_succ])
   refine till_take (i := 7) (oi := _) (v := ?_) rfl (by kernel_rfl) (by kernel_rfl) (by kernel_rfl) (by kernel_rfl) (fun _ _ _ h => h) (Or.inl ⟨by kernel_rfl, ?_⟩) hHeld ?_
   rotate_left
   ·intro wq hSw
    have hx1 : wq.cell? ⟨EB, 1, none⟩ = some (.string (bstr e.room)) := (Below.cell hSw (p := ⟨EB, 1, none⟩) HEB3.out.lt).trans (HEC1.out)
    go_simp
    (try with_reducible rfl)
   (try simp only [Act.put, List.getElem_toArray, List.getElem_cons_zero, List.getElem_cons_succ, List.setIfInBounds_toArray, List.set_cons_zero, List.set_cons_succ])
   refine till_ready (rs := [5]) (by kernel_rfl) (by simp) ?_
   refine ReadyT.cons (o := _) rfl (fun K hK => ?_) ReadyT.nil
   go_simp
   go_at_call 16
   refine (serverofb_any e.sender m wd HSZS.out ((Below.cell HBd.out (p := ⟨0, 0, none⟩) HM03.out).trans HM3.out)).mono ?_
   rintro r wa ⟨rfl, hba⟩
   have HBa := hid (HBd.out.trans (hba.mono HBd.out.size))
   clear hba
   refine hK.out _ _ (.inr HBa.out) ?_
   clear hHeld
   have hHeld := HBa.out
   clear hK K
   (try simp only [Act.put, List.getElem_toArray, List.getElem_cons_zero, List.getElem_cons_succ, List.setIfInBounds_toArray, List.set_cons_zero, List.set_cons_succ])
   refine till_ready (rs := [8]) (by kernel_rfl) (by simp) ?_
   refine ReadyT.cons (o := _) rfl (fun K hK => ?_) ReadyT.nil
   go_simp
   go_at_call 16
   refine (serverofb_any e.room m wa HSZR.out ((Below.cell HBa.out (p := ⟨0, 0, none⟩) HM03.out).trans HM3.out)).mono ?_
   rintro r wb ⟨rfl, hbb⟩
   have HBb := hid (HBa.out.trans (hbb.mono HBa.out.size))
   clear hbb
   refine hK.out _ _ (.inr HBb.out) ?_
   clear hHeld
   have hHeld := HBb.out
   clear hK K
   (try simp only [Act.put, List.getElem_toArray, List.getElem_cons_zero, List.getElem_cons_succ, List.setIfInBounds_toArray, List.set_cons_zero, List.set_cons_succ])
   refine till_take (i := 9) (oi := _) (v := ?_) rfl (by kernel_rfl) (by kernel_rfl) (by kernel_rfl) (by kernel_rfl) (fun _ _ _ h => h) (Or.inl ⟨by kernel_rfl, ?_⟩) hHeld ?_
   rotate_left
   ·intro wq hSw
    go_simp
    (try with_reducible rfl)
   (try simp only [Act.put, List.getElem_toArray, List.getElem_cons_zero, List.getElem_cons_succ, List.setIfInBounds_toArray, List.set_cons_zero, List.set_cons_succ])
   refine till_take (i := 10) (oi := _) (v := ?_) rfl (by kernel_rfl) (by kernel_rfl) (by kernel_rfl) (by kernel_rfl) (fun _ _ _ h => h) (Or.inl ⟨by kernel_rfl, ?_⟩) hHeld ?_
   rotate_left
   ·intro wq hSw
    go_simp
    (try with_reducible rfl)
   (try simp only [Act.put, List.getElem_toArray, List.getElem_cons_zero, List.getElem_cons_succ, List.setIfInBounds_toArray, List.set_cons_zero, List.set_cons_succ])
   refine till_ready (rs := [11]) (by kernel_rfl) (by simp) ?_
   refine ReadyT.cons (o := _) rfl (fun K hK => ?_) ReadyT.nil
   go_simp
   go_at_call 38
   refine (need_no 17 _).mono ?_
   rintro r wx ⟨rfl, rfl⟩
   exact ⟨rfl, .inl (by rw [HRES.out]), HB3.out.trans (HBb.out.mono HB3.out.size)⟩
theorem allowed1_all (ok : Nat → Prop) (e : Co.Ev) (l : List Co.Ev) (A : Option Addr) (cap LB EB : Nat) (X : List Value) (m : Int) (w : World) (hLB : Blk w LB 35 #[.slice A l.length cap]) (hEB : Blk w EB 34 X.toArray) (hX : EvV ok w X e) (h : EvRow ok w A l) (hl : l.length ≤ 1000000) (hs : ∀ x ∈ l, x.users.length ≤ 1000000 ∧ x.kinds.length ≤ 1000000) (hal : ∀ x ∈ l, x.allow.length ≤ 1000000) (hp : e.prev.length ≤ 1000000) (hes : e.users.length ≤ 1000000 ∧ e.kinds.length ≤ 1000000) (hsz : e.sender.length ≤ 1000000 ∧ e.room.length ≤ 1000000) (hm : w.cell? ⟨0, 0, none⟩ = some (.int .i64 m)) :
  Calls Tryz.prog 36 #[.pointer (some ⟨LB, 0, none⟩), .pointer (some ⟨EB, 0, none⟩)] w fun r w' => DecA (Co.allowedE e l) r ∧ Below w.heap.size w w' := by
 by_cases hk1 : e.kind = 1
 ·exact allowed1_k1 ok e l A cap LB EB X m w hLB hEB hX h hl hk1 hsz hm
 ·exact allowed1_any ok e l A cap LB EB X w hLB hEB hX h hl hk1 (fun _ _ Y V hY hV _ => amember_any ok e l A cap Y V hY hV hl hs hal hp) (fun _ _ _ Y V hY hV _ => alevel_any ok e l A cap Y V hY hV hl hs hes)
theorem pallowed_all (ok : Nat → Prop) (e : Co.Ev) (l : List Co.Ev) (A : Option Addr) (cap : Nat) (X : List Value) (w : World) (hX : EvV ok w X e) (h : EvRow ok w A l) (hl : l.length ≤ 1000000) (hs : ∀ x ∈ l, x.users.length ≤ 1000000 ∧ x.kinds.length ≤ 1000000) (hal : ∀ x ∈ l, x.allow.length ≤ 1000000) (hp : e.prev.length ≤ 1000000) (hes : e.users.length ≤ 1000000 ∧ e.kinds.length ≤ 1000000) (hsz : e.sender.length ≤ 1000000 ∧ e.room.length ≤ 1000000) (m : Int) (hm : w.cell? ⟨0, 0, none⟩ = some (.int .i64 m)) :
  Calls Tryz.prog 11 #[.agg X.toArray, .slice A l.length cap] w fun r w' => r = .returned (.int .i64 (Co.allowedE e l)) ∧ Below w.heap.size w w' := by
 have hb1 := (Below.refl w.heap.size w).alloc (Nat.le_refl _) (.cells X.toArray 34)
 have hk1' := (Blk.new w 34 X.toArray).alloc (.cells #[.slice A l.length cap] 35)
 have hk2' := Blk.new (w.alloc (.cells X.toArray 34)) 35 #[.slice A l.length cap]
 have hb2 := hb1.alloc (by rw [World.size_alloc]; omega) (.cells #[.slice A l.length cap] 35)
 rw [World.size_alloc] at hk2'
 have hlow : ∀ W, Below ((w.alloc (.cells X.toArray 34)).alloc (.cells #[.slice A l.length cap] 35)).heap.size ((w.alloc (.cells X.toArray 34)).alloc (.cells #[.slice A l.length cap] 35)) W → Below w.heap.size w W := fun W hW => hb2.trans (hW.mono hb2.size)
 have HD := hid (decided_any 36 #[.pointer (some ⟨w.heap.size + 1, 0, none⟩), .pointer (some ⟨w.heap.size, 0, none⟩)] (Co.allowedE e l) _ (enters_of Tryz.func36 (by kernel_rfl) rfl) (fun W hW _ =>
  allowed1_all ok e l A cap (w.heap.size + 1) w.heap.size X m W (hk2'.below hW hk2'.lt) (hk1'.below hW hk1'.lt) (hX.bel (hlow W hW)) (h.bel (hlow W hW)) hl hs hal hp hes hsz ((Below.cell (hlow W hW) (p := ⟨0, 0, none⟩) (block_lt hm)).trans hm)))
 have HB2 := hid hb2
 clear hb1 hb2 hk1' hk2' hlow hX h hs hal hp hes hsz hm
 generalize Co.allowedE e l = R at *
 go_enter Tryz.func11, Tryz.ntmps11
 go_wp2_with fail
 refine HD.out.mono ?_
 rintro r w2 ⟨rfl, hb3⟩
 have HB3 := hid (HB2.out.trans (hb3.mono HB2.out.size))
 clear hb3
 go_wp2_with fail
 go_ret
 exact ⟨rfl, HB3.out⟩
end Go.Proofs.YtacjhbbieeliaaaGreatDoor
/- The text Ni. -/
namespace Go.Proofs.YtacjhbbieeliaaaGreatDoor
open Go.RowKit Go.Lib
set_option linter.unusedVariables false
set_option linter.unusedSimpArgs false
theorem begins_any (ok : Nat → Prop) (e : Co.Ev) (X0 : List Value) (l : List Co.Ev) (A : Option Addr) (cap : Nat) (w : World) (hX : EvV ok w X0 e) (h : EvRow ok w A l) (hl : l.length ≤ 1000000) (hp : e.prev.length ≤ 1000000) :
  Calls Tryz.prog 44 #[.agg X0.toArray, .slice A l.length cap] w fun r w' => r = .returned (.bool (Co.firstB e l)) ∧ Below w.heap.size w w' := by
 have hb1 := (Below.refl w.heap.size w).alloc (Nat.le_refl _) (.cells X0.toArray 34)
 have HB1 := hid hb1
 have HE1 := hid (Blk.new w 34 X0.toArray)
 have HX := hid (hX.bel hb1)
 have HROW := hid (h.bel hb1)
 have HC : Hid (Calls Tryz.prog 13 #[.slice A l.length cap, .int .i64 1, .slice none 0 0] (w.alloc (.cells X0.toArray 34)) fun e w' => FoundA ok (Co.createOf l) e w' ∧ Below (w.alloc (.cells X0.toArray 34)).heap.size (w.alloc (.cells X0.toArray 34)) w') := hid (first_any ok l A cap 1 _ (h.bel hb1) hl)
 have HWS1 : Hid (w.heap.size < (w.alloc (.cells X0.toArray 34)).heap.size) := hid (by simp)
 obtain ⟨R, hR⟩ : ∃ R, R = Co.firstB e l := ⟨_, rfl⟩
 have HR : Hid (R = match Co.createOf l with | none => false | some c => e.prev == [c.id] && (e.sender == c.sender && (e.key == c.sender && (e.n == 3 && (l.find? (Co.isMem e.key)).isNone)))) := hid hR
 rw [← hR]
 clear hX h hR hb1
 generalize hw1 : w.alloc (.cells X0.toArray 34) = w1 at *
 go_enter Tryz.func44, Tryz.ntmps44
 go_wp2_with fail
 refine HC.out.mono ?_
 rintro r w3 ⟨⟨V, rfl, hv⟩, hb3⟩
 have hvl := hv.len
 rw [Array.length_toList] at hvl
 have HSX : Hid ((Tryz.prog.info? 34).map (·.size) = some V.size) := hid (by rw [size_ev, hvl])
 have HSZ : Hid (zEv.size = V.size) := hid hvl.symm
 have HOV : Hid (V.all (·.oneCell') = true) := hid (by have := EvS.all hv; rwa [Array.toArray_toList] at this)
 have HNEW := hid (Blk.new w3 34 zEv)
 have hb4 := below_setRow (g := w3.heap.size) ((Below.refl w3.heap.size w3).alloc (Nat.le_refl _) (.cells zEv 34)) (Nat.le_refl _) V
 have HK4 : Hid (Blk ((w3.alloc (.cells zEv 34)).setRow w3.heap.size V) w3.heap.size 34 V) := hid (setRow_heap _ _ _ _ _ _ HNEW.out)
 have HB34 := hid (hb3.trans (hb4.mono hb3.size))
 have HB4 := hid (HB1.out.trans (HB34.out.mono HB1.out.size))
 have HV0 : Hid (V[0]? = some (.int .i64 ((Co.createOf l).getD default).id)) := hid (by rw [← Array.getElem?_toList]; exact hv.c0)
 have HV2 : Hid (V[2]? = some (.string (bstr ((Co.createOf l).getD default).sender))) := hid (by rw [← Array.getElem?_toList]; exact hv.c2)
 clear hv hb3 hb4 hvl
 generalize hw4 : (w3.alloc (.cells zEv 34)).setRow w3.heap.size V = w4 at *
 have HE4 := hid (HE1.out.below HB34.out HWS1.out)
 have HX4 := hid (HX.out.bel HB34.out)
 have HROW4 := hid (HROW.out.bel HB34.out)
 have hc5 : w4.cell? ⟨w.heap.size, 5, none⟩ = some (.string (bstr e.key)) := (HE4.out.cell 5).trans (by rw [List.getElem?_toArray]; exact HX4.out.c5)
 go_upto_region 2 with ((with_reducible refine store_rowe rfl 34 _ _ rfl w3.heap.size V ?_ ?_ 34 zEv HNEW.out HSX.out HSZ.out HOV.out ?_); rfl; rfl; rw [hw4])
 clear HNEW HSX HSZ HOV
 have hbk := (Below.refl w4.heap.size w4).alloc (Nat.le_refl _) (.cells #[.string (bstr e.key)] 9)
 have HKEY := hid (Blk.new w4 9 #[.string (bstr e.key)])
 have HFK := hid (firstk_any ok l A cap e.key w4.heap.size 0 1 _ (HROW4.out.bel hbk) hl (HKEY.out.cell 0))
 have HBK := hid (HB4.out.trans (hbk.mono HB4.out.size))
 have HB4K := hid hbk
 clear hbk
 generalize hwk : w4.alloc (.cells #[.string (bstr e.key)] 9) = wk at *
 have hd0 := (HK4.out.cell 0).trans HV0.out
 have hd2 := (HK4.out.cell 2).trans HV2.out
 have HD0 := hid hd0
 have HD2 := hid hd2
 clear hd0 hd2
 go_wp2_with fail
 refine HFK.out.mono ?_
 rintro r w5 ⟨⟨V, rfl, hv⟩, hb5⟩
 have hvl := hv.len
 rw [Array.length_toList] at hvl
 have HSX : Hid ((Tryz.prog.info? 34).map (·.size) = some V.size) := hid (by rw [size_ev, hvl])
 have HSZ : Hid (zEv.size = V.size) := hid hvl.symm
 have HOV : Hid (V.all (·.oneCell') = true) := hid (by have := EvS.all hv; rwa [Array.toArray_toList] at this)
 have HNEW := hid (Blk.new w5 34 zEv)
 have hb6 := below_setRow (g := w5.heap.size) ((Below.refl w5.heap.size w5).alloc (Nat.le_refl _) (.cells zEv 34)) (Nat.le_refl _) V
 have HK6 : Hid (Blk ((w5.alloc (.cells zEv 34)).setRow w5.heap.size V) w5.heap.size 34 V) := hid (setRow_heap _ _ _ _ _ _ HNEW.out)
 have HB56 := hid (hb5.trans (hb6.mono hb5.size))
 have HB6 := hid (HBK.out.trans (HB56.out.mono HBK.out.size))
 have HKK := hid True.intro
 clear hv hb5 hb6 hvl
 generalize hw6 : (w5.alloc (.cells zEv 34)).setRow w5.heap.size V = w6 at *
 have HB46 := hid (HB4K.out.trans (HB56.out.mono HB4K.out.size))
 have HE6 := hid (HE4.out.below HB46.out HE4.out.lt)
 have HX6 := hid (HX4.out.bel HB46.out)
 go_upto_region 3 with ((with_reducible refine store_rowe rfl 34 _ _ rfl w5.heap.size V ?_ ?_ 34 zEv HNEW.out HSX.out HSZ.out HOV.out ?_); rfl; rfl; rw [hw6])
 clear HNEW HSX HSZ HOV hc5
 obtain ⟨cp, _, _, _, _, _, hX0, hL⟩ := HX6.out
 obtain ⟨Ap, capp, rfl, hrp, -⟩ := hL.prev
 have hc8 : w6.cell? ⟨w.heap.size, 8, none⟩ = some (.slice Ap e.prev.length capp) := (HE6.out.cell 8).trans (by rw [List.getElem?_toArray, hX0]; rfl)
 have hc2 : w6.cell? ⟨w.heap.size, 2, none⟩ = some (.string (bstr e.sender)) := (HE6.out.cell 2).trans (by rw [List.getElem?_toArray]; exact HX6.out.c2)
 have hc5 : w6.cell? ⟨w.heap.size, 5, none⟩ = some (.string (bstr e.key)) := (HE6.out.cell 5).trans (by rw [List.getElem?_toArray]; exact HX6.out.c5)
 have hc11 : w6.cell? ⟨w.heap.size, 11, none⟩ = some (.int .i64 e.n) := (HE6.out.cell 11).trans (by rw [List.getElem?_toArray]; exact HX6.out.c11)
 have HRP : Hid (Rd w6 Ap e.prev.length (intL e.prev)) := hid (by have := hrp; rw [Nat.mul_one] at this; exact this)
 have HQ0 := hid ((Below.cell HB46.out (p := ⟨w3.heap.size, 0, none⟩) HK4.out.lt).trans HD0.out)
 have HQ2 := hid ((Below.cell HB46.out (p := ⟨w3.heap.size, 2, none⟩) HK4.out.lt).trans HD2.out)
 clear hX0 hL hrp
 cases hcr : Co.createOf l with
 | none =>
  have HRF : Hid (R = false) := hid (by rw [HR.out, hcr])
  rw [show (none : Option Co.Ev).isSome = false from rfl]
  clear hcr
  go_quiet (fail)
  go_wp2_with fail
  go_ret
  exact ⟨ret_bool HRF.out.symm, below_drewN HB6.out _⟩
 | some c =>
  rw [hcr] at HR HQ0 HQ2
  have HR : Hid (R = (e.prev == [c.id] && (e.sender == c.sender && (e.key == c.sender && (e.n == 3 && (l.find? (Co.isMem e.key)).isNone))))) := HR
  have hd0 : w6.cell? ⟨w3.heap.size, 0, none⟩ = some (.int .i64 c.id) := HQ0.out
  have hd2 : w6.cell? ⟨w3.heap.size, 2, none⟩ = some (.string (bstr c.sender)) := HQ2.out
  rw [show (some c).isSome = true from rfl]
  clear hcr
  generalize c.id = cid at *
  generalize c.sender = csd at *
  cases hkn : l.find? (Co.isMem e.key) with
  | some k0 =>
   have HRF : Hid (R = false) := hid (by rw [HR.out, hkn]; simp)
   rw [show (some k0).isSome = true from rfl]
   clear hkn
   go_quiet (fail)
   go_wp2_with fail
   go_ret
   exact ⟨ret_bool HRF.out.symm, below_drewN HB6.out _⟩
  | none =>
   have HR : Hid (R = (e.prev == [cid] && (e.sender == csd && (e.key == csd && (e.n == 3))))) := hid (by rw [HR.out, hkn]; simp)
   rw [show (none : Option Co.Ev).isSome = false from rfl]
   clear hkn
   by_cases hlen : e.prev.length = 1
   ·obtain ⟨pv, hpv⟩ : ∃ pv, e.prev = [pv] := by
     match hq : e.prev, hlen with
     | [a], _ => exact ⟨a, rfl⟩
    rw [hpv] at HR HRP hc8
    rw [show [pv].length = 1 from rfl] at HRP hc8
    obtain ⟨gp, op, rfl, hcp⟩ := HRP.out.2 0 _ (intL_at (l := [pv]) (k := 0) rfl)
    rw [Nat.add_zero] at hcp
    clear hlen hpv HRP
    by_cases hpc : pv = cid
    ·subst hpc
     have hn0 : (pv == pv) = true := by simp
     have HR : Hid (R = (e.sender == csd && (e.key == csd && (e.n == 3)))) := hid (by rw [HR.out]; simp)
     have hs0 := str_dec e.sender (bstr csd)
     by_cases hsn : e.sender = csd
     ·rw [show (bstr csd).data.toList = csd from rfl, decide_eq_true hsn] at hs0
      have HR : Hid (R = (e.key == csd && (e.n == 3))) := hid (by rw [HR.out, hsn]; simp)
      have hs1 := str_dec e.key (bstr csd)
      clear hsn
      by_cases hkc : e.key = csd
      ·rw [show (bstr csd).data.toList = csd from rfl, decide_eq_true hkc] at hs1
       have HR : Hid (R = (e.n == 3)) := hid (by rw [HR.out, hkc]; simp)
       clear hkc
       by_cases hn3 : e.n = 3
       ·have HRF : Hid (R = true) := hid (by rw [HR.out, hn3]; simp)
        have hn1 := eqb_true hn3
        clear hn3
        go_quiet (fail)
        go_wp2_with fail
        go_ret
        exact ⟨ret_bool HRF.out.symm, below_drewN HB6.out _⟩
       ·have HRF : Hid (R = false) := hid (by rw [HR.out, eqb_false hn3])
        have hn1 := eqb_false hn3
        clear hn3
        go_quiet (fail)
        go_wp2_with fail
        go_ret
        exact ⟨ret_bool HRF.out.symm, below_drewN HB6.out _⟩
      ·have HRF : Hid (R = false) := hid (by rw [HR.out]; simp [hkc])
       rw [show (bstr csd).data.toList = csd from rfl, decide_eq_false hkc] at hs1
       clear hkc
       go_quiet (fail)
       go_wp2_with fail
       go_ret
       exact ⟨ret_bool HRF.out.symm, below_drewN HB6.out _⟩
     ·have HRF : Hid (R = false) := hid (by rw [HR.out]; simp [hsn])
      rw [show (bstr csd).data.toList = csd from rfl, decide_eq_false hsn] at hs0
      clear hsn
      go_quiet (fail)
      go_wp2_with fail
      go_ret
      exact ⟨ret_bool HRF.out.symm, below_drewN HB6.out _⟩
    ·have HRF : Hid (R = false) := hid (by rw [HR.out]; simp [hpc])
     have hn0 : (pv == cid) = false := eqb_false hpc
     clear hpc
     go_quiet (fail)
     go_wp2_with fail
     go_ret
     exact ⟨ret_bool HRF.out.symm, below_drewN HB6.out _⟩
   ·have HRF : Hid (R = false) := hid (by
     have : (e.prev == [cid]) = false := by rw [beq_eq_false_iff_ne]; intro h; exact hlen (by rw [h]; rfl)
     rw [HR.out, this]; rfl)
    have hb1 : ((e.prev.length : Int) == 1) = false := by rw [beq_eq_false_iff_ne]; omega
    have hb2 : (e.prev.length == 1) = false := by rw [beq_eq_false_iff_ne]; exact hlen
    clear hlen
    go_quiet (fail)
    go_wp2_with fail
    go_ret
    exact ⟨ret_bool HRF.out.symm, below_drewN HB6.out _⟩
end Go.Proofs.YtacjhbbieeliaaaGreatDoor
