/- The texts Of, Og of this proof, one behind the other. -/
import Derived.Test.YtiidljciaccidaaGreatDoorMbb
set_option linter.unusedSimpArgs false
set_option maxHeartbeats 16000000
set_option maxRecDepth 100000
set_option linter.unusedVariables false
/- The text Of. -/
namespace Go.Proofs.YtiidljciaccidaaGreatDoor
open Go.RowKit Go.Lib
set_option linter.unusedVariables false
set_option linter.unusedSimpArgs false
theorem rreached_any (ok : Nat → Prop) (l : List Co.Ev) (I : List Int) (A D : Option Addr) (cap capd : Nat) (w : World) (h : EvRow ok w A l) (hl : l.length ≤ 10000) (hW : ∀ e ∈ l, e.auth.length ≤ 1000000) (hD : Rd w D I.length (intL I)) (hc : I.length ≤ capd) (hI : Co.Incr I) (hs : ∀ x, x ∈ I → x ∈ Co.idsOf l) :
  Calls Tryz.prog 27 #[.slice A l.length cap, .slice D I.length capd, .bool true] w fun e w' => RetI (Co.reachF l (Co.authOf l) l.length I) e w' ∧ Below w.heap.size w w' := by
 have HROW := hid h
 have HNX := hid (fun (S : List Int) (B : Option Addr) (cb : Nat) (W : World) (hr : EvRow ok W A l) (hB : Rd W B S.length (intL S)) (hl2 : S.length ≤ 1000000) => rnext_any ok l S A B cap cb W hr hl hW hB hl2)
 obtain ⟨R, hR⟩ : ∃ R, R = Co.reachF l (Co.authOf l) l.length I := ⟨_, rfl⟩
 have HR0 : Hid (Co.reachF l (Co.authOf l) (l.length - 0) I = R) := hid (by rw [hR]; rfl)
 have HIS := hid (And.intro hI hs)
 have HI0 : Hid (IR w (.slice D I.length capd) I) := hid ⟨D, capd, rfl, hc, hD⟩
 rw [← hR]
 clear h hW hD hR hc hI hs
 go_enter Tryz.func27, Tryz.ntmps27
 go_wp2_with fail
 go_loopw [1, 7] (fun sx ix wr => ∃ (k : Nat) (S : List Int), k ≤ l.length ∧ ix = .int .i64 (k : Int) ∧ Hid (Co.reachF l (Co.authOf l) (l.length - k) S = R) ∧ Hid (Co.Incr S ∧ ∀ x, x ∈ S → x ∈ Co.idsOf l) ∧ IR wr sx S ∧ Below w.heap.size w wr) (fun _ ix _ => l.length - (RowKit.intOf ix).toNat)
 case atStart => exact ⟨0, I, Nat.zero_le _, rfl, HR0, HIS, HI0.out, Below.refl _ _⟩
 case round =>
  obtain ⟨k, S, hk, rfl, HRR, HSS, hir, hb⟩ := hrel
  have HIR := hid hir
  have HB := hid hb
  clear hb hir
  obtain ⟨w2, hw2⟩ : ∃ x, x = wr := ⟨_, rfl⟩
  subst hw2
  obtain ⟨v0, hv0⟩ : ∃ x, x = u1 := ⟨_, rfl⟩
  subst hv0
  by_cases hlt : k < l.length
  ·obtain ⟨B, cb, rfl, hcb, hrb⟩ := HIR.out
   have HSL : Hid (S.length ≤ 10000) := hid (by have := Co.incr_short HSS.out.1 HSS.out.2; omega)
   have HRB := hid hrb
   have HN := hid (HNX.out S B cb w2 (HROW.out.bel HB.out) hrb (by have := HSL.out; omega))
   have HTL : Hid ((Co.nextU l (Co.authOf l) S).length ≤ 10000) := hid (by have := Co.incr_short (Co.nextU_incr l (Co.authOf l) S) (fun x hx => (Co.mem_nextU.1 hx).2); omega)
   have HRN := hid (Co.reach_go HRR.out hlt)
   have HSN : Hid (Co.Incr (Co.sortU (S ++ Co.nextU l (Co.authOf l) S)) ∧ ∀ x, x ∈ Co.sortU (S ++ Co.nextU l (Co.authOf l) S) → x ∈ Co.idsOf l) := hid ⟨Co.incr_sortU _, Co.union_sub HSS.out.2⟩
   have hck : k + 1 ≤ l.length := hlt
   clear hcb hrb
   generalize Co.nextU l (Co.authOf l) S = T at *
   go_wp2_with fail
   refine HN.out.mono ?_
   rintro e w3 ⟨⟨C, c3, rfl, hc3, hr3⟩, hb3⟩
   have HB3 := hid (HB.out.trans (hb3.mono HB.out.size))
   have HU := hid (runion_any S T B C cb c3 w3 (HRB.out.below hb3) hr3 (by have := HSL.out; omega) (by have := HTL.out; omega))
   clear hb3 hc3 hr3
   generalize Co.sortU (S ++ T) = Z at *
   go_wp2_with fail
   refine HU.out.mono ?_
   rintro e w4 ⟨⟨E4, c4, rfl, hc4, hr4⟩, hb4⟩
   have HB4 := hid (HB3.out.trans (hb4.mono HB3.out.size))
   have HI4 : Hid (IR w4 (.slice E4 Z.length c4) Z) := hid ⟨E4, c4, rfl, hc4, hr4⟩
   clear hb4 hc4 hr4
   go_wp2_with fail
   go_roundw
   case rel => exact ⟨k + 1, Z, hck, by go_num, HRN, HSN, HI4.out, HB4.out⟩
   case measure => simp [RowKit.intOf]; omega
  ·obtain rfl : k = l.length := by omega
   have HRT : Hid (RetI R (.returned v0) w2) := hid (by have := HIR.out.ret; have h2 := HRR.out; rw [Nat.sub_self] at h2; have h3 : S = R := h2; rw [h3] at this; exact this)
   go_wp2_with fail
   go_ret
   exact ⟨HRT.out, HB.out⟩
theorem rchain_one (ok : Nat → Prop) (l : List Co.Ev) (A D : Option Addr) (cap capd : Nat) (a : Int) (w : World) (h : EvRow ok w A l) (hl : l.length ≤ 10000) (hW : ∀ e ∈ l, e.auth.length ≤ 1000000) (hD : Rd w D 1 (intL [a])) :
  Calls Tryz.prog 16 #[.slice A l.length cap, .slice D 1 capd] w fun e w' => RetI (Co.chainU l [a]) e w' ∧ Below w.heap.size w w' := by
 have HROW := hid h
 have HKN := hid (rknown_one ok l A D cap capd a w h hl hD)
 have HNX := hid (fun (S : List Int) (B : Option Addr) (cb : Nat) (W : World) (hr : EvRow ok W A l) (hB : Rd W B S.length (intL S)) (hl2 : S.length ≤ 1000000) => rnext_any ok l S A B cap cb W hr hl hW hB hl2)
 have HRE := hid (fun (S : List Int) (B : Option Addr) (cb : Nat) (W : World) (hr : EvRow ok W A l) (hB : Rd W B S.length (intL S)) (hc : S.length ≤ cb) (hI : Co.Incr S) (hs : ∀ x, x ∈ S → x ∈ Co.idsOf l) => rreached_any ok l S A B cap cb W hr hl hW hB hc hI hs)
 have HKL : Hid ((Co.knownU l [a]).length ≤ 1) := hid (by rw [Co.known_one]; split <;> simp)
 have HTI : Hid (Co.Incr (Co.nextU l (Co.authOf l) (Co.knownU l [a])) ∧ ∀ x, x ∈ Co.nextU l (Co.authOf l) (Co.knownU l [a]) → x ∈ Co.idsOf l) := hid ⟨Co.nextU_incr .., fun x hx => (Co.mem_nextU.1 hx).2⟩
 have HCH : Hid (Co.chainU l [a] = Co.reachF l (Co.authOf l) l.length (Co.nextU l (Co.authOf l) (Co.knownU l [a]))) := hid rfl
 clear h hW hD
 generalize Co.knownU l [a] = K0 at *
 generalize Co.chainU l [a] = R at *
 go_enter Tryz.func16, Tryz.ntmps16
 go_wp2_with fail
 refine HKN.out.mono ?_
 rintro e w2 ⟨⟨B, c2, rfl, hc2, hr2⟩, hb2⟩
 have HB2 := hid hb2
 have HN := hid (HNX.out K0 B c2 w2 (HROW.out.bel hb2) hr2 (by have := HKL.out; omega))
 clear hb2 hc2 hr2
 generalize Co.nextU l (Co.authOf l) K0 = T at *
 go_wp2_with fail
 refine HN.out.mono ?_
 rintro e w3 ⟨⟨C, c3, rfl, hc3, hr3⟩, hb3⟩
 have HB3 := hid (HB2.out.trans (hb3.mono HB2.out.size))
 have HU := hid (HRE.out T C c3 w3 (HROW.out.bel HB3.out) hr3 hc3 HTI.out.1 HTI.out.2)
 rw [← HCH.out] at HU
 clear hb3 hc3 hr3
 go_wp2_with fail
 refine HU.out.mono ?_
 rintro e w4 ⟨⟨E4, c4, rfl, hc4, hr4⟩, hb4⟩
 have HB4 := hid (HB3.out.trans (hb4.mono HB3.out.size))
 have HRT : Hid (RetI R (.returned (.slice E4 R.length c4)) w4) := hid ⟨E4, c4, rfl, hc4, hr4⟩
 clear hb4 hc4 hr4
 go_wp2_with fail
 go_ret
 exact ⟨HRT.out, HB4.out⟩
end Go.Proofs.YtiidljciaccidaaGreatDoor
/- The text Og. -/
namespace Go.Proofs.YtiidljciaccidaaGreatDoor
open Go.RowKit Go.Lib
set_option linter.unusedVariables false
set_option linter.unusedSimpArgs false
theorem rreach_any (ok : Nat → Prop) (l : List Co.Ev) (A : Option Addr) (cap : Nat) (a b : Int) (w : World) (h : EvRow ok w A l) (hl : l.length ≤ 10000) (hW : ∀ e ∈ l, e.auth.length ≤ 1000000) :
  Calls Tryz.prog 8 #[.slice A l.length cap, .int .i64 a, .int .i64 b] w fun e w' => e = .returned (.bool (Co.reachedB l a b)) ∧ Below w.heap.size w w' := by
 have HROW := hid h
 have HGET := hid (fun (id : Int) (W : World) (hr : EvRow ok W A l) => rget_any ok l A cap id W hr (by omega))
 have HCH := hid (fun (D : Option Addr) (capd : Nat) (W : World) (hr : EvRow ok W A l) (hD : Rd W D 1 (intL [a])) => rchain_one ok l A D cap capd a W hr hl hW hD)
 have HCL : Hid ((Co.chainU l [a]).length ≤ 10000) := hid (by
  have := Co.incr_short (l := l) (Co.chain_incr l [a]) (fun x hx => by
   have h1 := (Co.mem_chain x).1 hx
   cases h1 with
   | base _ h hk => exact hk
   | step y _ h hx hk => exact hk)
  omega)
 have HB0 := hid (Below.refl w.heap.size w)
 obtain ⟨R, hR⟩ : ∃ R, R = Co.reachedB l a b := ⟨_, rfl⟩
 have HR : Hid (R = ((Co.getE l a).isSome && ((Co.getE l b).isSome && (a == b || (Co.chainU l [a]).contains b)))) := hid hR
 rw [← hR]
 clear h hW hR
 go_enter Tryz.func8, Tryz.ntmps8
 go_wp2_with fail
 refine (HGET.out a w HROW.out).mono ?_
 rintro e w2 ⟨⟨V, rfl, hv⟩, hb2⟩
 have hvl := hv.len
 rw [Array.length_toList] at hvl
 have HSX : Hid ((Tryz.prog.info? 41).map (·.size) = some V.size) := hid (by rw [size_ev, hvl])
 have HSZ : Hid (zEv.size = V.size) := hid hvl.symm
 have HOV : Hid (V.all (·.oneCell') = true) := hid (by have := EvS.all hv; rwa [Array.toArray_toList] at this)
 have HNEW := hid (Blk.new w2 41 zEv)
 have hb3 := below_setRow (g := w2.heap.size) ((Below.refl w2.heap.size w2).alloc (Nat.le_refl _) (.cells zEv 41)) (Nat.le_refl _) V
 have HK3 : Hid (Blk ((w2.alloc (.cells zEv 41)).setRow w2.heap.size V) w2.heap.size 41 V) := hid (setRow_heap _ _ _ _ _ _ HNEW.out)
 have HB23 := hid (hb2.trans (hb3.mono hb2.size))
 have HB3 := hid (HB0.out.trans (HB23.out.mono HB0.out.size))
 have HN32 := hid HK3.out.lt
 clear hv
 clear hb2 hb3 hvl
 generalize hw3 : (w2.alloc (.cells zEv 41)).setRow w2.heap.size V = w3 at *
 generalize (Co.getE l a).isSome = sa at *
 go_upto_region 2 with ((with_reducible refine store_rowe rfl 41 _ _ rfl w2.heap.size V ?_ ?_ 41 zEv HNEW.out HSX.out HSZ.out HOV.out ?_); rfl; rfl; rw [hw3])
 clear HNEW HSX HSZ HOV
 go_wp2_with fail
 refine (HGET.out b w3 (HROW.out.bel HB3.out)).mono ?_
 rintro e w4 ⟨⟨V, rfl, hv⟩, hb4⟩
 have hvl := hv.len
 rw [Array.length_toList] at hvl
 have HSX : Hid ((Tryz.prog.info? 41).map (·.size) = some V.size) := hid (by rw [size_ev, hvl])
 have HSZ : Hid (zEv.size = V.size) := hid hvl.symm
 have HOV : Hid (V.all (·.oneCell') = true) := hid (by have := EvS.all hv; rwa [Array.toArray_toList] at this)
 have HNEW := hid (Blk.new w4 41 zEv)
 have hb5 := below_setRow (g := w4.heap.size) ((Below.refl w4.heap.size w4).alloc (Nat.le_refl _) (.cells zEv 41)) (Nat.le_refl _) V
 have HK5 : Hid (Blk ((w4.alloc (.cells zEv 41)).setRow w4.heap.size V) w4.heap.size 41 V) := hid (setRow_heap _ _ _ _ _ _ HNEW.out)
 have HB45 := hid (hb4.trans (hb5.mono hb4.size))
 have HB5 := hid (HB3.out.trans (HB45.out.mono HB3.out.size))
 have HN54 := hid HK5.out.lt
 clear hv
 clear hb4 hb5 hvl
 generalize hw5 : (w4.alloc (.cells zEv 41)).setRow w4.heap.size V = w5 at *
 generalize (Co.getE l b).isSome = sb at *
 cases sa with
 | false =>
  have HRF : Hid (R = false) := hid HR.out
  go_wp2_with ((with_reducible refine store_rowe rfl 41 _ _ rfl w4.heap.size V ?_ ?_ 41 zEv HNEW.out HSX.out HSZ.out HOV.out ?_); rfl; rfl; rw [hw5])
  go_ret
  exact ⟨ret_bool HRF.out.symm, HB5.out⟩
 | true =>
  cases sb with
  | false =>
   have HRF : Hid (R = false) := hid HR.out
   go_wp2_with ((with_reducible refine store_rowe rfl 41 _ _ rfl w4.heap.size V ?_ ?_ 41 zEv HNEW.out HSX.out HSZ.out HOV.out ?_); rfl; rfl; rw [hw5])
   go_ret
   exact ⟨ret_bool HRF.out.symm, HB5.out⟩
  | true =>
   by_cases hab : a = b
   ·have HRF : Hid (R = true) := hid (by rw [HR.out, hab]; simp)
    have hbe : (a == b) = true := by simp; exact hab
    clear hab
    go_wp2_with ((with_reducible refine store_rowe rfl 41 _ _ rfl w4.heap.size V ?_ ?_ 41 zEv HNEW.out HSX.out HSZ.out HOV.out ?_); rfl; rfl; rw [hw5])
    go_ret
    exact ⟨ret_bool HRF.out.symm, HB5.out⟩
   ·have hbe : (a == b) = false := by simp; exact hab
    have HRF : Hid (R = (Co.chainU l [a]).contains b) := hid (by rw [HR.out, hbe]; simp)
    clear hab HR
    have hba := (Below.refl w5.heap.size w5).alloc (Nat.le_refl _) (.cells #[.int .i64 a] 3)
    have HB6 := hid (HB5.out.trans (hba.mono HB5.out.size))
    have HCA := hid (HCH.out (some ⟨w5.heap.size, 0, none⟩) 1 (w5.alloc (.cells #[.int .i64 a] 3)) (HROW.out.bel HB6.out) (by
     obtain ⟨A', cap', e, _, hr⟩ := (OI.lit1 (base := 0) w5 a (Nat.zero_le _)).at_
     injection e with e1 e2 e3
     subst e1
     exact hr))
    clear hba
    generalize Co.chainU l [a] = C at *
    generalize hw6 : w5.alloc (.cells #[.int .i64 a] 3) = w6 at *
    go_wp2_with ((with_reducible refine store_rowe rfl 41 _ _ rfl w4.heap.size V ?_ ?_ 41 zEv HNEW.out HSX.out HSZ.out HOV.out ?_); rfl; rfl; rw [hw5])
    refine HCA.out.mono ?_
    rintro e w7 ⟨⟨D, c7, rfl, hc7, hr7⟩, hb7⟩
    have HB7 := hid (HB6.out.trans (hb7.mono HB6.out.size))
    have HPL := hid (rplace_any C D c7 b w7 hr7 (by have := HCL.out; omega))
    have HIX := hid (ix_has b C)
    clear hb7 hc7 hr7
    generalize ixF (isI b) 0 C = p at *
    rcases HIX.out with ⟨rfl, hcb⟩ | ⟨i, rfl, hcb⟩
    ·have HRG : Hid (R = false) := hid (by rw [HRF.out, hcb])
     clear hcb HIX
     go_wp2_with fail
     refine HPL.out.mono ?_
     rintro e w8 ⟨rfl, rfl⟩
     go_wp2_with fail
     go_ret
     exact ⟨ret_bool HRG.out.symm, HB7.out⟩
    ·have HRG : Hid (R = true) := hid (by rw [HRF.out, hcb])
     clear hcb HIX
     go_wp2_with fail
     refine HPL.out.mono ?_
     rintro e w8 ⟨rfl, rfl⟩
     go_wp2_with fail
     go_ret
     exact ⟨ret_bool HRG.out.symm, HB7.out⟩
end Go.Proofs.YtiidljciaccidaaGreatDoor
