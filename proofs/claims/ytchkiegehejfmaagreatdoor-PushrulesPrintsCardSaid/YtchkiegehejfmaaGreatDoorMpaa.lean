/- The texts Gq, Gu, Gm, Gn, Gp of this proof, one behind the other. -/
import Derived.Test.YtchkiegehejfmaaGreatDoorMas
import Derived.Test.YtchkiegehejfmaaGreatDoorMat
import Derived.Test.YtchkiegehejfmaaGreatDoorMar
import Derived.Test.YtchkiegehejfmaaGreatDoorMbb
set_option linter.unusedSimpArgs false
set_option maxHeartbeats 16000000
set_option maxRecDepth 100000
set_option linter.unusedVariables false
/- The text Gq. -/
namespace Pr
mutual
def cntC : Nat → Cn → Nat
 | lv, .mk _ t _ ks => if 30 < lv ∨ 150 < t.length ∨ 60 < ks.length then 61 else cntK lv 1 ks
def cntK : Nat → Nat → List Cn → Nat
 | _, acc, [] => acc
 | lv, acc, c :: r => if 60 < acc then acc else cntK lv (acc + cntC (lv + 1) c) r
end
theorem cntC_open (lv : Nat) (c : Cn) : cntC lv c = if 30 < lv ∨ 150 < c.text.length ∨ 60 < c.kids.length then 61 else cntK lv 1 c.kids := by cases c; rw [cntC]; rfl
theorem cntK_stop {lv acc : Nat} (h : 60 < acc) (l : List Cn) : cntK lv acc l = acc := by
 cases l with
 | nil => rw [cntK]
 | cons c r => rw [cntK, if_pos h]
theorem cntK_drop {lv acc : Nat} {ks : List Cn} {k : Nat} {c : Cn} (h : ks[k]? = some c) (ha : ¬ 60 < acc) : cntK lv acc (ks.drop k) = cntK lv (acc + cntC (lv + 1) c) (ks.drop (k + 1)) := by
 obtain ⟨h1, h2⟩ := List.getElem?_eq_some_iff.1 h
 rw [List.drop_eq_getElem_cons h1, h2, cntK, if_neg ha]
mutual
theorem cntC_le : ∀ (lv : Nat) (c : Cn), cntC lv c ≤ (32 - lv) * 61 + 61
 | lv, .mk o t n ks => by
  rw [cntC]
  split
  ·omega
  ·rename_i h
   have := cntK_le lv 1 ks (by omega) (by omega)
   exact this
theorem cntK_le : ∀ (lv acc : Nat) (l : List Cn), lv ≤ 30 → acc ≤ (32 - lv) * 61 + 61 → cntK lv acc l ≤ (32 - lv) * 61 + 61
 | lv, acc, [], hl, h => by rw [cntK]; exact h
 | lv, acc, c :: r, hl, h => by
  rw [cntK]
  split
  ·exact h
  ·have h1 := cntC_le (lv + 1) c
   exact cntK_le lv _ r hl (by omega)
end
mutual
theorem cntC_small : ∀ (lv : Nat) (c : Cn), cntC lv c ≤ 60 → cntC lv c = nodes c ∧ small c
 | lv, .mk o t n ks, h => by
  rw [cntC] at h ⊢
  split at h
  ·omega
  ·rename_i g
   rw [if_neg g]
   obtain ⟨h1, h2⟩ := cntK_small lv 1 ks h
   refine ⟨by rw [h1, nodes]; omega, ?_⟩
   unfold small
   exact ⟨by omega, h2⟩
theorem cntK_small : ∀ (lv acc : Nat) (l : List Cn), cntK lv acc l ≤ 60 → cntK lv acc l = acc + nodesL l ∧ smallL l
 | lv, acc, [], h => by rw [cntK]; unfold nodesL smallL; exact ⟨rfl, trivial⟩
 | lv, acc, c :: r, h => by
  rw [cntK] at h ⊢
  split at h
  ·omega
  ·rename_i g
   rw [if_neg g]
   obtain ⟨h1, h2⟩ := cntK_small lv _ r h
   have hc : cntC (lv + 1) c ≤ 60 := by rw [h1] at h; omega
   obtain ⟨h3, h4⟩ := cntC_small (lv + 1) c hc
   refine ⟨by rw [h1, h3, nodesL]; omega, ?_⟩
   unfold smallL
   exact ⟨h4, h2⟩
end
def big (c : Cn) : Bool := decide (60 < cntC 0 c)
theorem big_no {c : Cn} (h : big c = false) : nodes c ≤ 60 ∧ small c := by
 have h2 : cntC 0 c ≤ 60 := by
  unfold big at h
  have := of_decide_eq_false h
  omega
 obtain ⟨h1, h3⟩ := cntC_small 0 c h2
 exact ⟨by omega, h3⟩
def greatX (x : Rl) : Bool := big x.wh || (decide (100 < x.name.length) || (decide (10 < x.acts.length) || x.acts.any fun a => decide (100 < a.length)))
def great (most : Nat) (l : List Rl) : Bool := decide (most < l.length) || l.any greatX
structure NotGreat (x : Rl) : Prop where
 nodes : nodes x.wh ≤ 60
 small : small x.wh
 name : x.name.length ≤ 100
 few : x.acts.length ≤ 10
 acts : ∀ a ∈ x.acts, a.length ≤ 100
theorem greatX_no {x : Rl} (h : greatX x = false) : NotGreat x := by
 unfold greatX at h
 simp only [Bool.or_eq_false_iff, decide_eq_false_iff_not, List.any_eq_false, decide_eq_true_eq] at h
 obtain ⟨h1, h2, h3, h4⟩ := h
 obtain ⟨h5, h6⟩ := big_no h1
 exact ⟨h5, h6, by omega, by omega, fun a ha => by have := h4 a ha; omega⟩
theorem great_no {most : Nat} {l : List Rl} (h : great most l = false) : l.length ≤ most ∧ ∀ x ∈ l, NotGreat x := by
 unfold great at h
 simp only [Bool.or_eq_false_iff, decide_eq_false_iff_not, List.any_eq_false] at h
 exact ⟨by omega, fun x hx => greatX_no (by cases hg : greatX x with | false => rfl | true => exact absurd hg (h.2 x hx))⟩
theorem NotGreat.good {x : Rl} (h : NotGreat x) : x.Good := ⟨by have := h.name; omega, h.small, by have := h.nodes; omega, fun a ha => by have := h.acts a ha; omega⟩
end Pr
namespace Go.Proofs.YtchkiegehejfmaaGreatDoor
open Go.RowKit Go.Lib
set_option linter.unusedVariables false
set_option linter.unusedSimpArgs false
theorem rcount_any : ∀ (m : Nat) (ok : Nat → Prop) (c : Pr.Cn) (V : Array Value) (lv : Nat) (w : World), Pr.nodes c ≤ m → lv ≤ 31 → CnV w ok V c → Calls Tryz.prog 40 #[.agg V, .int .i64 60, .int .i64 (lv : Int)] w fun e w' => e = .returned (.int .i64 (Pr.cntC lv c : Int)) ∧ Below w.heap.size w w'
 | 0, ok, c, V, lv, w, hm, _, h => absurd hm (by have := Pr.nodes_pos c; omega)
 | m + 1, ok, c, V, lv, w, hm, hlv, h => by
  have IH := hid (fun c V lv w (hc : Pr.nodes c ≤ m) (hl : lv ≤ 31) (h : CnV w ok V c) => rcount_any m ok c V lv w hc hl h)
  have hne := Pr.nodes_eq c
  have hop := Pr.cntC_open lv c
  obtain ⟨A, cap, rfl, hrow⟩ := h.open
  obtain ⟨o, t, n, ks⟩ := c
  change Pr.nodes (.mk o t n ks) = Pr.nodesL ks + 1 at hne
  have HR := hid hrow
  change Pr.cntC lv (.mk o t n ks) = if 30 < lv ∨ 150 < t.length ∨ 60 < ks.length then 61 else Pr.cntK lv 1 ks at hop
  show Calls Tryz.prog 40 #[.agg #[.int .i64 o, .string (bstr t), .int .i64 n, .slice A ks.length cap], .int .i64 60, .int .i64 (lv : Int)] w _
  obtain ⟨Z, hZ⟩ : ∃ Z, Pr.cntC lv (.mk o t n ks) = Z := ⟨_, rfl⟩
  rw [hZ] at hop ⊢
  have HB1 := hid ((Below.refl w.heap.size w).alloc (Nat.le_refl _) (.cells #[.int .i64 o, .string (bstr t), .int .i64 n, .slice A ks.length cap] 36))
  have hk1 := Blk.new w 36 #[.int .i64 o, .string (bstr t), .int .i64 n, .slice A ks.length cap]
  have hx1 : (w.alloc (.cells #[.int .i64 o, .string (bstr t), .int .i64 n, .slice A ks.length cap] 36)).cell? ⟨w.heap.size, 1, none⟩ = some (.string (bstr t)) := hk1.cell 1
  have hx3 : (w.alloc (.cells #[.int .i64 o, .string (bstr t), .int .i64 n, .slice A ks.length cap] 36)).cell? ⟨w.heap.size, 3, none⟩ = some (.slice A ks.length cap) := hk1.cell 3
  have HR1 := hid (HR.out.below HB1.out)
  generalize hw1 : w.alloc (.cells #[.int .i64 o, .string (bstr t), .int .i64 n, .slice A ks.length cap] 36) = w1 at *
  have htz := bstr_size t
  generalize bstr t = T at *
  clear hZ hk1 hrow h
  by_cases h30 : 30 < lv
  ·have HE : Hid (Z = 61) := hid (by rw [hop, if_pos (.inl h30)])
   have hI : (30 : Int) < (lv : Int) := by omega
   clear hop htz
   go_enter Tryz.func40, Tryz.ntmps40
   go_wp2_with fail
   go_ret
   exact ⟨congrArg (fun n : Nat => Ending.returned (.int .i64 (n : Int))) HE.out.symm, HB1.out⟩
  have hI : decide ((30 : Int) < (lv : Int)) = false := decide_eq_false (by omega)
  by_cases h150 : 150 < t.length
  ·have HE : Hid (Z = 61) := hid (by rw [hop, if_pos (.inr (.inl h150))])
   have hI2 : (150 : Int) < (T.size : Int) := by omega
   clear hop htz
   go_enter Tryz.func40, Tryz.ntmps40
   go_wp2_with fail
   go_ret
   exact ⟨congrArg (fun n : Nat => Ending.returned (.int .i64 (n : Int))) HE.out.symm, HB1.out⟩
  have hI2 : decide ((150 : Int) < (T.size : Int)) = false := decide_eq_false (by omega)
  by_cases h60 : 60 < ks.length
  ·have HE : Hid (Z = 61) := hid (by rw [hop, if_pos (.inr (.inr h60))])
   have hI3 : (60 : Int) < (ks.length : Int) := by omega
   clear hop htz
   go_enter Tryz.func40, Tryz.ntmps40
   go_wp2_with fail
   go_ret
   exact ⟨congrArg (fun n : Nat => Ending.returned (.int .i64 (n : Int))) HE.out.symm, HB1.out⟩
  have hI3 : ¬ (60 : Int) < (ks.length : Int) := by omega
  have HE : Hid (Pr.cntK lv 1 (ks.drop 0) = Z) := hid (by rw [hop, if_neg (by omega), List.drop_zero])
  have hwl : IntKind.i64.wrap ((lv : Int) + 1) = ((lv + 1 : Nat) : Int) := by rw [IntWalk.i64_in _ (by omega)]; rfl
  clear hop htz
  go_enter Tryz.func40, Tryz.ntmps40
  go_wp2_with fail
  go_loopw [7, 8] (fun nx ix wr => ∃ k acc : Nat, k ≤ ks.length ∧ nx = .int .i64 (acc : Int) ∧ ix = .int .i64 (k : Int) ∧ acc ≤ 2013 ∧ Hid (Pr.cntK lv acc (ks.drop k) = Z) ∧ Below w1.heap.size w1 wr) (fun _ ix _ => ks.length - (RowKit.intOf ix).toNat)
  case atStart => exact ⟨0, 1, Nat.zero_le _, rfl, rfl, by decide, HE, Below.refl _ _⟩
  case round =>
   obtain ⟨k, acc, hk, rfl, rfl, hacc, hrel, hb⟩ := hrel
   have HB := hid hb
   have hy3 := (hb.cell (block_lt hx3)).trans hx3
   clear hb
   by_cases hlt : k < ks.length
   ·by_cases ha : 60 < acc
    ·have HEN : Hid (Z = acc) := hid (by rw [← hrel.out, Pr.cntK_stop ha])
     have haI : ¬ (acc : Int) ≤ 60 := by omega
     go_wp2_with fail
     go_ret
     exact ⟨congrArg (fun n : Nat => Ending.returned (.int .i64 (n : Int))) HEN.out.symm, HB1.out.trans (HB.out.mono HB1.out.size)⟩
    ·obtain ⟨x, hx⟩ : ∃ x, ks[k]? = some x := ⟨_, List.getElem?_eq_getElem hlt⟩
     obtain ⟨b, off, cs, rfl, hok, hr, hcl, hcv⟩ := (HR1.out.below HB.out) k x hx
     have HN : Hid (Pr.cntK lv (acc + Pr.cntC (lv + 1) x) (ks.drop (k + 1)) = Z) := hid (by rw [← hrel.out, Pr.cntK_drop hx ha])
     have hnk := Pr.nodes_kid hx
     have hcle := Pr.cntC_le (lv + 1) x
     have HCV := hid hcv
     have HL2 : Hid ((Tryz.prog.info? 36).map (·.size) = some cs.length) := hid (by rw [size_cond, hcl])
     have haI : (acc : Int) ≤ 60 := by omega
     have HIX := hid (IH.out x cs.toArray (lv + 1) wr (by omega) (by omega) hcv)
     generalize Pr.cntC (lv + 1) x = cx at *
     have hcx : cx ≤ 1952 := by
      have : (32 - (lv + 1)) * 61 ≤ 31 * 61 := Nat.mul_le_mul_right 61 (by omega)
      omega
     have hwa : IntKind.i64.wrap ((acc : Int) + (cx : Int)) = ((acc + cx : Nat) : Int) := by rw [IntWalk.i64_in _ (by omega)]; rfl
     clear hx hcv hcle
     go_wp2_with (first
      | ((with_reducible refine wpList_load_mid rfl 36 _ rfl b (off + k * 4) ?_ cs _ hr Tryz.underlying36 ?_ HL2.out ?_); rfl; rfl)
      | (go_at_call 40; refine HIX.out.mono ?_; rintro e w3 ⟨rfl, hb3⟩; have HB3 := hid (HB.out.trans (hb3.mono HB.out.size)); clear hb3))
     go_roundw
     case rel => exact ⟨k + 1, acc + cx, by omega, by go_num, by go_num, by omega, HN, HB3.out⟩
     case measure => simp [RowKit.intOf]; omega
   ·obtain rfl : k = ks.length := by omega
    have HEN : Hid (Z = acc) := hid (by rw [← hrel.out, List.drop_length]; rw [Pr.cntK])
    go_wp2_with fail
    go_ret
    exact ⟨congrArg (fun n : Nat => Ending.returned (.int .i64 (n : Int))) HEN.out.symm, HB1.out.trans (HB.out.mono HB1.out.size)⟩
theorem rbig_any (ok : Nat → Prop) (c : Pr.Cn) (V : Array Value) (w : World) (h : CnV w ok V c) : Calls Tryz.prog 14 #[.agg V] w fun e w' => e = .returned (.bool (Pr.big c)) ∧ Below w.heap.size w w' := by
 have HB1 := hid ((Below.refl w.heap.size w).alloc (Nat.le_refl _) (.cells V 36))
 have HK := hid (Blk.new w 36 V)
 have HSX : Hid ((Tryz.prog.info? 36).map (·.size) = some V.size) := hid (by rw [size_cond, h.size])
 have HC := hid (rcount_any (Pr.nodes c) ok c V 0 _ (Nat.le_refl _) (by decide) (h.bel HB1.out))
 have hb : Pr.big c = decide ((60 : Int) < (Pr.cntC 0 c : Int)) := by
  unfold Pr.big
  by_cases h : 60 < Pr.cntC 0 c
  ·rw [decide_eq_true h, decide_eq_true (by omega)]
  ·rw [decide_eq_false h, decide_eq_false (by omega)]
 rw [hb]
 generalize Pr.cntC 0 c = n at *
 generalize hw1 : w.alloc (.cells V 36) = w1 at *
 clear h hb
 go_enter Tryz.func14, Tryz.ntmps14
 go_wp2_with (first
  | (refine load_row_u (by rfl) 36 _ rfl w.heap.size rfl 36 _ (0, 0) _ rfl HK.out Tryz.underlying36 HSX.out ?_)
  | (go_at_call 40; refine HC.out.mono ?_; rintro e w3 ⟨rfl, hb3⟩; have HB3 := hid (HB1.out.trans (hb3.mono HB1.out.size)); clear hb3))
 go_ret
 exact ⟨rfl, HB3.out⟩
end Go.Proofs.YtchkiegehejfmaaGreatDoor
/- The text Gu. -/
namespace Pr
theorem take_no {p : Rl → Bool} {L : List Rl} {k : Nat} {y : Rl} (h : ∀ z ∈ L.take k, p z = false) (hy : L[k]? = some y) (hn : p y = false) : ∀ z ∈ L.take (k + 1), p z = false := fun z hz => by
 obtain ⟨h1, h2⟩ := List.getElem?_eq_some_iff.1 hy
 rw [List.take_succ_eq_append_getElem h1, h2] at hz
 rcases List.mem_append.1 hz with hz | hz
 ·exact h z hz
 ·rw [List.mem_singleton.1 hz]; exact hn
theorem take_noS {p : Str → Bool} {L : List Str} {k : Nat} {y : Str} (h : ∀ z ∈ L.take k, p z = false) (hy : L[k]? = some y) (hn : p y = false) : ∀ z ∈ L.take (k + 1), p z = false := fun z hz => by
 obtain ⟨h1, h2⟩ := List.getElem?_eq_some_iff.1 hy
 rw [List.take_succ_eq_append_getElem h1, h2] at hz
 rcases List.mem_append.1 hz with hz | hz
 ·exact h z hz
 ·rw [List.mem_singleton.1 hz]; exact hn
end Pr
namespace Go.Proofs.YtchkiegehejfmaaGreatDoor
open Go.RowKit Go.Lib
set_option linter.unusedVariables false
set_option linter.unusedSimpArgs false
theorem rgreat_any (ok : Nat → Prop) (most : Nat) (l : List Pr.Rl) (A : Option Addr) (cap : Nat) (w : World) (hmo : most ≤ 1000000) (hr : RlRow w ok A l) : Calls Tryz.prog 11 #[.slice A l.length cap, .int .i64 (most : Int)] w fun e w' => e = .returned (.bool (Pr.great most l)) ∧ Below w.heap.size w w' := by
 have HR := hid hr
 clear hr
 by_cases hm : most < l.length
 ·have HZ : Hid (Pr.great most l = true) := hid (by unfold Pr.great; rw [decide_eq_true hm]; rfl)
  have hI : (most : Int) < (l.length : Int) := by omega
  rw [HZ.out]
  go_enter Tryz.func11, Tryz.ntmps11
  go_wp2_with fail
  go_ret
  exact ⟨rfl, Below.refl _ _⟩
 have HT : Hid (∀ x ∈ l, Pr.greatX x = true → Pr.great most l = true) := hid (fun x hx h => by unfold Pr.great; rw [List.any_eq_true.2 ⟨x, hx, h⟩, Bool.or_true])
 have HF : Hid ((∀ x ∈ l, Pr.greatX x = false) → Pr.great most l = false) := hid (fun h => by unfold Pr.great; rw [decide_eq_false hm, List.any_eq_false.2 (fun x hx => by rw [h x hx]; decide)]; rfl)
 have hI : ¬ (most : Int) < (l.length : Int) := by omega
 have hll : l.length ≤ 1000000 := by omega
 generalize Pr.great most l = Z at *
 clear hm
 go_enter Tryz.func11, Tryz.ntmps11
 go_wp2_with fail
 go_loopw [5] (fun ix wr => ∃ k : Nat, k ≤ l.length ∧ ix = .int .i64 (k : Int) ∧ Below w.heap.size w wr ∧ ∀ z ∈ l.take k, Pr.greatX z = false) (fun ix _ => l.length - (RowKit.intOf ix).toNat)
 case atStart => exact ⟨0, Nat.zero_le _, rfl, Below.refl _ _, fun z hz => by simp at hz⟩
 case round =>
  obtain ⟨k, hk, rfl, hb, hall⟩ := hrel
  have HB := hid hb
  have HALL := hid hall
  have hws := hb.size
  clear hb hall
  by_cases hlt : k < l.length
  ·obtain ⟨x, hx⟩ : ∃ x, l[k]? = some x := ⟨_, List.getElem?_eq_getElem hlt⟩
   obtain ⟨b, off, cs, rfl, hok, hrg, hcl, A2, cap2, D, dcap, hcs, hkr, hrd, hdc, hdo⟩ := (HR.out.bel HB.out) k x hx
   have HX := hid (HT.out x (List.mem_of_getElem? hx))
   have HNX := hid (fun h => Pr.take_no HALL.out hx h)
   obtain rfl : cs = [.string (bstr x.name), .int .i64 x.wh.op, .string (bstr x.wh.text), .int .i64 x.wh.num, .slice A2 x.wh.kids.length cap2, .slice D x.acts.length dcap] := by
    have h := congrArg Array.toList hcs
    simpa using h
   have hcn : wr.cell? ⟨b, off + k * 6, none⟩ = some (.string (bstr x.name)) := by have h := hrg 0 _ rfl; rwa [Nat.add_zero] at h
   have hca : wr.cell? ⟨b, off + k * 6 + 5, none⟩ = some (.slice D x.acts.length dcap) := hrg 5 _ rfl
   have hrc : wr.rangeAt b (off + k * 6 + 1) [.int .i64 x.wh.op, .string (bstr x.wh.text), .int .i64 x.wh.num, .slice A2 x.wh.kids.length cap2] := fun j v hj => by
    have hj4 : j < 4 := (List.getElem?_eq_some_iff.1 hj).1
    have h := hrg (1 + j) v (by rcases j with _ | _ | _ | _ | j <;> first | exact hj | omega)
    rwa [← Nat.add_assoc] at h
   have HSZ : Hid ((Tryz.prog.info? 36).map (·.size) = some ([.int .i64 x.wh.op, .string (bstr x.wh.text), .int .i64 x.wh.num, .slice A2 x.wh.kids.length cap2] : List Value).length) := hid (by rw [size_cond]; rfl)
   have HBG := hid (rbig_any ok x.wh _ wr (CnV.of hkr cap2))
   have HRD := hid hrd
   have hkI : (k : Int) < (l.length : Int) := by omega
   have hgx : Pr.greatX x = (Pr.big x.wh || (decide (100 < x.name.length) || (decide (10 < x.acts.length) || x.acts.any fun a => decide (100 < a.length)))) := rfl
   rw [hgx] at HX HNX
   have htz := bstr_size x.name
   clear hx hcs hrg hkr hrd hdc hdo hgx
   generalize bstr x.name = NM at *
   generalize Pr.big x.wh = G at *
   cases G with
   | true =>
    have HZ : Hid (true = Z) := hid (HX.out rfl).symm
    clear htz
    go_wp2_with (first
     | ((with_reducible refine wpList_load_mid rfl 36 _ rfl b (off + k * 6 + 1) ?_ _ _ hrc Tryz.underlying36 ?_ HSZ.out ?_); rfl; rfl)
     | (go_at_call 14; refine HBG.out.mono ?_; rintro e w3 ⟨rfl, hb3⟩; have HB3 := hid (HB.out.trans (hb3.mono hws)); have hcn3 := (hb3.cell (block_lt hcn)).trans hcn; have hca3 := (hb3.cell (block_lt hca)).trans hca; have HRD3 := hid (HRD.out.below hb3); clear hb3))
    go_ret
    exact ⟨congrArg (fun z => Ending.returned (.bool z)) HZ.out, HB3.out⟩
   | false =>
    rw [Bool.false_or] at HX HNX
    by_cases h100 : 100 < x.name.length
    ·have HZ : Hid (true = Z) := hid (HX.out (by rw [decide_eq_true h100]; rfl)).symm
     have g1 : decide ((100 : Int) < (NM.size : Int)) = true := decide_eq_true (by omega)
     clear htz
     go_wp2_with (first
      | ((with_reducible refine wpList_load_mid rfl 36 _ rfl b (off + k * 6 + 1) ?_ _ _ hrc Tryz.underlying36 ?_ HSZ.out ?_); rfl; rfl)
      | (go_at_call 14; refine HBG.out.mono ?_; rintro e w3 ⟨rfl, hb3⟩; have HB3 := hid (HB.out.trans (hb3.mono hws)); have hcn3 := (hb3.cell (block_lt hcn)).trans hcn; have hca3 := (hb3.cell (block_lt hca)).trans hca; have HRD3 := hid (HRD.out.below hb3); clear hb3))
     go_ret
     exact ⟨congrArg (fun z => Ending.returned (.bool z)) HZ.out, HB3.out⟩
    ·have g1 : decide ((100 : Int) < (NM.size : Int)) = false := decide_eq_false (by omega)
     rw [decide_eq_false h100, Bool.false_or] at HX HNX
     clear htz
     by_cases h10 : 10 < x.acts.length
     ·have HZ : Hid (true = Z) := hid (HX.out (by rw [decide_eq_true h10]; rfl)).symm
      have g2 : (10 : Int) < (x.acts.length : Int) := by omega
      go_wp2_with (first
       | ((with_reducible refine wpList_load_mid rfl 36 _ rfl b (off + k * 6 + 1) ?_ _ _ hrc Tryz.underlying36 ?_ HSZ.out ?_); rfl; rfl)
       | (go_at_call 14; refine HBG.out.mono ?_; rintro e w3 ⟨rfl, hb3⟩; have HB3 := hid (HB.out.trans (hb3.mono hws)); have hcn3 := (hb3.cell (block_lt hcn)).trans hcn; have hca3 := (hb3.cell (block_lt hca)).trans hca; have HRD3 := hid (HRD.out.below hb3); clear hb3))
      go_ret
      exact ⟨congrArg (fun z => Ending.returned (.bool z)) HZ.out, HB3.out⟩
     ·have g2 : ¬ (10 : Int) < (x.acts.length : Int) := by omega
      rw [decide_eq_false h10, Bool.false_or] at HX HNX
      go_wp2_with (first
       | ((with_reducible refine wpList_load_mid rfl 36 _ rfl b (off + k * 6 + 1) ?_ _ _ hrc Tryz.underlying36 ?_ HSZ.out ?_); rfl; rfl)
       | (go_at_call 14; refine HBG.out.mono ?_; rintro e w3 ⟨rfl, hb3⟩; have HB3 := hid (HB.out.trans (hb3.mono hws)); have hcn3 := (hb3.cell (block_lt hcn)).trans hcn; have hca3 := (hb3.cell (block_lt hca)).trans hca; have HRD3 := hid (HRD.out.below hb3); clear hb3))
      obtain ⟨w5, rfl⟩ : ∃ w5, w5 = w3 := ⟨_, rfl⟩
      have hw5 := HB3.out.size
      go_loopw [6] (fun jx wq => ∃ j : Nat, j ≤ x.acts.length ∧ jx = .int .i64 (j : Int) ∧ Below w5.heap.size w5 wq ∧ ∀ z ∈ x.acts.take j, decide (100 < z.length) = false) (fun jx _ => x.acts.length - (RowKit.intOf jx).toNat)
      case atStart => exact ⟨0, Nat.zero_le _, rfl, Below.refl _ _, fun z hz => by simp at hz⟩
      case round =>
       obtain ⟨j, hj, rfl, hbq, hall⟩ := hrel
       have HBQ := hid (HB3.out.trans (hbq.mono hw5))
       have HBW := hid hbq
       have hcaq := (hbq.cell (block_lt hca3)).trans hca3
       have HRQ := hid (HRD3.out.below hbq)
       have HAL := hid hall
       clear hbq hall
       by_cases hjk : j < x.acts.length
       ·obtain ⟨b2, off2, y, rfl, hy, hcy⟩ := HRQ.out.str_at hjk
        have HNY := hid (fun h => Pr.take_noS HAL.out hy h)
        have HXY : Hid (decide (100 < y.length) = true → true = Z) := hid (fun h => (HX.out (List.any_eq_true.2 ⟨y, List.mem_of_getElem? hy, h⟩)).symm)
        have hyz := bstr_size y
        have hjI : (j : Int) < (x.acts.length : Int) := by omega
        generalize bstr y = YN at *
        clear hy
        by_cases hy1 : 100 < y.length
        ·have HZ := hid (HXY.out (decide_eq_true hy1))
         have g3 : (100 : Int) < (YN.size : Int) := by omega
         clear hyz
         go_wp2_with fail
         go_ret
         exact ⟨congrArg (fun z => Ending.returned (.bool z)) HZ.out, HBQ.out⟩
        ·have HN := hid (HNY.out (decide_eq_false hy1))
         have g3 : ¬ (100 : Int) < (YN.size : Int) := by omega
         clear hyz
         go_wp2_with fail
         go_roundw
         case rel => exact ⟨j + 1, hjk, by go_num, HBW.out, HN.out⟩
         case measure => simp [RowKit.intOf]; omega
       ·obtain rfl : j = x.acts.length := by omega
        have HN := hid (HNX.out (List.any_eq_false.2 (fun z hz => by rw [HAL.out z (by rw [List.take_length]; exact hz)]; decide)))
        go_wp2_with fail
        go_roundw
        case rel => exact ⟨k + 1, hlt, by go_num, HBQ.out, HN.out⟩
        case measure => simp [RowKit.intOf]; omega
  ·obtain rfl : k = l.length := by omega
   have HZ : Hid (false = Z) := hid (HF.out (fun z hz => HALL.out z (by rw [List.take_length]; exact hz))).symm
   go_wp2_with fail
   go_ret
   exact ⟨congrArg (fun z => Ending.returned (.bool z)) HZ.out, HB.out⟩
end Go.Proofs.YtchkiegehejfmaaGreatDoor
/- The text Gm. -/
namespace Pr
theorem quoteT_take (s : Str) : quoteT s = 34 :: s.flatMap escC ++ [34] := by unfold quoteT; rfl
end Pr
namespace Go.Proofs.YtchkiegehejfmaaGreatDoor
open Go.RowKit Go.Lib
set_option linter.unusedVariables false
set_option linter.unusedSimpArgs false
theorem bap (a b : List UInt8) : bstr a ++ (⟨b.toArray⟩ : ByteArray) = bstr (a ++ b) := bstr_app a b
theorem pab (a b : List UInt8) : (⟨a.toArray⟩ : ByteArray) ++ bstr b = bstr (a ++ b) := bstr_app a b
theorem rquoted_any (S : ByteArray) (w : World) (hs : S.size ≤ 1000000) :
  Calls Tryz.prog 81 #[.string S] w fun e w' => e = .returned (.string (bstr (Pr.quoteT S.data.toList))) ∧ w = w' := by
 have HES : Hid (∀ k (h : k < S.size), (S.data.toList.take (k + 1)).flatMap Pr.escC = (S.data.toList.take k).flatMap Pr.escC ++ Pr.escC S[k]) := hid (esc_step S)
 have HEL : Hid (∀ k, ((S.data.toList.take k).flatMap Pr.escC).length ≤ 2 * k) := hid (fun k => Nat.le_trans (esc_len _) (by have := List.length_take_le k S.data.toList; omega))
 have hall : S.data.toList.take S.size = S.data.toList := List.take_of_length_le (by rw [← str_size]; exact Nat.le_refl _)
 have HAL : Hid (Pr.quoteT S.data.toList = (34 :: (S.data.toList.take S.size).flatMap Pr.escC) ++ [34]) := hid (by rw [hall]; exact Pr.quoteT_take _)
 obtain ⟨RES, hRES⟩ : ∃ R, Pr.quoteT S.data.toList = R := ⟨_, rfl⟩
 rw [hRES] at HAL ⊢
 clear hall hRES
 go_enter Tryz.func81, Tryz.ntmps81
 go_wp2_with fail
 go_loop [3, 4] (fun ox ix => ∃ (k : Nat) (ol : List UInt8), k ≤ S.size ∧ ix = .int .i64 k ∧ ox = .string (bstr ol) ∧ Hid (ol = 34 :: (S.data.toList.take k).flatMap Pr.escC)) (fun _ ix => S.size - (RowKit.intOf ix).toNat)
 case atStart => exact ⟨0, [34], by omega, rfl, rfl, hid (by simp)⟩
 case round =>
  obtain ⟨k, ol, hk, rfl, rfl, hol⟩ := hrel
  have hln : ol.length ≤ 2 * k + 1 := by have := HEL.out k; rw [hol.out, List.length_cons]; omega
  have hbz := bstr_size ol
  by_cases hlt : k < S.size
  ·have hstep := hid (HES.out k hlt)
   have hc2 := (S[k]'hlt).toNat_lt
   have hsl := slice_at S (k : Int) ((k : Int) + 1) k rfl rfl hlt
   have hone : (bstr [S[k]'hlt]).size = 1 := rfl
   obtain ⟨o2, ho2⟩ : ∃ o2, ol ++ [92] = o2 := ⟨_, rfl⟩
   have hb1 : bstr ol ++ (⟨#[92]⟩ : ByteArray) = bstr o2 := by rw [← ho2]; exact bap ol [92]
   have hb2 : bstr o2 ++ bstr [S[k]'hlt] = bstr (o2 ++ [S[k]'hlt]) := bstr_app ..
   have hb3 : bstr ol ++ bstr [S[k]'hlt] = bstr (ol ++ [S[k]'hlt]) := bstr_app ..
   have hz2 : (bstr o2).size = ol.length + 1 := by rw [← ho2, bstr_size, List.length_append]; rfl
   have hp1 : ¬ 9223372036854775807 < (bstr ol).size + 1 := by omega
   have hp2 : ¬ 9223372036854775807 < (bstr o2).size + 1 := by omega
   have HO2 := hid ho2
   clear hbz hz2 ho2
   by_cases hq : S[k]'hlt = 34 ∨ S[k]'hlt = 92
   ·have HT : Hid (o2 ++ [S[k]'hlt] = 34 :: (S.data.toList.take (k + 1)).flatMap Pr.escC) := hid (by rw [← HO2.out, hol.out, hstep.out, Pr.escC, if_pos hq]; simp)
    rcases hq with h34 | h92
    ·have hy := u8_eq (n := 34) rfl h34
     clear h34
     go_wp2_with fail
     go_round
     case rel => exact ⟨k + 1, _, by omega, by go_num, rfl, HT⟩
     case measure => simp [RowKit.intOf]; omega
    ·have hy := u8_ne (n := 34) rfl (show S[k]'hlt ≠ 34 by rw [h92]; decide)
     have hx := u8_eq (n := 92) rfl h92
     clear h92
     go_wp2_with fail
     go_round
     case rel => exact ⟨k + 1, _, by omega, by go_num, rfl, HT⟩
     case measure => simp [RowKit.intOf]; omega
   ·have hy := u8_ne (n := 34) rfl (fun e => hq (.inl e))
    have hx := u8_ne (n := 92) rfl (fun e => hq (.inr e))
    have HT : Hid (ol ++ [S[k]'hlt] = 34 :: (S.data.toList.take (k + 1)).flatMap Pr.escC) := hid (by rw [hol.out, hstep.out, Pr.escC, if_neg hq]; simp)
    clear hq
    go_wp2_with fail
    go_round
    case rel => exact ⟨k + 1, _, by omega, by go_num, rfl, HT⟩
    case measure => simp [RowKit.intOf]; omega
  ·obtain rfl : k = S.size := by omega
   have HE : Hid (RES = ol ++ [34]) := hid (by rw [HAL.out, hol.out])
   have hb1 : bstr ol ++ (⟨#[34]⟩ : ByteArray) = bstr (ol ++ [34]) := bap ol [34]
   have hp1 : ¬ 9223372036854775807 < (bstr ol).size + 1 := by omega
   clear hbz
   go_wp2_with fail
   go_ret
   exact ⟨congrArg (fun s => Ending.returned (.string (bstr s))) HE.out.symm, by trivial⟩
def TextTo (m : Nat) : Prop := ∀ (ok : Nat → Prop) (c : Pr.Cn) (V : Array Value) (w : World), Pr.nodes c ≤ m → CnV w ok V c → Pr.treeE c = 0 → (Pr.textC c).length ≤ 1000000 →
 Calls Tryz.prog 39 #[.agg V] w fun e w' => e = .returned (.string (bstr (Pr.textC c))) ∧ Below w.heap.size w w'
theorem rkid_any (m : Nat) (H : TextTo m) (ok : Nat → Prop) (o : Int) (c : Pr.Cn) (V : Array Value) (w : World) (hm : Pr.nodes c ≤ m) (h : CnV w ok V c) (ht : Pr.treeE c = 0) (hl : (Pr.wrapK o c).length ≤ 1000000) :
  Calls Tryz.prog 78 #[.int .i64 o, .agg V] w fun e w' => e = .returned (.string (bstr (Pr.wrapK o c))) ∧ Below w.heap.size w w' := by
 have hb := (Below.refl w.heap.size w).alloc (Nat.le_refl _) (.cells V 36)
 have HB := hid hb
 have HK := hid (Blk.new w 36 V)
 have HSX : Hid ((Tryz.prog.info? 36).map (·.size) = some V.size) := hid (by rw [size_cond, h.size])
 have hwl := Pr.wrapK_le o c
 have hx0 : (w.alloc (.cells V 36)).cell? ⟨w.heap.size, 0, none⟩ = some (.int .i64 c.op) := by
  obtain ⟨A, cap, rfl, -⟩ := h.open
  exact (Blk.new w 36 _).cell 0
 have HTX := hid (H ok c V _ hm (h.bel hb) ht (by omega))
 have hW : Pr.wrapK o c = if Pr.joint o c.op then 40 :: (Pr.textC c ++ [41]) else Pr.textC c := rfl
 have hj : Pr.joint o c.op = (c.op == 3 || (c.op == 2 && o != 3)) := rfl
 have htl : (Pr.textC c).length ≤ 1000000 := by omega
 obtain ⟨RES, hRES⟩ : ∃ R, Pr.wrapK o c = R := ⟨_, rfl⟩
 rw [hRES] at hW ⊢
 generalize Pr.textC c = T at *
 generalize c.op = co at *
 have HW := hid hW
 have hbz := bstr_size T
 obtain ⟨t2, ht2⟩ : ∃ t2, [40] ++ T = t2 := ⟨_, rfl⟩
 have hb1 : (⟨#[40]⟩ : ByteArray) ++ bstr T = bstr t2 := by rw [← ht2]; exact pab [40] T
 have hb2 : bstr t2 ++ (⟨#[41]⟩ : ByteArray) = bstr (t2 ++ [41]) := bap t2 [41]
 have hz2 : (bstr t2).size = T.length + 1 := by rw [← ht2, bstr_size, List.length_append]; simp; omega
 have hp1 : ¬ 9223372036854775807 < 1 + (bstr T).size := by omega
 have hp2 : ¬ 9223372036854775807 < (bstr t2).size + 1 := by omega
 have HR2 : Hid (t2 ++ [41] = 40 :: (T ++ [41])) := hid (by rw [← ht2]; rfl)
 generalize hw1 : w.alloc (.cells V 36) = w1 at *
 clear hRES hW hbz hz2 ht2 hb h hwl H
 have HJ := hid hj
 clear hj
 cases h3 : (co == 3) with
 | true =>
  have HE : Hid (RES = t2 ++ [41]) := hid (by rw [HW.out, HJ.out, h3, HR2.out]; rfl)
  go_enter Tryz.func78, Tryz.ntmps78
  go_wp2_with (first
   | (refine load_row_u (by rfl) 36 _ rfl w.heap.size rfl 36 _ (0, 0) _ rfl HK.out Tryz.underlying36 HSX.out ?_)
   | (go_at_call 39; refine HTX.out.mono ?_; rintro e w2 ⟨rfl, hb2⟩; have HB2 := hid (HB.out.trans (hb2.mono HB.out.size)); clear hb2))
  go_ret
  exact ⟨congrArg (fun s => Ending.returned (.string (bstr s))) HE.out.symm, HB2.out⟩
 | false =>
  cases h2 : (co == 2) with
  | false =>
   have HE : Hid (RES = T) := hid (by rw [HW.out, HJ.out, h3, h2]; rfl)
   go_enter Tryz.func78, Tryz.ntmps78
   go_wp2_with (first
    | (refine load_row_u (by rfl) 36 _ rfl w.heap.size rfl 36 _ (0, 0) _ rfl HK.out Tryz.underlying36 HSX.out ?_)
    | (go_at_call 39; refine HTX.out.mono ?_; rintro e w2 ⟨rfl, hb2⟩; have HB2 := hid (HB.out.trans (hb2.mono HB.out.size)); clear hb2))
   go_ret
   exact ⟨congrArg (fun s => Ending.returned (.string (bstr s))) HE.out.symm, HB2.out⟩
  | true =>
   cases ho : (o == 3) with
   | true =>
    have ho2 : (o != 3) = false := by rw [bne, ho]; rfl
    have HE : Hid (RES = T) := hid (by rw [HW.out, HJ.out, h3, h2, ho2]; rfl)
    go_enter Tryz.func78, Tryz.ntmps78
    go_wp2_with (first
     | (refine load_row_u (by rfl) 36 _ rfl w.heap.size rfl 36 _ (0, 0) _ rfl HK.out Tryz.underlying36 HSX.out ?_)
     | (go_at_call 39; refine HTX.out.mono ?_; rintro e w2 ⟨rfl, hb2⟩; have HB2 := hid (HB.out.trans (hb2.mono HB.out.size)); clear hb2))
    go_ret
    exact ⟨congrArg (fun s => Ending.returned (.string (bstr s))) HE.out.symm, HB2.out⟩
   | false =>
    have ho2 : (o != 3) = true := by rw [bne, ho]; rfl
    have HE : Hid (RES = t2 ++ [41]) := hid (by rw [HW.out, HJ.out, h3, h2, ho2, HR2.out]; rfl)
    go_enter Tryz.func78, Tryz.ntmps78
    go_wp2_with (first
     | (refine load_row_u (by rfl) 36 _ rfl w.heap.size rfl 36 _ (0, 0) _ rfl HK.out Tryz.underlying36 HSX.out ?_)
     | (go_at_call 39; refine HTX.out.mono ?_; rintro e w2 ⟨rfl, hb2⟩; have HB2 := hid (HB.out.trans (hb2.mono HB.out.size)); clear hb2))
    go_ret
    exact ⟨congrArg (fun s => Ending.returned (.string (bstr s))) HE.out.symm, HB2.out⟩
end Go.Proofs.YtchkiegehejfmaaGreatDoor
/- The text Gn. -/
namespace Go.Proofs.YtchkiegehejfmaaGreatDoor
open Go.RowKit Go.Lib
set_option linter.unusedVariables false
set_option linter.unusedSimpArgs false
theorem rtext_z (o : Int) (ho : o = 1 ∨ o = 13 ∨ o = 14 ∨ o = 15 ∨ o = 16 ∨ o = 17) (A : Option Addr) (cap : Nat) (w : World) :
  Calls Tryz.prog 39 #[.agg #[.int .i64 o, .string (bstr []), .int .i64 0, .slice A 0 cap]] w fun e w' => e = .returned (.string (bstr (Pr.simpleW o))) ∧ Below w.heap.size w w' := by
 have hut : Pr.useText o = false := by rcases ho with rfl | rfl | rfl | rfl | rfl | rfl <;> rfl
 have hun : Pr.useN o = false := by rcases ho with rfl | rfl | rfl | rfl | rfl | rfl <;> rfl
 have HE : Hid (Pr.simpleW o = Pr.wordR o) := hid (by rcases ho with rfl | rfl | rfl | rfl | rfl | rfl <;> rfl)
 have HWD := hid (fun W => rword_any o (by omega) (by omega) W)
 obtain ⟨HB1, hx0, hx1, hx2, hx3⟩ := RnX.new o [] 0 0 A cap w
 generalize hw1 : w.alloc (.cells #[.int .i64 o, .string (bstr []), .int .i64 0, .slice A 0 cap] 36) = w1 at *
 have HB1 := hid HB1
 have HUT := hid (fun W => rusestext_any o W)
 have HUN := hid (fun W => rusesn_any o W)
 rw [hut] at HUT
 rw [hun] at HUN
 have h2 : (o == 2) = false := beq_eq_false_iff_ne.2 (by omega)
 have hn2 : (o != 2) = true := by rw [bne, h2]; rfl
 have h3 : (o == 3) = false := beq_eq_false_iff_ne.2 (by omega)
 have hn3 : (o != 3) = true := by rw [bne, h3]; rfl
 have h4 : (o == 4) = false := beq_eq_false_iff_ne.2 (by omega)
 have hn4 : (o != 4) = true := by rw [bne, h4]; rfl
 have h5 : (o == 5) = false := beq_eq_false_iff_ne.2 (by omega)
 have hn5 : (o != 5) = true := by rw [bne, h5]; rfl
 have h9 : (o == 9) = false := beq_eq_false_iff_ne.2 (by omega)
 have hn9 : (o != 9) = true := by rw [bne, h9]; rfl
 generalize bstr ([] : List UInt8) = S at *
 generalize Pr.simpleW o = RES at *
 generalize Pr.wordR o = W at *
 clear hut hun ho
 go_enter Tryz.func39, Tryz.ntmps39
 go_wp2_with (first | (go_at_call 46; refine (HUT.out _).mono ?_; rintro e w9 ⟨rfl, rfl⟩) | (go_at_call 47; refine (HUN.out _).mono ?_; rintro e w9 ⟨rfl, rfl⟩) | (go_at_call 80; refine (HWD.out _).mono ?_; rintro e w2 ⟨rfl, hb2⟩; have HB2 := hid (HB1.out.trans (hb2.mono HB1.out.size)); clear hb2))
 go_ret
 exact ⟨congrArg (fun s => Ending.returned (.string (bstr s))) HE.out.symm, HB2.out⟩
theorem rtext_w (t : List UInt8) (A : Option Addr) (cap : Nat) (w : World) (hl : t.length ≤ 1000000) :
  Calls Tryz.prog 39 #[.agg #[.int .i64 9, .string (bstr t), .int .i64 0, .slice A 0 cap]] w fun e w' => e = .returned (.string (bstr ([119, 111, 114, 100, 32] ++ t))) ∧ Below w.heap.size w w' := by
 obtain ⟨o, ho⟩ : ∃ o : Int, o = 9 := ⟨_, rfl⟩
 rw [← ho]
 have hut : Pr.useText o = true := by rw [ho]; rfl
 have hun : Pr.useN o = false := by rw [ho]; rfl
 have hb1 : (⟨#[119, 111, 114, 100, 32]⟩ : ByteArray) ++ bstr t = bstr ([119, 111, 114, 100, 32] ++ t) := pab [119, 111, 114, 100, 32] t
 have hp1 : ¬ 9223372036854775807 < 5 + (bstr t).size := by rw [bstr_size]; omega
 obtain ⟨HB1, hx0, hx1, hx2, hx3⟩ := RnX.new o t 0 0 A cap w
 generalize hw1 : w.alloc (.cells #[.int .i64 o, .string (bstr t), .int .i64 0, .slice A 0 cap] 36) = w1 at *
 have HB1 := hid HB1
 have HUT := hid (fun W => rusestext_any o W)
 have HUN := hid (fun W => rusesn_any o W)
 rw [hut] at HUT
 rw [hun] at HUN
 generalize [119, 111, 114, 100, 32] ++ t = RES at *
 clear hut hun
 subst ho
 go_enter Tryz.func39, Tryz.ntmps39
 go_wp2_with (first | (go_at_call 46; refine (HUT.out _).mono ?_; rintro e w9 ⟨rfl, rfl⟩) | (go_at_call 47; refine (HUN.out _).mono ?_; rintro e w9 ⟨rfl, rfl⟩))
 go_ret
 exact ⟨rfl, HB1.out⟩
theorem rtext_k (n : Int) (hn1 : 1 ≤ n) (hn2 : n ≤ 14) (A : Option Addr) (cap : Nat) (w : World) :
  Calls Tryz.prog 39 #[.agg #[.int .i64 5, .string (bstr []), .int .i64 n, .slice A 0 cap]] w fun e w' => e = .returned (.string (bstr ([107, 105, 110, 100, 32] ++ Pr.kindL.getD (n - 1).toNat []))) ∧ Below w.heap.size w w' := by
 obtain ⟨o, ho⟩ : ∃ o : Int, o = 5 := ⟨_, rfl⟩
 rw [← ho]
 have hut : Pr.useText o = false := by rw [ho]; rfl
 have hun : Pr.useN o = true := by rw [ho]; rfl
 obtain ⟨j, hj⟩ : ∃ j : Nat, n = (j : Int) + 1 := ⟨(n - 1).toNat, by omega⟩
 have hj14 : j < 14 := by omega
 obtain ⟨t, ht⟩ : ∃ t, Pr.kindL[j]? = some t := ⟨_, List.getElem?_eq_getElem (show j < Pr.kindL.length from hj14)⟩
 have hg : Pr.kindL.getD (n - 1).toNat [] = t := by
  rw [show (n - 1).toNat = j by omega, List.getD_eq_getElem?_getD, ht]
  rfl
 rw [hg]
 have htl : t.length ≤ 7 := by
  have : ∀ x ∈ Pr.kindL, x.length ≤ 7 := by decide
  exact this t (List.mem_of_getElem? ht)
 have HTK := hid ht
 have hb1 : (⟨#[107, 105, 110, 100, 32]⟩ : ByteArray) ++ bstr t = bstr ([107, 105, 110, 100, 32] ++ t) := pab [107, 105, 110, 100, 32] t
 have hp1 : ¬ 9223372036854775807 < 5 + (bstr t).size := by rw [bstr_size]; omega
 obtain ⟨HB1, hx0, hx1, hx2, hx3⟩ := RnX.new o [] n 0 A cap w
 generalize hw1 : w.alloc (.cells #[.int .i64 o, .string (bstr []), .int .i64 n, .slice A 0 cap] 36) = w1 at *
 have HB1 := hid HB1
 have HUT := hid (fun W => rusestext_any o W)
 have HUN := hid (fun W => rusesn_any o W)
 rw [hut] at HUT
 rw [hun] at HUN
 generalize [107, 105, 110, 100, 32] ++ t = RES at *
 generalize bstr ([] : List UInt8) = S at *
 have hwn : IntKind.i64.wrap ((j : Int) + 1 - 1) = (j : Int) := by rw [IntWalk.i64_in _ (by omega)]; omega
 have hjI : (j : Int) < 14 := by omega
 have hwj : IntKind.i64.wrap (j : Int) = (j : Int) := IntWalk.i64_in _ (by omega)
 have hjI0 : (0 : Int) ≤ (j : Int) := by omega
 subst hj
 clear hut hun hg ht htl hn1 hn2
 subst ho
 go_enter Tryz.func39, Tryz.ntmps39
 go_wp2_with fail
 refine wp_region_noPanic ?_
 refine wp_region_held_drew (S := fun W => W.cell? ⟨w.heap.size, 2, none⟩ = some (.int .i64 ((j : Int) + 1))) (by kernel_rfl) (hx2) (fun hHeld => ?_)
 refine wpAnyH_take (i := 1) (oi := _) (v := ?_) rfl (by kernel_rfl) (by kernel_rfl) (by kernel_rfl) (fun _ _ _ h => h) (Or.inl ⟨by kernel_rfl, ?_⟩) hHeld ?_
 rotate_left
 ·intro wq hSw
  go_simp
  (try with_reducible rfl)
 (try simp only [Act.put, pk1, pk2, pk3, pk4, pk5, pk6])
 refine wpAnyH_take (i := 2) (oi := _) (v := ?_) rfl (by kernel_rfl) (by kernel_rfl) (by kernel_rfl) (fun _ _ _ h => h) (Or.inl ⟨by kernel_rfl, ?_⟩) hHeld ?_
 rotate_left
 ·intro wq hSw
  go_simp
  (try with_reducible rfl)
 (try simp only [Act.put, pk1, pk2, pk3, pk4, pk5, pk6])
 refine wpAnyH_take (i := 3) (oi := _) (v := ?_) rfl (by kernel_rfl) (by kernel_rfl) (by kernel_rfl) (fun _ _ _ h => h) (Or.inl ⟨by kernel_rfl, ?_⟩) hHeld ?_
 rotate_left
 ·intro wq hSw
  go_simp
  (try with_reducible rfl)
 (try simp only [Act.put, pk1, pk2, pk3, pk4, pk5, pk6])
 refine wpAnyH_ready (rs := [0]) (by kernel_rfl) (by simp) ?_
 refine AllReadyH.cons (o := _) rfl (fun K hK => ?_) AllReadyH.nil
 go_simp
 go_at_call 79
 refine (rkinds_any w1.drew).mono ?_
 rintro e w6 ⟨⟨gk, rfl, hgk, hrk⟩, hb6⟩
 have hn6 : Below w1.heap.size w1 w6 := (Below.refl w1.heap.size w1).drew.trans hb6
 have HB6 := hid (HB1.out.trans (hn6.mono HB1.out.size))
 have hx26 := (hn6.cell (block_lt hx2)).trans hx2
 have hkc : w6.cell? ⟨gk, j, none⟩ = some (.string (bstr t)) := by
  obtain ⟨b, off, e1, hc⟩ := hrk.2 j _ (strL_get _ _ _ HTK.out)
  injection e1 with e1
  injection e1 with e1 e2 _
  subst e1 e2
  rwa [Nat.zero_add] at hc
 clear hb6 hrk hgk hn6
 refine hK.out _ _ (hx26) (fun hHeld2 => ?_)
 clear hK K hHeld
 have hHeld := hHeld2
 clear hHeld2
 (try simp only [Act.put, pk1, pk2, pk3, pk4, pk5, pk6])
 refine wpAnyH_ready (rs := [4]) (by kernel_rfl) (by simp) ?_
 refine AllReadyH.cons (o := _) rfl (fun K hK => ?_) AllReadyH.nil
 go_simp
 refine hK.out _ _ (hHeld) (fun hHeld2 => ?_)
 clear hK K hHeld
 have hHeld := hHeld2
 clear hHeld2
 (try simp only [Act.put, pk1, pk2, pk3, pk4, pk5, pk6])
 refine wpAnyH_ready (rs := [5]) (by kernel_rfl) (by simp) ?_
 refine AllReadyH.cons (o := _) rfl (fun K hK => ?_) AllReadyH.nil
 go_simp
 refine hK.out _ _ (hHeld) (fun hHeld2 => ?_)
 clear hK K hHeld
 have hHeld := hHeld2
 clear hHeld2
 (try simp only [Act.put, pk1, pk2, pk3, pk4, pk5, pk6])
 refine wpAnyH_take (i := 6) (oi := _) (v := ?_) rfl (by kernel_rfl) (by kernel_rfl) (by kernel_rfl) (fun _ _ _ h => h) (Or.inl ⟨by kernel_rfl, ?_⟩) hHeld ?_
 rotate_left
 ·intro wq hSw
  go_simp
  (try with_reducible rfl)
 (try simp only [Act.put, pk1, pk2, pk3, pk4, pk5, pk6])
 refine wpAnyH_take (i := 7) (oi := _) (v := ?_) rfl (by kernel_rfl) (by kernel_rfl) (by kernel_rfl) (fun _ _ _ h => h) (Or.inl ⟨by kernel_rfl, ?_⟩) hHeld ?_
 rotate_left
 ·intro wq hSw
  go_simp
  (try with_reducible rfl)
 (try simp only [Act.put, pk1, pk2, pk3, pk4, pk5, pk6])
 refine wpAnyH_done (by kernel_rfl) ?_ _
 refine NoPanic.normal ?_
 go_wp2_with fail
 go_ret
 exact ⟨rfl, HB6.out⟩
theorem rtext_t (o : Int) (ho : o = 6 ∨ o = 7 ∨ o = 8) (t : List UInt8) (hl : (Pr.quoteT t).length ≤ 1000000) (htl : t.length ≤ 1000000) (A : Option Addr) (cap : Nat) (w : World) :
  Calls Tryz.prog 39 #[.agg #[.int .i64 o, .string (bstr t), .int .i64 0, .slice A 0 cap]] w fun e w' => e = .returned (.string (bstr (Pr.fieldW o ++ 32 :: Pr.quoteT t))) ∧ Below w.heap.size w w' := by
 have hut : Pr.useText o = true := by rcases ho with rfl | rfl | rfl <;> rfl
 have hun : Pr.useN o = false := by rcases ho with rfl | rfl | rfl <;> rfl
 have HWR : Hid (Pr.wordR o = Pr.fieldW o) := hid (by rcases ho with rfl | rfl | rfl <;> rfl)
 have hwl : (Pr.fieldW o).length ≤ 7 := by rcases ho with rfl | rfl | rfl <;> decide
 have HWD := hid (fun W => rword_any o (by omega) (by omega) W)
 rw [HWR.out] at HWD
 have HQ := hid (fun W => rquoted_any (bstr t) W (by rw [bstr_size]; exact htl))
 rw [show (bstr t).data.toList = t from rfl] at HQ
 obtain ⟨HB1, hx0, hx1, hx2, hx3⟩ := RnX.new o t 0 0 A cap w
 generalize hw1 : w.alloc (.cells #[.int .i64 o, .string (bstr t), .int .i64 0, .slice A 0 cap] 36) = w1 at *
 have HB1 := hid HB1
 have HUT := hid (fun W => rusestext_any o W)
 have HUN := hid (fun W => rusesn_any o W)
 rw [hut] at HUT
 rw [hun] at HUN
 have h2 : (o == 2) = false := beq_eq_false_iff_ne.2 (by omega)
 have hn2 : (o != 2) = true := by rw [bne, h2]; rfl
 have h3 : (o == 3) = false := beq_eq_false_iff_ne.2 (by omega)
 have hn3 : (o != 3) = true := by rw [bne, h3]; rfl
 have h4 : (o == 4) = false := beq_eq_false_iff_ne.2 (by omega)
 have hn4 : (o != 4) = true := by rw [bne, h4]; rfl
 have h5 : (o == 5) = false := beq_eq_false_iff_ne.2 (by omega)
 have hn5 : (o != 5) = true := by rw [bne, h5]; rfl
 have h9 : (o == 9) = false := beq_eq_false_iff_ne.2 (by omega)
 have hn9 : (o != 9) = true := by rw [bne, h9]; rfl
 have HE : Hid (Pr.fieldW o ++ 32 :: Pr.quoteT t = (Pr.fieldW o ++ [32]) ++ Pr.quoteT t) := hid (by simp)
 generalize Pr.fieldW o ++ 32 :: Pr.quoteT t = RES at *
 generalize Pr.fieldW o = W at *
 generalize Pr.quoteT t = Q at *
 obtain ⟨t2, ht2⟩ : ∃ t2, W ++ [32] = t2 := ⟨_, rfl⟩
 rw [ht2] at HE
 have hb1 : bstr W ++ (⟨#[32]⟩ : ByteArray) = bstr t2 := by rw [← ht2]; exact bap W [32]
 have hb2 : bstr t2 ++ bstr Q = bstr (t2 ++ Q) := bstr_app ..
 have hz1 := bstr_size W
 have hz2 : (bstr t2).size = W.length + 1 := by rw [← ht2, bstr_size, List.length_append]; rfl
 have hz3 := bstr_size Q
 have hp1 : ¬ 9223372036854775807 < (bstr W).size + 1 := by omega
 have hp2 : ¬ 9223372036854775807 < (bstr t2).size + (bstr Q).size := by omega
 clear hz1 hz2 hz3 ht2 hut hun ho hwl
 go_enter Tryz.func39, Tryz.ntmps39
 go_wp2_with (first | (go_at_call 46; refine (HUT.out _).mono ?_; rintro e w9 ⟨rfl, rfl⟩) | (go_at_call 47; refine (HUN.out _).mono ?_; rintro e w9 ⟨rfl, rfl⟩))
 have hxv := hx1
 refine wp_region_noPanic ?_
 refine wp_region_held_drew (S := fun W => W.cell? ⟨w.heap.size, 0, none⟩ = some (.int .i64 o) ∧ W.cell? ⟨w.heap.size, 1, none⟩ = some (.string (bstr t))) (by kernel_rfl) (⟨hx0, hx1⟩) (fun hHeld => ?_)
 refine wpAnyH_take (i := 0) (oi := _) (v := ?_) rfl (by kernel_rfl) (by kernel_rfl) (by kernel_rfl) (fun _ _ _ h => h) (Or.inl ⟨by kernel_rfl, ?_⟩) hHeld ?_
 rotate_left
 ·intro wq hSw
  go_simp
  (try with_reducible rfl)
 (try simp only [Act.put, pk1, pk2, pk3, pk4, pk5, pk6])
 refine wpAnyH_take (i := 1) (oi := _) (v := ?_) rfl (by kernel_rfl) (by kernel_rfl) (by kernel_rfl) (fun _ _ _ h => h) (Or.inl ⟨by kernel_rfl, ?_⟩) hHeld ?_
 rotate_left
 ·intro wq hSw
  have hSx := hSw.1
  go_simp
  (try with_reducible rfl)
 (try simp only [Act.put, pk1, pk2, pk3, pk4, pk5, pk6])
 refine wpAnyH_take (i := 4) (oi := _) (v := ?_) rfl (by kernel_rfl) (by kernel_rfl) (by kernel_rfl) (fun _ _ _ h => h) (Or.inl ⟨by kernel_rfl, ?_⟩) hHeld ?_
 rotate_left
 ·intro wq hSw
  go_simp
  (try with_reducible rfl)
 (try simp only [Act.put, pk1, pk2, pk3, pk4, pk5, pk6])
 refine wpAnyH_take (i := 5) (oi := _) (v := ?_) rfl (by kernel_rfl) (by kernel_rfl) (by kernel_rfl) (fun _ _ _ h => h) (Or.inl ⟨by kernel_rfl, ?_⟩) hHeld ?_
 rotate_left
 ·intro wq hSw
  have hSx := hSw.2
  go_simp
  (try with_reducible rfl)
 (try simp only [Act.put, pk1, pk2, pk3, pk4, pk5, pk6])
 refine wpAnyH_ready (rs := [2]) (by kernel_rfl) (by simp) ?_
 refine AllReadyH.cons (o := _) rfl (fun K hK => ?_) AllReadyH.nil
 go_simp
 go_at_call 80
 refine (HWD.out w1.drew).mono ?_
 rintro e w6 ⟨rfl, hb6⟩
 have hn6 : Below w1.heap.size w1 w6 := (Below.refl w1.heap.size w1).drew.trans hb6
 have HB6 := hid (HB1.out.trans (hn6.mono HB1.out.size))
 have hy0 := (hn6.cell (block_lt hx0)).trans hx0
 have hyv := (hn6.cell (block_lt hxv)).trans hxv
 clear hb6 hn6
 refine hK.out _ _ (⟨hy0, hyv⟩) (fun hHeld2 => ?_)
 clear hK K hHeld
 have hHeld := hHeld2
 clear hHeld2
 (try simp only [Act.put, pk1, pk2, pk3, pk4, pk5, pk6])
 refine wpAnyH_take (i := 3) (oi := _) (v := ?_) rfl (by kernel_rfl) (by kernel_rfl) (by kernel_rfl) (fun _ _ _ h => h) (Or.inl ⟨by kernel_rfl, ?_⟩) hHeld ?_
 rotate_left
 ·intro wq hSw
  go_simp
  (try with_reducible rfl)
 (try simp only [Act.put, pk1, pk2, pk3, pk4, pk5, pk6])
 refine wpAnyH_ready (rs := [6]) (by kernel_rfl) (by simp) ?_
 refine AllReadyH.cons (o := _) rfl (fun K hK => ?_) AllReadyH.nil
 go_simp
 go_at_call 81
 refine (HQ.out w6).mono ?_
 rintro e w7 ⟨rfl, rfl⟩
 refine hK.out _ _ (⟨hy0, hyv⟩) (fun hHeld2 => ?_)
 clear hK K hHeld
 have hHeld := hHeld2
 clear hHeld2
 (try simp only [Act.put, pk1, pk2, pk3, pk4, pk5, pk6])
 refine wpAnyH_take (i := 7) (oi := _) (v := ?_) rfl (by kernel_rfl) (by kernel_rfl) (by kernel_rfl) (fun _ _ _ h => h) (Or.inl ⟨by kernel_rfl, ?_⟩) hHeld ?_
 rotate_left
 ·intro wq hSw
  go_simp
  (try with_reducible rfl)
 (try simp only [Act.put, pk1, pk2, pk3, pk4, pk5, pk6])
 refine wpAnyH_take (i := 8) (oi := _) (v := ?_) rfl (by kernel_rfl) (by kernel_rfl) (by kernel_rfl) (fun _ _ _ h => h) (Or.inl ⟨by kernel_rfl, ?_⟩) hHeld ?_
 rotate_left
 ·intro wq hSw
  go_simp
  (try with_reducible rfl)
 (try simp only [Act.put, pk1, pk2, pk3, pk4, pk5, pk6])
 refine wpAnyH_done (by kernel_rfl) ?_ _
 refine NoPanic.normal ?_
 go_wp2_with fail
 go_ret
 exact ⟨congrArg (fun s => Ending.returned (.string (bstr s))) HE.out.symm, HB6.out⟩
theorem rtext_n (o : Int) (ho : o = 10 ∨ o = 11 ∨ o = 12) (n : Int) (hn : Ar.inInt n) (hl : (Ar.itoa n).length ≤ 1000000) (A : Option Addr) (cap : Nat) (w : World) :
  Calls Tryz.prog 39 #[.agg #[.int .i64 o, .string (bstr []), .int .i64 n, .slice A 0 cap]] w fun e w' => e = .returned (.string (bstr (Pr.fieldW o ++ 32 :: Ar.itoa n))) ∧ Below w.heap.size w w' := by
 have hut : Pr.useText o = false := by rcases ho with rfl | rfl | rfl <;> rfl
 have hun : Pr.useN o = true := by rcases ho with rfl | rfl | rfl <;> rfl
 have HWR : Hid (Pr.wordR o = Pr.fieldW o) := hid (by rcases ho with rfl | rfl | rfl <;> rfl)
 have hwl : (Pr.fieldW o).length ≤ 7 := by rcases ho with rfl | rfl | rfl <;> decide
 have HWD := hid (fun W => rword_any o (by omega) (by omega) W)
 rw [HWR.out] at HWD
 have HQ := hid (fun W => rtext_any n W hn)
 obtain ⟨HB1, hx0, hx1, hx2, hx3⟩ := RnX.new o [] n 0 A cap w
 generalize hw1 : w.alloc (.cells #[.int .i64 o, .string (bstr []), .int .i64 n, .slice A 0 cap] 36) = w1 at *
 have HB1 := hid HB1
 have HUT := hid (fun W => rusestext_any o W)
 have HUN := hid (fun W => rusesn_any o W)
 rw [hut] at HUT
 rw [hun] at HUN
 have h2 : (o == 2) = false := beq_eq_false_iff_ne.2 (by omega)
 have hn2 : (o != 2) = true := by rw [bne, h2]; rfl
 have h3 : (o == 3) = false := beq_eq_false_iff_ne.2 (by omega)
 have hn3 : (o != 3) = true := by rw [bne, h3]; rfl
 have h4 : (o == 4) = false := beq_eq_false_iff_ne.2 (by omega)
 have hn4 : (o != 4) = true := by rw [bne, h4]; rfl
 have h5 : (o == 5) = false := beq_eq_false_iff_ne.2 (by omega)
 have hn5 : (o != 5) = true := by rw [bne, h5]; rfl
 have h9 : (o == 9) = false := beq_eq_false_iff_ne.2 (by omega)
 have hn9 : (o != 9) = true := by rw [bne, h9]; rfl
 have HE : Hid (Pr.fieldW o ++ 32 :: Ar.itoa n = (Pr.fieldW o ++ [32]) ++ Ar.itoa n) := hid (by simp)
 generalize Pr.fieldW o ++ 32 :: Ar.itoa n = RES at *
 generalize Pr.fieldW o = W at *
 generalize Ar.itoa n = Q at *
 obtain ⟨t2, ht2⟩ : ∃ t2, W ++ [32] = t2 := ⟨_, rfl⟩
 rw [ht2] at HE
 have hb1 : bstr W ++ (⟨#[32]⟩ : ByteArray) = bstr t2 := by rw [← ht2]; exact bap W [32]
 have hb2 : bstr t2 ++ bstr Q = bstr (t2 ++ Q) := bstr_app ..
 have hz1 := bstr_size W
 have hz2 : (bstr t2).size = W.length + 1 := by rw [← ht2, bstr_size, List.length_append]; rfl
 have hz3 := bstr_size Q
 have hp1 : ¬ 9223372036854775807 < (bstr W).size + 1 := by omega
 have hp2 : ¬ 9223372036854775807 < (bstr t2).size + (bstr Q).size := by omega
 clear hz1 hz2 hz3 ht2 hut hun ho hwl
 go_enter Tryz.func39, Tryz.ntmps39
 go_wp2_with (first | (go_at_call 46; refine (HUT.out _).mono ?_; rintro e w9 ⟨rfl, rfl⟩) | (go_at_call 47; refine (HUN.out _).mono ?_; rintro e w9 ⟨rfl, rfl⟩))
 have hxv := hx2
 refine wp_region_noPanic ?_
 refine wp_region_held_drew (S := fun W => W.cell? ⟨w.heap.size, 0, none⟩ = some (.int .i64 o) ∧ W.cell? ⟨w.heap.size, 2, none⟩ = some (.int .i64 n)) (by kernel_rfl) (⟨hx0, hx2⟩) (fun hHeld => ?_)
 refine wpAnyH_take (i := 0) (oi := _) (v := ?_) rfl (by kernel_rfl) (by kernel_rfl) (by kernel_rfl) (fun _ _ _ h => h) (Or.inl ⟨by kernel_rfl, ?_⟩) hHeld ?_
 rotate_left
 ·intro wq hSw
  go_simp
  (try with_reducible rfl)
 (try simp only [Act.put, pk1, pk2, pk3, pk4, pk5, pk6])
 refine wpAnyH_take (i := 1) (oi := _) (v := ?_) rfl (by kernel_rfl) (by kernel_rfl) (by kernel_rfl) (fun _ _ _ h => h) (Or.inl ⟨by kernel_rfl, ?_⟩) hHeld ?_
 rotate_left
 ·intro wq hSw
  have hSx := hSw.1
  go_simp
  (try with_reducible rfl)
 (try simp only [Act.put, pk1, pk2, pk3, pk4, pk5, pk6])
 refine wpAnyH_take (i := 4) (oi := _) (v := ?_) rfl (by kernel_rfl) (by kernel_rfl) (by kernel_rfl) (fun _ _ _ h => h) (Or.inl ⟨by kernel_rfl, ?_⟩) hHeld ?_
 rotate_left
 ·intro wq hSw
  go_simp
  (try with_reducible rfl)
 (try simp only [Act.put, pk1, pk2, pk3, pk4, pk5, pk6])
 refine wpAnyH_take (i := 5) (oi := _) (v := ?_) rfl (by kernel_rfl) (by kernel_rfl) (by kernel_rfl) (fun _ _ _ h => h) (Or.inl ⟨by kernel_rfl, ?_⟩) hHeld ?_
 rotate_left
 ·intro wq hSw
  have hSx := hSw.2
  go_simp
  (try with_reducible rfl)
 (try simp only [Act.put, pk1, pk2, pk3, pk4, pk5, pk6])
 refine wpAnyH_ready (rs := [2]) (by kernel_rfl) (by simp) ?_
 refine AllReadyH.cons (o := _) rfl (fun K hK => ?_) AllReadyH.nil
 go_simp
 go_at_call 80
 refine (HWD.out w1.drew).mono ?_
 rintro e w6 ⟨rfl, hb6⟩
 have hn6 : Below w1.heap.size w1 w6 := (Below.refl w1.heap.size w1).drew.trans hb6
 have HB6 := hid (HB1.out.trans (hn6.mono HB1.out.size))
 have hy0 := (hn6.cell (block_lt hx0)).trans hx0
 have hyv := (hn6.cell (block_lt hxv)).trans hxv
 clear hb6 hn6
 refine hK.out _ _ (⟨hy0, hyv⟩) (fun hHeld2 => ?_)
 clear hK K hHeld
 have hHeld := hHeld2
 clear hHeld2
 (try simp only [Act.put, pk1, pk2, pk3, pk4, pk5, pk6])
 refine wpAnyH_take (i := 3) (oi := _) (v := ?_) rfl (by kernel_rfl) (by kernel_rfl) (by kernel_rfl) (fun _ _ _ h => h) (Or.inl ⟨by kernel_rfl, ?_⟩) hHeld ?_
 rotate_left
 ·intro wq hSw
  go_simp
  (try with_reducible rfl)
 (try simp only [Act.put, pk1, pk2, pk3, pk4, pk5, pk6])
 refine wpAnyH_ready (rs := [6]) (by kernel_rfl) (by simp) ?_
 refine AllReadyH.cons (o := _) rfl (fun K hK => ?_) AllReadyH.nil
 go_simp
 go_at_call 82
 refine (HQ.out w6).mono ?_
 rintro e w7 ⟨rfl, hb7⟩
 have HB7 := hid (HB6.out.trans (hb7.mono HB6.out.size))
 have hz0 := (hb7.cell (block_lt hy0)).trans hy0
 have hzv := (hb7.cell (block_lt hyv)).trans hyv
 clear hb7
 refine hK.out _ _ (⟨hz0, hzv⟩) (fun hHeld2 => ?_)
 clear hK K hHeld
 have hHeld := hHeld2
 clear hHeld2
 (try simp only [Act.put, pk1, pk2, pk3, pk4, pk5, pk6])
 refine wpAnyH_take (i := 7) (oi := _) (v := ?_) rfl (by kernel_rfl) (by kernel_rfl) (by kernel_rfl) (fun _ _ _ h => h) (Or.inl ⟨by kernel_rfl, ?_⟩) hHeld ?_
 rotate_left
 ·intro wq hSw
  go_simp
  (try with_reducible rfl)
 (try simp only [Act.put, pk1, pk2, pk3, pk4, pk5, pk6])
 refine wpAnyH_take (i := 8) (oi := _) (v := ?_) rfl (by kernel_rfl) (by kernel_rfl) (by kernel_rfl) (fun _ _ _ h => h) (Or.inl ⟨by kernel_rfl, ?_⟩) hHeld ?_
 rotate_left
 ·intro wq hSw
  go_simp
  (try with_reducible rfl)
 (try simp only [Act.put, pk1, pk2, pk3, pk4, pk5, pk6])
 refine wpAnyH_done (by kernel_rfl) ?_ _
 refine NoPanic.normal ?_
 go_wp2_with fail
 go_ret
 exact ⟨congrArg (fun s => Ending.returned (.string (bstr s))) HE.out.symm, HB7.out⟩
theorem rtext_4 (m : Nat) (H : TextTo m) (ok : Nat → Prop) (k : Pr.Cn) (A : Option Addr) (cap : Nat) (w : World) (hm : Pr.nodes k ≤ m) (hr : CnRow w ok A [k]) (ht : Pr.treeE k = 0) (hl : (Pr.wrapK 4 k).length ≤ 1000000) :
  Calls Tryz.prog 39 #[.agg #[.int .i64 4, .string (bstr []), .int .i64 0, .slice A 1 cap]] w fun e w' => e = .returned (.string (bstr ([110, 111, 116, 32] ++ Pr.wrapK 4 k))) ∧ Below w.heap.size w w' := by
 obtain ⟨o, ho⟩ : ∃ o : Int, o = 4 := ⟨_, rfl⟩
 rw [← ho] at hl ⊢
 have hut : Pr.useText o = false := by rw [ho]; rfl
 have hun : Pr.useN o = false := by rw [ho]; rfl
 have HRW := hid hr
 obtain ⟨HB1, hx0, hx1, hx2, hx3⟩ := RnX.new o [] 0 1 A cap w
 generalize hw1 : w.alloc (.cells #[.int .i64 o, .string (bstr []), .int .i64 0, .slice A 1 cap] 36) = w1 at *
 have HB1 := hid HB1
 have HUT := hid (fun W => rusestext_any o W)
 have HUN := hid (fun W => rusesn_any o W)
 rw [hut] at HUT
 rw [hun] at HUN
 obtain ⟨b, off, cs, rfl, hok, hrg, hcl, hcv⟩ := (HRW.out.below HB1.out) 0 k rfl
 rw [Nat.zero_mul, Nat.add_zero] at hrg
 have HRG := hid hrg
 have hbl := range_lt hrg (by omega)
 have HCV := hid hcv
 have HL2 : Hid ((Tryz.prog.info? 36).map (·.size) = some cs.length) := hid (by rw [size_cond, hcl])
 have HKD := hid (fun W h => rkid_any m H ok o k cs.toArray W hm h ht hl)
 have hb1 : (⟨#[110, 111, 116, 32]⟩ : ByteArray) ++ bstr (Pr.wrapK o k) = bstr ([110, 111, 116, 32] ++ Pr.wrapK o k) := pab [110, 111, 116, 32] _
 have hp1 : ¬ 9223372036854775807 < 4 + (bstr (Pr.wrapK o k)).size := by rw [bstr_size]; omega
 generalize [110, 111, 116, 32] ++ Pr.wrapK o k = RES at *
 generalize Pr.wrapK o k = Q at *
 generalize bstr ([] : List UInt8) = S at *
 clear hut hun hrg hcv hr H
 subst ho
 go_enter Tryz.func39, Tryz.ntmps39
 go_wp2_with fail
 refine wp_region_noPanic ?_
 refine wp_region_held_drew (S := fun W => (W.cell? ⟨w.heap.size, 0, none⟩ = some (.int .i64 4) ∧ W.cell? ⟨w.heap.size, 3, none⟩ = some (.slice (some ⟨b, off, none⟩) 1 cap)) ∧ W.rangeAt b off cs) (by kernel_rfl) (⟨⟨hx0, hx3⟩, HRG.out⟩) (fun hHeld => ?_)
 refine wpAnyH_take (i := 0) (oi := _) (v := ?_) rfl (by kernel_rfl) (by kernel_rfl) (by kernel_rfl) (fun _ _ _ h => h) (Or.inl ⟨by kernel_rfl, ?_⟩) hHeld ?_
 rotate_left
 ·intro wq hSw
  go_simp
  (try with_reducible rfl)
 (try simp only [Act.put, pk1, pk2, pk3, pk4, pk5, pk6])
 refine wpAnyH_take (i := 1) (oi := _) (v := ?_) rfl (by kernel_rfl) (by kernel_rfl) (by kernel_rfl) (fun _ _ _ h => h) (Or.inl ⟨by kernel_rfl, ?_⟩) hHeld ?_
 rotate_left
 ·intro wq hSw
  have hSx := hSw.1.1
  go_simp
  (try with_reducible rfl)
 (try simp only [Act.put, pk1, pk2, pk3, pk4, pk5, pk6])
 refine wpAnyH_take (i := 2) (oi := _) (v := ?_) rfl (by kernel_rfl) (by kernel_rfl) (by kernel_rfl) (fun _ _ _ h => h) (Or.inl ⟨by kernel_rfl, ?_⟩) hHeld ?_
 rotate_left
 ·intro wq hSw
  go_simp
  (try with_reducible rfl)
 (try simp only [Act.put, pk1, pk2, pk3, pk4, pk5, pk6])
 refine wpAnyH_take (i := 3) (oi := _) (v := ?_) rfl (by kernel_rfl) (by kernel_rfl) (by kernel_rfl) (fun _ _ _ h => h) (Or.inl ⟨by kernel_rfl, ?_⟩) hHeld ?_
 rotate_left
 ·intro wq hSw
  have hSx := hSw.1.2
  go_simp
  (try with_reducible rfl)
 (try simp only [Act.put, pk1, pk2, pk3, pk4, pk5, pk6])
 refine wpAnyH_take (i := 4) (oi := _) (v := ?_) rfl (by kernel_rfl) (by kernel_rfl) (by kernel_rfl) (fun _ _ _ h => h) (Or.inl ⟨by kernel_rfl, ?_⟩) hHeld ?_
 rotate_left
 ·intro wq hSw
  go_simp
  (try with_reducible rfl)
 (try simp only [Act.put, pk1, pk2, pk3, pk4, pk5, pk6])
 refine wpAnyH_take (i := 5) (oi := _) (v := _) rfl (by kernel_rfl) (by kernel_rfl) (by kernel_rfl) (fun _ _ _ h => h) (mid_yields rfl Tryz.underlying36 HL2.out (fun W h => h.2) (by kernel_rfl) _ rfl rfl) hHeld ?_
 (try simp only [Act.put, pk1, pk2, pk3, pk4, pk5, pk6])
 refine wpAnyH_ready (rs := [6]) (by kernel_rfl) (by simp) ?_
 refine AllReadyH.cons (o := _) rfl (fun K hK => ?_) AllReadyH.nil
 go_simp
 go_at_call 78
 refine (HKD.out w1.drew (HCV.out.bel (Below.refl _ _).drew)).mono ?_
 rintro e w6 ⟨rfl, hb6⟩
 have hn6 : Below w1.heap.size w1 w6 := (Below.refl w1.heap.size w1).drew.trans hb6
 have HB6 := hid (HB1.out.trans (hn6.mono HB1.out.size))
 have hy0 := (hn6.cell (block_lt hx0)).trans hx0
 have hy3 := (hn6.cell (block_lt hx3)).trans hx3
 have HRG6 := hid (range_keep HRG.out (hn6.block _ hbl))
 clear hb6 hn6
 refine hK.out _ _ (⟨⟨hy0, hy3⟩, HRG6.out⟩) (fun hHeld2 => ?_)
 clear hK K hHeld
 have hHeld := hHeld2
 clear hHeld2
 (try simp only [Act.put, pk1, pk2, pk3, pk4, pk5, pk6])
 refine wpAnyH_take (i := 7) (oi := _) (v := ?_) rfl (by kernel_rfl) (by kernel_rfl) (by kernel_rfl) (fun _ _ _ h => h) (Or.inl ⟨by kernel_rfl, ?_⟩) hHeld ?_
 rotate_left
 ·intro wq hSw
  go_simp
  (try with_reducible rfl)
 (try simp only [Act.put, pk1, pk2, pk3, pk4, pk5, pk6])
 refine wpAnyH_take (i := 8) (oi := _) (v := ?_) rfl (by kernel_rfl) (by kernel_rfl) (by kernel_rfl) (fun _ _ _ h => h) (Or.inl ⟨by kernel_rfl, ?_⟩) hHeld ?_
 rotate_left
 ·intro wq hSw
  go_simp
  (try with_reducible rfl)
 (try simp only [Act.put, pk1, pk2, pk3, pk4, pk5, pk6])
 refine wpAnyH_done (by kernel_rfl) ?_ _
 refine NoPanic.normal ?_
 go_wp2_with fail
 go_ret
 exact ⟨rfl, HB6.out⟩
theorem rtext_j (m : Nat) (H : TextTo m) (ok : Nat → Prop) (o : Int) (ho : o = 2 ∨ o = 3) (ks : List Pr.Cn) (A : Option Addr) (cap : Nat) (w : World) (hm : Pr.nodesL ks ≤ m) (hm6 : m ≤ 1000000) (hr : CnRow w ok A ks) (ht : Pr.treeEL ks = 0) (hl : (Pr.textK o true ks).length ≤ 1000000) :
  Calls Tryz.prog 39 #[.agg #[.int .i64 o, .string (bstr []), .int .i64 0, .slice A ks.length cap]] w fun e w' => e = .returned (.string (bstr (Pr.textK o true ks))) ∧ Below w.heap.size w w' := by
 have HST := hid (fun k x h => Pr.textK_step o ks k true x h)
 have HTL := hid (fun k => Nat.le_trans (Pr.textK_le o ks k true) hl)
 have HTK : Hid (Pr.textK o true (ks.take ks.length) = Pr.textK o true ks) := hid (by rw [List.take_length])
 have HTR := hid (fun k x h => Pr.treeEL_kid ks k x ht h)
 have HKD := hid (fun x V W hx h ht hl => rkid_any m H ok o x V W hx h ht hl)
 have HRW := hid hr
 have hkl := Pr.kids_nodes ks
 obtain ⟨sp, hsp⟩ : ∃ sp, 32 :: (Pr.sepW o ++ [32]) = sp := ⟨_, rfl⟩
 have hsl : sp.length ≤ 5 := by rw [← hsp]; rcases ho with rfl | rfl <;> decide
 have hspb : (o = 2 ∧ (⟨#[32, 97, 110, 100, 32]⟩ : ByteArray) = bstr sp) ∨ (o = 3 ∧ (⟨#[32, 111, 114, 32]⟩ : ByteArray) = bstr sp) := by
  rw [← hsp]
  rcases ho with rfl | rfl
  ·exact .inl ⟨rfl, rfl⟩
  ·exact .inr ⟨rfl, rfl⟩
 rw [hsp] at HST
 have hut : Pr.useText o = false := by rcases ho with rfl | rfl <;> rfl
 have hun : Pr.useN o = false := by rcases ho with rfl | rfl <;> rfl
 obtain ⟨HB1, hx0, hx1, hx2, hx3⟩ := RnX.new o [] 0 ks.length A cap w
 generalize hw1 : w.alloc (.cells #[.int .i64 o, .string (bstr []), .int .i64 0, .slice A ks.length cap] 36) = w1 at *
 have HB1 := hid HB1
 have HUT := hid (fun W => rusestext_any o W)
 have HUN := hid (fun W => rusesn_any o W)
 rw [hut] at HUT
 rw [hun] at HUN
 generalize Pr.textK o true ks = RES at *
 generalize bstr ([] : List UInt8) = S at *
 clear hut hun hr ht hl H hsp ho
 rcases hspb with ⟨rfl, hspb⟩ | ⟨rfl, hspb⟩
 ·go_enter Tryz.func39, Tryz.ntmps39
  go_upto_region 9 with fail
  (try rw [hspb])
  have hspz : (bstr sp).size ≤ 5 := by rw [bstr_size]; exact hsl
  have HSB := hid (fun a : List UInt8 => bstr_app a sp)
  have HSL := hid hsl
  generalize hSP : bstr sp = SP at *
  clear hspb hSP hsl
  go_wp2_with fail
  go_loopw [4, 5] (fun ox ix wr => ∃ (k : Nat) (ol : List UInt8), k ≤ ks.length ∧ ox = .string (bstr ol) ∧ ix = .int .i64 (k : Int) ∧ Hid (ol = Pr.textK 2 true (ks.take k)) ∧ Below w1.heap.size w1 wr) (fun _ ix _ => ks.length - (RowKit.intOf ix).toNat)
  case atStart => exact ⟨0, [], Nat.zero_le _, rfl, rfl, hid (by simp [Pr.textK]), Below.refl _ _⟩
  case round =>
   obtain ⟨k, ol, hk, rfl, rfl, hol, hb⟩ := hrel
   have HB := hid hb
   have hy0 := (hb.cell (block_lt hx0)).trans hx0
   have hy3 := (hb.cell (block_lt hx3)).trans hx3
   have HRWR := hid ((HRW.out.below HB1.out).below hb)
   have hoz : ol.length ≤ 1000000 := by rw [hol.out]; exact HTL.out k
   clear hb
   by_cases hlt : k < ks.length
   ·obtain ⟨x, hx⟩ : ∃ x, ks[k]? = some x := ⟨_, List.getElem?_eq_getElem hlt⟩
    obtain ⟨b, off, cs, rfl, hok, hrg, hcl, hcv⟩ := HRWR.out k x hx
    have HRG := hid hrg
    have hbl := range_lt hrg (by omega)
    have HCV := hid hcv
    have HL2 : Hid ((Tryz.prog.info? 36).map (·.size) = some cs.length) := hid (by rw [size_cond, hcl])
    have hnk := Pr.nodes_kid hx
    have HTRX := hid (HTR.out k x hx)
    have hstep := HST.out k x hx
    have htot := HTL.out (k + 1)
    rw [hstep] at htot
    simp only [List.length_append] at htot
    have hwq : (Pr.wrapK 2 x).length ≤ 1000000 := by omega
    have HKX := hid (fun W h => HKD.out x cs.toArray W (by omega) h HTRX.out hwq)
    have HSTEP := hid hstep
    generalize Pr.wrapK 2 x = Q at *
    have hI1 : (k : Int) < (ks.length : Int) := by omega
    have hI0 : (0 : Int) ≤ (k : Int) := by omega
    clear hx hcv hrg hstep htot
    by_cases hk0 : k = 0
    ·have HN : Hid (ol ++ Q = Pr.textK 2 true (ks.take (k + 1))) := hid (by rw [HSTEP.out, hol.out, if_pos ⟨by first | rfl | trivial, hk0⟩]; simp)
     have hkz : ¬ (0 : Int) < (k : Int) := by omega
     have hb1 : bstr ol ++ bstr Q = bstr (ol ++ Q) := bstr_app ..
     have hp1 : ¬ 9223372036854775807 < (bstr ol).size + (bstr Q).size := by rw [bstr_size, bstr_size]; omega
     clear hk0
     go_wp2_with fail
     refine wp_region_noPanic ?_
     refine wp_region_held_drew (S := fun W => (W.cell? ⟨w.heap.size, 0, none⟩ = some (.int .i64 2) ∧ W.cell? ⟨w.heap.size, 3, none⟩ = some (.slice (some ⟨b, off, none⟩) ks.length cap)) ∧ W.rangeAt b (off + k * 4) cs) (by kernel_rfl) (⟨⟨hy0, hy3⟩, HRG.out⟩) (fun hHeld => ?_)
     refine wpAnyH_take (i := 0) (oi := _) (v := ?_) rfl (by kernel_rfl) (by kernel_rfl) (by kernel_rfl) (fun _ _ _ h => h) (Or.inl ⟨by kernel_rfl, ?_⟩) hHeld ?_
     rotate_left
     ·intro wq hSw
      go_simp
      (try with_reducible rfl)
     (try simp only [Act.put, pk1, pk2, pk3, pk4, pk5, pk6])
     refine wpAnyH_take (i := 1) (oi := _) (v := ?_) rfl (by kernel_rfl) (by kernel_rfl) (by kernel_rfl) (fun _ _ _ h => h) (Or.inl ⟨by kernel_rfl, ?_⟩) hHeld ?_
     rotate_left
     ·intro wq hSw
      go_simp
      (try with_reducible rfl)
     (try simp only [Act.put, pk1, pk2, pk3, pk4, pk5, pk6])
     refine wpAnyH_take (i := 2) (oi := _) (v := ?_) rfl (by kernel_rfl) (by kernel_rfl) (by kernel_rfl) (fun _ _ _ h => h) (Or.inl ⟨by kernel_rfl, ?_⟩) hHeld ?_
     rotate_left
     ·intro wq hSw
      have hSx := hSw.1.1
      go_simp
      (try with_reducible rfl)
     (try simp only [Act.put, pk1, pk2, pk3, pk4, pk5, pk6])
     refine wpAnyH_take (i := 3) (oi := _) (v := ?_) rfl (by kernel_rfl) (by kernel_rfl) (by kernel_rfl) (fun _ _ _ h => h) (Or.inl ⟨by kernel_rfl, ?_⟩) hHeld ?_
     rotate_left
     ·intro wq hSw
      go_simp
      (try with_reducible rfl)
     (try simp only [Act.put, pk1, pk2, pk3, pk4, pk5, pk6])
     refine wpAnyH_take (i := 4) (oi := _) (v := ?_) rfl (by kernel_rfl) (by kernel_rfl) (by kernel_rfl) (fun _ _ _ h => h) (Or.inl ⟨by kernel_rfl, ?_⟩) hHeld ?_
     rotate_left
     ·intro wq hSw
      have hSx := hSw.1.2
      go_simp
      (try with_reducible rfl)
     (try simp only [Act.put, pk1, pk2, pk3, pk4, pk5, pk6])
     refine wpAnyH_take (i := 5) (oi := _) (v := ?_) rfl (by kernel_rfl) (by kernel_rfl) (by kernel_rfl) (fun _ _ _ h => h) (Or.inl ⟨by kernel_rfl, ?_⟩) hHeld ?_
     rotate_left
     ·intro wq hSw
      go_simp
      (try with_reducible rfl)
     (try simp only [Act.put, pk1, pk2, pk3, pk4, pk5, pk6])
     refine wpAnyH_take (i := 6) (oi := _) (v := ?_) rfl (by kernel_rfl) (by kernel_rfl) (by kernel_rfl) (fun _ _ _ h => h) (Or.inl ⟨by kernel_rfl, ?_⟩) hHeld ?_
     rotate_left
     ·intro wq hSw
      go_simp
      (try with_reducible rfl)
     (try simp only [Act.put, pk1, pk2, pk3, pk4, pk5, pk6])
     refine wpAnyH_take (i := 7) (oi := _) (v := _) rfl (by kernel_rfl) (by kernel_rfl) (by kernel_rfl) (fun _ _ _ h => h) (mid_yields rfl Tryz.underlying36 HL2.out (fun W h => h.2) (by kernel_rfl) _ rfl rfl) hHeld ?_
     (try simp only [Act.put, pk1, pk2, pk3, pk4, pk5, pk6])
     refine wpAnyH_ready (rs := [8]) (by kernel_rfl) (by simp) ?_
     refine AllReadyH.cons (o := _) rfl (fun K hK => ?_) AllReadyH.nil
     go_simp
     go_at_call 78
     refine (HKX.out wr.drew (HCV.out.bel (Below.refl _ _).drew)).mono ?_
     rintro e w6 ⟨rfl, hb6⟩
     have hn6 : Below wr.heap.size wr w6 := (Below.refl wr.heap.size wr).drew.trans hb6
     have HB6 := hid (HB.out.trans (hn6.mono HB.out.size))
     have hz0 := (hn6.cell (block_lt hy0)).trans hy0
     have hz3 := (hn6.cell (block_lt hy3)).trans hy3
     have HRG6 := hid (range_keep HRG.out (hn6.block _ hbl))
     clear hb6 hn6
     refine hK.out _ _ (⟨⟨hz0, hz3⟩, HRG6.out⟩) (fun hHeld2 => ?_)
     clear hK K hHeld
     have hHeld := hHeld2
     clear hHeld2
     (try simp only [Act.put, pk1, pk2, pk3, pk4, pk5, pk6])
     refine wpAnyH_take (i := 9) (oi := _) (v := ?_) rfl (by kernel_rfl) (by kernel_rfl) (by kernel_rfl) (fun _ _ _ h => h) (Or.inl ⟨by kernel_rfl, ?_⟩) hHeld ?_
     rotate_left
     ·intro wq hSw
      go_simp
      (try with_reducible rfl)
     (try simp only [Act.put, pk1, pk2, pk3, pk4, pk5, pk6])
     refine wpAnyH_take (i := 10) (oi := _) (v := ?_) rfl (by kernel_rfl) (by kernel_rfl) (by kernel_rfl) (fun _ _ _ h => h) (Or.inl ⟨by kernel_rfl, ?_⟩) hHeld ?_
     rotate_left
     ·intro wq hSw
      go_simp
      (try with_reducible rfl)
     (try simp only [Act.put, pk1, pk2, pk3, pk4, pk5, pk6])
     refine wpAnyH_done (by kernel_rfl) ?_ _
     refine NoPanic.normal ?_
     go_wp2_with fail
     go_roundw
     case rel => exact ⟨k + 1, _, by omega, by first | rfl | trivial, by go_num, HN, HB6.out⟩
     case measure => simp [RowKit.intOf]; omega
    ·obtain ⟨o2, ho2⟩ : ∃ o2, ol ++ sp = o2 := ⟨_, rfl⟩
     have HN : Hid (o2 ++ Q = Pr.textK 2 true (ks.take (k + 1))) := hid (by rw [HSTEP.out, ← ho2, hol.out, if_neg (fun h => hk0 h.2), List.append_assoc])
     have hkz : (0 : Int) < (k : Int) := by omega
     have hb0 : bstr ol ++ SP = bstr o2 := by rw [← ho2]; exact HSB.out ol
     have hb1 : bstr o2 ++ bstr Q = bstr (o2 ++ Q) := bstr_app ..
     have hz0 := bstr_size ol
     have hz2 : (bstr o2).size = ol.length + sp.length := by rw [← ho2, bstr_size, List.length_append]
     have hz3 := bstr_size Q
     have hsl := HSL.out
     have hp0 : ¬ 9223372036854775807 < (bstr ol).size + SP.size := by omega
     have hp1 : ¬ 9223372036854775807 < (bstr o2).size + (bstr Q).size := by omega
     clear hk0 ho2 hz0 hz2 hz3 hsl
     go_wp2_with fail
     refine wp_region_noPanic ?_
     refine wp_region_held_drew (S := fun W => (W.cell? ⟨w.heap.size, 0, none⟩ = some (.int .i64 2) ∧ W.cell? ⟨w.heap.size, 3, none⟩ = some (.slice (some ⟨b, off, none⟩) ks.length cap)) ∧ W.rangeAt b (off + k * 4) cs) (by kernel_rfl) (⟨⟨hy0, hy3⟩, HRG.out⟩) (fun hHeld => ?_)
     refine wpAnyH_take (i := 0) (oi := _) (v := ?_) rfl (by kernel_rfl) (by kernel_rfl) (by kernel_rfl) (fun _ _ _ h => h) (Or.inl ⟨by kernel_rfl, ?_⟩) hHeld ?_
     rotate_left
     ·intro wq hSw
      go_simp
      (try with_reducible rfl)
     (try simp only [Act.put, pk1, pk2, pk3, pk4, pk5, pk6])
     refine wpAnyH_take (i := 1) (oi := _) (v := ?_) rfl (by kernel_rfl) (by kernel_rfl) (by kernel_rfl) (fun _ _ _ h => h) (Or.inl ⟨by kernel_rfl, ?_⟩) hHeld ?_
     rotate_left
     ·intro wq hSw
      go_simp
      (try with_reducible rfl)
     (try simp only [Act.put, pk1, pk2, pk3, pk4, pk5, pk6])
     refine wpAnyH_take (i := 2) (oi := _) (v := ?_) rfl (by kernel_rfl) (by kernel_rfl) (by kernel_rfl) (fun _ _ _ h => h) (Or.inl ⟨by kernel_rfl, ?_⟩) hHeld ?_
     rotate_left
     ·intro wq hSw
      have hSx := hSw.1.1
      go_simp
      (try with_reducible rfl)
     (try simp only [Act.put, pk1, pk2, pk3, pk4, pk5, pk6])
     refine wpAnyH_take (i := 3) (oi := _) (v := ?_) rfl (by kernel_rfl) (by kernel_rfl) (by kernel_rfl) (fun _ _ _ h => h) (Or.inl ⟨by kernel_rfl, ?_⟩) hHeld ?_
     rotate_left
     ·intro wq hSw
      go_simp
      (try with_reducible rfl)
     (try simp only [Act.put, pk1, pk2, pk3, pk4, pk5, pk6])
     refine wpAnyH_take (i := 4) (oi := _) (v := ?_) rfl (by kernel_rfl) (by kernel_rfl) (by kernel_rfl) (fun _ _ _ h => h) (Or.inl ⟨by kernel_rfl, ?_⟩) hHeld ?_
     rotate_left
     ·intro wq hSw
      have hSx := hSw.1.2
      go_simp
      (try with_reducible rfl)
     (try simp only [Act.put, pk1, pk2, pk3, pk4, pk5, pk6])
     refine wpAnyH_take (i := 5) (oi := _) (v := ?_) rfl (by kernel_rfl) (by kernel_rfl) (by kernel_rfl) (fun _ _ _ h => h) (Or.inl ⟨by kernel_rfl, ?_⟩) hHeld ?_
     rotate_left
     ·intro wq hSw
      go_simp
      (try with_reducible rfl)
     (try simp only [Act.put, pk1, pk2, pk3, pk4, pk5, pk6])
     refine wpAnyH_take (i := 6) (oi := _) (v := ?_) rfl (by kernel_rfl) (by kernel_rfl) (by kernel_rfl) (fun _ _ _ h => h) (Or.inl ⟨by kernel_rfl, ?_⟩) hHeld ?_
     rotate_left
     ·intro wq hSw
      go_simp
      (try with_reducible rfl)
     (try simp only [Act.put, pk1, pk2, pk3, pk4, pk5, pk6])
     refine wpAnyH_take (i := 7) (oi := _) (v := _) rfl (by kernel_rfl) (by kernel_rfl) (by kernel_rfl) (fun _ _ _ h => h) (mid_yields rfl Tryz.underlying36 HL2.out (fun W h => h.2) (by kernel_rfl) _ rfl rfl) hHeld ?_
     (try simp only [Act.put, pk1, pk2, pk3, pk4, pk5, pk6])
     refine wpAnyH_ready (rs := [8]) (by kernel_rfl) (by simp) ?_
     refine AllReadyH.cons (o := _) rfl (fun K hK => ?_) AllReadyH.nil
     go_simp
     go_at_call 78
     refine (HKX.out wr.drew (HCV.out.bel (Below.refl _ _).drew)).mono ?_
     rintro e w6 ⟨rfl, hb6⟩
     have hn6 : Below wr.heap.size wr w6 := (Below.refl wr.heap.size wr).drew.trans hb6
     have HB6 := hid (HB.out.trans (hn6.mono HB.out.size))
     have hz0 := (hn6.cell (block_lt hy0)).trans hy0
     have hz3 := (hn6.cell (block_lt hy3)).trans hy3
     have HRG6 := hid (range_keep HRG.out (hn6.block _ hbl))
     clear hb6 hn6
     refine hK.out _ _ (⟨⟨hz0, hz3⟩, HRG6.out⟩) (fun hHeld2 => ?_)
     clear hK K hHeld
     have hHeld := hHeld2
     clear hHeld2
     (try simp only [Act.put, pk1, pk2, pk3, pk4, pk5, pk6])
     refine wpAnyH_take (i := 9) (oi := _) (v := ?_) rfl (by kernel_rfl) (by kernel_rfl) (by kernel_rfl) (fun _ _ _ h => h) (Or.inl ⟨by kernel_rfl, ?_⟩) hHeld ?_
     rotate_left
     ·intro wq hSw
      go_simp
      (try with_reducible rfl)
     (try simp only [Act.put, pk1, pk2, pk3, pk4, pk5, pk6])
     refine wpAnyH_take (i := 10) (oi := _) (v := ?_) rfl (by kernel_rfl) (by kernel_rfl) (by kernel_rfl) (fun _ _ _ h => h) (Or.inl ⟨by kernel_rfl, ?_⟩) hHeld ?_
     rotate_left
     ·intro wq hSw
      go_simp
      (try with_reducible rfl)
     (try simp only [Act.put, pk1, pk2, pk3, pk4, pk5, pk6])
     refine wpAnyH_done (by kernel_rfl) ?_ _
     refine NoPanic.normal ?_
     go_wp2_with fail
     go_roundw
     case rel => exact ⟨k + 1, _, by omega, by first | rfl | trivial, by go_num, HN, HB6.out⟩
     case measure => simp [RowKit.intOf]; omega
   ·obtain rfl : k = ks.length := by omega
    have HE : Hid (RES = ol) := hid (by rw [hol.out, HTK.out])
    go_wp2_with fail
    go_ret
    exact ⟨congrArg (fun s => Ending.returned (.string (bstr s))) HE.out.symm, HB1.out.trans (HB.out.mono HB1.out.size)⟩
 ·go_enter Tryz.func39, Tryz.ntmps39
  go_upto_region 9 with fail
  (try rw [hspb])
  have hspz : (bstr sp).size ≤ 5 := by rw [bstr_size]; exact hsl
  have HSB := hid (fun a : List UInt8 => bstr_app a sp)
  have HSL := hid hsl
  generalize hSP : bstr sp = SP at *
  clear hspb hSP hsl
  go_wp2_with fail
  go_loopw [4, 5] (fun ox ix wr => ∃ (k : Nat) (ol : List UInt8), k ≤ ks.length ∧ ox = .string (bstr ol) ∧ ix = .int .i64 (k : Int) ∧ Hid (ol = Pr.textK 3 true (ks.take k)) ∧ Below w1.heap.size w1 wr) (fun _ ix _ => ks.length - (RowKit.intOf ix).toNat)
  case atStart => exact ⟨0, [], Nat.zero_le _, rfl, rfl, hid (by simp [Pr.textK]), Below.refl _ _⟩
  case round =>
   obtain ⟨k, ol, hk, rfl, rfl, hol, hb⟩ := hrel
   have HB := hid hb
   have hy0 := (hb.cell (block_lt hx0)).trans hx0
   have hy3 := (hb.cell (block_lt hx3)).trans hx3
   have HRWR := hid ((HRW.out.below HB1.out).below hb)
   have hoz : ol.length ≤ 1000000 := by rw [hol.out]; exact HTL.out k
   clear hb
   by_cases hlt : k < ks.length
   ·obtain ⟨x, hx⟩ : ∃ x, ks[k]? = some x := ⟨_, List.getElem?_eq_getElem hlt⟩
    obtain ⟨b, off, cs, rfl, hok, hrg, hcl, hcv⟩ := HRWR.out k x hx
    have HRG := hid hrg
    have hbl := range_lt hrg (by omega)
    have HCV := hid hcv
    have HL2 : Hid ((Tryz.prog.info? 36).map (·.size) = some cs.length) := hid (by rw [size_cond, hcl])
    have hnk := Pr.nodes_kid hx
    have HTRX := hid (HTR.out k x hx)
    have hstep := HST.out k x hx
    have htot := HTL.out (k + 1)
    rw [hstep] at htot
    simp only [List.length_append] at htot
    have hwq : (Pr.wrapK 3 x).length ≤ 1000000 := by omega
    have HKX := hid (fun W h => HKD.out x cs.toArray W (by omega) h HTRX.out hwq)
    have HSTEP := hid hstep
    generalize Pr.wrapK 3 x = Q at *
    have hI1 : (k : Int) < (ks.length : Int) := by omega
    have hI0 : (0 : Int) ≤ (k : Int) := by omega
    clear hx hcv hrg hstep htot
    by_cases hk0 : k = 0
    ·have HN : Hid (ol ++ Q = Pr.textK 3 true (ks.take (k + 1))) := hid (by rw [HSTEP.out, hol.out, if_pos ⟨by first | rfl | trivial, hk0⟩]; simp)
     have hkz : ¬ (0 : Int) < (k : Int) := by omega
     have hb1 : bstr ol ++ bstr Q = bstr (ol ++ Q) := bstr_app ..
     have hp1 : ¬ 9223372036854775807 < (bstr ol).size + (bstr Q).size := by rw [bstr_size, bstr_size]; omega
     clear hk0
     go_wp2_with fail
     refine wp_region_noPanic ?_
     refine wp_region_held_drew (S := fun W => (W.cell? ⟨w.heap.size, 0, none⟩ = some (.int .i64 3) ∧ W.cell? ⟨w.heap.size, 3, none⟩ = some (.slice (some ⟨b, off, none⟩) ks.length cap)) ∧ W.rangeAt b (off + k * 4) cs) (by kernel_rfl) (⟨⟨hy0, hy3⟩, HRG.out⟩) (fun hHeld => ?_)
     refine wpAnyH_take (i := 0) (oi := _) (v := ?_) rfl (by kernel_rfl) (by kernel_rfl) (by kernel_rfl) (fun _ _ _ h => h) (Or.inl ⟨by kernel_rfl, ?_⟩) hHeld ?_
     rotate_left
     ·intro wq hSw
      go_simp
      (try with_reducible rfl)
     (try simp only [Act.put, pk1, pk2, pk3, pk4, pk5, pk6])
     refine wpAnyH_take (i := 1) (oi := _) (v := ?_) rfl (by kernel_rfl) (by kernel_rfl) (by kernel_rfl) (fun _ _ _ h => h) (Or.inl ⟨by kernel_rfl, ?_⟩) hHeld ?_
     rotate_left
     ·intro wq hSw
      go_simp
      (try with_reducible rfl)
     (try simp only [Act.put, pk1, pk2, pk3, pk4, pk5, pk6])
     refine wpAnyH_take (i := 2) (oi := _) (v := ?_) rfl (by kernel_rfl) (by kernel_rfl) (by kernel_rfl) (fun _ _ _ h => h) (Or.inl ⟨by kernel_rfl, ?_⟩) hHeld ?_
     rotate_left
     ·intro wq hSw
      have hSx := hSw.1.1
      go_simp
      (try with_reducible rfl)
     (try simp only [Act.put, pk1, pk2, pk3, pk4, pk5, pk6])
     refine wpAnyH_take (i := 3) (oi := _) (v := ?_) rfl (by kernel_rfl) (by kernel_rfl) (by kernel_rfl) (fun _ _ _ h => h) (Or.inl ⟨by kernel_rfl, ?_⟩) hHeld ?_
     rotate_left
     ·intro wq hSw
      go_simp
      (try with_reducible rfl)
     (try simp only [Act.put, pk1, pk2, pk3, pk4, pk5, pk6])
     refine wpAnyH_take (i := 4) (oi := _) (v := ?_) rfl (by kernel_rfl) (by kernel_rfl) (by kernel_rfl) (fun _ _ _ h => h) (Or.inl ⟨by kernel_rfl, ?_⟩) hHeld ?_
     rotate_left
     ·intro wq hSw
      have hSx := hSw.1.2
      go_simp
      (try with_reducible rfl)
     (try simp only [Act.put, pk1, pk2, pk3, pk4, pk5, pk6])
     refine wpAnyH_take (i := 5) (oi := _) (v := ?_) rfl (by kernel_rfl) (by kernel_rfl) (by kernel_rfl) (fun _ _ _ h => h) (Or.inl ⟨by kernel_rfl, ?_⟩) hHeld ?_
     rotate_left
     ·intro wq hSw
      go_simp
      (try with_reducible rfl)
     (try simp only [Act.put, pk1, pk2, pk3, pk4, pk5, pk6])
     refine wpAnyH_take (i := 6) (oi := _) (v := ?_) rfl (by kernel_rfl) (by kernel_rfl) (by kernel_rfl) (fun _ _ _ h => h) (Or.inl ⟨by kernel_rfl, ?_⟩) hHeld ?_
     rotate_left
     ·intro wq hSw
      go_simp
      (try with_reducible rfl)
     (try simp only [Act.put, pk1, pk2, pk3, pk4, pk5, pk6])
     refine wpAnyH_take (i := 7) (oi := _) (v := _) rfl (by kernel_rfl) (by kernel_rfl) (by kernel_rfl) (fun _ _ _ h => h) (mid_yields rfl Tryz.underlying36 HL2.out (fun W h => h.2) (by kernel_rfl) _ rfl rfl) hHeld ?_
     (try simp only [Act.put, pk1, pk2, pk3, pk4, pk5, pk6])
     refine wpAnyH_ready (rs := [8]) (by kernel_rfl) (by simp) ?_
     refine AllReadyH.cons (o := _) rfl (fun K hK => ?_) AllReadyH.nil
     go_simp
     go_at_call 78
     refine (HKX.out wr.drew (HCV.out.bel (Below.refl _ _).drew)).mono ?_
     rintro e w6 ⟨rfl, hb6⟩
     have hn6 : Below wr.heap.size wr w6 := (Below.refl wr.heap.size wr).drew.trans hb6
     have HB6 := hid (HB.out.trans (hn6.mono HB.out.size))
     have hz0 := (hn6.cell (block_lt hy0)).trans hy0
     have hz3 := (hn6.cell (block_lt hy3)).trans hy3
     have HRG6 := hid (range_keep HRG.out (hn6.block _ hbl))
     clear hb6 hn6
     refine hK.out _ _ (⟨⟨hz0, hz3⟩, HRG6.out⟩) (fun hHeld2 => ?_)
     clear hK K hHeld
     have hHeld := hHeld2
     clear hHeld2
     (try simp only [Act.put, pk1, pk2, pk3, pk4, pk5, pk6])
     refine wpAnyH_take (i := 9) (oi := _) (v := ?_) rfl (by kernel_rfl) (by kernel_rfl) (by kernel_rfl) (fun _ _ _ h => h) (Or.inl ⟨by kernel_rfl, ?_⟩) hHeld ?_
     rotate_left
     ·intro wq hSw
      go_simp
      (try with_reducible rfl)
     (try simp only [Act.put, pk1, pk2, pk3, pk4, pk5, pk6])
     refine wpAnyH_take (i := 10) (oi := _) (v := ?_) rfl (by kernel_rfl) (by kernel_rfl) (by kernel_rfl) (fun _ _ _ h => h) (Or.inl ⟨by kernel_rfl, ?_⟩) hHeld ?_
     rotate_left
     ·intro wq hSw
      go_simp
      (try with_reducible rfl)
     (try simp only [Act.put, pk1, pk2, pk3, pk4, pk5, pk6])
     refine wpAnyH_done (by kernel_rfl) ?_ _
     refine NoPanic.normal ?_
     go_wp2_with fail
     go_roundw
     case rel => exact ⟨k + 1, _, by omega, by first | rfl | trivial, by go_num, HN, HB6.out⟩
     case measure => simp [RowKit.intOf]; omega
    ·obtain ⟨o2, ho2⟩ : ∃ o2, ol ++ sp = o2 := ⟨_, rfl⟩
     have HN : Hid (o2 ++ Q = Pr.textK 3 true (ks.take (k + 1))) := hid (by rw [HSTEP.out, ← ho2, hol.out, if_neg (fun h => hk0 h.2), List.append_assoc])
     have hkz : (0 : Int) < (k : Int) := by omega
     have hb0 : bstr ol ++ SP = bstr o2 := by rw [← ho2]; exact HSB.out ol
     have hb1 : bstr o2 ++ bstr Q = bstr (o2 ++ Q) := bstr_app ..
     have hz0 := bstr_size ol
     have hz2 : (bstr o2).size = ol.length + sp.length := by rw [← ho2, bstr_size, List.length_append]
     have hz3 := bstr_size Q
     have hsl := HSL.out
     have hp0 : ¬ 9223372036854775807 < (bstr ol).size + SP.size := by omega
     have hp1 : ¬ 9223372036854775807 < (bstr o2).size + (bstr Q).size := by omega
     clear hk0 ho2 hz0 hz2 hz3 hsl
     go_wp2_with fail
     refine wp_region_noPanic ?_
     refine wp_region_held_drew (S := fun W => (W.cell? ⟨w.heap.size, 0, none⟩ = some (.int .i64 3) ∧ W.cell? ⟨w.heap.size, 3, none⟩ = some (.slice (some ⟨b, off, none⟩) ks.length cap)) ∧ W.rangeAt b (off + k * 4) cs) (by kernel_rfl) (⟨⟨hy0, hy3⟩, HRG.out⟩) (fun hHeld => ?_)
     refine wpAnyH_take (i := 0) (oi := _) (v := ?_) rfl (by kernel_rfl) (by kernel_rfl) (by kernel_rfl) (fun _ _ _ h => h) (Or.inl ⟨by kernel_rfl, ?_⟩) hHeld ?_
     rotate_left
     ·intro wq hSw
      go_simp
      (try with_reducible rfl)
     (try simp only [Act.put, pk1, pk2, pk3, pk4, pk5, pk6])
     refine wpAnyH_take (i := 1) (oi := _) (v := ?_) rfl (by kernel_rfl) (by kernel_rfl) (by kernel_rfl) (fun _ _ _ h => h) (Or.inl ⟨by kernel_rfl, ?_⟩) hHeld ?_
     rotate_left
     ·intro wq hSw
      go_simp
      (try with_reducible rfl)
     (try simp only [Act.put, pk1, pk2, pk3, pk4, pk5, pk6])
     refine wpAnyH_take (i := 2) (oi := _) (v := ?_) rfl (by kernel_rfl) (by kernel_rfl) (by kernel_rfl) (fun _ _ _ h => h) (Or.inl ⟨by kernel_rfl, ?_⟩) hHeld ?_
     rotate_left
     ·intro wq hSw
      have hSx := hSw.1.1
      go_simp
      (try with_reducible rfl)
     (try simp only [Act.put, pk1, pk2, pk3, pk4, pk5, pk6])
     refine wpAnyH_take (i := 3) (oi := _) (v := ?_) rfl (by kernel_rfl) (by kernel_rfl) (by kernel_rfl) (fun _ _ _ h => h) (Or.inl ⟨by kernel_rfl, ?_⟩) hHeld ?_
     rotate_left
     ·intro wq hSw
      go_simp
      (try with_reducible rfl)
     (try simp only [Act.put, pk1, pk2, pk3, pk4, pk5, pk6])
     refine wpAnyH_take (i := 4) (oi := _) (v := ?_) rfl (by kernel_rfl) (by kernel_rfl) (by kernel_rfl) (fun _ _ _ h => h) (Or.inl ⟨by kernel_rfl, ?_⟩) hHeld ?_
     rotate_left
     ·intro wq hSw
      have hSx := hSw.1.2
      go_simp
      (try with_reducible rfl)
     (try simp only [Act.put, pk1, pk2, pk3, pk4, pk5, pk6])
     refine wpAnyH_take (i := 5) (oi := _) (v := ?_) rfl (by kernel_rfl) (by kernel_rfl) (by kernel_rfl) (fun _ _ _ h => h) (Or.inl ⟨by kernel_rfl, ?_⟩) hHeld ?_
     rotate_left
     ·intro wq hSw
      go_simp
      (try with_reducible rfl)
     (try simp only [Act.put, pk1, pk2, pk3, pk4, pk5, pk6])
     refine wpAnyH_take (i := 6) (oi := _) (v := ?_) rfl (by kernel_rfl) (by kernel_rfl) (by kernel_rfl) (fun _ _ _ h => h) (Or.inl ⟨by kernel_rfl, ?_⟩) hHeld ?_
     rotate_left
     ·intro wq hSw
      go_simp
      (try with_reducible rfl)
     (try simp only [Act.put, pk1, pk2, pk3, pk4, pk5, pk6])
     refine wpAnyH_take (i := 7) (oi := _) (v := _) rfl (by kernel_rfl) (by kernel_rfl) (by kernel_rfl) (fun _ _ _ h => h) (mid_yields rfl Tryz.underlying36 HL2.out (fun W h => h.2) (by kernel_rfl) _ rfl rfl) hHeld ?_
     (try simp only [Act.put, pk1, pk2, pk3, pk4, pk5, pk6])
     refine wpAnyH_ready (rs := [8]) (by kernel_rfl) (by simp) ?_
     refine AllReadyH.cons (o := _) rfl (fun K hK => ?_) AllReadyH.nil
     go_simp
     go_at_call 78
     refine (HKX.out wr.drew (HCV.out.bel (Below.refl _ _).drew)).mono ?_
     rintro e w6 ⟨rfl, hb6⟩
     have hn6 : Below wr.heap.size wr w6 := (Below.refl wr.heap.size wr).drew.trans hb6
     have HB6 := hid (HB.out.trans (hn6.mono HB.out.size))
     have hz0 := (hn6.cell (block_lt hy0)).trans hy0
     have hz3 := (hn6.cell (block_lt hy3)).trans hy3
     have HRG6 := hid (range_keep HRG.out (hn6.block _ hbl))
     clear hb6 hn6
     refine hK.out _ _ (⟨⟨hz0, hz3⟩, HRG6.out⟩) (fun hHeld2 => ?_)
     clear hK K hHeld
     have hHeld := hHeld2
     clear hHeld2
     (try simp only [Act.put, pk1, pk2, pk3, pk4, pk5, pk6])
     refine wpAnyH_take (i := 9) (oi := _) (v := ?_) rfl (by kernel_rfl) (by kernel_rfl) (by kernel_rfl) (fun _ _ _ h => h) (Or.inl ⟨by kernel_rfl, ?_⟩) hHeld ?_
     rotate_left
     ·intro wq hSw
      go_simp
      (try with_reducible rfl)
     (try simp only [Act.put, pk1, pk2, pk3, pk4, pk5, pk6])
     refine wpAnyH_take (i := 10) (oi := _) (v := ?_) rfl (by kernel_rfl) (by kernel_rfl) (by kernel_rfl) (fun _ _ _ h => h) (Or.inl ⟨by kernel_rfl, ?_⟩) hHeld ?_
     rotate_left
     ·intro wq hSw
      go_simp
      (try with_reducible rfl)
     (try simp only [Act.put, pk1, pk2, pk3, pk4, pk5, pk6])
     refine wpAnyH_done (by kernel_rfl) ?_ _
     refine NoPanic.normal ?_
     go_wp2_with fail
     go_roundw
     case rel => exact ⟨k + 1, _, by omega, by first | rfl | trivial, by go_num, HN, HB6.out⟩
     case measure => simp [RowKit.intOf]; omega
   ·obtain rfl : k = ks.length := by omega
    have HE : Hid (RES = ol) := hid (by rw [hol.out, HTK.out])
    go_wp2_with fail
    go_ret
    exact ⟨congrArg (fun s => Ending.returned (.string (bstr s))) HE.out.symm, HB1.out.trans (HB.out.mono HB1.out.size)⟩
theorem rtextc_any : ∀ m, m ≤ 1000000 → TextTo m
 | 0, _ => fun ok c V w hm => absurd hm (by have := Pr.nodes_pos c; omega)
 | m + 1, hm6 => fun ok c V w hm h ht hl => by
  have IH := rtextc_any m (by omega)
  obtain ⟨A, cap, rfl, hr⟩ := h.open
  have hne := Pr.nodes_eq c
  obtain ⟨o, t, n, ks⟩ := c
  change Pr.nodes (.mk o t n ks) = Pr.nodesL ks + 1 at hne
  show Calls Tryz.prog 39 #[.agg #[.int .i64 o, .string (bstr t), .int .i64 n, .slice A ks.length cap]] w _
  rcases Pr.tree_shape ht with g | g | g | g | g | g | g
  ·obtain ⟨ho, rfl, rfl, rfl⟩ := g
   have e : Pr.textC (.mk o [] 0 []) = Pr.simpleW o := by rcases ho with rfl | rfl | rfl | rfl | rfl | rfl <;> rfl
   rw [e]
   exact rtext_z o ho A cap w
  ·obtain ⟨ho, rfl, rfl, h2, hk⟩ := g
   have e : Pr.textC (.mk o [] 0 ks) = Pr.textK o true ks := by rw [Pr.textC, if_pos ho]
   rw [e] at hl ⊢
   exact rtext_j m IH ok o ho ks A cap w (by omega) (by omega) hr hk hl
  ·obtain ⟨rfl, rfl, rfl, k, rfl, hk⟩ := g
   have e : Pr.textC (.mk 4 [] 0 [k]) = [110, 111, 116, 32] ++ Pr.wrapK 4 k := by
    show [110, 111, 116, 32] ++ Pr.textK 4 true [k] = _
    simp [Pr.textK, Pr.wrapK]
   rw [e] at hl ⊢
   have hnk : Pr.nodesL [k] = Pr.nodes k := by unfold Pr.nodesL Pr.nodesL; omega
   exact rtext_4 m IH ok k A cap w (by omega) hr hk (by rw [List.length_append] at hl; omega)
  ·obtain ⟨rfl, rfl, h1, h2, rfl⟩ := g
   exact rtext_k n h1 h2 A cap w
  ·obtain ⟨ho, rfl, rfl, hg⟩ := g
   have e : Pr.textC (.mk o t 0 []) = Pr.fieldW o ++ 32 :: Pr.quoteT t := by rcases ho with rfl | rfl | rfl <;> rfl
   rw [e] at hl ⊢
   rw [List.length_append, List.length_cons] at hl
   have hq : t.length ≤ (Pr.quoteT t).length := by
    unfold Pr.quoteT
    rw [List.length_cons, List.length_append]
    have : ∀ l : List UInt8, l.length ≤ (l.flatMap Pr.escC).length := fun l => by
     induction l with
     | nil => exact Nat.le_refl _
     | cons a r ih =>
      rw [List.flatMap_cons, List.length_append, List.length_cons]
      have : 1 ≤ (Pr.escC a).length := by unfold Pr.escC; split <;> simp
      omega
    have := this t
    omega
   exact rtext_t o ho t (by omega) (by omega) A cap w
  ·obtain ⟨rfl, rfl, rfl, hn⟩ := g
   have e : Pr.textC (.mk 9 t 0 []) = [119, 111, 114, 100, 32] ++ t := rfl
   rw [e] at hl ⊢
   rw [List.length_append] at hl
   exact rtext_w t A cap w (by omega)
  ·obtain ⟨ho, rfl, h1, h2, rfl⟩ := g
   have e : Pr.textC (.mk o [] n []) = Pr.fieldW o ++ 32 :: Ar.itoa n := by rcases ho with rfl | rfl | rfl <;> rfl
   rw [e] at hl ⊢
   rw [List.length_append, List.length_cons] at hl
   exact rtext_n o ho n (by unfold Ar.inInt; omega) (by omega) A cap w
end Go.Proofs.YtchkiegehejfmaaGreatDoor
/- The text Gp. -/
namespace Pr
theorem joinT_step : ∀ (l : List Str) (j : Nat) (a : Str), l[j]? = some a → joinT (l.take (j + 1)) = joinT (l.take j) ++ ((if j = 0 then [] else [44, 32]) ++ a)
 | [], j, a, h => by cases h
 | x :: r, 0, a, h => by injection h with h; subst h; simp [joinT]
 | x :: r, j + 1, a, h => by
  rw [List.getElem?_cons_succ] at h
  obtain ⟨h1, h2⟩ := List.getElem?_eq_some_iff.1 h
  rw [List.take_succ_cons, List.take_succ_cons, if_neg (by omega)]
  show x ++ (r.take (j + 1)).flatMap (fun b => 44 :: 32 :: b) = (x ++ (r.take j).flatMap (fun b => 44 :: 32 :: b)) ++ ([44, 32] ++ a)
  rw [List.take_succ_eq_append_getElem h1, h2, List.flatMap_append]
  simp
theorem joinT_le : ∀ (l : List Str) (j : Nat), (joinT (l.take j)).length ≤ (joinT l).length
 | [], j => by simp
 | x :: r, 0 => by simp [joinT]
 | x :: r, j + 1 => by
  rw [List.take_succ_cons]
  show (x ++ (r.take j).flatMap (fun b => 44 :: 32 :: b)).length ≤ (x ++ r.flatMap (fun b => 44 :: 32 :: b)).length
  have h : r.flatMap (fun b => (44 : UInt8) :: 32 :: b) = (r.take j).flatMap (fun b => 44 :: 32 :: b) ++ (r.drop j).flatMap (fun b => 44 :: 32 :: b) := by rw [← List.flatMap_append, List.take_append_drop]
  rw [h]
  simp only [List.length_append]
  omega
end Pr
namespace Go.Proofs.YtchkiegehejfmaaGreatDoor
open Go.RowKit Go.Lib
set_option linter.unusedVariables false
set_option linter.unusedSimpArgs false
theorem rprint_any (ok : Nat → Prop) (l : List Pr.Rl) (A : Option Addr) (cap : Nat) (w : World) (hn : l.length ≤ 1000000) (hcap : l.length ≤ cap) (hl : RlRow w ok A l) (hg : ∀ x ∈ l, x.Good) (ht : (Pr.printT l).length ≤ 1000000) :
  Calls Tryz.prog 13 #[.slice A l.length cap] w fun e w' => e = .returned (.tuple #[.string (bstr (Pr.printP l).1), .int .i64 (Pr.printP l).2]) ∧ Below w.heap.size w w' := by
 have HCK := hid (rcheck_any ok l A cap w hn hcap hl hg)
 have HR := hid hl
 have HG := hid hg
 clear hl hg
 by_cases hE : Pr.checkE l = 0
 case neg =>
  have HP := hid (Pr.printP_bad hE)
  obtain ⟨PP, hPP⟩ : ∃ PP, Pr.printP l = PP := ⟨_, rfl⟩
  rw [hPP] at HP ⊢
  generalize Pr.checkE l = E at *
  have hEb : (E == 0) = false := beq_eq_false_iff_ne.2 hE
  have hEn : (E != 0) = true := by rw [bne, hEb]; rfl
  clear hE hPP
  go_enter Tryz.func13, Tryz.ntmps13
  go_wp2_with (go_at_call 24; refine HCK.out.mono ?_; rintro e w1 ⟨rfl, hb1⟩; have HB1 := hid hb1; clear hb1)
  go_ret2
  exact ⟨by rw [HP.out]; rfl, HB1.out⟩
 have HE := hid hE
 have HFN := hid (Pr.rules_fine l [] (Pr.check_rules hE))
 have HPL : Hid (20000 < (Pr.printT l).length → Pr.printP l = ([], 7)) := hid (fun h => Pr.printP_long hE h)
 have HPD : Hid (¬ 20000 < (Pr.printT l).length → Pr.printP l = (Pr.printT l, 0)) := hid (fun h => Pr.printP_done hE h)
 obtain ⟨PP, hPP⟩ : ∃ PP, Pr.printP l = PP := ⟨_, rfl⟩
 rw [hPP] at HPL HPD ⊢
 rw [hE] at HCK
 clear hE hPP
 go_enter Tryz.func13, Tryz.ntmps13
 go_wp2_with (go_at_call 24; refine HCK.out.mono ?_; rintro e w1 ⟨rfl, hb1⟩; have HB1 := hid hb1; clear hb1)
 go_loopw [5, 6] (fun ox ix wr => ∃ (k : Nat) (ol : List UInt8), k ≤ l.length ∧ ox = .string (bstr ol) ∧ ix = .int .i64 (k : Int) ∧ Hid (ol = Pr.printT (l.take k)) ∧ Below w.heap.size w wr) (fun _ ix _ => l.length - (RowKit.intOf ix).toNat)
 case atStart => exact ⟨0, [], Nat.zero_le _, rfl, rfl, hid (by simp [Pr.printT]), HB1.out⟩
 case round =>
  obtain ⟨k, ol, hk, rfl, rfl, hol, hb⟩ := hrel
  obtain ⟨w2, rfl⟩ : ∃ w2, w2 = wr := ⟨_, rfl⟩
  have HB := hid hb
  have HRW := hid (HR.out.bel hb)
  clear hb
  by_cases hlt : k < l.length
  ·obtain ⟨x, hx⟩ : ∃ x, l[k]? = some x := ⟨_, List.getElem?_eq_getElem hlt⟩
   obtain ⟨b, off, cs, rfl, hok, hrg, hcl, hcv⟩ := HRW.out k x hx
   have HFX := hid (HFN.out x (List.mem_of_getElem? hx))
   have HGX := hid (HG.out x (List.mem_of_getElem? hx))
   have hstp := Pr.printT_take hx
   have hle := Nat.le_trans (Pr.printT_le l (k + 1)) ht
   have hbl := range_lt hrg (by omega)
   obtain ⟨A2, cap2, D, dcap, hcs, hrow, hrd, hdc, hdo⟩ := hcv
   have e2 : cs = [.string (bstr x.name), .int .i64 x.wh.op, .string (bstr x.wh.text), .int .i64 x.wh.num, .slice A2 x.wh.kids.length cap2, .slice D x.acts.length dcap] := by
    have := congrArg Array.toList hcs
    exact this
   subst e2
   have hc0 : w2.cell? ⟨b, off + k * 6, none⟩ = some (.string (bstr x.name)) := hrg 0 _ rfl
   have hc5 : w2.cell? ⟨b, off + k * 6 + 5, none⟩ = some (.slice D x.acts.length dcap) := hrg 5 _ rfl
   have hr1 : w2.rangeAt b (off + k * 6 + 1) [.int .i64 x.wh.op, .string (bstr x.wh.text), .int .i64 x.wh.num, .slice A2 x.wh.kids.length cap2] := fun j v hj => by
    have h := hrg (j + 1) v (by
     match j, hj with
     | 0, hj => exact hj
     | 1, hj => exact hj
     | 2, hj => exact hj
     | 3, hj => exact hj
     | n + 4, hj => simp at hj)
    rwa [show off + k * 6 + (j + 1) = off + k * 6 + 1 + j by omega] at h
   have HR1 := hid hr1
   have HCN := hid (CnV.of hrow cap2)
   have HRD := hid hrd
   have HL2 : Hid ((Tryz.prog.info? 36).map (·.size) = some ([.int .i64 x.wh.op, .string (bstr x.wh.text), .int .i64 x.wh.num, .slice A2 x.wh.kids.length cap2] : List Value).length) := hid (by rw [size_cond]; rfl)
   have HJS := hid (fun j a h => Pr.joinT_step x.acts j a h)
   have HJL := hid (Pr.joinT_le x.acts)
   have hjt : Pr.joinT (x.acts.take x.acts.length) = Pr.joinT x.acts := by rw [List.take_length]
   rw [hstp] at hle
   have hrl : (Pr.ruleT x).length = 5 + (x.name.length + (6 + ((Pr.textC x.wh).length + (4 + (Pr.joinT x.acts).length)))) := by
    unfold Pr.ruleT
    simp only [List.length_append, List.length_cons, List.length_nil]
   simp only [List.length_append, List.length_cons, List.length_nil] at hle
   rw [← hol.out, hrl] at hle
   obtain ⟨u1, hu1⟩ : ∃ u, ol ++ [114, 117, 108, 101, 32] = u := ⟨_, rfl⟩
   obtain ⟨u2, hu2⟩ : ∃ u, u1 ++ x.name = u := ⟨_, rfl⟩
   obtain ⟨u3, hu3⟩ : ∃ u, u2 ++ [32, 119, 104, 101, 110, 32] = u := ⟨_, rfl⟩
   obtain ⟨u4, hu4⟩ : ∃ u, u3 ++ Pr.textC x.wh = u := ⟨_, rfl⟩
   obtain ⟨u5, hu5⟩ : ∃ u, u4 ++ [32, 100, 111, 32] = u := ⟨_, rfl⟩
   have HSTP : Hid (Pr.printT (l.take (k + 1)) = (u5 ++ Pr.joinT x.acts) ++ [10]) := hid (by
    rw [hstp, ← hol.out, ← hu5, ← hu4, ← hu3, ← hu2, ← hu1]
    unfold Pr.ruleT
    simp)
   have l1 : (bstr u1).size = ol.length + 5 := by rw [bstr_size, ← hu1, List.length_append]; rfl
   have l2 : (bstr u2).size = ol.length + 5 + x.name.length := by rw [bstr_size, ← hu2, List.length_append, ← bstr_size, l1]
   have l3 : (bstr u3).size = ol.length + 5 + x.name.length + 6 := by rw [bstr_size, ← hu3, List.length_append, ← bstr_size, l2]; rfl
   have l4 : (bstr u4).size = ol.length + 5 + x.name.length + 6 + (Pr.textC x.wh).length := by rw [bstr_size, ← hu4, List.length_append, ← bstr_size, l3]
   have l5 : (bstr u5).size = ol.length + 5 + x.name.length + 6 + (Pr.textC x.wh).length + 4 := by rw [bstr_size, ← hu5, List.length_append, ← bstr_size, l4]; rfl
   have z0 := bstr_size ol
   have z1 := bstr_size x.name
   have z2 := bstr_size (Pr.textC x.wh)
   have b1 : bstr ol ++ (⟨#[114, 117, 108, 101, 32]⟩ : ByteArray) = bstr u1 := by rw [← hu1]; exact bap ol _
   have b2 : bstr u1 ++ bstr x.name = bstr u2 := by rw [← hu2]; exact bstr_app ..
   have b3 : bstr u2 ++ (⟨#[32, 119, 104, 101, 110, 32]⟩ : ByteArray) = bstr u3 := by rw [← hu3]; exact bap u2 _
   have b4 : bstr u3 ++ bstr (Pr.textC x.wh) = bstr u4 := by rw [← hu4]; exact bstr_app ..
   have b5 : bstr u4 ++ (⟨#[32, 100, 111, 32]⟩ : ByteArray) = bstr u5 := by rw [← hu5]; exact bap u4 _
   have p1 : ¬ 9223372036854775807 < (bstr ol).size + 5 := by omega
   have p2 : ¬ 9223372036854775807 < (bstr u1).size + (bstr x.name).size := by omega
   have p3 : ¬ 9223372036854775807 < (bstr u2).size + 6 := by omega
   have p4 : ¬ 9223372036854775807 < (bstr u3).size + (bstr (Pr.textC x.wh)).size := by omega
   have p5 : ¬ 9223372036854775807 < (bstr u4).size + 4 := by omega
   have hu5l : u5.length + (Pr.joinT x.acts).length ≤ 1000000 := by rw [bstr_size] at l5; omega
   have HTC := hid (fun W h => rtextc_any (Pr.nodes x.wh) HGX.out.2.2.1 ok x.wh ([.int .i64 x.wh.op, .string (bstr x.wh.text), .int .i64 x.wh.num, .slice A2 x.wh.kids.length cap2] : List Value).toArray W (Nat.le_refl _) h HFX.out.tree (by omega))
   have hal6 : x.acts.length ≤ 1000000 := by have := HFX.out.few; omega
   have hI1 : (k : Int) < (l.length : Int) := by omega
   have hI0 : (0 : Int) ≤ (k : Int) := by omega
   have HU5 := hid hu5l
   have HJT := hid hjt
   clear l1 l2 l3 l4 l5 z0 z1 z2 hu1 hu2 hu3 hu4 hu5 hrl hle hstp hx hrg hrow hrd hr1 hu5l hjt hcs
   generalize bstr (Pr.textC x.wh) = TX at *
   generalize bstr x.name = NM at *
   go_wp2_with fail
   refine wp_region_noPanic ?_
   refine wp_region_held_drew (S := fun W => (W.cell? ⟨b, off + k * 6, none⟩ = some (.string NM)) ∧ W.rangeAt b (off + k * 6 + 1) [.int .i64 x.wh.op, .string (bstr x.wh.text), .int .i64 x.wh.num, .slice A2 x.wh.kids.length cap2]) (by kernel_rfl) (⟨hc0, HR1.out⟩) (fun hHeld => ?_)
   refine wpAnyH_take (i := 0) (oi := _) (v := ?_) rfl (by kernel_rfl) (by kernel_rfl) (by kernel_rfl) (fun _ _ _ h => h) (Or.inl ⟨by kernel_rfl, ?_⟩) hHeld ?_
   rotate_left
   ·intro wq hSw
    go_simp
    (try with_reducible rfl)
   (try simp only [Act.put, pk1, pk2, pk3, pk4, pk5, pk6])
   refine wpAnyH_take (i := 1) (oi := _) (v := ?_) rfl (by kernel_rfl) (by kernel_rfl) (by kernel_rfl) (fun _ _ _ h => h) (Or.inl ⟨by kernel_rfl, ?_⟩) hHeld ?_
   rotate_left
   ·intro wq hSw
    go_simp
    (try with_reducible rfl)
   (try simp only [Act.put, pk1, pk2, pk3, pk4, pk5, pk6])
   refine wpAnyH_take (i := 2) (oi := _) (v := ?_) rfl (by kernel_rfl) (by kernel_rfl) (by kernel_rfl) (fun _ _ _ h => h) (Or.inl ⟨by kernel_rfl, ?_⟩) hHeld ?_
   rotate_left
   ·intro wq hSw
    go_simp
    (try with_reducible rfl)
   (try simp only [Act.put, pk1, pk2, pk3, pk4, pk5, pk6])
   refine wpAnyH_take (i := 3) (oi := _) (v := ?_) rfl (by kernel_rfl) (by kernel_rfl) (by kernel_rfl) (fun _ _ _ h => h) (Or.inl ⟨by kernel_rfl, ?_⟩) hHeld ?_
   rotate_left
   ·intro wq hSw
    go_simp
    (try with_reducible rfl)
   (try simp only [Act.put, pk1, pk2, pk3, pk4, pk5, pk6])
   refine wpAnyH_take (i := 4) (oi := _) (v := ?_) rfl (by kernel_rfl) (by kernel_rfl) (by kernel_rfl) (fun _ _ _ h => h) (Or.inl ⟨by kernel_rfl, ?_⟩) hHeld ?_
   rotate_left
   ·intro wq hSw
    go_simp
    (try with_reducible rfl)
   (try simp only [Act.put, pk1, pk2, pk3, pk4, pk5, pk6])
   refine wpAnyH_take (i := 5) (oi := _) (v := ?_) rfl (by kernel_rfl) (by kernel_rfl) (by kernel_rfl) (fun _ _ _ h => h) (Or.inl ⟨by kernel_rfl, ?_⟩) hHeld ?_
   rotate_left
   ·intro wq hSw
    go_simp
    (try with_reducible rfl)
   (try simp only [Act.put, pk1, pk2, pk3, pk4, pk5, pk6])
   refine wpAnyH_take (i := 6) (oi := _) (v := ?_) rfl (by kernel_rfl) (by kernel_rfl) (by kernel_rfl) (fun _ _ _ h => h) (Or.inl ⟨by kernel_rfl, ?_⟩) hHeld ?_
   rotate_left
   ·intro wq hSw
    have hSx := hSw.1
    go_simp
    (try with_reducible rfl)
   (try simp only [Act.put, pk1, pk2, pk3, pk4, pk5, pk6])
   refine wpAnyH_take (i := 7) (oi := _) (v := ?_) rfl (by kernel_rfl) (by kernel_rfl) (by kernel_rfl) (fun _ _ _ h => h) (Or.inl ⟨by kernel_rfl, ?_⟩) hHeld ?_
   rotate_left
   ·intro wq hSw
    go_simp
    (try with_reducible rfl)
   (try simp only [Act.put, pk1, pk2, pk3, pk4, pk5, pk6])
   refine wpAnyH_take (i := 8) (oi := _) (v := ?_) rfl (by kernel_rfl) (by kernel_rfl) (by kernel_rfl) (fun _ _ _ h => h) (Or.inl ⟨by kernel_rfl, ?_⟩) hHeld ?_
   rotate_left
   ·intro wq hSw
    go_simp
    (try with_reducible rfl)
   (try simp only [Act.put, pk1, pk2, pk3, pk4, pk5, pk6])
   refine wpAnyH_take (i := 9) (oi := _) (v := ?_) rfl (by kernel_rfl) (by kernel_rfl) (by kernel_rfl) (fun _ _ _ h => h) (Or.inl ⟨by kernel_rfl, ?_⟩) hHeld ?_
   rotate_left
   ·intro wq hSw
    go_simp
    (try with_reducible rfl)
   (try simp only [Act.put, pk1, pk2, pk3, pk4, pk5, pk6])
   refine wpAnyH_take (i := 10) (oi := _) (v := ?_) rfl (by kernel_rfl) (by kernel_rfl) (by kernel_rfl) (fun _ _ _ h => h) (Or.inl ⟨by kernel_rfl, ?_⟩) hHeld ?_
   rotate_left
   ·intro wq hSw
    go_simp
    (try with_reducible rfl)
   (try simp only [Act.put, pk1, pk2, pk3, pk4, pk5, pk6])
   refine wpAnyH_take (i := 11) (oi := _) (v := ?_) rfl (by kernel_rfl) (by kernel_rfl) (by kernel_rfl) (fun _ _ _ h => h) (Or.inl ⟨by kernel_rfl, ?_⟩) hHeld ?_
   rotate_left
   ·intro wq hSw
    go_simp
    (try with_reducible rfl)
   (try simp only [Act.put, pk1, pk2, pk3, pk4, pk5, pk6])
   refine wpAnyH_take (i := 12) (oi := _) (v := ?_) rfl (by kernel_rfl) (by kernel_rfl) (by kernel_rfl) (fun _ _ _ h => h) (Or.inl ⟨by kernel_rfl, ?_⟩) hHeld ?_
   rotate_left
   ·intro wq hSw
    go_simp
    (try with_reducible rfl)
   (try simp only [Act.put, pk1, pk2, pk3, pk4, pk5, pk6])
   refine wpAnyH_take (i := 13) (oi := _) (v := _) rfl (by kernel_rfl) (by kernel_rfl) (by kernel_rfl) (fun _ _ _ h => h) (mid_yields rfl Tryz.underlying36 HL2.out (fun W h => h.2) (by kernel_rfl) _ rfl rfl) hHeld ?_
   (try simp only [Act.put, pk1, pk2, pk3, pk4, pk5, pk6])
   refine wpAnyH_ready (rs := [14]) (by kernel_rfl) (by simp) ?_
   refine AllReadyH.cons (o := _) rfl (fun K hK => ?_) AllReadyH.nil
   go_simp
   go_at_call 39
   refine (HTC.out w2.drew (HCN.out.bel (Below.refl _ _).drew)).mono ?_
   rintro e w6 ⟨rfl, hb6⟩
   have hn6 : Below w2.heap.size w2 w6 := (Below.refl w2.heap.size w2).drew.trans hb6
   have HB6 := hid (HB.out.trans (hn6.mono HB.out.size))
   have hd0 := (hn6.cell (block_lt hc0)).trans hc0
   have hd5 := (hn6.cell (block_lt hc5)).trans hc5
   have HR6 := hid (range_keep HR1.out (hn6.block _ hbl))
   have HRD6 := hid (HRD.out.below hn6)
   clear hb6 hn6
   refine hK.out _ _ (⟨hd0, HR6.out⟩) (fun hHeld2 => ?_)
   clear hK K hHeld
   have hHeld := hHeld2
   clear hHeld2
   (try simp only [Act.put, pk1, pk2, pk3, pk4, pk5, pk6])
   refine wpAnyH_take (i := 15) (oi := _) (v := ?_) rfl (by kernel_rfl) (by kernel_rfl) (by kernel_rfl) (fun _ _ _ h => h) (Or.inl ⟨by kernel_rfl, ?_⟩) hHeld ?_
   rotate_left
   ·intro wq hSw
    go_simp
    (try with_reducible rfl)
   (try simp only [Act.put, pk1, pk2, pk3, pk4, pk5, pk6])
   refine wpAnyH_take (i := 16) (oi := _) (v := ?_) rfl (by kernel_rfl) (by kernel_rfl) (by kernel_rfl) (fun _ _ _ h => h) (Or.inl ⟨by kernel_rfl, ?_⟩) hHeld ?_
   rotate_left
   ·intro wq hSw
    go_simp
    (try with_reducible rfl)
   (try simp only [Act.put, pk1, pk2, pk3, pk4, pk5, pk6])
   refine wpAnyH_take (i := 17) (oi := _) (v := ?_) rfl (by kernel_rfl) (by kernel_rfl) (by kernel_rfl) (fun _ _ _ h => h) (Or.inl ⟨by kernel_rfl, ?_⟩) hHeld ?_
   rotate_left
   ·intro wq hSw
    go_simp
    (try with_reducible rfl)
   (try simp only [Act.put, pk1, pk2, pk3, pk4, pk5, pk6])
   refine wpAnyH_done (by kernel_rfl) ?_ _
   refine NoPanic.normal ?_
   go_wp2_with fail
   go_loopw [5, 7] (fun ox jx wr => ∃ (j : Nat) (ol2 : List UInt8), j ≤ x.acts.length ∧ ox = .string (bstr ol2) ∧ jx = .int .i64 (j : Int) ∧ Hid (ol2 = u5 ++ Pr.joinT (x.acts.take j)) ∧ Below w6.heap.size w6 wr) (fun _ jx _ => x.acts.length - (RowKit.intOf jx).toNat)
   case atStart => exact ⟨0, u5, Nat.zero_le _, rfl, rfl, hid (by simp [Pr.joinT]), Below.refl _ _⟩
   case round =>
    obtain ⟨j, ol2, hj, rfl, rfl, hol2, hb7⟩ := hrel
    have HB7 := hid hb7
    have he5 := (hb7.cell (block_lt hd5)).trans hd5
    have HRD7 := hid (HRD6.out.below hb7)
    have hlen2 : ol2.length ≤ 1000000 := by
     have h1 := HJL.out j
     have h2 := HU5.out
     rw [hol2.out, List.length_append]
     omega
    clear hb7
    by_cases hlt2 : j < x.acts.length
    ·obtain ⟨bd, od, a, rfl, hxa, hca⟩ := HRD7.out.str_at hlt2
     have hstj := HJS.out j a hxa
     have hlej := HJL.out (j + 1)
     rw [hstj] at hlej
     simp only [List.length_append] at hlej
     have HSJ := hid hstj
     have h2 := HU5.out
     have hol3 : ol2.length = u5.length + (Pr.joinT (x.acts.take j)).length := by rw [hol2.out, List.length_append]
     have hJ1 : (j : Int) < (x.acts.length : Int) := by omega
     have hJ0 : (0 : Int) ≤ (j : Int) := by omega
     by_cases hj0 : j = 0
     ·have HN : Hid (ol2 ++ a = u5 ++ Pr.joinT (x.acts.take (j + 1))) := hid (by rw [HSJ.out, hol2.out, if_pos hj0, List.nil_append, List.append_assoc])
      have hjz : ¬ (0 : Int) < (j : Int) := by omega
      have hb1 : bstr ol2 ++ bstr a = bstr (ol2 ++ a) := bstr_app ..
      have hp1 : ¬ 9223372036854775807 < (bstr ol2).size + (bstr a).size := by rw [bstr_size, bstr_size]; omega
      clear hj0 hstj hlej hxa h2 hol3
      generalize bstr a = AB at *
      go_wp2_with fail
      go_roundw
      case rel => exact ⟨j + 1, _, by omega, by first | rfl | trivial, by go_num, HN, HB7.out⟩
      case measure => simp [RowKit.intOf]; omega
     ·obtain ⟨o3, ho3⟩ : ∃ o3, ol2 ++ [44, 32] = o3 := ⟨_, rfl⟩
      have HN : Hid (o3 ++ a = u5 ++ Pr.joinT (x.acts.take (j + 1))) := hid (by rw [HSJ.out, ← ho3, hol2.out, if_neg hj0]; simp)
      rw [if_neg hj0] at hlej
      simp only [List.length_cons, List.length_nil] at hlej
      have hjz : (0 : Int) < (j : Int) := by omega
      have hb0 : bstr ol2 ++ (⟨#[44, 32]⟩ : ByteArray) = bstr o3 := by rw [← ho3]; exact bap ol2 _
      have hb1 : bstr o3 ++ bstr a = bstr (o3 ++ a) := bstr_app ..
      have hz3 : (bstr o3).size = ol2.length + 2 := by rw [← ho3, bstr_size, List.length_append]; rfl
      have hp0 : ¬ 9223372036854775807 < (bstr ol2).size + 2 := by rw [bstr_size]; omega
      have hp1 : ¬ 9223372036854775807 < (bstr o3).size + (bstr a).size := by rw [hz3, bstr_size]; omega
      clear hj0 hstj hlej hxa h2 hol3 ho3 hz3
      generalize bstr a = AB at *
      go_wp2_with fail
      go_roundw
      case rel => exact ⟨j + 1, _, by omega, by first | rfl | trivial, by go_num, HN, HB7.out⟩
      case measure => simp [RowKit.intOf]; omega
    ·obtain rfl : j = x.acts.length := by omega
     have HN : Hid (ol2 ++ [10] = Pr.printT (l.take (k + 1))) := hid (by rw [HSTP.out, hol2.out, HJT.out])
     have hb1 : bstr ol2 ++ (⟨#[10]⟩ : ByteArray) = bstr (ol2 ++ [10]) := bap ol2 _
     have hp1 : ¬ 9223372036854775807 < (bstr ol2).size + 1 := by rw [bstr_size]; omega
     go_wp2_with fail
     go_roundw
     case rel => exact ⟨k + 1, _, by omega, by first | rfl | trivial, by go_num, HN, HB6.out.trans (HB7.out.mono HB6.out.size)⟩
     case measure => simp [RowKit.intOf]; omega
  ·obtain rfl : k = l.length := by omega
   have hall : ol = Pr.printT l := by rw [hol.out, List.take_length]
   have hsz := bstr_size ol
   by_cases h2 : 20000 < ol.length
   ·have HP := hid (HPL.out (by rw [← hall]; exact h2))
    have h2I : (20000 : Int) < ((bstr ol).size : Int) := by omega
    clear hall hsz h2
    go_wp2_with fail
    go_ret2
    exact ⟨by rw [HP.out]; rfl, HB.out⟩
   ·have HP : Hid (PP = (ol, 0)) := hid (by rw [HPD.out (by rw [← hall]; exact h2), hall])
    have h2I : ¬ (20000 : Int) < ((bstr ol).size : Int) := by omega
    clear hall hsz h2
    go_wp2_with fail
    go_ret2
    exact ⟨by rw [HP.out]; rfl, HB.out⟩
end Go.Proofs.YtchkiegehejfmaaGreatDoor
