/- The texts Fb, Gq, Gu, Gsh, W2 of this proof, one behind the other. -/
import Derived.BigQuiet
import Derived.Deep.QuietTactic
import Derived.Test.YtchkiegehejfmaaGreatDoorMar
import Derived.Test.YtchkiegehejfmaaGreatDoorMao
import Derived.Test.YtchkiegehejfmaaGreatDoorMas
import Derived.Test.YtchkiegehejfmaaGreatDoorMkaa
import Derived.Test.YtchkiegehejfmaaGreatDoorMam
import Derived.Test.YtchkiegehejfmaaGreatDoorMan
set_option linter.unusedSimpArgs false
set_option maxHeartbeats 16000000
set_option maxRecDepth 100000
set_option linter.unusedVariables false
/- The text Fb. -/
namespace Go.Proofs.YtchkiegehejfmaaGreatDoor
open Go.RowKit Go.Lib
set_option linter.unusedVariables false
set_option linter.unusedSimpArgs false
theorem take_snocL {α : Type} {s : List α} {k : Nat} {c : α} (h : s[k]? = some c) : s.take (k + 1) = s.take k ++ [c] := by
 obtain ⟨h1, h2⟩ := List.getElem?_eq_some_iff.1 h
 rw [List.take_succ_eq_append_getElem h1, h2]
theorem strL_at {ss : List (List UInt8)} {k : Nat} {v : Value} (h : (strL ss)[k]? = some v) : ∃ x, ss[k]? = some x ∧ v = .string (bstr x) := by
 unfold strL at h
 rw [List.getElem?_map] at h
 cases hq : ss[k]? with
 | none => rw [hq] at h; cases h
 | some x => rw [hq] at h; injection h with h; exact ⟨x, rfl, h.symm⟩
theorem strL_len (ss : List (List UInt8)) : (strL ss).length = ss.length := List.length_map _
theorem rd_strs {w : World} {A : Option Addr} {n : Nat} {ss : List (List UInt8)} (h : Rd w A n (strL ss)) : ss.length = n := by rw [← h.1, strL_len]
theorem rd_str {w : World} {A : Option Addr} {n : Nat} {ss : List (List UInt8)} (h : Rd w A n (strL ss)) {k : Nat} (hk : k < n) : ∃ b off x, A = some ⟨b, off, none⟩ ∧ ss[k]? = some x ∧ w.cell? ⟨b, off + k, none⟩ = some (.string (bstr x)) := by
 obtain ⟨b, off, v, e1, e2, e3⟩ := h.at_ hk
 obtain ⟨x, e4, e5⟩ := strL_at e2
 exact ⟨b, off, x, e1, e4, by rw [e3, e5]⟩
theorem rtexts_any (A B : Option Addr) (n m ca cb : Nat) (a b : List (List UInt8)) (w : World) (ha : Rd w A n (strL a)) (hb : Rd w B m (strL b)) (hn : n ≤ 100000) (hm : m ≤ 100000) :
  Calls Tryz.prog 25 #[.slice A n ca, .slice B m cb] w fun e w' => e = .returned (.bool (decide (a = b))) ∧ ∃ q, w' = w.drewN q := by
 have hla := rd_strs ha
 have hlb := rd_strs hb
 by_cases hnm : n = m
 ·subst hnm
  have HLA := hid hla
  have HLB := hid hlb
  have HA := hid ha
  have HB := hid hb
  clear hla hlb ha hb
  have hne : ((n : Int) != (n : Int)) = false := by rw [bne_eq_false_iff_eq]
  go_enter Tryz.func25, Tryz.ntmps25
  go_wp2_with fail
  go_loopw [5] (fun i wr => ∃ k q : Nat, k ≤ n ∧ i = .int .i64 k ∧ wr = w.drewN q ∧ Hid (a.take k = b.take k)) (fun i _ => n - (RowKit.intOf i).toNat)
  case atStart => exact ⟨0, 0, by omega, rfl, rfl, hid rfl⟩
  case round =>
   obtain ⟨k, q, hk, rfl, rfl, heq⟩ := hrel
   by_cases hlt : k < n
   ·obtain ⟨ba, oa, x, rfl, hx, hcx⟩ := rd_str HA.out hlt
    obtain ⟨bb, ob, y, rfl, hy, hcy⟩ := rd_str HB.out hlt
    have HX := hid hx
    have HY := hid hy
    have hsb := str_beq x y
    by_cases hxy : x = y
    ·have h1 : (!((bstr x).toList == (bstr y).toList)) = false := by rw [hsb, hxy]; simp
     have HXY := hid hxy
     clear hx hy hxy hsb
     generalize bstr x = sx at *
     generalize bstr y = sy at *
     go_wp2_with fail
     go_quiet (fail)
     go_wp2_with fail
     go_roundw
     case rel => exact ⟨k + 1, _, by omega, by go_num, rfl, hid (by rw [take_snocL HX.out, take_snocL HY.out, heq.out, HXY.out])⟩
     case measure => simp [RowKit.intOf]; omega
    ·have h1 : (!((bstr x).toList == (bstr y).toList)) = true := by rw [hsb]; simpa using hxy
     have hd : decide (a = b) = false := decide_eq_false (by
      intro e
      rw [e, hy] at hx
      injection hx with hx
      exact hxy hx.symm)
     have HD := hid hd
     clear hx hy hxy hsb hd
     generalize bstr x = sx at *
     generalize bstr y = sy at *
     go_wp2_with fail
     go_quiet (fail)
     go_wp2_with fail
     go_ret
     exact ⟨ret_bool HD.out.symm, _, World.drewN_drewN _ _ _⟩
   ·obtain rfl : k = n := by omega
    have hd : decide (a = b) = true := decide_eq_true (by
     have := heq.out
     rw [List.take_of_length_le (by rw [HLA.out]; omega), List.take_of_length_le (by rw [HLB.out]; omega)] at this
     exact this)
    have HD := hid hd
    clear hd
    go_wp2_with fail
    go_ret
    exact ⟨ret_bool HD.out.symm, q, rfl⟩
 ·have hne : ((n : Int) != (m : Int)) = true := by rw [bne_iff_ne]; omega
  have hd : decide (a = b) = false := decide_eq_false (by intro e; apply hnm; rw [← hla, ← hlb, e])
  rw [hd]
  clear hd hla hlb ha hb
  go_enter Tryz.func25, Tryz.ntmps25
  go_wp2_with fail
  go_ret
  exact ⟨rfl, 0, rfl⟩
end Go.Proofs.YtchkiegehejfmaaGreatDoor
/- The text Gq. -/
namespace Pr
mutual
def cntC : Nat → Cn → Nat
 | lv, .mk _ t _ ks => if 30 < lv ∨ 150 < t.length ∨ 60 < ks.length then 61 else cntK lv 1 ks
def cntK : Nat → Nat → List Cn → Nat
 | _, acc, [] => acc
 | lv, acc, c :: r => if 60 < acc then acc else cntK lv (acc + cntC (lv + 1) c) r
end
theorem cntC_open (lv : Nat) (c : Cn) : cntC lv c = if 30 < lv ∨ 150 < c.text.length ∨ 60 < c.kids.length then 61 else cntK lv 1 c.kids := by cases c; rw [cntC]; rfl
theorem cntK_stop {lv acc : Nat} (h : 60 < acc) (l : List Cn) : cntK lv acc l = acc := by
 cases l with
 | nil => rw [cntK]
 | cons c r => rw [cntK, if_pos h]
theorem cntK_drop {lv acc : Nat} {ks : List Cn} {k : Nat} {c : Cn} (h : ks[k]? = some c) (ha : ¬ 60 < acc) : cntK lv acc (ks.drop k) = cntK lv (acc + cntC (lv + 1) c) (ks.drop (k + 1)) := by
 obtain ⟨h1, h2⟩ := List.getElem?_eq_some_iff.1 h
 rw [List.drop_eq_getElem_cons h1, h2, cntK, if_neg ha]
mutual
theorem cntC_le : ∀ (lv : Nat) (c : Cn), cntC lv c ≤ (32 - lv) * 61 + 61
 | lv, .mk o t n ks => by
  rw [cntC]
  split
  ·omega
  ·rename_i h
   have := cntK_le lv 1 ks (by omega) (by omega)
   exact this
theorem cntK_le : ∀ (lv acc : Nat) (l : List Cn), lv ≤ 30 → acc ≤ (32 - lv) * 61 + 61 → cntK lv acc l ≤ (32 - lv) * 61 + 61
 | lv, acc, [], hl, h => by rw [cntK]; exact h
 | lv, acc, c :: r, hl, h => by
  rw [cntK]
  split
  ·exact h
  ·have h1 := cntC_le (lv + 1) c
   exact cntK_le lv _ r hl (by omega)
end
mutual
theorem cntC_small : ∀ (lv : Nat) (c : Cn), cntC lv c ≤ 60 → cntC lv c = nodes c ∧ small c
 | lv, .mk o t n ks, h => by
  rw [cntC] at h ⊢
  split at h
  ·omega
  ·rename_i g
   rw [if_neg g]
   obtain ⟨h1, h2⟩ := cntK_small lv 1 ks h
   refine ⟨by rw [h1, nodes]; omega, ?_⟩
   unfold small
   exact ⟨by omega, h2⟩
theorem cntK_small : ∀ (lv acc : Nat) (l : List Cn), cntK lv acc l ≤ 60 → cntK lv acc l = acc + nodesL l ∧ smallL l
 | lv, acc, [], h => by rw [cntK]; unfold nodesL smallL; exact ⟨rfl, trivial⟩
 | lv, acc, c :: r, h => by
  rw [cntK] at h ⊢
  split at h
  ·omega
  ·rename_i g
   rw [if_neg g]
   obtain ⟨h1, h2⟩ := cntK_small lv _ r h
   have hc : cntC (lv + 1) c ≤ 60 := by rw [h1] at h; omega
   obtain ⟨h3, h4⟩ := cntC_small (lv + 1) c hc
   refine ⟨by rw [h1, h3, nodesL]; omega, ?_⟩
   unfold smallL
   exact ⟨h4, h2⟩
end
def big (c : Cn) : Bool := decide (60 < cntC 0 c)
theorem big_no {c : Cn} (h : big c = false) : nodes c ≤ 60 ∧ small c := by
 have h2 : cntC 0 c ≤ 60 := by
  unfold big at h
  have := of_decide_eq_false h
  omega
 obtain ⟨h1, h3⟩ := cntC_small 0 c h2
 exact ⟨by omega, h3⟩
def greatX (x : Rl) : Bool := big x.wh || (decide (100 < x.name.length) || (decide (10 < x.acts.length) || x.acts.any fun a => decide (100 < a.length)))
def great (most : Nat) (l : List Rl) : Bool := decide (most < l.length) || l.any greatX
structure NotGreat (x : Rl) : Prop where
 nodes : nodes x.wh ≤ 60
 small : small x.wh
 name : x.name.length ≤ 100
 few : x.acts.length ≤ 10
 acts : ∀ a ∈ x.acts, a.length ≤ 100
theorem greatX_no {x : Rl} (h : greatX x = false) : NotGreat x := by
 unfold greatX at h
 simp only [Bool.or_eq_false_iff, decide_eq_false_iff_not, List.any_eq_false, decide_eq_true_eq] at h
 obtain ⟨h1, h2, h3, h4⟩ := h
 obtain ⟨h5, h6⟩ := big_no h1
 exact ⟨h5, h6, by omega, by omega, fun a ha => by have := h4 a ha; omega⟩
theorem great_no {most : Nat} {l : List Rl} (h : great most l = false) : l.length ≤ most ∧ ∀ x ∈ l, NotGreat x := by
 unfold great at h
 simp only [Bool.or_eq_false_iff, decide_eq_false_iff_not, List.any_eq_false] at h
 exact ⟨by omega, fun x hx => greatX_no (by cases hg : greatX x with | false => rfl | true => exact absurd hg (h.2 x hx))⟩
theorem NotGreat.good {x : Rl} (h : NotGreat x) : x.Good := ⟨by have := h.name; omega, h.small, by have := h.nodes; omega, fun a ha => by have := h.acts a ha; omega⟩
end Pr
namespace Go.Proofs.YtchkiegehejfmaaGreatDoor
open Go.RowKit Go.Lib
set_option linter.unusedVariables false
set_option linter.unusedSimpArgs false
theorem rcount_any : ∀ (m : Nat) (ok : Nat → Prop) (c : Pr.Cn) (V : Array Value) (lv : Nat) (w : World), Pr.nodes c ≤ m → lv ≤ 31 → CnV w ok V c → Calls Tryz.prog 40 #[.agg V, .int .i64 60, .int .i64 (lv : Int)] w fun e w' => e = .returned (.int .i64 (Pr.cntC lv c : Int)) ∧ Below w.heap.size w w'
 | 0, ok, c, V, lv, w, hm, _, h => absurd hm (by have := Pr.nodes_pos c; omega)
 | m + 1, ok, c, V, lv, w, hm, hlv, h => by
  have IH := hid (fun c V lv w (hc : Pr.nodes c ≤ m) (hl : lv ≤ 31) (h : CnV w ok V c) => rcount_any m ok c V lv w hc hl h)
  have hne := Pr.nodes_eq c
  have hop := Pr.cntC_open lv c
  obtain ⟨A, cap, rfl, hrow⟩ := h.open
  obtain ⟨o, t, n, ks⟩ := c
  change Pr.nodes (.mk o t n ks) = Pr.nodesL ks + 1 at hne
  have HR := hid hrow
  change Pr.cntC lv (.mk o t n ks) = if 30 < lv ∨ 150 < t.length ∨ 60 < ks.length then 61 else Pr.cntK lv 1 ks at hop
  show Calls Tryz.prog 40 #[.agg #[.int .i64 o, .string (bstr t), .int .i64 n, .slice A ks.length cap], .int .i64 60, .int .i64 (lv : Int)] w _
  obtain ⟨Z, hZ⟩ : ∃ Z, Pr.cntC lv (.mk o t n ks) = Z := ⟨_, rfl⟩
  rw [hZ] at hop ⊢
  have HB1 := hid ((Below.refl w.heap.size w).alloc (Nat.le_refl _) (.cells #[.int .i64 o, .string (bstr t), .int .i64 n, .slice A ks.length cap] 36))
  have hk1 := Blk.new w 36 #[.int .i64 o, .string (bstr t), .int .i64 n, .slice A ks.length cap]
  have hx1 : (w.alloc (.cells #[.int .i64 o, .string (bstr t), .int .i64 n, .slice A ks.length cap] 36)).cell? ⟨w.heap.size, 1, none⟩ = some (.string (bstr t)) := hk1.cell 1
  have hx3 : (w.alloc (.cells #[.int .i64 o, .string (bstr t), .int .i64 n, .slice A ks.length cap] 36)).cell? ⟨w.heap.size, 3, none⟩ = some (.slice A ks.length cap) := hk1.cell 3
  have HR1 := hid (HR.out.below HB1.out)
  generalize hw1 : w.alloc (.cells #[.int .i64 o, .string (bstr t), .int .i64 n, .slice A ks.length cap] 36) = w1 at *
  have htz := bstr_size t
  generalize bstr t = T at *
  clear hZ hk1 hrow h
  by_cases h30 : 30 < lv
  ·have HE : Hid (Z = 61) := hid (by rw [hop, if_pos (.inl h30)])
   have hI : (30 : Int) < (lv : Int) := by omega
   clear hop htz
   go_enter Tryz.func40, Tryz.ntmps40
   go_wp2_with fail
   go_ret
   exact ⟨congrArg (fun n : Nat => Ending.returned (.int .i64 (n : Int))) HE.out.symm, HB1.out⟩
  have hI : decide ((30 : Int) < (lv : Int)) = false := decide_eq_false (by omega)
  by_cases h150 : 150 < t.length
  ·have HE : Hid (Z = 61) := hid (by rw [hop, if_pos (.inr (.inl h150))])
   have hI2 : (150 : Int) < (T.size : Int) := by omega
   clear hop htz
   go_enter Tryz.func40, Tryz.ntmps40
   go_wp2_with fail
   go_ret
   exact ⟨congrArg (fun n : Nat => Ending.returned (.int .i64 (n : Int))) HE.out.symm, HB1.out⟩
  have hI2 : decide ((150 : Int) < (T.size : Int)) = false := decide_eq_false (by omega)
  by_cases h60 : 60 < ks.length
  ·have HE : Hid (Z = 61) := hid (by rw [hop, if_pos (.inr (.inr h60))])
   have hI3 : (60 : Int) < (ks.length : Int) := by omega
   clear hop htz
   go_enter Tryz.func40, Tryz.ntmps40
   go_wp2_with fail
   go_ret
   exact ⟨congrArg (fun n : Nat => Ending.returned (.int .i64 (n : Int))) HE.out.symm, HB1.out⟩
  have hI3 : ¬ (60 : Int) < (ks.length : Int) := by omega
  have HE : Hid (Pr.cntK lv 1 (ks.drop 0) = Z) := hid (by rw [hop, if_neg (by omega), List.drop_zero])
  have hwl : IntKind.i64.wrap ((lv : Int) + 1) = ((lv + 1 : Nat) : Int) := by rw [IntWalk.i64_in _ (by omega)]; rfl
  clear hop htz
  go_enter Tryz.func40, Tryz.ntmps40
  go_wp2_with fail
  go_loopw [7, 8] (fun nx ix wr => ∃ k acc : Nat, k ≤ ks.length ∧ nx = .int .i64 (acc : Int) ∧ ix = .int .i64 (k : Int) ∧ acc ≤ 2013 ∧ Hid (Pr.cntK lv acc (ks.drop k) = Z) ∧ Below w1.heap.size w1 wr) (fun _ ix _ => ks.length - (RowKit.intOf ix).toNat)
  case atStart => exact ⟨0, 1, Nat.zero_le _, rfl, rfl, by decide, HE, Below.refl _ _⟩
  case round =>
   obtain ⟨k, acc, hk, rfl, rfl, hacc, hrel, hb⟩ := hrel
   have HB := hid hb
   have hy3 := (hb.cell (block_lt hx3)).trans hx3
   clear hb
   by_cases hlt : k < ks.length
   ·by_cases ha : 60 < acc
    ·have HEN : Hid (Z = acc) := hid (by rw [← hrel.out, Pr.cntK_stop ha])
     have haI : ¬ (acc : Int) ≤ 60 := by omega
     go_wp2_with fail
     go_ret
     exact ⟨congrArg (fun n : Nat => Ending.returned (.int .i64 (n : Int))) HEN.out.symm, HB1.out.trans (HB.out.mono HB1.out.size)⟩
    ·obtain ⟨x, hx⟩ : ∃ x, ks[k]? = some x := ⟨_, List.getElem?_eq_getElem hlt⟩
     obtain ⟨b, off, cs, rfl, hok, hr, hcl, hcv⟩ := (HR1.out.below HB.out) k x hx
     have HN : Hid (Pr.cntK lv (acc + Pr.cntC (lv + 1) x) (ks.drop (k + 1)) = Z) := hid (by rw [← hrel.out, Pr.cntK_drop hx ha])
     have hnk := Pr.nodes_kid hx
     have hcle := Pr.cntC_le (lv + 1) x
     have HCV := hid hcv
     have HL2 : Hid ((Tryz.prog.info? 36).map (·.size) = some cs.length) := hid (by rw [size_cond, hcl])
     have haI : (acc : Int) ≤ 60 := by omega
     have HIX := hid (IH.out x cs.toArray (lv + 1) wr (by omega) (by omega) hcv)
     generalize Pr.cntC (lv + 1) x = cx at *
     have hcx : cx ≤ 1952 := by
      have : (32 - (lv + 1)) * 61 ≤ 31 * 61 := Nat.mul_le_mul_right 61 (by omega)
      omega
     have hwa : IntKind.i64.wrap ((acc : Int) + (cx : Int)) = ((acc + cx : Nat) : Int) := by rw [IntWalk.i64_in _ (by omega)]; rfl
     clear hx hcv hcle
     go_wp2_with (first
      | ((with_reducible refine wpList_load_mid rfl 36 _ rfl b (off + k * 4) ?_ cs _ hr Tryz.underlying36 ?_ HL2.out ?_); rfl; rfl)
      | (go_at_call 40; refine HIX.out.mono ?_; rintro e w3 ⟨rfl, hb3⟩; have HB3 := hid (HB.out.trans (hb3.mono HB.out.size)); clear hb3))
     go_roundw
     case rel => exact ⟨k + 1, acc + cx, by omega, by go_num, by go_num, by omega, HN, HB3.out⟩
     case measure => simp [RowKit.intOf]; omega
   ·obtain rfl : k = ks.length := by omega
    have HEN : Hid (Z = acc) := hid (by rw [← hrel.out, List.drop_length]; rw [Pr.cntK])
    go_wp2_with fail
    go_ret
    exact ⟨congrArg (fun n : Nat => Ending.returned (.int .i64 (n : Int))) HEN.out.symm, HB1.out.trans (HB.out.mono HB1.out.size)⟩
theorem rbig_any (ok : Nat → Prop) (c : Pr.Cn) (V : Array Value) (w : World) (h : CnV w ok V c) : Calls Tryz.prog 14 #[.agg V] w fun e w' => e = .returned (.bool (Pr.big c)) ∧ Below w.heap.size w w' := by
 have HB1 := hid ((Below.refl w.heap.size w).alloc (Nat.le_refl _) (.cells V 36))
 have HK := hid (Blk.new w 36 V)
 have HSX : Hid ((Tryz.prog.info? 36).map (·.size) = some V.size) := hid (by rw [size_cond, h.size])
 have HC := hid (rcount_any (Pr.nodes c) ok c V 0 _ (Nat.le_refl _) (by decide) (h.bel HB1.out))
 have hb : Pr.big c = decide ((60 : Int) < (Pr.cntC 0 c : Int)) := by
  unfold Pr.big
  by_cases h : 60 < Pr.cntC 0 c
  ·rw [decide_eq_true h, decide_eq_true (by omega)]
  ·rw [decide_eq_false h, decide_eq_false (by omega)]
 rw [hb]
 generalize Pr.cntC 0 c = n at *
 generalize hw1 : w.alloc (.cells V 36) = w1 at *
 clear h hb
 go_enter Tryz.func14, Tryz.ntmps14
 go_wp2_with (first
  | (refine load_row_u (by rfl) 36 _ rfl w.heap.size rfl 36 _ (0, 0) _ rfl HK.out Tryz.underlying36 HSX.out ?_)
  | (go_at_call 40; refine HC.out.mono ?_; rintro e w3 ⟨rfl, hb3⟩; have HB3 := hid (HB1.out.trans (hb3.mono HB1.out.size)); clear hb3))
 go_ret
 exact ⟨rfl, HB3.out⟩
end Go.Proofs.YtchkiegehejfmaaGreatDoor
/- The text Gu. -/
namespace Pr
theorem take_no {p : Rl → Bool} {L : List Rl} {k : Nat} {y : Rl} (h : ∀ z ∈ L.take k, p z = false) (hy : L[k]? = some y) (hn : p y = false) : ∀ z ∈ L.take (k + 1), p z = false := fun z hz => by
 obtain ⟨h1, h2⟩ := List.getElem?_eq_some_iff.1 hy
 rw [List.take_succ_eq_append_getElem h1, h2] at hz
 rcases List.mem_append.1 hz with hz | hz
 ·exact h z hz
 ·rw [List.mem_singleton.1 hz]; exact hn
theorem take_noS {p : Str → Bool} {L : List Str} {k : Nat} {y : Str} (h : ∀ z ∈ L.take k, p z = false) (hy : L[k]? = some y) (hn : p y = false) : ∀ z ∈ L.take (k + 1), p z = false := fun z hz => by
 obtain ⟨h1, h2⟩ := List.getElem?_eq_some_iff.1 hy
 rw [List.take_succ_eq_append_getElem h1, h2] at hz
 rcases List.mem_append.1 hz with hz | hz
 ·exact h z hz
 ·rw [List.mem_singleton.1 hz]; exact hn
end Pr
namespace Go.Proofs.YtchkiegehejfmaaGreatDoor
open Go.RowKit Go.Lib
set_option linter.unusedVariables false
set_option linter.unusedSimpArgs false
theorem rgreat_any (ok : Nat → Prop) (most : Nat) (l : List Pr.Rl) (A : Option Addr) (cap : Nat) (w : World) (hmo : most ≤ 1000000) (hr : RlRow w ok A l) : Calls Tryz.prog 11 #[.slice A l.length cap, .int .i64 (most : Int)] w fun e w' => e = .returned (.bool (Pr.great most l)) ∧ Below w.heap.size w w' := by
 have HR := hid hr
 clear hr
 by_cases hm : most < l.length
 ·have HZ : Hid (Pr.great most l = true) := hid (by unfold Pr.great; rw [decide_eq_true hm]; rfl)
  have hI : (most : Int) < (l.length : Int) := by omega
  rw [HZ.out]
  go_enter Tryz.func11, Tryz.ntmps11
  go_wp2_with fail
  go_ret
  exact ⟨rfl, Below.refl _ _⟩
 have HT : Hid (∀ x ∈ l, Pr.greatX x = true → Pr.great most l = true) := hid (fun x hx h => by unfold Pr.great; rw [List.any_eq_true.2 ⟨x, hx, h⟩, Bool.or_true])
 have HF : Hid ((∀ x ∈ l, Pr.greatX x = false) → Pr.great most l = false) := hid (fun h => by unfold Pr.great; rw [decide_eq_false hm, List.any_eq_false.2 (fun x hx => by rw [h x hx]; decide)]; rfl)
 have hI : ¬ (most : Int) < (l.length : Int) := by omega
 have hll : l.length ≤ 1000000 := by omega
 generalize Pr.great most l = Z at *
 clear hm
 go_enter Tryz.func11, Tryz.ntmps11
 go_wp2_with fail
 go_loopw [5] (fun ix wr => ∃ k : Nat, k ≤ l.length ∧ ix = .int .i64 (k : Int) ∧ Below w.heap.size w wr ∧ ∀ z ∈ l.take k, Pr.greatX z = false) (fun ix _ => l.length - (RowKit.intOf ix).toNat)
 case atStart => exact ⟨0, Nat.zero_le _, rfl, Below.refl _ _, fun z hz => by simp at hz⟩
 case round =>
  obtain ⟨k, hk, rfl, hb, hall⟩ := hrel
  have HB := hid hb
  have HALL := hid hall
  have hws := hb.size
  clear hb hall
  by_cases hlt : k < l.length
  ·obtain ⟨x, hx⟩ : ∃ x, l[k]? = some x := ⟨_, List.getElem?_eq_getElem hlt⟩
   obtain ⟨b, off, cs, rfl, hok, hrg, hcl, A2, cap2, D, dcap, hcs, hkr, hrd, hdc, hdo⟩ := (HR.out.bel HB.out) k x hx
   have HX := hid (HT.out x (List.mem_of_getElem? hx))
   have HNX := hid (fun h => Pr.take_no HALL.out hx h)
   obtain rfl : cs = [.string (bstr x.name), .int .i64 x.wh.op, .string (bstr x.wh.text), .int .i64 x.wh.num, .slice A2 x.wh.kids.length cap2, .slice D x.acts.length dcap] := by
    have h := congrArg Array.toList hcs
    simpa using h
   have hcn : wr.cell? ⟨b, off + k * 6, none⟩ = some (.string (bstr x.name)) := by have h := hrg 0 _ rfl; rwa [Nat.add_zero] at h
   have hca : wr.cell? ⟨b, off + k * 6 + 5, none⟩ = some (.slice D x.acts.length dcap) := hrg 5 _ rfl
   have hrc : wr.rangeAt b (off + k * 6 + 1) [.int .i64 x.wh.op, .string (bstr x.wh.text), .int .i64 x.wh.num, .slice A2 x.wh.kids.length cap2] := fun j v hj => by
    have hj4 : j < 4 := (List.getElem?_eq_some_iff.1 hj).1
    have h := hrg (1 + j) v (by rcases j with _ | _ | _ | _ | j <;> first | exact hj | omega)
    rwa [← Nat.add_assoc] at h
   have HSZ : Hid ((Tryz.prog.info? 36).map (·.size) = some ([.int .i64 x.wh.op, .string (bstr x.wh.text), .int .i64 x.wh.num, .slice A2 x.wh.kids.length cap2] : List Value).length) := hid (by rw [size_cond]; rfl)
   have HBG := hid (rbig_any ok x.wh _ wr (CnV.of hkr cap2))
   have HRD := hid hrd
   have hkI : (k : Int) < (l.length : Int) := by omega
   have hgx : Pr.greatX x = (Pr.big x.wh || (decide (100 < x.name.length) || (decide (10 < x.acts.length) || x.acts.any fun a => decide (100 < a.length)))) := rfl
   rw [hgx] at HX HNX
   have htz := bstr_size x.name
   clear hx hcs hrg hkr hrd hdc hdo hgx
   generalize bstr x.name = NM at *
   generalize Pr.big x.wh = G at *
   cases G with
   | true =>
    have HZ : Hid (true = Z) := hid (HX.out rfl).symm
    clear htz
    go_wp2_with (first
     | ((with_reducible refine wpList_load_mid rfl 36 _ rfl b (off + k * 6 + 1) ?_ _ _ hrc Tryz.underlying36 ?_ HSZ.out ?_); rfl; rfl)
     | (go_at_call 14; refine HBG.out.mono ?_; rintro e w3 ⟨rfl, hb3⟩; have HB3 := hid (HB.out.trans (hb3.mono hws)); have hcn3 := (hb3.cell (block_lt hcn)).trans hcn; have hca3 := (hb3.cell (block_lt hca)).trans hca; have HRD3 := hid (HRD.out.below hb3); clear hb3))
    go_ret
    exact ⟨congrArg (fun z => Ending.returned (.bool z)) HZ.out, HB3.out⟩
   | false =>
    rw [Bool.false_or] at HX HNX
    by_cases h100 : 100 < x.name.length
    ·have HZ : Hid (true = Z) := hid (HX.out (by rw [decide_eq_true h100]; rfl)).symm
     have g1 : decide ((100 : Int) < (NM.size : Int)) = true := decide_eq_true (by omega)
     clear htz
     go_wp2_with (first
      | ((with_reducible refine wpList_load_mid rfl 36 _ rfl b (off + k * 6 + 1) ?_ _ _ hrc Tryz.underlying36 ?_ HSZ.out ?_); rfl; rfl)
      | (go_at_call 14; refine HBG.out.mono ?_; rintro e w3 ⟨rfl, hb3⟩; have HB3 := hid (HB.out.trans (hb3.mono hws)); have hcn3 := (hb3.cell (block_lt hcn)).trans hcn; have hca3 := (hb3.cell (block_lt hca)).trans hca; have HRD3 := hid (HRD.out.below hb3); clear hb3))
     go_ret
     exact ⟨congrArg (fun z => Ending.returned (.bool z)) HZ.out, HB3.out⟩
    ·have g1 : decide ((100 : Int) < (NM.size : Int)) = false := decide_eq_false (by omega)
     rw [decide_eq_false h100, Bool.false_or] at HX HNX
     clear htz
     by_cases h10 : 10 < x.acts.length
     ·have HZ : Hid (true = Z) := hid (HX.out (by rw [decide_eq_true h10]; rfl)).symm
      have g2 : (10 : Int) < (x.acts.length : Int) := by omega
      go_wp2_with (first
       | ((with_reducible refine wpList_load_mid rfl 36 _ rfl b (off + k * 6 + 1) ?_ _ _ hrc Tryz.underlying36 ?_ HSZ.out ?_); rfl; rfl)
       | (go_at_call 14; refine HBG.out.mono ?_; rintro e w3 ⟨rfl, hb3⟩; have HB3 := hid (HB.out.trans (hb3.mono hws)); have hcn3 := (hb3.cell (block_lt hcn)).trans hcn; have hca3 := (hb3.cell (block_lt hca)).trans hca; have HRD3 := hid (HRD.out.below hb3); clear hb3))
      go_ret
      exact ⟨congrArg (fun z => Ending.returned (.bool z)) HZ.out, HB3.out⟩
     ·have g2 : ¬ (10 : Int) < (x.acts.length : Int) := by omega
      rw [decide_eq_false h10, Bool.false_or] at HX HNX
      go_wp2_with (first
       | ((with_reducible refine wpList_load_mid rfl 36 _ rfl b (off + k * 6 + 1) ?_ _ _ hrc Tryz.underlying36 ?_ HSZ.out ?_); rfl; rfl)
       | (go_at_call 14; refine HBG.out.mono ?_; rintro e w3 ⟨rfl, hb3⟩; have HB3 := hid (HB.out.trans (hb3.mono hws)); have hcn3 := (hb3.cell (block_lt hcn)).trans hcn; have hca3 := (hb3.cell (block_lt hca)).trans hca; have HRD3 := hid (HRD.out.below hb3); clear hb3))
      obtain ⟨w5, rfl⟩ : ∃ w5, w5 = w3 := ⟨_, rfl⟩
      have hw5 := HB3.out.size
      go_loopw [6] (fun jx wq => ∃ j : Nat, j ≤ x.acts.length ∧ jx = .int .i64 (j : Int) ∧ Below w5.heap.size w5 wq ∧ ∀ z ∈ x.acts.take j, decide (100 < z.length) = false) (fun jx _ => x.acts.length - (RowKit.intOf jx).toNat)
      case atStart => exact ⟨0, Nat.zero_le _, rfl, Below.refl _ _, fun z hz => by simp at hz⟩
      case round =>
       obtain ⟨j, hj, rfl, hbq, hall⟩ := hrel
       have HBQ := hid (HB3.out.trans (hbq.mono hw5))
       have HBW := hid hbq
       have hcaq := (hbq.cell (block_lt hca3)).trans hca3
       have HRQ := hid (HRD3.out.below hbq)
       have HAL := hid hall
       clear hbq hall
       by_cases hjk : j < x.acts.length
       ·obtain ⟨b2, off2, y, rfl, hy, hcy⟩ := HRQ.out.str_at hjk
        have HNY := hid (fun h => Pr.take_noS HAL.out hy h)
        have HXY : Hid (decide (100 < y.length) = true → true = Z) := hid (fun h => (HX.out (List.any_eq_true.2 ⟨y, List.mem_of_getElem? hy, h⟩)).symm)
        have hyz := bstr_size y
        have hjI : (j : Int) < (x.acts.length : Int) := by omega
        generalize bstr y = YN at *
        clear hy
        by_cases hy1 : 100 < y.length
        ·have HZ := hid (HXY.out (decide_eq_true hy1))
         have g3 : (100 : Int) < (YN.size : Int) := by omega
         clear hyz
         go_wp2_with fail
         go_ret
         exact ⟨congrArg (fun z => Ending.returned (.bool z)) HZ.out, HBQ.out⟩
        ·have HN := hid (HNY.out (decide_eq_false hy1))
         have g3 : ¬ (100 : Int) < (YN.size : Int) := by omega
         clear hyz
         go_wp2_with fail
         go_roundw
         case rel => exact ⟨j + 1, hjk, by go_num, HBW.out, HN.out⟩
         case measure => simp [RowKit.intOf]; omega
       ·obtain rfl : j = x.acts.length := by omega
        have HN := hid (HNX.out (List.any_eq_false.2 (fun z hz => by rw [HAL.out z (by rw [List.take_length]; exact hz)]; decide)))
        go_wp2_with fail
        go_roundw
        case rel => exact ⟨k + 1, hlt, by go_num, HBQ.out, HN.out⟩
        case measure => simp [RowKit.intOf]; omega
  ·obtain rfl : k = l.length := by omega
   have HZ : Hid (false = Z) := hid (HF.out (fun z hz => HALL.out z (by rw [List.take_length]; exact hz))).symm
   go_wp2_with fail
   go_ret
   exact ⟨congrArg (fun z => Ending.returned (.bool z)) HZ.out, HB.out⟩
end Go.Proofs.YtchkiegehejfmaaGreatDoor
/- The text Gsh. -/
namespace Pr
def hides (y : Cn) (z : Rl) : Bool := (simple z.wh).op == 1 || same y (simple z.wh)
theorem hides_eq (y : Cn) (L : List Rl) : (L.map fun x => simple x.wh).any (covers y) = L.any (hides y) := by
 rw [List.any_map]
 congr 1
 funext z
 show (_ || same (simple z.wh) y) = (_ || same y (simple z.wh))
 congr 1
 rw [same_dec, same_dec]
 by_cases h : y = simple z.wh
 ·subst h; rfl
 ·rw [decide_eq_false h, decide_eq_false (fun e => h e.symm)]
theorem shad_next {l : List Rl} {k : Nat} {x : Rl} {NM : List Str} (h : l[k]? = some x) (hg : NM ++ shadG ((l.take k).map fun x => simple x.wh) (l.drop k) = shadow l) :
  ((l.take k).any (hides (simple x.wh)) = true → (NM ++ [x.name]) ++ shadG ((l.take (k + 1)).map fun x => simple x.wh) (l.drop (k + 1)) = shadow l) ∧
  ((l.take k).any (hides (simple x.wh)) = false → NM ++ shadG ((l.take (k + 1)).map fun x => simple x.wh) (l.drop (k + 1)) = shadow l) := by
 obtain ⟨h1, h2⟩ := List.getElem?_eq_some_iff.1 h
 have e1 : ((l.take (k + 1)).map fun x => simple x.wh) = ((l.take k).map fun x => simple x.wh) ++ [simple x.wh] := by
  rw [List.take_succ_eq_append_getElem h1, h2, List.map_append]; rfl
 rw [List.drop_eq_getElem_cons h1, h2, shadG, hides_eq] at hg
 rw [e1]
 constructor
 ·intro hh
  rw [hh, if_pos rfl] at hg
  rw [← hg, List.append_assoc]
 ·intro hh
  rw [hh, if_neg (by decide)] at hg
  rw [← hg]; rfl
end Pr
namespace Go.Proofs.YtchkiegehejfmaaGreatDoor
open Go.RowKit Go.Lib
set_option linter.unusedVariables false
set_option linter.unusedSimpArgs false
theorem rshadowed_any (ok : Nat → Prop) (l : List Pr.Rl) (A : Option Addr) (cap : Nat) (w : World) (hn : l.length ≤ 1000) (hl : RlRow w ok A l) (hsm : ∀ x ∈ l, Pr.nodes x.wh ≤ 100000) :
  Calls Tryz.prog 27 #[.slice A l.length cap] w fun e w' => (∃ v, e = .returned v ∧ w'.ownsRow w.heap.size 9 1 v (Pr.shadow l).length (strL (Pr.shadow l))) ∧ Below w.heap.size w w' := by
 have HR := hid hl
 have HSM := hid hsm
 clear hl hsm
 go_enter Tryz.func27, Tryz.ntmps27
 go_wp2_with fail
 go_loopw [3, 4] (fun out ix wr => ∃ (k : Nat) (NM : List (List UInt8)), k ≤ l.length ∧ ix = .int .i64 (k : Int) ∧ NM ++ Pr.shadG ((l.take k).map fun x => Pr.simple x.wh) (l.drop k) = Pr.shadow l ∧ NM.length ≤ k ∧ wr.ownsRow w.heap.size 9 1 out NM.length (strL NM) ∧ Below w.heap.size w wr) (fun _ ix _ => l.length - (RowKit.intOf ix).toNat)
 case atStart => exact ⟨0, [], Nat.zero_le _, rfl, rfl, Nat.le_refl _, own_nil _ _ _, Below.refl _ _⟩
 case round =>
  obtain ⟨k, NM, hk, rfl, hg, hnl, how, hb⟩ := hrel
  obtain ⟨w2, rfl⟩ : ∃ w2, w2 = wr := ⟨_, rfl⟩
  have HG := hid hg
  have HOW := hid how
  have HB := hid hb
  have hws := hb.size
  obtain ⟨A1, c1, rfl, hc1, -, -⟩ := own_at how
  clear hg how hb
  by_cases hlt : k < l.length
  ·obtain ⟨x, hx⟩ : ∃ x, l[k]? = some x := ⟨_, List.getElem?_eq_getElem hlt⟩
   obtain ⟨b, off, cs, rfl, hok, hrg, hcl, A2, cap2, D, dcap, hcs, hkr, hrd, hdc, hdo⟩ := (HR.out.bel HB.out) k x hx
   have HRW := hid (HR.out.bel HB.out)
   obtain ⟨hgt, hgf⟩ := Pr.shad_next hx HG.out
   have HGT := hid hgt
   have HGF := hid hgf
   have hnx := HSM.out x (List.mem_of_getElem? hx)
   have hny := Pr.simple_nodes x.wh
   obtain rfl : cs = [.string (bstr x.name), .int .i64 x.wh.op, .string (bstr x.wh.text), .int .i64 x.wh.num, .slice A2 x.wh.kids.length cap2, .slice D x.acts.length dcap] := by
    have h := congrArg Array.toList hcs
    simpa using h
   have hcn := hrg 0 _ rfl
   rw [Nat.add_zero] at hcn
   have hrc : w2.rangeAt b (off + k * 6 + 1) [.int .i64 x.wh.op, .string (bstr x.wh.text), .int .i64 x.wh.num, .slice A2 x.wh.kids.length cap2] := fun j v hj => by
    have hj4 : j < 4 := (List.getElem?_eq_some_iff.1 hj).1
    have h := hrg (1 + j) v (by rcases j with _ | _ | _ | _ | j <;> first | exact hj | omega)
    rwa [← Nat.add_assoc] at h
   have HSZ : Hid ((Tryz.prog.info? 36).map (·.size) = some ([.int .i64 x.wh.op, .string (bstr x.wh.text), .int .i64 x.wh.num, .slice A2 x.wh.kids.length cap2] : List Value).length) := hid (by rw [size_cond]; rfl)
   have HCW := hid (CnV.of hkr cap2)
   have hkI : (k : Int) < (l.length : Int) := by omega
   clear hx hcs hrg hkr hrd hdc hdo hgt hgf
   go_wp2_with ((with_reducible refine wpList_load_mid rfl 36 _ rfl b (off + k * 6 + 1) ?_ _ _ hrc Tryz.underlying36 ?_ HSZ.out ?_); rfl; rfl)
   refine (rsimple_any (Pr.nodes x.wh) hnx ok x.wh _ w2 (Nat.le_refl _) HCW.out).mono ?_
   rintro e w4 ⟨⟨Y, rfl, hY⟩, hb4⟩
   have HY4 := hid hY
   have HN4 := hid hb4
   clear hY hb4 HCW
   generalize Pr.simple x.wh = y at *
   obtain ⟨B, bc, rfl, hry⟩ := HY4.out.open
   have hby := (Below.refl w4.heap.size w4).alloc (Nat.le_refl _) (.cells #[.int .i64 y.op, .string (bstr y.text), .int .i64 y.num, .slice B y.kids.length bc] 36)
   have HY5 := hid (HY4.out.bel hby)
   have HKY5 := hid (Blk.new w4 36 #[.int .i64 y.op, .string (bstr y.text), .int .i64 y.num, .slice B y.kids.length bc])
   have HSY : Hid ((Tryz.prog.info? 36).map (·.size) = some (#[.int .i64 y.op, .string (bstr y.text), .int .i64 y.num, .slice B y.kids.length bc] : Array Value).size) := hid (by rw [size_cond]; rfl)
   have HN5 := hid (HN4.out.trans (hby.mono HN4.out.size))
   have HB5 := hid (HB.out.trans (HN5.out.mono hws))
   clear hby hry
   generalize hw5 : w4.alloc (.cells #[.int .i64 y.op, .string (bstr y.text), .int .i64 y.num, .slice B y.kids.length bc] 36) = w5 at *
   go_wp2_with fail
   obtain ⟨g4, hg4⟩ : ∃ g4, w4.heap.size = g4 := ⟨_, rfl⟩
   rw [hg4] at HKY5
   rw [hg4]
   clear hw5 hg4 HY4 HN4
   go_loopw [3, 6] (fun ox jx wq => ∃ j : Nat, j ≤ k ∧ ox = .slice A1 NM.length c1 ∧ jx = .int .i64 (j : Int) ∧ Below w5.heap.size w5 wq ∧ ∀ z ∈ l.take j, Pr.hides y z = false) (fun _ jx _ => k - (RowKit.intOf jx).toNat)
   case atStart => exact ⟨0, Nat.zero_le _, rfl, rfl, Below.refl _ _, fun z hz => by simp at hz⟩
   case round =>
    obtain ⟨j, hj, rfl, rfl, hbq, hall⟩ := hrel
    have HALL := hid hall
    have HBW := hid hbq
    have HNQ := hid (HN5.out.trans (hbq.mono HN5.out.size))
    have HBQ := hid (HB5.out.trans (hbq.mono HB5.out.size))
    have HYQ := hid (HY5.out.bel hbq)
    have HKYQ := hid (HKY5.out.below hbq HKY5.out.lt)
    clear hall hbq
    by_cases hjk : j < k
    ·obtain ⟨z, hz⟩ : ∃ z, l[j]? = some z := ⟨_, List.getElem?_eq_getElem (by omega)⟩
     obtain ⟨b', off', cs', e, hok', hrg3, hcl3, A23, cap23, D3, dcap3, hcs3, hkr3, hrd3, hdc3, hdo3⟩ := (HRW.out.bel HNQ.out) j z hz
     injection e with e
     have e1 : b = b' := by injection e
     have e2 : off = off' := by injection e
     subst e1 e2
     clear e
     have hnz := HSM.out z (List.mem_of_getElem? hz)
     have hnv := Pr.simple_nodes z.wh
     have HHIT : Hid (Pr.hides y z = true → (l.take k).any (Pr.hides y) = true) := hid (fun h => List.any_eq_true.2 ⟨z, List.mem_of_getElem? (by rw [List.getElem?_take, if_pos hjk]; exact hz : (l.take k)[j]? = some z), h⟩)
     have HMISS : Hid (Pr.hides y z = false → ∀ z ∈ l.take (j + 1), Pr.hides y z = false) := hid (fun h => Pr.take_no HALL.out hz h)
     obtain rfl : cs' = [.string (bstr z.name), .int .i64 z.wh.op, .string (bstr z.wh.text), .int .i64 z.wh.num, .slice A23 z.wh.kids.length cap23, .slice D3 z.acts.length dcap3] := by
      have h := congrArg Array.toList hcs3
      simpa using h
     have hcn3 := hrg3 0 _ rfl
     rw [Nat.add_zero] at hcn3
     have hrc3 : wr.rangeAt b (off + j * 6 + 1) [.int .i64 z.wh.op, .string (bstr z.wh.text), .int .i64 z.wh.num, .slice A23 z.wh.kids.length cap23] := fun j v hj => by
      have hj4 : j < 4 := (List.getElem?_eq_some_iff.1 hj).1
      have h := hrg3 (1 + j) v (by rcases j with _ | _ | _ | _ | j <;> first | exact hj | omega)
      rwa [← Nat.add_assoc] at h
     have HSZ3 : Hid ((Tryz.prog.info? 36).map (·.size) = some ([.int .i64 z.wh.op, .string (bstr z.wh.text), .int .i64 z.wh.num, .slice A23 z.wh.kids.length cap23] : List Value).length) := hid (by rw [size_cond]; rfl)
     have HCZ := hid (CnV.of hkr3 cap23)
     have hjI : (j : Int) < (l.length : Int) := by omega
     have hhd : Pr.hides y z = ((Pr.simple z.wh).op == 1 || Pr.same y (Pr.simple z.wh)) := rfl
     clear hz hcs3 hrg3 hkr3 hrd3 hdc3 hdo3 hcn3
     go_wp2_with ((with_reducible refine wpList_load_mid rfl 36 _ rfl b (off + j * 6 + 1) ?_ _ _ hrc3 Tryz.underlying36 ?_ HSZ3.out ?_); rfl; rfl)
     refine (rsimple_any (Pr.nodes z.wh) hnz ok z.wh _ wr (Nat.le_refl _) HCZ.out).mono ?_
     rintro e w7 ⟨⟨V, rfl, hV⟩, hb7⟩
     have HV7 := hid hV
     have HN7 := hid hb7
     clear hV hb7 HCZ hrc3
     generalize Pr.simple z.wh = v at *
     obtain ⟨B3, bc3, rfl, hrv⟩ := HV7.out.open
     have hbv := (Below.refl w7.heap.size w7).alloc (Nat.le_refl _) (.cells #[.int .i64 v.op, .string (bstr v.text), .int .i64 v.num, .slice B3 v.kids.length bc3] 36)
     have HV8 := hid (HV7.out.bel hbv)
     have HKV8 := hid (Blk.new w7 36 #[.int .i64 v.op, .string (bstr v.text), .int .i64 v.num, .slice B3 v.kids.length bc3])
     have hv0 := HKV8.out.cell 0
     simp only [List.getElem?_toArray, List.getElem?_cons_zero] at hv0
     have HSV : Hid ((Tryz.prog.info? 36).map (·.size) = some (#[.int .i64 v.op, .string (bstr v.text), .int .i64 v.num, .slice B3 v.kids.length bc3] : Array Value).size) := hid (by rw [size_cond]; rfl)
     have HN8q := hid (HN7.out.trans (hbv.mono HN7.out.size))
     have HN8w := hid (HBW.out.trans (HN8q.out.mono HBW.out.size))
     have HN8 := hid (HNQ.out.trans (HN8q.out.mono HNQ.out.size))
     have HB8 := hid (HBQ.out.trans (HN8q.out.mono HBQ.out.size))
     have HKY8 := hid (HKYQ.out.below HN8q.out HKYQ.out.lt)
     have HSAM := rsame_any (Pr.nodes y) _ _ y v _ _ (w7.alloc (.cells #[.int .i64 v.op, .string (bstr v.text), .int .i64 v.num, .slice B3 v.kids.length bc3] 36)) (Nat.le_refl _) (by omega) (HYQ.out.bel HN8q.out) HV8.out
     clear hbv hrv
     generalize hw8 : w7.alloc (.cells #[.int .i64 v.op, .string (bstr v.text), .int .i64 v.num, .slice B3 v.kids.length bc3] 36) = w8 at *
     cases ho1 : (v.op == 1) with
     | true =>
      have hcv9 : Pr.hides y z = true := by rw [hhd, ho1]; rfl
      clear hhd HSAM
      have HN9 := HN8
      have HB9 := HB8
      have HOW9 := hid (own_bel HOW.out HN9.out)
      have hcn9 := (HN9.out.cell (block_lt hcn)).trans hcn
      have hbn := (Below.refl w8.heap.size w8).alloc (Nat.le_refl _) (.cells #[.string (bstr x.name)] 9)
      have HOW7 := hid (own_bel HOW9.out hbn)
      have hsz9 : w.heap.size ≤ w8.heap.size := HB9.out.size
      have HB7a := hid (HB9.out.alloc hsz9 (.cells #[.string (bstr x.name)] 9))
      have hs7a : w.heap.size ≤ (w8.alloc (.cells #[.string (bstr x.name)] 9)).heap.size := HB7a.out.size
      have hrdn : Rd (w8.alloc (.cells #[.string (bstr x.name)] 9)) (some ⟨w8.heap.size, 0, none⟩) (1 * 1) [.string (bstr x.name)] := Rd.of_blk (vs := [.string (bstr x.name)]) (Blk.new w8 9 #[.string (bstr x.name)])
      have honen : ∀ u ∈ ([.string (bstr x.name)] : List Value), u.oneCell' = true := by intro u hu; simp at hu; subst hu; rfl
      have hlenN : NM.length + 1 ≤ 100000000000 := by omega
      clear hbn
      go_wp2_with ((refine app_row rowSt rfl _ _ rfl _ (.slice A1 NM.length c1) _ (strL NM) _ w.heap.size rfl HOW7.out _ 1 1 rfl hrdn honen hs7a hlenN ?_); intro v7 w7' ho7 hg7 hb7 hwh7)
      go_roundw
      case rel =>
       refine ⟨k + 1, NM ++ [x.name], hlt, by go_num, HGT.out (HHIT.out hcv9), by rw [List.length_append]; show NM.length + 1 ≤ _; omega, ?_, hb7 _ HB7a.out⟩
       rw [List.length_append, strL_append]
       exact ho7
      case measure => simp [RowKit.intOf]; omega
     | false =>
      rw [ho1, Bool.false_or] at hhd
      cases hsm : Pr.same y v with
      | true =>
       rw [hsm] at HSAM
       have HSX := hid HSAM
       have hcv9 : Pr.hides y z = true := by rw [hhd, hsm]
       clear hhd HSAM hsm
       go_upto_region 11 with (first
        | (refine load_row_u (by rfl) 36 _ rfl g4 rfl 36 _ (0, 0) _ rfl HKY8.out Tryz.underlying36 HSY.out ?_)
        | (refine load_row_u (by rfl) 36 _ rfl w7.heap.size rfl 36 _ (0, 0) _ rfl HKV8.out Tryz.underlying36 HSV.out ?_)
        | (go_at_call 17; refine HSX.out.mono ?_; rintro e w9 ⟨rfl, hb9⟩; have HN9 := hid (HN8.out.trans (hb9.mono HN8.out.size)); have HB9 := hid (HB8.out.trans (hb9.mono HB8.out.size)); clear hb9))
       have HOW9 := hid (own_bel HOW.out HN9.out)
       have hcn9 := (HN9.out.cell (block_lt hcn)).trans hcn
       have hbn := (Below.refl w9.heap.size w9).alloc (Nat.le_refl _) (.cells #[.string (bstr x.name)] 9)
       have HOW7 := hid (own_bel HOW9.out hbn)
       have hsz9 : w.heap.size ≤ w9.heap.size := HB9.out.size
       have HB7a := hid (HB9.out.alloc hsz9 (.cells #[.string (bstr x.name)] 9))
       have hs7a : w.heap.size ≤ (w9.alloc (.cells #[.string (bstr x.name)] 9)).heap.size := HB7a.out.size
       have hrdn : Rd (w9.alloc (.cells #[.string (bstr x.name)] 9)) (some ⟨w9.heap.size, 0, none⟩) (1 * 1) [.string (bstr x.name)] := Rd.of_blk (vs := [.string (bstr x.name)]) (Blk.new w9 9 #[.string (bstr x.name)])
       have honen : ∀ u ∈ ([.string (bstr x.name)] : List Value), u.oneCell' = true := by intro u hu; simp at hu; subst hu; rfl
       have hlenN : NM.length + 1 ≤ 100000000000 := by omega
       clear hbn
       go_wp2_with ((refine app_row rowSt rfl _ _ rfl _ (.slice A1 NM.length c1) _ (strL NM) _ w.heap.size rfl HOW7.out _ 1 1 rfl hrdn honen hs7a hlenN ?_); intro v7 w7' ho7 hg7 hb7 hwh7)
       go_roundw
       case rel =>
        refine ⟨k + 1, NM ++ [x.name], hlt, by go_num, HGT.out (HHIT.out hcv9), by rw [List.length_append]; show NM.length + 1 ≤ _; omega, ?_, hb7 _ HB7a.out⟩
        rw [List.length_append, strL_append]
        exact ho7
       case measure => simp [RowKit.intOf]; omega
      | false =>
       rw [hsm] at HSAM
       have HSX := hid HSAM
       have hcv9 : Pr.hides y z = false := by rw [hhd, hsm]
       clear hhd HSAM hsm
       go_wp2_with (first
        | (refine load_row_u (by rfl) 36 _ rfl g4 rfl 36 _ (0, 0) _ rfl HKY8.out Tryz.underlying36 HSY.out ?_)
        | (refine load_row_u (by rfl) 36 _ rfl w7.heap.size rfl 36 _ (0, 0) _ rfl HKV8.out Tryz.underlying36 HSV.out ?_)
        | (go_at_call 17; refine HSX.out.mono ?_; rintro e w9 ⟨rfl, hb9⟩; have HN9w := hid (HN8w.out.trans (hb9.mono HN8w.out.size)); clear hb9))
       go_roundw
       case rel => exact ⟨j + 1, hjk, rfl, by go_num, HN9w.out, HMISS.out hcv9⟩
       case measure => simp [RowKit.intOf]; omega
    ·obtain rfl : j = k := by omega
     have HGQ := hid (HGF.out (List.any_eq_false.2 (fun z hz => by rw [HALL.out z hz]; decide)))
     have HOWQ := hid (own_bel HOW.out HNQ.out)
     go_wp2_with fail
     go_roundw
     case rel => exact ⟨j + 1, NM, hlt, by go_num, HGQ.out, by omega, HOWQ.out, HBQ.out⟩
     case measure => simp [RowKit.intOf]; omega
  ·obtain rfl : k = l.length := by omega
   have HNE : Hid (NM = Pr.shadow l) := hid (by rw [← HG.out, List.drop_length, Pr.shadG, List.append_nil])
   go_wp2_with fail
   go_ret
   exact ⟨⟨_, rfl, by rw [← HNE.out]; exact HOW.out⟩, HB.out⟩
end Go.Proofs.YtchkiegehejfmaaGreatDoor
/- The text W2. -/
namespace Pr
theorem tkz_some_word (w r : Str) (A : List Tk) (hw : w ≠ []) (h : ∀ c ∈ w, wordc c = true) (hr : Ar.Stop wordc r) (hA : tkz r = some A) : tkz (w ++ r) = some (⟨1, w⟩ :: A) := by
 rw [tkz_word w r hw h hr, hA]; rfl
def moreTk (l : List Str) : List Tk := l.flatMap fun b => [⟨5, []⟩, ⟨1, b⟩]
theorem act_word {s : Str} (h : isAct s = true) : s ≠ [] ∧ (∀ c ∈ s, wordc c = true) ∧ (10 : UInt8) ∉ s := by
 unfold isAct at h
 simp only [Bool.or_eq_true, beq_iff_eq] at h
 obtain (((rfl | rfl) | rfl) | rfl) | h := h
 ·exact ⟨by decide, by decide, by decide⟩
 ·exact ⟨by decide, by decide, by decide⟩
 ·exact ⟨by decide, by decide, by decide⟩
 ·exact ⟨by decide, by decide, by decide⟩
 ·unfold isSound at h
  simp only [Bool.and_eq_true, decide_eq_true_eq] at h
  obtain ⟨⟨t, rfl⟩, h2⟩ := h
  have e : (soundW ++ t).drop 6 = t := List.drop_left' rfl
  rw [e] at h2
  obtain ⟨_, k2, _⟩ := okName_word h2
  refine ⟨by simp [soundW], fun c hc => ?_, fun hc => ?_⟩
  ·rcases List.mem_append.1 hc with hc | hc
   ·exact (show ∀ c ∈ soundW, wordc c = true by decide) c hc
   ·exact k2 c hc
  ·rcases List.mem_append.1 hc with hc | hc
   ·exact absurd hc (by decide)
   ·unfold okName at h2
    simp only [Bool.and_eq_true, List.all_eq_true] at h2
    exact absurd (h2.2 10 hc) (by decide)
theorem acts_tk : ∀ (l : List Str), (∀ a ∈ l, isAct a = true) → tkz (l.flatMap fun b => 44 :: 32 :: b) = some (moreTk l) ∧ Ar.Stop wordc (l.flatMap fun b => 44 :: 32 :: b)
 | [], _ => ⟨rfl, stop_nil⟩
 | a :: l, h => by
  obtain ⟨h1, h2⟩ := acts_tk l (fun b hb => h b (List.mem_cons_of_mem _ hb))
  obtain ⟨k1, k2, _⟩ := act_word (h a (List.mem_cons_self ..))
  rw [List.flatMap_cons]
  refine ⟨?_, stop_cons _ rfl⟩
  rw [List.cons_append, tkz_mark _ _ (by decide), List.cons_append, tkz_blank, tkz_some_word a _ _ k1 k2 h2 h1]
  rfl
theorem moreP_tk : ∀ (l : List Str) (n : Nat) (acc : List Str), l.length < n → moreP n acc (moreTk l) = some (acc ++ l)
 | [], n + 1, acc, _ => by rw [List.append_nil]; rfl
 | a :: l, n + 1, acc, h => by
  rw [List.length_cons] at h
  have ih := moreP_tk l n (acc ++ [a]) (by omega)
  show moreP (n + 1) acc (⟨5, []⟩ :: ⟨1, a⟩ :: moreTk l) = _
  rw [moreP, if_pos rfl]
  show moreP n (acc ++ [a]) (moreTk l) = _
  rw [ih, List.append_assoc]
  rfl
structure Fine (x : Rl) : Prop where
 name : okName true x.name = true
 deep : depth x.wh ≤ 8
 tree : treeE x.wh = 0
 some_ : x.acts ≠ []
 acts : ∀ a ∈ x.acts, isAct a = true
 few : x.acts.length ≤ 5
theorem actsE_all : ∀ (l earlier : List Str), actsE earlier l = 0 → ∀ a ∈ l, isAct a = true
 | [], _, _, a, ha => by cases ha
 | b :: l, earlier, h, a, ha => by
  rw [actsE] at h
  split at h
  ·cases h
  ·rename_i g1
   split at h
   ·cases h
   ·rcases List.mem_cons.1 ha with e | ha
    ·subst e
     exact Bool.not_eq_false _ ▸ g1
    ·exact actsE_all l _ h a ha
theorem rule_fine {earlier : List Rl} {x : Rl} (h : ruleE earlier x = 0) : Fine x := by
 unfold ruleE at h
 split at h
 ·cases h
 ·rename_i g1
  split at h
  ·cases h
  ·split at h
   ·cases h
   ·rename_i g3
    split at h
    ·rename_i g4; exact absurd h g4
    ·rename_i g4
     unfold doE at h
     split at h
     ·cases h
     ·rename_i g5
      split at h
      ·cases h
      ·rename_i g6
       exact ⟨Bool.not_eq_false _ ▸ g1, by omega, Classical.not_not.1 g4, g5, actsE_all _ _ h, by omega⟩
theorem rules_fine : ∀ (l earlier : List Rl), rulesE earlier l = 0 → ∀ x ∈ l, Fine x
 | [], _, _, x, hx => by cases hx
 | y :: l, earlier, h, x, hx => by
  rw [rulesE] at h
  by_cases hy : ruleE earlier y = 0
  ·rw [if_neg (fun e => e hy)] at h
   rcases List.mem_cons.1 hx with e | hx
   ·rw [e]; exact rule_fine hy
   ·exact rules_fine l _ h x hx
  ·rw [if_pos hy] at h; exact absurd h hy
mutual
theorem tkC_len : ∀ (c : Cn), treeE c = 0 → depth c ≤ (tkC c).length
 | .mk o t n ks, h => by
  by_cases h23 : o = 2 ∨ o = 3
  ·have hk : treeEL ks = 0 ∧ 2 ≤ ks.length := by
    rcases tree_shape h with h | h | h | h | h | h | h
    ·omega
    ·exact ⟨h.2.2.2.2, h.2.2.2.1⟩
    all_goals omega
   rw [tkC, if_pos h23, depth]
   match ks, hk with
   | a :: b :: r, ⟨hk, _⟩ =>
    obtain ⟨ha, hk⟩ := treeEL_cons hk
    have h1 := tkC_len a ha
    have h2 := tkK_len' o false (b :: r) hk
    have h3 : (tkK o true (a :: b :: r)).length = (wrapTk (joint o a.op) (tkC a)).length + (tkK o false (b :: r)).length := by rw [tkK]; simp
    have h4 : (tkC a).length ≤ (wrapTk (joint o a.op) (tkC a)).length := by unfold wrapTk; split <;> simp <;> omega
    have h5 : depthL (a :: b :: r) = max (depth a) (depthL (b :: r)) := by rw [depthL]
    have h6 : 1 ≤ (tkK o false (b :: r)).length := by rw [tkK]; simp
    have h7 := depth_pos a
    have h8 : (tkK o false (b :: r)).length = 1 + (wrapTk (joint o b.op) (tkC b) ++ tkK o false r).length := by rw [tkK]; simp; omega
    omega
  ·by_cases h4 : o = 4
   ·rcases tree_shape h with g | g | g | g | g | g | g
    ·omega
    ·omega
    ·obtain ⟨_, _, _, k, rfl, hk⟩ := g
     have h1 := tkC_len k hk
     have h4' : (tkC k).length ≤ (wrapTk (joint 4 k.op) (tkC k)).length := by unfold wrapTk; split <;> simp <;> omega
     rw [tkC, if_neg h23, if_pos h4, depth, depthL, depthL]
     have : tkK 4 true [k] = wrapTk (joint 4 k.op) (tkC k) := by simp [tkK]
     rw [this, List.length_cons]
     omega
    all_goals omega
   ·have hk : ks = [] := by
     rcases tree_shape h with g | g | g | g | g | g | g
     ·exact g.2.2.2
     ·omega
     ·omega
     ·exact g.2.2.2.2
     ·exact g.2.2.1
     ·exact g.2.2.1
     ·exact g.2.2.2.2
    subst hk
    rw [tkC, if_neg h23, if_neg h4, depth, depthL]
    unfold leafTk
    split
    ·simp
    ·split
     ·simp
     ·split
      ·simp
      ·split <;> simp
theorem tkK_len' (o : Int) (first : Bool) : ∀ (ks : List Cn), treeEL ks = 0 → depthL ks ≤ (tkK o first ks).length
 | [], _ => by rw [depthL]; omega
 | c :: r, h => by
  obtain ⟨h1, h2⟩ := treeEL_cons h
  have h3 := tkC_len c h1
  have h4 := tkK_len' o false r h2
  have h5 : (tkC c).length ≤ (wrapTk (joint o c.op) (tkC c)).length := by unfold wrapTk; split <;> simp <;> omega
  rw [depthL, tkK]
  simp only [List.length_append]
  omega
end
def ruleTk (x : Rl) : List Tk := ⟨1, ruleW⟩ :: ⟨1, x.name⟩ :: ⟨1, whenW⟩ :: (tkC x.wh ++ ⟨1, doW⟩ :: (match x.acts with | [] => [] | a :: r => ⟨1, a⟩ :: moreTk r))
theorem tkz_rule {x : Rl} (h : Fine x) : tkz (ruleT x) = some (ruleTk x) := by
 obtain ⟨nm, wh, acts⟩ := x
 obtain ⟨h1, h2, h3, h4, h5, _⟩ := h
 dsimp only at *
 cases acts with
 | nil => exact absurd rfl h4
 | cons a r =>
  obtain ⟨k1, k2, _⟩ := okName_word h1
  obtain ⟨a1, a2, _⟩ := act_word (h5 a (List.mem_cons_self ..))
  obtain ⟨m1, m2⟩ := acts_tk r (fun b hb => h5 b (List.mem_cons_of_mem _ hb))
  have e : ruleT ⟨nm, wh, a :: r⟩ = [114, 117, 108, 101] ++ (32 :: (nm ++ (32 :: ([119, 104, 101, 110] ++ (32 :: (textC wh ++ (32 :: ([100, 111] ++ (32 :: (a ++ r.flatMap fun b => 44 :: 32 :: b)))))))))) := by simp [ruleT, joinT]
  have s1 := tkz_some_word a _ _ a1 a2 m2 m1
  have s2 : tkz ([100, 111] ++ (32 :: (a ++ r.flatMap fun b => 44 :: 32 :: b))) = some (⟨1, doW⟩ :: ⟨1, a⟩ :: moreTk r) := tkz_some_word _ _ _ (by decide) (by decide) (stop_cons _ rfl) (by rw [tkz_blank]; exact s1)
  have s3 : tkz (textC wh ++ (32 :: ([100, 111] ++ (32 :: (a ++ r.flatMap fun b => 44 :: 32 :: b))))) = some (tkC wh ++ (⟨1, doW⟩ :: ⟨1, a⟩ :: moreTk r)) := by
   rw [tkz_C wh _ h3 (stop_cons _ rfl), tkz_blank, s2]; rfl
  rw [e]
  refine tkz_some_word _ _ _ (by decide) (by decide) (stop_cons _ rfl) ?_
  rw [tkz_blank]
  refine tkz_some_word _ _ _ k1 k2 (stop_cons _ rfl) ?_
  rw [tkz_blank]
  refine tkz_some_word _ _ _ (by decide) (by decide) (stop_cons _ rfl) ?_
  rw [tkz_blank]
  exact s3
theorem ruleP_tk {x : Rl} (h : Fine x) : ruleP (ruleTk x) = some x := by
 obtain ⟨nm, wh, acts⟩ := x
 obtain ⟨h1, h2, h3, h4, h5, h6⟩ := h
 dsimp only at *
 cases acts with
 | nil => exact absurd rfl h4
 | cons a r =>
  have hl := tkC_len wh h3
  have hL : (ruleTk ⟨nm, wh, a :: r⟩).length = 3 + ((tkC wh).length + (2 + (moreTk r).length)) := by unfold ruleTk; simp; omega
  have hm : r.length ≤ (moreTk r).length := by
   clear hL h5 h4 h6
   induction r with
   | nil => simp
   | cons b r ih => unfold moreTk at *; rw [List.flatMap_cons, List.length_append, List.length_cons]; simp only [List.length_cons, List.length_nil]; omega
  have hc := cond_any (reads_C wh h3).1 ((ruleTk ⟨nm, wh, a :: r⟩).length + 1) 0 (⟨1, doW⟩ :: ⟨1, a⟩ :: moreTk r) (by omega) (by omega) rfl rfl
  have hmo := moreP_tk r ((ruleTk ⟨nm, wh, a :: r⟩).length + 1) [a] (by omega)
  unfold ruleP
  generalize (ruleTk ⟨nm, wh, a :: r⟩).length + 1 = f at *
  have e1 : needP ruleW (ruleTk ⟨nm, wh, a :: r⟩) = some (⟨1, nm⟩ :: ⟨1, whenW⟩ :: (tkC wh ++ ⟨1, doW⟩ :: ⟨1, a⟩ :: moreTk r)) := rfl
  have e2 : ∀ q : List Tk, takeF 1 (⟨1, nm⟩ :: q) = some (nm, q) := fun q => rfl
  have e3 : ∀ q : List Tk, needP whenW (⟨1, whenW⟩ :: q) = some q := fun q => rfl
  have e4 : ∀ q : List Tk, needP doW (⟨1, doW⟩ :: q) = some q := fun q => rfl
  have e5 : ∀ q : List Tk, takeF 1 (⟨1, a⟩ :: q) = some (a, q) := fun q => rfl
  simp only [e1, e2, e3, hc, e4, e5, hmo]
  rfl
theorem lineP_rule {x : Rl} (h : Fine x) : lineP (ruleT x) = some x := by
 unfold lineP
 rw [show toks ((ruleT x).length + 1) [] (ruleT x) = some (ruleTk x) from tkz_rule h]
 exact ruleP_tk h
theorem name_no10 {m : Bool} {s : Str} (h : okName m s = true) : (10 : UInt8) ∉ s := fun hc => by
 unfold okName at h
 simp only [Bool.and_eq_true, List.all_eq_true] at h
 have := h.2 10 hc
 cases m <;> exact absurd this (by decide)
theorem quote_no10 {t : Str} (h : globE t = 0) : (10 : UInt8) ∉ quoteT t := by
 have h10 : (10 : UInt8) ∉ t := fun hc => by
  unfold globE at h
  split at h
  ·cases h
  ·split at h
   ·cases h
   ·split at h
    ·cases h
    ·rename_i g
     refine g (List.any_eq_true.2 ⟨10, hc, by decide⟩)
 unfold quoteT
 intro hc
 rcases List.mem_cons.1 hc with hc | hc
 ·exact absurd hc (by decide)
 ·rcases List.mem_append.1 hc with hc | hc
  ·obtain ⟨c, h1, h2⟩ := List.mem_flatMap.1 hc
   unfold escC at h2
   split at h2
   ·rcases List.mem_cons.1 h2 with h2 | h2
    ·exact absurd h2 (by decide)
    ·rw [List.mem_singleton] at h2; subst h2; exact h10 h1
   ·rw [List.mem_singleton] at h2; subst h2; exact h10 h1
  ·exact absurd hc (by decide)
theorem leaf_no10 {o : Int} {t : Str} {n : Int} {ks : List Cn} (h : treeE (.mk o t n ks) = 0) (h2 : o ≠ 2) (h3 : o ≠ 3) (h4 : o ≠ 4) : (10 : UInt8) ∉ leafT o t n := by
 rcases tree_shape h with h | h | h | h | h | h | h
 ·obtain ⟨ho, rfl, rfl, rfl⟩ := h
  obtain h | h | h | h | h | h := ho
  all_goals subst h; decide
 ·omega
 ·omega
 ·obtain ⟨rfl, rfl, hn1, hn2, rfl⟩ := h
  obtain h | h | h | h | h | h | h | h | h | h | h | h | h | h : n = 1 ∨ n = 2 ∨ n = 3 ∨ n = 4 ∨ n = 5 ∨ n = 6 ∨ n = 7 ∨ n = 8 ∨ n = 9 ∨ n = 10 ∨ n = 11 ∨ n = 12 ∨ n = 13 ∨ n = 14 := by omega
  all_goals subst h; decide
 ·obtain ⟨ho, rfl, rfl, hg⟩ := h
  have e1 : leafT o t 0 = fieldW o ++ 32 :: quoteT t := by unfold leafT; rw [if_neg (by omega), if_pos (by omega)]
  rw [e1]
  intro hc
  rcases List.mem_append.1 hc with hc | hc
  ·obtain h | h | h := ho
   all_goals subst h; exact absurd hc (by decide)
  ·rcases List.mem_cons.1 hc with hc | hc
   ·exact absurd hc (by decide)
   ·exact quote_no10 hg hc
 ·obtain ⟨rfl, rfl, rfl, hn⟩ := h
  intro hc
  rcases List.mem_append.1 (show (10 : UInt8) ∈ [119, 111, 114, 100, 32] ++ t from hc) with hc | hc
  ·exact absurd hc (by decide)
  ·exact name_no10 hn hc
 ·obtain ⟨ho, rfl, hn1, hn2, rfl⟩ := h
  have e1 : leafT o [] n = fieldW o ++ 32 :: Ar.itoa n := by unfold leafT; rw [if_neg (by omega), if_neg (by omega), if_neg (by omega), if_pos ho]
  rw [e1]
  intro hc
  rcases List.mem_append.1 hc with hc | hc
  ·obtain h | h | h := ho
   all_goals subst h; exact absurd hc (by decide)
  ·rcases List.mem_cons.1 hc with hc | hc
   ·exact absurd hc (by decide)
   ·exact absurd (Ar.itoa_numch n 10 hc) (by decide)
mutual
theorem text_no10 : ∀ (c : Cn), treeE c = 0 → (10 : UInt8) ∉ textC c
 | .mk o t n ks, h => by
  by_cases h23 : o = 2 ∨ o = 3
  ·have hk : treeEL ks = 0 := by
    rcases tree_shape h with h | h | h | h | h | h | h
    ·omega
    ·exact h.2.2.2.2
    all_goals omega
   rw [textC, if_pos h23]
   exact textK_no10 o true ks hk
  ·by_cases h4 : o = 4
   ·have hk : treeEL ks = 0 := by
     rcases tree_shape h with h | h | h | h | h | h | h
     ·omega
     ·exact h.2.2.2.2
     ·obtain ⟨_, _, _, k, rfl, hk⟩ := h
      rw [treeEL, if_neg (fun e => e hk), treeEL]
     all_goals omega
    rw [textC, if_neg h23, if_pos h4]
    intro hc
    rcases List.mem_append.1 hc with hc | hc
    ·exact absurd hc (by decide)
    ·exact textK_no10 4 true ks hk hc
   ·rw [textC, if_neg h23, if_neg h4]
    exact leaf_no10 h (fun e => h23 (.inl e)) (fun e => h23 (.inr e)) h4
theorem textK_no10 (o : Int) (first : Bool) : ∀ (ks : List Cn), treeEL ks = 0 → (10 : UInt8) ∉ textK o first ks
 | [], _ => by rw [textK]; simp
 | c :: r, h => by
  obtain ⟨h1, h2⟩ := treeEL_cons h
  have h3 := text_no10 c h1
  have h4 := textK_no10 o false r h2
  rw [textK]
  have h5 : (10 : UInt8) ∉ sepW o := by
   unfold sepW
   split
   ·decide
   ·split <;> decide
  intro hc
  rcases List.mem_append.1 hc with hc | hc
  ·split at hc
   ·cases hc
   ·rcases List.mem_cons.1 hc with hc | hc
    ·exact absurd hc (by decide)
    ·rcases List.mem_append.1 hc with hc | hc
     ·exact h5 hc
     ·exact absurd hc (by decide)
  ·rcases List.mem_append.1 hc with hc | hc
   ·split at hc
    ·rcases List.mem_cons.1 hc with hc | hc
     ·exact absurd hc (by decide)
     ·rcases List.mem_append.1 hc with hc | hc
      ·exact h3 hc
      ·exact absurd hc (by decide)
    ·exact h3 hc
   ·exact h4 hc
end
theorem rule_no10 {x : Rl} (h : Fine x) : (10 : UInt8) ∉ ruleT x := by
 obtain ⟨nm, wh, acts⟩ := x
 obtain ⟨h1, h2, h3, h4, h5, _⟩ := h
 dsimp only at *
 have hj : ∀ l : List Str, (∀ a ∈ l, isAct a = true) → (10 : UInt8) ∉ l.flatMap fun b => 44 :: 32 :: b := fun l hl hc => by
  obtain ⟨b, hb, hc⟩ := List.mem_flatMap.1 hc
  rcases List.mem_cons.1 hc with hc | hc
  ·exact absurd hc (by decide)
  ·rcases List.mem_cons.1 hc with hc | hc
   ·exact absurd hc (by decide)
   ·exact (act_word (hl b hb)).2.2 hc
 have hja : (10 : UInt8) ∉ joinT acts := by
  cases acts with
  | nil => simp [joinT]
  | cons a r =>
   intro hc
   rcases List.mem_append.1 (show (10 : UInt8) ∈ a ++ r.flatMap fun b => 44 :: 32 :: b from hc) with hc | hc
   ·exact (act_word (h5 a (List.mem_cons_self ..))).2.2 hc
   ·exact hj r (fun b hb => h5 b (List.mem_cons_of_mem _ hb)) hc
 unfold ruleT
 dsimp only
 intro hc
 rcases List.mem_append.1 hc with hc | hc
 ·exact absurd hc (by decide)
 rcases List.mem_append.1 hc with hc | hc
 ·exact name_no10 h1 hc
 rcases List.mem_append.1 hc with hc | hc
 ·exact absurd hc (by decide)
 rcases List.mem_append.1 hc with hc | hc
 ·exact text_no10 wh h3 hc
 rcases List.mem_append.1 hc with hc | hc
 ·exact absurd hc (by decide)
 ·exact hja hc
theorem lines_print : ∀ (l : List Rl), (∀ x ∈ l, Fine x) → Ar.lines (printT l) = l.map ruleT ++ [[]]
 | [], _ => rfl
 | x :: r, h => by
  have ih := lines_print r (fun y hy => h y (List.mem_cons_of_mem _ hy))
  have e : printT (x :: r) = ruleT x ++ 10 :: printT r := by unfold printT; rw [List.flatMap_cons, List.append_assoc]; rfl
  rw [e, Ar.lines_cons _ _ (rule_no10 (h x (List.mem_cons_self ..))), ih]
  rfl
theorem comment_rule (x : Rl) : commentP (ruleT x) = false := rfl
theorem parseL_rules : ∀ (l : List Rl) (i : Nat) (acc : List Rl), (∀ x ∈ l, Fine x) → parseL i acc (l.map ruleT ++ [[]]) = (acc ++ l, 0)
 | [], i, acc, _ => by rw [List.append_nil]; rfl
 | x :: r, i, acc, h => by
  have ih := parseL_rules r (i + 1) (acc ++ [x]) (fun y hy => h y (List.mem_cons_of_mem _ hy))
  rw [List.map_cons, List.cons_append, parseL, comment_rule, if_neg (by decide), lineP_rule (h x (List.mem_cons_self ..))]
  simp only
  rw [ih, List.append_assoc]
  rfl
theorem parse_print {l : List Rl} (h : checkE l = 0) (hs : (printT l).length ≤ 20000) : parseP (printT l) = (l, 0, 0) := by
 have hf : ∀ x ∈ l, Fine x := by
  unfold checkE at h
  split at h
  ·cases h
  ·exact rules_fine l [] h
 unfold parseP
 rw [if_neg (by omega), lines_print l hf, parseL_rules l 0 [] hf]
 rw [if_neg (by simp)]
 rw [List.nil_append, if_neg (fun e => e h)]
end Pr
