/- The texts Fb, Gq, Gr of this proof, one behind the other. -/
import Derived.BigQuiet
import Derived.Deep.QuietTactic
import Derived.Test.YtchkiegehejfmaaGreatDoorMsax
import Derived.Test.YtchkiegehejfmaaGreatDoorMsas
import Derived.Test.YtchkiegehejfmaaGreatDoorMsaz
set_option linter.unusedSimpArgs false
set_option maxHeartbeats 16000000
set_option maxRecDepth 100000
set_option linter.unusedVariables false
namespace Go.Proofs.YtchkiegehejfmaaGreatDoor
open Go.RowKit Go.Lib
theorem C9 {α : Type} {s : List α} {k : Nat} {c : α} (h : s[k]? = some c) : s.take (k + 1) = s.take k ++ [c] := by
 obtain ⟨h1, h2⟩ := List.getElem?_eq_some_iff.1 h;rw [List.take_succ_eq_append_getElem h1, h2]
theorem H7 {ss : List (List UInt8)} {k : Nat} {v : Value} (h : (strL ss)[k]? = some v) : ∃ x, ss[k]? = some x ∧ v = .string (bstr x) := by
 unfold strL at h;rw [List.getElem?_map] at h
 cases hq : ss[k]? with
 | none => rw [hq] at h; cases h
 | some x => rw [hq] at h; injection h with h; exact ⟨x, rfl, h.symm⟩
theorem Hc (ss : List (List UInt8)) : (strL ss).length = ss.length := List.length_map _
theorem Fr {w : World} {A : Option Addr} {n : Nat} {ss : List (List UInt8)} (h : Rd w A n (strL ss)) : ss.length = n := by rw [← h.1, Hc]
theorem Hk {w : World} {A : Option Addr} {n : Nat} {ss : List (List UInt8)} (h : Rd w A n (strL ss)) {k : Nat} (hk : k < n) : ∃ b off x, A = some ⟨b, off, none⟩ ∧ ss[k]? = some x ∧ w.cell? ⟨b, off + k, none⟩ = some (.string (bstr x)) := by
 obtain ⟨b, off, v, e1, e2, e3⟩ := h.at_ hk;obtain ⟨x, e4, e5⟩ := H7 e2;exact ⟨b, off, x, e1, e4, by rw [e3, e5]⟩
theorem Fk (A B : Option Addr) (n m ca cb : Nat) (a b : List (List UInt8)) (w : World) (ha : Rd w A n (strL a)) (hb : Rd w B m (strL b)) (hn : n ≤ 100000) (hm : m ≤ 100000) :
  Calls Tryz.prog 25 #[.slice A n ca, .slice B m cb] w fun e w' => e = .returned (.bool (decide (a = b))) ∧ ∃ q, w' = w.drewN q := by
 have hla := Fr ha;have hlb := Fr hb;by_cases hnm : n = m
 ·subst hnm;have HLA := hid hla;have HLB := hid hlb;have HA := hid ha;have HB := hid hb;clear hla hlb ha hb;have hne : ((n : Int) != (n : Int)) = false := by rw [bne_eq_false_iff_eq]
  go_enter Tryz.func25, Tryz.ntmps25;go_wp2_with fail
  go_loopw [5] (fun i wr => ∃ k q : Nat, k ≤ n ∧ i = .int .i64 k ∧ wr = w.drewN q ∧ Hid (a.take k = b.take k)) (fun i _ => n - (RowKit.intOf i).toNat)
  case atStart => exact ⟨0, 0, by omega, rfl, rfl, hid rfl⟩
  case round =>
   obtain ⟨k, q, hk, rfl, rfl, heq⟩ := hrel;by_cases hlt : k < n
   ·obtain ⟨ba, oa, x, rfl, hx, hcx⟩ := Hk HA.out hlt;obtain ⟨bb, ob, y, rfl, hy, hcy⟩ := Hk HB.out hlt;have HX := hid hx;have HY := hid hy;have hsb := Cp x y;by_cases hxy : x = y
    ·have h1 : (!((bstr x).toList == (bstr y).toList)) = false := by rw [hsb, hxy]; simp
     have HXY := hid hxy;clear hx hy hxy hsb;generalize bstr x = sx at *;generalize bstr y = sy at *;go_wp2_with fail
     go_quiet (fail)
     go_wp2_with fail
     go_roundw
     case rel => exact ⟨k + 1, _, by omega, by go_num, rfl, hid (by rw [C9 HX.out, C9 HY.out, heq.out, HXY.out])⟩
     case measure => simp [RowKit.intOf]; omega
    ·have h1 : (!((bstr x).toList == (bstr y).toList)) = true := by rw [hsb]; simpa using hxy
     have hd : decide (a = b) = false := decide_eq_false (by
      intro e;rw [e, hy] at hx;injection hx with hx
      exact hxy hx.symm)
     have HD := hid hd;clear hx hy hxy hsb hd;generalize bstr x = sx at *;generalize bstr y = sy at *;go_wp2_with fail
     go_quiet (fail)
     go_wp2_with fail;go_ret;exact ⟨En HD.out.symm, _, World.drewN_drewN _ _ _⟩
   ·obtain rfl : k = n := by omega
    have hd : decide (a = b) = true := decide_eq_true (by
     have := heq.out;rw [List.take_of_length_le (by rw [HLA.out]; omega), List.take_of_length_le (by rw [HLB.out]; omega)] at this
     exact this)
    have HD := hid hd;clear hd;go_wp2_with fail;go_ret;exact ⟨En HD.out.symm, q, rfl⟩
 ·have hne : ((n : Int) != (m : Int)) = true := by rw [bne_iff_ne]; omega
  have hd : decide (a = b) = false := decide_eq_false (by intro e; apply hnm; rw [← hla, ← hlb, e]);rw [hd];clear hd hla hlb ha hb;go_enter Tryz.func25, Tryz.ntmps25;go_wp2_with fail;go_ret;exact ⟨rfl, 0, rfl⟩
end Go.Proofs.YtchkiegehejfmaaGreatDoor
namespace Pr
mutual
def cntC : Nat → Cn → Nat
 | lv, .mk _ t _ ks => if 30 < lv ∨ 150 < t.length ∨ 60 < ks.length then 61 else cntK lv 1 ks
def cntK : Nat → Nat → List Cn → Nat
 | _, acc, [] => acc
 | lv, acc, c :: r => if 60 < acc then acc else cntK lv (acc + cntC (lv + 1) c) r
end
theorem cntC_open (lv : Nat) (c : Cn) : cntC lv c = if 30 < lv ∨ 150 < c.text.length ∨ 60 < c.kids.length then 61 else cntK lv 1 c.kids := by cases c; rw [cntC]; rfl
theorem cntK_stop {lv acc : Nat} (h : 60 < acc) (l : List Cn) : cntK lv acc l = acc := by
 cases l with
 | nil => rw [cntK]
 | cons c r => rw [cntK, if_pos h]
theorem cntK_drop {lv acc : Nat} {ks : List Cn} {k : Nat} {c : Cn} (h : ks[k]? = some c) (ha : ¬ 60 < acc) : cntK lv acc (ks.drop k) = cntK lv (acc + cntC (lv + 1) c) (ks.drop (k + 1)) := by
 obtain ⟨h1, h2⟩ := List.getElem?_eq_some_iff.1 h;rw [List.drop_eq_getElem_cons h1, h2, cntK, if_neg ha]
mutual
theorem cntC_le : ∀ (lv : Nat) (c : Cn), cntC lv c ≤ (32 - lv) * 61 + 61
 | lv, .mk o t n ks => by
  rw [cntC];split
  ·omega
  ·rename_i h;have := Fu lv 1 ks (by omega) (by omega);exact this
theorem Fu : ∀ (lv acc : Nat) (l : List Cn), lv ≤ 30 → acc ≤ (32 - lv) * 61 + 61 → cntK lv acc l ≤ (32 - lv) * 61 + 61
 | lv, acc, [], hl, h => by rw [cntK]; exact h
 | lv, acc, c :: r, hl, h => by
  rw [cntK];split
  ·exact h
  ·have h1 := cntC_le (lv + 1) c;exact Fu lv _ r hl (by omega)
end
mutual
theorem Df : ∀ (lv : Nat) (c : Cn), cntC lv c ≤ 60 → cntC lv c = nodes c ∧ small c
 | lv, .mk o t n ks, h => by
  rw [cntC] at h ⊢;split at h
  ·omega
  ·rename_i g;rw [if_neg g];obtain ⟨h1, h2⟩ := Ds lv 1 ks h;refine ⟨by rw [h1, nodes]; omega, ?_⟩;unfold small;exact ⟨by omega, h2⟩
theorem Ds : ∀ (lv acc : Nat) (l : List Cn), cntK lv acc l ≤ 60 → cntK lv acc l = acc + nodesL l ∧ smallL l
 | lv, acc, [], h => by rw [cntK]; unfold nodesL smallL; exact ⟨rfl, trivial⟩
 | lv, acc, c :: r, h => by
  rw [cntK] at h ⊢;split at h
  ·omega
  ·rename_i g;rw [if_neg g];obtain ⟨h1, h2⟩ := Ds lv _ r h;have hc : cntC (lv + 1) c ≤ 60 := by rw [h1] at h; omega
   obtain ⟨h3, h4⟩ := Df (lv + 1) c hc;refine ⟨by rw [h1, h3, nodesL]; omega, ?_⟩;unfold smallL;exact ⟨h4, h2⟩
end
def big (c : Cn) : Bool := decide (60 < cntC 0 c)
theorem big_no {c : Cn} (h : big c = false) : nodes c ≤ 60 ∧ small c := by
 have h2 : cntC 0 c ≤ 60 := by
  unfold big at h;have := of_decide_eq_false h;omega
 obtain ⟨h1, h3⟩ := Df 0 c h2;exact ⟨by omega, h3⟩
structure NotGreat (x : Rl) : Prop where
 nodes : nodes x.wh ≤ 60
 small : small x.wh
 name : x.name.length ≤ 100
 few : x.acts.length ≤ 10
 acts : ∀ a ∈ x.acts, a.length ≤ 100
theorem NotGreat.good {x : Rl} (h : NotGreat x) : x.Good := ⟨by have := h.name; omega, h.small, by have := h.nodes; omega, fun a ha => by have := h.acts a ha; omega⟩
end Pr
namespace Go.Proofs.YtchkiegehejfmaaGreatDoor
open Go.RowKit Go.Lib
theorem Dw : ∀ (m : Nat) (ok : Nat → Prop) (c : Pr.Cn) (V : Array Value) (lv : Nat) (w : World), Pr.nodes c ≤ m → lv ≤ 31 → CnV w ok V c → Calls Tryz.prog 40 #[.agg V, .int .i64 60, .int .i64 (lv : Int)] w fun e w' => e = .returned (.int .i64 (Pr.cntC lv c : Int)) ∧ Below w.heap.size w w'
 | 0, ok, c, V, lv, w, hm, _, h => absurd hm (by have := Pr.nodes_pos c; omega)
 | m + 1, ok, c, V, lv, w, hm, hlv, h => by
  have IH := hid (fun c V lv w (hc : Pr.nodes c ≤ m) (hl : lv ≤ 31) (h : CnV w ok V c) => Dw m ok c V lv w hc hl h);have hne := Pr.nodes_eq c;have hop := Pr.cntC_open lv c;obtain ⟨A, cap, rfl, hrow⟩ := h.open;obtain ⟨o, t, n, ks⟩ := c;change Pr.nodes (.mk o t n ks) = Pr.nodesL ks + 1 at hne;have HR := hid hrow;change Pr.cntC lv (.mk o t n ks) = if 30 < lv ∨ 150 < t.length ∨ 60 < ks.length then 61 else Pr.cntK lv 1 ks at hop
  show Calls Tryz.prog 40 #[.agg #[.int .i64 o, .string (bstr t), .int .i64 n, .slice A ks.length cap], .int .i64 60, .int .i64 (lv : Int)] w _;obtain ⟨Z, hZ⟩ : ∃ Z, Pr.cntC lv (.mk o t n ks) = Z := ⟨_, rfl⟩;rw [hZ] at hop ⊢;have HB1 := hid ((Below.refl w.heap.size w).alloc (Nat.le_refl _) (.cells #[.int .i64 o, .string (bstr t), .int .i64 n, .slice A ks.length cap] 36));have hk1 := Blk.new w 36 #[.int .i64 o, .string (bstr t), .int .i64 n, .slice A ks.length cap];have hx1 : (w.alloc (.cells #[.int .i64 o, .string (bstr t), .int .i64 n, .slice A ks.length cap] 36)).cell? ⟨w.heap.size, 1, none⟩ = some (.string (bstr t)) := hk1.cell 1;have hx3 : (w.alloc (.cells #[.int .i64 o, .string (bstr t), .int .i64 n, .slice A ks.length cap] 36)).cell? ⟨w.heap.size, 3, none⟩ = some (.slice A ks.length cap) := hk1.cell 3;have HR1 := hid (HR.out.below HB1.out);generalize hw1 : w.alloc (.cells #[.int .i64 o, .string (bstr t), .int .i64 n, .slice A ks.length cap] 36) = w1 at *;have htz := Ai t;generalize bstr t = T at *;clear hZ hk1 hrow h;by_cases h30 : 30 < lv
  ·have HE : Hid (Z = 61) := hid (by rw [hop, if_pos (.inl h30)]);have hI : (30 : Int) < (lv : Int) := by omega
   clear hop htz;go_enter Tryz.func40, Tryz.ntmps40;go_wp2_with fail;go_ret;exact ⟨congrArg (fun n : Nat => Ending.returned (.int .i64 (n : Int))) HE.out.symm, HB1.out⟩
  have hI : decide ((30 : Int) < (lv : Int)) = false := decide_eq_false (by omega);by_cases h150 : 150 < t.length
  ·have HE : Hid (Z = 61) := hid (by rw [hop, if_pos (.inr (.inl h150))]);have hI2 : (150 : Int) < (T.size : Int) := by omega
   clear hop htz;go_enter Tryz.func40, Tryz.ntmps40;go_wp2_with fail;go_ret;exact ⟨congrArg (fun n : Nat => Ending.returned (.int .i64 (n : Int))) HE.out.symm, HB1.out⟩
  have hI2 : decide ((150 : Int) < (T.size : Int)) = false := decide_eq_false (by omega);by_cases h60 : 60 < ks.length
  ·have HE : Hid (Z = 61) := hid (by rw [hop, if_pos (.inr (.inr h60))]);have hI3 : (60 : Int) < (ks.length : Int) := by omega
   clear hop htz;go_enter Tryz.func40, Tryz.ntmps40;go_wp2_with fail;go_ret;exact ⟨congrArg (fun n : Nat => Ending.returned (.int .i64 (n : Int))) HE.out.symm, HB1.out⟩
  have hI3 : ¬ (60 : Int) < (ks.length : Int) := by omega
  have HE : Hid (Pr.cntK lv 1 (ks.drop 0) = Z) := hid (by rw [hop, if_neg (by omega), List.drop_zero]);have hwl : IntKind.i64.wrap ((lv : Int) + 1) = ((lv + 1 : Nat) : Int) := by rw [IntWalk.i64_in _ (by omega)]; rfl
  clear hop htz;go_enter Tryz.func40, Tryz.ntmps40;go_wp2_with fail
  go_loopw [7, 8] (fun nx ix wr => ∃ k acc : Nat, k ≤ ks.length ∧ nx = .int .i64 (acc : Int) ∧ ix = .int .i64 (k : Int) ∧ acc ≤ 2013 ∧ Hid (Pr.cntK lv acc (ks.drop k) = Z) ∧ Below w1.heap.size w1 wr) (fun _ ix _ => ks.length - (RowKit.intOf ix).toNat)
  case atStart => exact ⟨0, 1, Nat.zero_le _, rfl, rfl, by decide, HE, Below.refl _ _⟩
  case round =>
   obtain ⟨k, acc, hk, rfl, rfl, hacc, hrel, hb⟩ := hrel;have HB := hid hb;have hy3 := (hb.cell (An hx3)).trans hx3;clear hb;by_cases hlt : k < ks.length
   ·by_cases ha : 60 < acc
    ·have HEN : Hid (Z = acc) := hid (by rw [← hrel.out, Pr.cntK_stop ha]);have haI : ¬ (acc : Int) ≤ 60 := by omega
     go_wp2_with fail;go_ret;exact ⟨congrArg (fun n : Nat => Ending.returned (.int .i64 (n : Int))) HEN.out.symm, HB1.out.trans (HB.out.mono HB1.out.size)⟩
    ·obtain ⟨x, hx⟩ : ∃ x, ks[k]? = some x := ⟨_, List.getElem?_eq_getElem hlt⟩;obtain ⟨b, off, cs, rfl, hok, hr, hcl, hcv⟩ := (HR1.out.below HB.out) k x hx;have HN : Hid (Pr.cntK lv (acc + Pr.cntC (lv + 1) x) (ks.drop (k + 1)) = Z) := hid (by rw [← hrel.out, Pr.cntK_drop hx ha]);have hnk := Pr.nodes_kid hx;have hcle := Pr.cntC_le (lv + 1) x;have HCV := hid hcv;have HL2 : Hid ((Tryz.prog.info? 36).map (·.size) = some cs.length) := hid (by rw [Aa, hcl]);have haI : (acc : Int) ≤ 60 := by omega
     have HIX := hid (IH.out x cs.toArray (lv + 1) wr (by omega) (by omega) hcv);generalize Pr.cntC (lv + 1) x = cx at *;have hcx : cx ≤ 1952 := by
      have : (32 - (lv + 1)) * 61 ≤ 31 * 61 := Nat.mul_le_mul_right 61 (by omega);omega
     have hwa : IntKind.i64.wrap ((acc : Int) + (cx : Int)) = ((acc + cx : Nat) : Int) := by rw [IntWalk.i64_in _ (by omega)]; rfl
     clear hx hcv hcle
     go_wp2_with (first
      | ((with_reducible refine wpList_load_mid rfl 36 _ rfl b (off + k * 4) ?_ cs _ hr Tryz.underlying36 ?_ HL2.out ?_); rfl; rfl)
      | (go_at_call 40; refine HIX.out.mono ?_; rintro e w3 ⟨rfl, hb3⟩; have HB3 := hid (HB.out.trans (hb3.mono HB.out.size)); clear hb3))
     go_roundw
     case rel => exact ⟨k + 1, acc + cx, by omega, by go_num, by go_num, by omega, HN, HB3.out⟩
     case measure => simp [RowKit.intOf]; omega
   ·obtain rfl : k = ks.length := by omega
    have HEN : Hid (Z = acc) := hid (by rw [← hrel.out, List.drop_length]; rw [Pr.cntK]);go_wp2_with fail;go_ret;exact ⟨congrArg (fun n : Nat => Ending.returned (.int .i64 (n : Int))) HEN.out.symm, HB1.out.trans (HB.out.mono HB1.out.size)⟩
theorem EL (ok : Nat → Prop) (c : Pr.Cn) (V : Array Value) (w : World) (h : CnV w ok V c) : Calls Tryz.prog 14 #[.agg V] w fun e w' => e = .returned (.bool (Pr.big c)) ∧ Below w.heap.size w w' := by
 have HB1 := hid ((Below.refl w.heap.size w).alloc (Nat.le_refl _) (.cells V 36));have HK := hid (Blk.new w 36 V);have HSX : Hid ((Tryz.prog.info? 36).map (·.size) = some V.size) := hid (by rw [Aa, h.size]);have HC := hid (Dw (Pr.nodes c) ok c V 0 _ (Nat.le_refl _) (by decide) (h.bel HB1.out));have hb : Pr.big c = decide ((60 : Int) < (Pr.cntC 0 c : Int)) := by
  unfold Pr.big;by_cases h : 60 < Pr.cntC 0 c
  ·rw [decide_eq_true h, decide_eq_true (by omega)]
  ·rw [decide_eq_false h, decide_eq_false (by omega)]
 rw [hb];generalize Pr.cntC 0 c = n at *;generalize hw1 : w.alloc (.cells V 36) = w1 at *;clear h hb;go_enter Tryz.func14, Tryz.ntmps14
 go_wp2_with (first
  | (refine Ac (by rfl) 36 _ rfl w.heap.size rfl 36 _ (0, 0) _ rfl HK.out Tryz.underlying36 HSX.out ?_)
  | (go_at_call 40; refine HC.out.mono ?_; rintro e w3 ⟨rfl, hb3⟩; have HB3 := hid (HB1.out.trans (hb3.mono HB1.out.size)); clear hb3))
 go_ret;exact ⟨rfl, HB3.out⟩
theorem Ef (ok ok' : Nat → Prop) (x : Pr.Rl) (X Y : Array Value) (w : World) (hx : RlV w ok X x) (hy : RlV w ok' Y x) (hn : Pr.nodes x.wh ≤ 1000000) (hd : x.acts.length ≤ 100000) : Calls Tryz.prog 33 #[.agg X, .agg Y] w fun e w' => e = .returned (.bool true) ∧ Below w.heap.size w w' := by
 have hb1 := (Below.refl w.heap.size w).alloc (Nat.le_refl _) (.cells X 45);have hb2 := (Below.refl (w.alloc (.cells X 45)).heap.size (w.alloc (.cells X 45))).alloc (Nat.le_refl _) (.cells Y 45);have HB2 := hid (hb1.alloc (by rw [World.size_alloc]; exact Nat.le_succ _) (.cells Y 45));obtain ⟨A, cap, D, dcap, hdc, hru⟩ := RuX.new hx;obtain ⟨A', cap', D', dcap', hdc', hru'⟩ := RuX.new (hy.bel hb1);have HX := hid (hru.bel hb2);rw [World.size_alloc] at hru';have HY := hid hru';clear hx hy hb1 hb2 hru hru';generalize hw1 : (w.alloc (.cells X 45)).alloc (.cells Y 45) = w1 at *;have h10 := HX.out.nm;have h20 := HY.out.nm;have hrx := HX.out.wh;have hry := HY.out.wh;have HSZ : Hid ((Tryz.prog.info? 36).map (·.size) = some ([.int .i64 x.wh.op, .string (bstr x.wh.text), .int .i64 x.wh.num, .slice A x.wh.kids.length cap] : List Value).length) := hid (by rw [Aa]; rfl);have HSY : Hid ((Tryz.prog.info? 36).map (·.size) = some ([.int .i64 x.wh.op, .string (bstr x.wh.text), .int .i64 x.wh.num, .slice A' x.wh.kids.length cap'] : List Value).length) := hid (by rw [Aa]; rfl);have HSAME := Bn (Pr.nodes x.wh) ok ok' x.wh x.wh _ _ w1 (Nat.le_refl _) hn HX.out.cn HY.out.cn;rw [Pr.same_self] at HSAME;have HSM := hid HSAME;clear HSAME;have heq : ((bstr x.name).toList == (bstr x.name).toList) = true := beq_self_eq_true _;generalize bstr x.name = NM at *;go_enter Tryz.func33, Tryz.ntmps33
 go_wp2_with (first
  | (refine BG (by rfl) 36 _ rfl w.heap.size 1 rfl _ _ hrx Tryz.underlying36 rfl HSZ.out ?_)
  | (refine BG (by rfl) 36 _ rfl (w.heap.size + 1) 1 rfl _ _ hry Tryz.underlying36 rfl HSY.out ?_)
  | (go_at_call 17; refine HSM.out.mono ?_; rintro e w3 ⟨rfl, hb3⟩; have HB3 := hid (HB2.out.trans (hb3.mono HB2.out.size)); have h15 := (HX.out.bel hb3).dl; have h25 := (HY.out.bel hb3).dl; have HRD := hid (Fk D D' x.acts.length x.acts.length dcap dcap' x.acts x.acts w3 (HX.out.bel hb3).rd (HY.out.bel hb3).rd hd hd); clear hb3)
  | (go_at_call 25; refine HRD.out.mono ?_; rintro e w4 ⟨rfl, q, rfl⟩; have htr : decide (x.acts = x.acts) = true := decide_eq_true rfl))
 go_ret;exact ⟨rfl, below_drewN HB3.out _⟩
theorem DA (ok ok' : Nat → Prop) (l : List Pr.Rl) (A B : Option Addr) (cap cap' : Nat) (w : World) (hx : RlRow w ok A l) (hy : RlRow w ok' B l) (hln : l.length ≤ 1000000) (hn : ∀ x ∈ l, Pr.nodes x.wh ≤ 1000000 ∧ x.acts.length ≤ 100000) : Calls Tryz.prog 10 #[.slice A l.length cap, .slice B l.length cap'] w fun e w' => e = .returned (.bool true) ∧ Below w.heap.size w w' := by
 have HX := hid hx;have HY := hid hy;have HN := hid hn;clear hx hy hn;go_enter Tryz.func10, Tryz.ntmps10;go_wp2_with fail
 go_loopw [5] (fun ix wr => ∃ k : Nat, k ≤ l.length ∧ ix = .int .i64 (k : Int) ∧ Below w.heap.size w wr) (fun ix _ => l.length - (RowKit.intOf ix).toNat)
 case atStart => exact ⟨0, Nat.zero_le _, rfl, Below.refl _ _⟩
 case round =>
  obtain ⟨k, hk, rfl, hb⟩ := hrel;have HB := hid hb;have hws := hb.size;clear hb;by_cases hlt : k < l.length
  ·obtain ⟨x, hx⟩ : ∃ x, l[k]? = some x := ⟨_, List.getElem?_eq_getElem hlt⟩;obtain ⟨b, off, cs, rfl, hok, hr, hcl, hcv⟩ := (HX.out.bel HB.out) k x hx;obtain ⟨b', off', cs', rfl, hok', hr', hcl', hcv'⟩ := (HY.out.bel HB.out) k x hx;have HNX := hid (HN.out x (List.mem_of_getElem? hx));have hone := hcv.one;have hone' := hcv'.one;have HCV := hid hcv;have HCV' := hid hcv';have HL2 : Hid ((Tryz.prog.info? 45).map (·.size) = some cs.length) := hid (by rw [AB, hcl]);have HL3 : Hid ((Tryz.prog.info? 45).map (·.size) = some cs'.length) := hid (by rw [AB, hcl']);have hkI : (k : Int) < (l.length : Int) := by omega
   have HS : Hid (wr.rangeAt b (off + k * 6) cs ∧ wr.rangeAt b' (off' + k * 6) cs') := hid ⟨hr, hr'⟩;have hbl := AL hr (by omega);have hbl' := AL hr' (by omega);clear hx hcv hcv' hr hr';go_wp2_with fail;refine wp_region_noPanic ?_;refine wp_region_held_drew (S := fun W => W.rangeAt b (off + k * 6) cs ∧ W.rangeAt b' (off' + k * 6) cs') (by kernel_rfl) (HS.out) (fun hHeld => ?_);refine wpAnyH_take (i := 0) (oi := _) (v := ?_) rfl (by kernel_rfl) (by kernel_rfl) (by kernel_rfl) (fun _ _ _ h => h) (Or.inl ⟨by kernel_rfl, ?_⟩) hHeld ?_;rotate_left
   ·intro wq hSw;go_simp
    (try with_reducible rfl)
   (try simp only [Act.put, pk1, pk2, pk3, pk4, pk5, pk6])
   refine wpAnyH_take (i := 1) (oi := _) (v := ?_) rfl (by kernel_rfl) (by kernel_rfl) (by kernel_rfl) (fun _ _ _ h => h) (Or.inl ⟨by kernel_rfl, ?_⟩) hHeld ?_;rotate_left
   ·intro wq hSw;go_simp
    (try with_reducible rfl)
   (try simp only [Act.put, pk1, pk2, pk3, pk4, pk5, pk6])
   refine wpAnyH_take (i := 2) (oi := _) (v := ?_) rfl (by kernel_rfl) (by kernel_rfl) (by kernel_rfl) (fun _ _ _ h => h) (Or.inl ⟨by kernel_rfl, ?_⟩) hHeld ?_;rotate_left
   ·intro wq hSw;go_simp
    (try with_reducible rfl)
   (try simp only [Act.put, pk1, pk2, pk3, pk4, pk5, pk6])
   refine wpAnyH_take (i := 3) (oi := _) (v := _) rfl (by kernel_rfl) (by kernel_rfl) (by kernel_rfl) (fun _ _ _ h => h) (AI rfl Tryz.underlying45 HL2.out (fun W h => h.1) (by kernel_rfl) _ rfl rfl) hHeld ?_
   (try simp only [Act.put, pk1, pk2, pk3, pk4, pk5, pk6])
   refine wpAnyH_take (i := 4) (oi := _) (v := ?_) rfl (by kernel_rfl) (by kernel_rfl) (by kernel_rfl) (fun _ _ _ h => h) (Or.inl ⟨by kernel_rfl, ?_⟩) hHeld ?_;rotate_left
   ·intro wq hSw;go_simp
    (try with_reducible rfl)
   (try simp only [Act.put, pk1, pk2, pk3, pk4, pk5, pk6])
   refine wpAnyH_take (i := 5) (oi := _) (v := ?_) rfl (by kernel_rfl) (by kernel_rfl) (by kernel_rfl) (fun _ _ _ h => h) (Or.inl ⟨by kernel_rfl, ?_⟩) hHeld ?_;rotate_left
   ·intro wq hSw;go_simp
    (try with_reducible rfl)
   (try simp only [Act.put, pk1, pk2, pk3, pk4, pk5, pk6])
   refine wpAnyH_take (i := 6) (oi := _) (v := ?_) rfl (by kernel_rfl) (by kernel_rfl) (by kernel_rfl) (fun _ _ _ h => h) (Or.inl ⟨by kernel_rfl, ?_⟩) hHeld ?_;rotate_left
   ·intro wq hSw;go_simp
    (try with_reducible rfl)
   (try simp only [Act.put, pk1, pk2, pk3, pk4, pk5, pk6])
   refine wpAnyH_take (i := 7) (oi := _) (v := _) rfl (by kernel_rfl) (by kernel_rfl) (by kernel_rfl) (fun _ _ _ h => h) (AI rfl Tryz.underlying45 HL3.out (fun W h => h.2) (by kernel_rfl) _ rfl rfl) hHeld ?_
   (try simp only [Act.put, pk1, pk2, pk3, pk4, pk5, pk6])
   refine wpAnyH_ready (rs := [8]) (by kernel_rfl) (by simp) ?_;refine AllReadyH.cons (o := _) rfl (fun K hK => ?_) AllReadyH.nil;go_simp
   go_at_call 33
   refine (Ef ok ok' x cs.toArray cs'.toArray wr.drew (HCV.out.bel (Below.refl _ _).drew) (HCV'.out.bel (Below.refl _ _).drew) HNX.out.1 HNX.out.2).mono ?_;rintro e w4 ⟨rfl, hb4⟩;have hn4 : Below wr.heap.size wr w4 := (Below.refl wr.heap.size wr).drew.trans hb4;have HB4 := hid (HB.out.trans (hn4.mono hws));refine hK.out _ _ (⟨Aw HS.out.1 (hn4.block _ hbl), Aw HS.out.2 (hn4.block _ hbl')⟩) (fun hHeld2 => ?_);clear hK K hHeld;have hHeld := hHeld2;clear hHeld2
   (try simp only [Act.put, pk1, pk2, pk3, pk4, pk5, pk6])
   refine wpAnyH_take (i := 9) (oi := _) (v := ?_) rfl (by kernel_rfl) (by kernel_rfl) (by kernel_rfl) (fun _ _ _ h => h) (Or.inl ⟨by kernel_rfl, ?_⟩) hHeld ?_;rotate_left
   ·intro wq hSw;go_simp
    (try with_reducible rfl)
   (try simp only [Act.put, pk1, pk2, pk3, pk4, pk5, pk6])
   refine wpAnyH_done (by kernel_rfl) ?_ _;refine NoPanic.normal ?_;go_wp2_with fail
   go_roundw
   case rel => exact ⟨k + 1, hlt, by go_num, HB4.out⟩
   case measure => simp [RowKit.intOf]; omega
  ·obtain rfl : k = l.length := by omega
   go_wp2_with fail;go_ret;exact ⟨rfl, HB.out⟩
end Go.Proofs.YtchkiegehejfmaaGreatDoor
