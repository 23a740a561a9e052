/- The texts Uk, Un of this proof, one behind the other. -/
import Derived.Laws.EntriesVeiled
import Derived.Test.YtchkiegehejfmaaGreatDoorMsao
import Derived.Test.YtchkiegehejfmaaGreatDoorMsag
set_option linter.unusedSimpArgs false
set_option maxHeartbeats 16000000
set_option maxRecDepth 100000
set_option linter.unusedVariables false
namespace Pr
theorem actsE_step (e : List Str) (x : Str) (r : List Str) : actsE e (x :: r) = if isAct x = false then 6 else if e.any (clash x) then 4 else actsE (e ++ [x]) r := by rw [actsE]
end Pr
namespace Go.Proofs.YtchkiegehejfmaaGreatDoor
open Go.RowKit Go.Lib
theorem Ea (l : List (List UInt8)) (A : Option Addr) (cap : Nat) (w : World) (hcap : l.length ≤ cap) (hl : ∀ x ∈ l, x.length ≤ 1000000) (hr : Rd w A l.length (strL l)) : Calls Tryz.prog 95 #[.slice A l.length cap] w fun e w' => e = .returned (.int .i64 (Pr.doE l)) ∧ Below w.heap.size w w' := by
 have HR := hid hr;have HL := hid hl;clear hr hl;by_cases h0 : l = []
 ·subst h0;rw [show Pr.doE [] = 9 from rfl];rw [show ([] : List (List UInt8)).length = 0 from rfl];go_enter Tryz.func95, Tryz.ntmps95;go_wp2_with fail;go_ret;exact ⟨rfl, Below.refl _ _⟩
 have hpos : 0 < l.length := List.length_pos_iff.2 h0;have hq0 : ((l.length : Int) == 0) = false := by rw [beq_eq_false_iff_ne]; omega
 by_cases h5 : 5 < l.length
 ·have hd : Pr.doE l = 7 := by unfold Pr.doE; rw [if_neg h0, if_pos h5]
  have h5i : (5 : Int) < (l.length : Int) := by omega
  rw [hd];clear hd h0;go_enter Tryz.func95, Tryz.ntmps95;go_wp2_with fail;go_ret;exact ⟨rfl, Below.refl _ _⟩
 have hd : Pr.doE l = Pr.actsE [] l := by unfold Pr.doE; rw [if_neg h0, if_neg h5]
 have h5i : ¬ (5 : Int) < (l.length : Int) := by omega
 obtain ⟨Z, hZ⟩ : ∃ Z, Pr.actsE [] l = Z := ⟨_, rfl⟩;rw [hd, hZ];have HZ0 := hid hZ;have hln : ¬ (l.length : Int) = 0 := by omega
 clear hd hZ h0;go_enter Tryz.func95, Tryz.ntmps95;go_wp2_with fail
 go_loopw [14] (fun ix wr => ∃ k : Nat, k ≤ l.length ∧ ix = .int .i64 (k : Int) ∧ Pr.actsE (l.take k) (l.drop k) = Z ∧ Below w.heap.size w wr) (fun ix _ => l.length - (RowKit.intOf ix).toNat)
 case atStart => exact ⟨0, Nat.zero_le _, rfl, HZ0.out, Below.refl _ _⟩
 case round =>
  obtain ⟨k, hk, rfl, he, hb⟩ := hrel;have HE := hid he;have HB := hid hb;have hws := hb.size;clear he hb;by_cases hlt : k < l.length
  ·obtain ⟨b, off, x, rfl, hxk, hcx⟩ := (HR.out.below HB.out).str_at hlt;have HRW := hid (HR.out.below HB.out);have HXK := hid hxk;have hxl := HL.out x (List.mem_of_getElem? hxk)
   have HST : Hid (Pr.actsE (l.take k) (l.drop k) = if Pr.isAct x = false then 6 else if (l.take k).any (Pr.clash x) then 4 else Pr.actsE (l.take k ++ [x]) (l.drop (k + 1))) := hid (by
    obtain ⟨h1, h2⟩ := List.getElem?_eq_some_iff.1 hxk
    rw [List.drop_eq_getElem_cons h1, h2, Pr.actsE_step])
   have HB2 : Hid (Below w.heap.size w (wr.alloc (.cells #[.string (bstr x)] 9))) := hid (HB.out.alloc hws _);have hcell : (wr.alloc (.cells #[.string (bstr x)] 9)).cell? ⟨wr.heap.size, 0, none⟩ = some (.string (bstr x)) := (Blk.new wr 9 #[.string (bstr x)]).cell 0;have hlk : (l.take k).length = k := by rw [List.length_take]; omega
   have hrk : Rd (wr.alloc (.cells #[.string (bstr x)] 9)) (some ⟨b, off, none⟩) (l.take k).length (strL (l.take k)) := by
    refine ⟨by unfold strL; rw [List.length_map], fun j v hj => ?_⟩;have hjv : (strL l)[j]? = some v := by
     unfold strL at hj ⊢;rw [List.getElem?_map] at hj ⊢;rw [List.getElem?_take] at hj;split at hj
     ·exact hj
     ·cases hj
    exact (HRW.out.below ((Below.refl _ _).alloc (Nat.le_refl _) _)).2 j v hjv
   have hcf := Gv x (l.take k) (some ⟨b, off, none⟩) cap wr.heap.size _ hxl (fun y hy => HL.out y (List.mem_of_mem_take hy)) (by omega) hrk hcell;rw [hlk] at hcf;have HCF := hid hcf;have HSN := hid (fun W => Cx (bstr x) W (by rw [Ai]; exact hxl));rw [show (bstr x).data.toList = x from rfl] at HSN;have hnk : k ≤ cap := by omega
   have e1 := AD x Pr.notifyW;have e2 := AD x Pr.highW;have e3 := AD x Pr.muteW;have e4 := AD x Pr.countW;unfold Pr.notifyW at e1;unfold Pr.highW at e2;unfold Pr.muteW at e3;unfold Pr.countW at e4;clear hxk hlk hrk hcf
   have hdis : (Pr.isAct x = true ∧ (((bstr x).toList == [110, 111, 116, 105, 102, 121]) = true ∨ (((bstr x).toList == [110, 111, 116, 105, 102, 121]) = false ∧ ((bstr x).toList == [104, 105, 103, 104, 108, 105, 103, 104, 116]) = true) ∨ (((bstr x).toList == [110, 111, 116, 105, 102, 121]) = false ∧ ((bstr x).toList == [104, 105, 103, 104, 108, 105, 103, 104, 116]) = false ∧ ((bstr x).toList == [109, 117, 116, 101]) = true) ∨ (((bstr x).toList == [110, 111, 116, 105, 102, 121]) = false ∧ ((bstr x).toList == [104, 105, 103, 104, 108, 105, 103, 104, 116]) = false ∧ ((bstr x).toList == [109, 117, 116, 101]) = false ∧ ((bstr x).toList == [99, 111, 117, 110, 116]) = true))) ∨
     (Pr.isAct x = Pr.isSound x ∧ ((bstr x).toList == [110, 111, 116, 105, 102, 121]) = false ∧ ((bstr x).toList == [104, 105, 103, 104, 108, 105, 103, 104, 116]) = false ∧ ((bstr x).toList == [109, 117, 116, 101]) = false ∧ ((bstr x).toList == [99, 111, 117, 110, 116]) = false) := by
    rw [e1, e2, e3, e4];unfold Pr.isAct Pr.notifyW Pr.highW Pr.muteW Pr.countW;cases (x == [110, 111, 116, 105, 102, 121]) <;> cases (x == [104, 105, 103, 104, 108, 105, 103, 104, 116]) <;> cases (x == [109, 117, 116, 101]) <;> cases (x == [99, 111, 117, 110, 116]) <;> simp
   clear e1 e2 e3 e4;generalize hXB : bstr x = XB at *;rcases hdis with ⟨his, d1 | ⟨d1, d2⟩ | ⟨d1, d2, d3⟩ | ⟨d1, d2, d3, d4⟩⟩ | ⟨his, d1, d2, d3, d4⟩
   iterate 4
    ·have HIS := hid his;clear his;have HF2 := hid (HCF.out)
     cases hany : (l.take k).any (Pr.clash x) with
     | true =>
      rw [hany] at HF2;have HZ : Hid (Z = 4) := hid (by rw [← HE.out, HST.out, HIS.out, hany]; rfl);clear hany;go_wp2_with fail;refine HF2.out.mono ?_;rintro e w4 ⟨rfl, rfl⟩;go_wp2_with fail;go_ret;exact ⟨congrArg (fun z => Ending.returned (.int .i64 z)) HZ.out.symm, HB2.out⟩
     | false =>
      rw [hany] at HF2;have HZ : Hid (Pr.actsE (l.take (k + 1)) (l.drop (k + 1)) = Z) := hid (by rw [AS HXK.out, ← HE.out, HST.out, HIS.out, hany]; rfl);clear hany;go_wp2_with fail;refine HF2.out.mono ?_;rintro e w4 ⟨rfl, rfl⟩;go_wp2_with fail
      go_roundw
      case rel => exact ⟨k + 1, by omega, by go_num, HZ.out, HB2.out⟩
      case measure => simp [RowKit.intOf]; omega
   ·cases hs : Pr.isSound x with
    | false =>
     rw [hs] at HSN his;have HZ : Hid (Z = 6) := hid (by rw [← HE.out, HST.out, his]; rfl);clear hs his;go_wp2_with fail;refine (HSN.out _).mono ?_;rintro e w3 ⟨rfl, rfl⟩;go_wp2_with fail;go_ret;exact ⟨congrArg (fun z => Ending.returned (.int .i64 z)) HZ.out.symm, HB2.out⟩
    | true =>
     rw [hs] at HSN his;have HIS := hid his;clear hs his;go_wp2_with fail;refine (HSN.out _).mono ?_;rintro e w3 ⟨rfl, rfl⟩;have HF2 := hid (HCF.out)
     cases hany : (l.take k).any (Pr.clash x) with
     | true =>
      rw [hany] at HF2;have HZ : Hid (Z = 4) := hid (by rw [← HE.out, HST.out, HIS.out, hany]; rfl);clear hany;go_wp2_with fail;refine HF2.out.mono ?_;rintro e w4 ⟨rfl, rfl⟩;go_wp2_with fail;go_ret;exact ⟨congrArg (fun z => Ending.returned (.int .i64 z)) HZ.out.symm, HB2.out⟩
     | false =>
      rw [hany] at HF2;have HZ : Hid (Pr.actsE (l.take (k + 1)) (l.drop (k + 1)) = Z) := hid (by rw [AS HXK.out, ← HE.out, HST.out, HIS.out, hany]; rfl);clear hany;go_wp2_with fail;refine HF2.out.mono ?_;rintro e w4 ⟨rfl, rfl⟩;go_wp2_with fail
      go_roundw
      case rel => exact ⟨k + 1, by omega, by go_num, HZ.out, HB2.out⟩
      case measure => simp [RowKit.intOf]; omega
  ·obtain rfl : k = l.length := by omega
   have HZ : Hid (Z = 0) := hid (by rw [← HE.out, List.drop_length]; rfl);go_wp2_with fail;go_ret;exact ⟨congrArg (fun z => Ending.returned (.int .i64 z)) HZ.out.symm, HB.out⟩
def RlV (w : World) (ok : Nat → Prop) (X : Array Value) (r : Pr.Rl) : Prop := ∃ A cap D dcap, X = #[.string (bstr r.name), .int .i64 r.wh.op, .string (bstr r.wh.text), .int .i64 r.wh.num, .slice A r.wh.kids.length cap, .slice D r.acts.length dcap] ∧ CnRow w ok A r.wh.kids ∧ Rd w D r.acts.length (strL r.acts) ∧ r.acts.length ≤ dcap ∧ (∀ a, D = some a → 0 < r.acts.length → ok a.block)
def RlRow (w : World) (ok : Nat → Prop) (A : Option Addr) (l : List Pr.Rl) : Prop := ∀ i r, l[i]? = some r → ∃ b off X, A = some ⟨b, off, none⟩ ∧ ok b ∧ w.rangeAt b (off + i * 6) X ∧ X.length = 6 ∧ RlV w ok X.toArray r
section
variable {w w' : World} {ok ok' : Nat → Prop} {X : Array Value} {r : Pr.Rl} {A : Option Addr} {l : List Pr.Rl}
theorem CW {D : Option Addr} {n : Nat} {xs : List Value} (h : Rd w D n xs) (hk : ∀ a, D = some a → 0 < n → w'.heap[a.block]? = w.heap[a.block]?) : Rd w' D n xs := ⟨h.1, fun j v hj => by
 obtain ⟨b, off, e, hc⟩ := h.2 j v hj;have hn : 0 < n := by have h1 := (List.getElem?_eq_some_iff.1 hj).1; have h2 := h.1; omega
 exact ⟨b, off, e, (World.cell?_of_block (show w'.heap[b]? = w.heap[b]? from hk ⟨b, off, none⟩ e hn)).trans hc⟩⟩
theorem RlV.keep (h : RlV w ok X r) (hk : ∀ b, ok b → b < w.heap.size → ok' b ∧ w'.heap[b]? = w.heap[b]?) : RlV w' ok' X r := by
 obtain ⟨A, cap, D, dcap, e, h1, h2, h3, h4⟩ := h;have hlt : ∀ a, D = some a → 0 < r.acts.length → a.block < w.heap.size := fun a ha hn => by
  obtain ⟨b, off, e2, hc⟩ := h2.2 0 _ (List.getElem?_eq_getElem (by have := h2.1; omega));rw [ha] at e2;injection e2 with e2;rw [e2];exact An hc
 exact ⟨A, cap, D, dcap, e, h1.keep hk, CW h2 (fun a ha hn => (hk _ (h4 a ha hn) (hlt a ha hn)).2), h3, fun a ha hn => (hk _ (h4 a ha hn) (hlt a ha hn)).1⟩
theorem RlRow.keep (h : RlRow w ok A l) (hk : ∀ b, ok b → b < w.heap.size → ok' b ∧ w'.heap[b]? = w.heap[b]?) : RlRow w' ok' A l := fun i c hi => by
 obtain ⟨b, off, X, h1, h3, h4, h5, h6⟩ := h i c hi;obtain ⟨h7, h8⟩ := hk b h3 (AL h4 (by omega));exact ⟨b, off, X, h1, h7, Aw h4 h8, h5, h6.keep hk⟩
theorem RlV.bel (h : RlV w ok X r) (hb : Below w.heap.size w w') : RlV w' ok X r := h.keep fun b ho hlt => ⟨ho, hb.block b hlt⟩
theorem RlRow.bel (h : RlRow w ok A l) (hb : Below w.heap.size w w') : RlRow w' ok A l := h.keep fun b ho hlt => ⟨ho, hb.block b hlt⟩
theorem RlV.size (h : RlV w ok X r) : X.size = 6 := by obtain ⟨A, cap, D, dcap, rfl, -⟩ := h; rfl
theorem RlV.one (h : RlV w ok X r) : X.all (·.oneCell') = true := by obtain ⟨A, cap, D, dcap, rfl, -⟩ := h; simp [Value.oneCell']
theorem CnV.of (h : CnRow w ok A r.wh.kids) (cap : Nat) : CnV w ok #[.int .i64 r.wh.op, .string (bstr r.wh.text), .int .i64 r.wh.num, .slice A r.wh.kids.length cap] r.wh := by
 obtain ⟨nm, wh, acts⟩ := r;cases wh;exact CnV.make h
theorem RlRow.take (h : RlRow w ok A l) (k : Nat) : RlRow w ok A (l.take k) := fun i r hi => by
 rw [List.getElem?_take] at hi;split at hi
 ·exact h i r hi
 ·cases hi
end
theorem AB : (Tryz.prog.info? 45).map (·.size) = some 6 := by kernel_rfl
abbrev zRl : Array Value := #[.string ⟨#[]⟩, .int .i64 0, .string ⟨#[]⟩, .int .i64 0, .slice none 0 0, .slice none 0 0]
theorem GI (ok : Nat → Prop) (y : Pr.Rl) (Y : Array Value) (x : List UInt8) (g : Nat) (w : World) (hy : RlV w ok Y y) (hc : w.cell? ⟨g, 0, none⟩ = some (.string (bstr x))) :
  Calls Tryz.prog 92 #[.agg Y, .pointer (some ⟨g, 0, none⟩)] w fun e w' => e = .returned (.bool (y.name == x)) ∧ Below w.heap.size w w' := by
 obtain ⟨A, cap, D, dcap, rfl, -⟩ := hy;have hb := (Below.refl w.heap.size w).alloc (Nat.le_refl _) (.cells #[.string (bstr y.name), .int .i64 y.wh.op, .string (bstr y.wh.text), .int .i64 y.wh.num, .slice A y.wh.kids.length cap, .slice D y.acts.length dcap] 45);have HB := hid hb;have h0 := (Blk.new w 45 #[.string (bstr y.name), .int .i64 y.wh.op, .string (bstr y.wh.text), .int .i64 y.wh.num, .slice A y.wh.kids.length cap, .slice D y.acts.length dcap]).cell 0;simp only [List.getElem?_toArray, List.getElem?_cons_zero] at h0;have hcg := (Below.cell hb (An hc)).trans hc;generalize hw1 : w.alloc (.cells #[.string (bstr y.name), .int .i64 y.wh.op, .string (bstr y.wh.text), .int .i64 y.wh.num, .slice A y.wh.kids.length cap, .slice D y.acts.length dcap] 45) = w1 at *;have hst := (show ((bstr y.name).toList == (bstr x).toList) = (y.name == x) by rw [Lib.toList_data, Lib.toList_data]; rfl);rw [← hst];clear hst hb hc;go_enter Tryz.func92, Tryz.ntmps92;go_wp2_with fail;go_ret;exact ⟨rfl, HB.out⟩
theorem F4 (ok : Nat → Prop) (x : List UInt8) (l : List Pr.Rl) (A : Option Addr) (c g : Nat) (w : World) (hn : l.length ≤ 1000000) (hr : RlRow w ok A l) (hc : w.cell? ⟨g, 0, none⟩ = some (.string (bstr x))) :
  Calls Tryz.prog 125 #[.slice A l.length c, .func (.func 92) #[] #[.pointer (some ⟨g, 0, none⟩)]] w fun e w' => (∃ z : Int, e = .returned (.int .i64 z) ∧ decide (0 ≤ z) = l.any (fun y => y.name == x)) ∧ Below w.heap.size w w' := by
 have HR := hid hr;have HC := hid hc;have hgl := An hc;clear hr hc;go_enter Tryz.func125, Tryz.ntmps125;go_wp2_with fail
 go_loopw [8] (fun ix wr => ∃ k : Nat, k ≤ l.length ∧ ix = .int .i64 k ∧ Below w.heap.size w wr ∧ ∀ y ∈ l.take k, (y.name == x) = false) (fun ix _ => l.length - (RowKit.intOf ix).toNat)
 case atStart => exact ⟨0, Nat.zero_le _, rfl, Below.refl _ _, fun c h => by simp at h⟩
 case round =>
  obtain ⟨k, hk, rfl, hb, hall⟩ := hrel;have HALL := hid hall;have HB := hid hb;have hws := hb.size;have HCW := hid ((Below.cell hb (An HC.out)).trans HC.out);clear hall hb;by_cases hlt : k < l.length
  ·obtain ⟨y, hy⟩ : ∃ y, l[k]? = some y := ⟨_, List.getElem?_eq_getElem hlt⟩;obtain ⟨b, off, cs, rfl, hok, hrg, hcl, hcv⟩ := (HR.out.bel HB.out) k y hy;have HXK := hid hy
   have HN0 : Hid ((y.name == x) = false → ∀ z ∈ l.take (k + 1), (z.name == x) = false) := hid (fun hn z hz => by
    rw [AS HXK.out] at hz;rcases List.mem_append.1 hz with hz | hz
    ·exact HALL.out z hz
    ·rw [List.mem_singleton.1 hz]; exact hn)
   have HK := hid (GI ok y cs.toArray x g wr hcv HCW.out);have HT : Hid ((y.name == x) = true → l.any (fun y => y.name == x) = true) := hid (fun h => List.any_eq_true.2 ⟨y, List.mem_of_getElem? HXK.out, h⟩);have HL2 : Hid ((Tryz.prog.info? 45).map (·.size) = some cs.length) := hid (by rw [AB, hcl]);clear hy hcv
   cases hcq : (y.name == x) with
   | true =>
    rw [hcq] at HK;have HTT := hid (HT.out hcq);clear hcq;go_wp2_with ((with_reducible refine wpList_load_mid rfl 45 _ rfl b (off + k * 6) ?_ cs _ hrg Tryz.underlying45 ?_ HL2.out ?_); rfl; rfl);refine HK.out.mono ?_;rintro e w2 ⟨rfl, hb2⟩;have HB2 := hid (HB.out.trans (hb2.mono hws));clear hb2;go_wp2_with fail;go_ret;exact ⟨⟨(k : Int), rfl, by rw [HTT.out]; exact decide_eq_true (by omega)⟩, HB2.out⟩
   | false =>
    rw [hcq] at HK;have HN := hid (HN0.out hcq);clear hcq;go_wp2_with ((with_reducible refine wpList_load_mid rfl 45 _ rfl b (off + k * 6) ?_ cs _ hrg Tryz.underlying45 ?_ HL2.out ?_); rfl; rfl);refine HK.out.mono ?_;rintro e w2 ⟨rfl, hb2⟩;have HB2 := hid (HB.out.trans (hb2.mono hws));clear hb2;go_wp2_with fail
    go_roundw
    case rel => exact ⟨k + 1, by omega, by go_num, HB2.out, HN.out⟩
    case measure => simp [RowKit.intOf]; omega
  ·obtain rfl : k = l.length := by omega
   have HF : Hid (l.any (fun y => y.name == x) = false) := hid (by
    rw [List.any_eq_false];intro z hz;rw [HALL.out z (by rw [List.take_length]; exact hz)]
    decide)
   go_wp2_with fail;go_ret;exact ⟨⟨-1, rfl, by rw [HF.out]; rfl⟩, HB.out⟩
theorem FK (ok : Nat → Prop) (x : List UInt8) (l : List Pr.Rl) (A : Option Addr) (c g : Nat) (w : World) (hn : l.length ≤ 1000000) (hr : RlRow w ok A l) (hc : w.cell? ⟨g, 0, none⟩ = some (.string (bstr x))) :
  Calls Tryz.prog 91 #[.slice A l.length c, .func (.func 92) #[] #[.pointer (some ⟨g, 0, none⟩)]] w fun e w' => e = .returned (.bool (l.any (fun y => y.name == x))) ∧ Below w.heap.size w w' := by
 have HI := hid (F4 ok x l A c g w hn hr hc);clear hr hc;go_enter Tryz.func91, Tryz.ntmps91;go_wp2_with fail;refine HI.out.mono ?_;rintro e w2 ⟨⟨z, rfl, hz⟩, hb⟩;have HB := hid hb;clear hb;go_wp2_with fail;go_ret;exact ⟨rfl, HB.out⟩
end Go.Proofs.YtchkiegehejfmaaGreatDoor
