/- The text Kv. -/
import Derived.Test.YtipclcaafpckcaaGreatDoorMba
set_option linter.unusedSimpArgs false
set_option maxHeartbeats 16000000
set_option maxRecDepth 100000
set_option linter.unusedVariables false
namespace Rn
theorem tameL_drop {b : Nat} {ks : List Tr} {i : Nat} {c : Tr} (h : ks[i]? = some c) : tameL b (ks.drop i) = (tame b c && tameL b (ks.drop (i + 1))) := by
 obtain ⟨h1, h2⟩ := List.getElem?_eq_some_iff.1 h
 rw [List.drop_eq_getElem_cons h1, h2]
 rfl
theorem feeds_take {s : Str} {k : Nat} {c : UInt8} (h : s[k]? = some c) : feeds (s.take (k + 1)) = feeds (s.take k) + (if c = 10 then 1 else 0) := by
 rw [List.take_add_one, h]
 unfold feeds
 rw [List.filter_append, List.length_append]
 by_cases hc : c = 10
 ·subst hc; rfl
 ·rw [if_neg hc]
  have : (c == 10) = false := by rw [beq_eq_false_iff_ne]; exact hc
  simp [this]
theorem feeds_le (s : Str) : feeds s ≤ s.length := List.length_filter_le _ _
end Rn
namespace Go.Proofs.YtipclcaafpckcaaGreatDoor
open Go.RowKit Go.Lib
set_option linter.unusedVariables false
set_option linter.unusedSimpArgs false
theorem short_any : ∀ (m : Nat) (ok : Nat → Prop) (c : Rn.Tr) (V : Array Value) (w : World), Rn.nodes c ≤ m → m ≤ 1000000 → RnV w ok V c → Calls Tryz.prog 20 #[.agg V] w fun e w' => e = .returned (.bool (Rn.tame 100 c)) ∧ Below w.heap.size w w'
 | 0, ok, c, V, w, hm, _, h => absurd hm (by have := Rn.nodes_pos c; omega)
 | m + 1, ok, c, V, w, hm, hm6, h => by
  have IH := hid (fun c V w (hc : Rn.nodes c ≤ m) (h : RnV w ok V c) => short_any m ok c V w hc (by omega) h)
  have hde := Rn.nodes_eq c
  have hkl := Rn.kids_nodes c.kids
  have hb1 := (Below.refl w.heap.size w).alloc (Nat.le_refl _) (.cells V 25)
  obtain ⟨A, cap, rfl, hrow⟩ := (h.bel hb1).open
  have HB1 := hid hb1
  have HR1 := hid hrow
  have HK1 := hid (Blk.new w 25 #[.string (bstr c.rule), .int .i64 c.id, .int .i64 c.err, .slice A c.kids.length cap])
  have HT := hid (Rn.tame_eq 100 c)
  have HSZ : Hid ((bstr c.rule).size = c.rule.length) := hid (bstr_size _)
  clear hb1 hrow h
  generalize hw1 : w.alloc (.cells #[.string (bstr c.rule), .int .i64 c.id, .int .i64 c.err, .slice A c.kids.length cap] 25) = w1 at *
  have hkm : Rn.nodesL c.kids ≤ m := by omega
  have hlw : w.heap.size < w1.heap.size := HK1.out.lt
  obtain ⟨T, hT⟩ : ∃ T, T = Rn.tame 100 c := ⟨_, rfl⟩
  have HTT := hid hT
  rw [← hT]
  generalize c.kids = ks at *
  generalize bstr c.rule = S at *
  have hkn : ks.length ≤ 1000000 := by omega
  clear hde hT hm
  go_enter Tryz.func20, Tryz.ntmps20
  go_wp2_with fail
  go_loopw [3] (fun ix wr => ∃ k : Nat, k ≤ ks.length ∧ ix = .int .i64 (k : Int) ∧ Hid (Rn.tameL 100 ks = Rn.tameL 100 (ks.drop k)) ∧ Below w1.heap.size w1 wr) (fun ix _ => ks.length - (RowKit.intOf ix).toNat)
  case atStart => exact ⟨0, Nat.zero_le _, rfl, hid rfl, Below.refl _ _⟩
  case round =>
   obtain ⟨k, hk, rfl, HD, hb⟩ := hrel
   have HB := hid hb
   have HBW := hid (HB1.out.trans (hb.mono HB1.out.size))
   have hK := HK1.out.below hb hlw
   have hc0 : wr.cell? ⟨w.heap.size, 0, none⟩ = some (.string S) := hK.cell 0
   have hc3 : wr.cell? ⟨w.heap.size, 3, none⟩ = some (.slice A ks.length cap) := hK.cell 3
   clear hb hK
   by_cases hlt : k < ks.length
   ·obtain ⟨x, hx⟩ : ∃ x, ks[k]? = some x := ⟨_, List.getElem?_eq_getElem hlt⟩
    obtain ⟨b, off, cs, rfl, hok, hr, hcl, hcv⟩ := (HR1.out.below HB.out) k x hx
    have hnk := Rn.nodes_kid hx
    have HTD := hid (Rn.tameL_drop (b := 100) hx)
    have HCALL := hid (IH.out x cs.toArray wr (by omega) hcv)
    have HL2 : Hid ((Tryz.prog.info? 25).map (·.size) = some cs.length) := hid (by rw [size_rea, hcl])
    have hck : k + 1 ≤ ks.length := hlt
    clear hx hcv hnk hok
    cases htx : Rn.tame 100 x with
    | true =>
     rw [htx] at HCALL HTD
     have HD2 : Hid (Rn.tameL 100 ks = Rn.tameL 100 (ks.drop (k + 1))) := hid (by rw [HD.out, HTD.out, Bool.true_and])
     clear htx
     go_wp2_with ((with_reducible refine wpList_load_mid rfl 25 _ rfl b (off + k * 4) ?_ cs _ hr Tryz.underlying25 ?_ HL2.out ?_); rfl; rfl)
     refine HCALL.out.mono ?_
     rintro e w3 ⟨rfl, hb3⟩
     have HB3 := hid (HB.out.trans (hb3.mono HB.out.size))
     clear hb3
     go_wp2_with fail
     go_roundw
     case rel => exact ⟨k + 1, hck, by go_num, HD2, HB3.out⟩
     case measure => simp [RowKit.intOf]; omega
    | false =>
     rw [htx] at HCALL HTD
     have HF : Hid (T = false) := hid (by rw [HTT.out, HT.out, HD.out, HTD.out]; rfl)
     clear htx
     go_wp2_with ((with_reducible refine wpList_load_mid rfl 25 _ rfl b (off + k * 4) ?_ cs _ hr Tryz.underlying25 ?_ HL2.out ?_); rfl; rfl)
     refine HCALL.out.mono ?_
     rintro e w3 ⟨rfl, hb3⟩
     have HB3 := hid (HBW.out.trans (hb3.mono HBW.out.size))
     clear hb3
     go_wp2_with fail
     go_ret
     exact ⟨by rw [HF.out]; rfl, HB3.out⟩
   ·obtain rfl : k = ks.length := by omega
    have HF : Hid (T = decide (S.size ≤ 100)) := hid (by rw [HTT.out, HT.out, HD.out, List.drop_length, HSZ.out]; rfl)
    go_wp2_with fail
    go_ret
    exact ⟨congrArg (fun b => Ending.returned (.bool b)) (by rw [HF.out]; simp <;> omega), HBW.out⟩
theorem small_any (N : Nat) (ok : Nat → Prop) (c : Rn.Tr) (V : Array Value) (w : World) (hN : Rn.nodes c ≤ N) (hN6 : N ≤ 1000000) (h : RnV w ok V c) :
  Calls Tryz.prog 5 #[.agg V] w fun e w' => e = .returned (.bool (decide (Rn.nodes c ≤ 60) && Rn.tame 100 c)) ∧ Below w.heap.size w w' := by
 have hb1 := (Below.refl w.heap.size w).alloc (Nat.le_refl _) (.cells V 25)
 have HH := hid (h.bel hb1)
 have HB1 := hid hb1
 have HK1 := hid (Blk.new w 25 V)
 have HSX : Hid ((Tryz.prog.info? 25).map (·.size) = some V.size) := hid (by obtain ⟨A, cap, rfl, -⟩ := h.open; exact size_rn)
 clear h hb1
 generalize hw1 : w.alloc (.cells V 25) = w1 at *
 have hlw : w.heap.size < w1.heap.size := HK1.out.lt
 have HSI := hid (rsize_any N ok c V w1 hN hN6 HH.out)
 have HNN : Hid (Rn.nodes c ≤ 1000000) := hid (by omega)
 obtain ⟨R, hR⟩ : ∃ R, R = (decide (Rn.nodes c ≤ 60) && Rn.tame 100 c) := ⟨_, rfl⟩
 have HR := hid hR
 rw [← hR]
 clear hR
 go_enter Tryz.func5, Tryz.ntmps5
 go_wp2_with (refine wpList_load_row rfl 25 _ rfl w.heap.size rfl 25 V (0, 0) _ HK1.out Tryz.underlying25 rfl HSX.out ?_)
 refine HSI.out.mono ?_
 rintro e w2 ⟨rfl, hb2⟩
 have HB2 := hid (HB1.out.trans (hb2.mono HB1.out.size))
 have HK2 := hid (HK1.out.below hb2 hlw)
 have HSH := hid (short_any N ok c V w2 hN hN6 (HH.out.bel hb2))
 clear hb2
 by_cases hbig : Rn.nodes c ≤ 60
 ·have HD : Hid (decide (Rn.nodes c ≤ 60) = true) := hid (decide_eq_true hbig)
  have HRT : Hid (R = Rn.tame 100 c) := hid (by rw [HR.out, HD.out, Bool.true_and])
  go_wp2_with (refine wpList_load_row rfl 25 _ rfl w.heap.size rfl 25 V (0, 0) _ HK2.out Tryz.underlying25 rfl HSX.out ?_)
  refine HSH.out.mono ?_
  rintro e w3 ⟨rfl, hb3⟩
  have HB3 := hid (HB2.out.trans (hb3.mono HB2.out.size))
  clear hb3
  go_wp2_with fail
  go_ret
  exact ⟨by rw [HRT.out]; rfl, HB3.out⟩
 ·have HD : Hid (decide (Rn.nodes c ≤ 60) = false) := hid (decide_eq_false hbig)
  have HRT : Hid (R = false) := hid (by rw [HR.out, HD.out, Bool.false_and])
  go_wp2_with fail
  go_ret
  exact ⟨by rw [HRT.out]; rfl, HB2.out⟩
theorem feeds_any (S : ByteArray) (w : World) (hs : S.size ≤ 1000000) : Calls Tryz.prog 18 #[.string S] w fun e w' => e = .returned (.int .i64 (Rn.feeds S.data.toList : Int)) ∧ w = w' := by
 have HAT := hid (at_str S)
 have HSZ := hid (str_size S)
 have HFL := hid (fun k => Rn.feeds_le (S.data.toList.take k))
 go_enter Tryz.func18, Tryz.ntmps18
 go_wp2_with fail
 go_loopw [3, 4] (fun nx ix wr => ∃ k f : Nat, k ≤ S.size ∧ f ≤ k ∧ ix = .int .i64 (k : Int) ∧ nx = .int .i64 (f : Int) ∧ Hid (f = Rn.feeds (S.data.toList.take k)) ∧ w = wr) (fun _ ix _ => S.size - (RowKit.intOf ix).toNat)
 case atStart => exact ⟨0, 0, Nat.zero_le _, Nat.le_refl _, rfl, rfl, hid rfl, rfl⟩
 case round =>
  obtain ⟨k, f, hk, hfk, rfl, rfl, HF, hw⟩ := hrel
  subst hw
  by_cases hlt : k < S.size
  ·have HS := hid (Rn.feeds_take (HAT.out k hlt))
   by_cases hc : S[k] = 10
   ·have g0 : ((S[k].toNat : Int) == 10) = true := by rw [hc]; rfl
    have HF2 : Hid (f + 1 = Rn.feeds (S.data.toList.take (k + 1))) := hid (by rw [HS.out, if_pos hc, HF.out])
    clear hc
    go_wp2_with fail
    go_roundw
    case rel => exact ⟨k + 1, f + 1, hlt, by omega, by go_num, by go_num, HF2, trivial⟩
    case measure => simp [RowKit.intOf]; omega
   ·have g0 : ((S[k].toNat : Int) == 10) = false := by
     rw [beq_eq_false_iff_ne]
     intro h
     exact hc (UInt8.toNat_inj.1 (by show _ = 10; omega))
    have HF2 : Hid (f = Rn.feeds (S.data.toList.take (k + 1))) := hid (by rw [HS.out, if_neg hc, HF.out]; rfl)
    clear hc
    go_wp2_with fail
    go_roundw
    case rel => exact ⟨k + 1, f, hlt, by omega, by go_num, rfl, HF2, trivial⟩
    case measure => simp [RowKit.intOf]; omega
  ·obtain rfl : k = S.size := by omega
   have HE : Hid (f = Rn.feeds S.data.toList) := hid (by rw [HF.out, HSZ.out, List.take_length])
   go_wp2_with fail
   go_ret
   exact ⟨by rw [HE.out]; rfl, rfl⟩
end Go.Proofs.YtipclcaafpckcaaGreatDoor
