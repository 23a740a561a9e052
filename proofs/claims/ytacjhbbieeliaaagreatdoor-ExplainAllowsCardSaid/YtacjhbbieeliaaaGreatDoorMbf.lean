/- The texts Kq, Kr, Ks of this proof, one behind the other. -/
import Derived.BigQuiet
import Derived.Test.YtacjhbbieeliaaaGreatDoorMbe
set_option linter.unusedSimpArgs false
set_option maxHeartbeats 16000000
set_option maxRecDepth 100000
set_option linter.unusedVariables false
/- The text Kq. -/
namespace Go.Proofs.YtacjhbbieeliaaaGreatDoor
open Go.RowKit Go.Lib
set_option linter.unusedVariables false
set_option linter.unusedSimpArgs false
theorem take_more {L : List Int} {k : Nat} {z : Int} (h : L[k]? = some z) : L.take (k + 1) = L.take k ++ [z] := by rw [List.take_add_one, h]; rfl
theorem rsame_ints (x y : List Int) (n m : Nat) (A B : Option Addr) (cap capb : Nat) (w : World) (hxn : x.length = n) (hym : y.length = m) (hA : Rd w A n (intL x)) (hB : Rd w B m (intL y)) (hx : n ≤ 1000000) :
  Calls Tryz.prog 31 #[.slice A n cap, .slice B m capb] w fun e w' => e = .returned (.bool (decide (x = y))) ∧ Below w.heap.size w w' := by
 obtain ⟨R, hR⟩ : ∃ R, R = decide (x = y) := ⟨_, rfl⟩
 have HR := hid hR
 have HX := hid hxn
 have HY := hid hym
 have HA := hid hA
 have HBR := hid hB
 rw [← hR]
 clear hR hxn hym hA hB
 by_cases hnm : n = m
 ·subst hnm
  go_enter Tryz.func31, Tryz.ntmps31
  have hbn : ((n : Int) != (n : Int)) = false := by simp
  go_wp2_with fail
  go_loopw [5] (fun ix wr => ∃ k : Nat, k ≤ n ∧ ix = .int .i64 (k : Int) ∧ Hid (x.take k = y.take k) ∧ Below w.heap.size w wr) (fun ix _ => n - (RowKit.intOf ix).toNat)
  case atStart => exact ⟨0, Nat.zero_le _, rfl, hid rfl, Below.refl _ _⟩
  case round =>
   obtain ⟨k, hk, rfl, HT, hb⟩ := hrel
   have HB := hid hb
   clear hb
   by_cases hlt : k < n
   ·obtain ⟨p, hp⟩ : ∃ p, x[k]? = some p := ⟨_, List.getElem?_eq_getElem (by have := HX.out; omega)⟩
    obtain ⟨q, hq⟩ : ∃ q, y[k]? = some q := ⟨_, List.getElem?_eq_getElem (by have := HY.out; omega)⟩
    obtain ⟨ga, oa, rfl, hca⟩ := (HA.out.below HB.out).2 k _ (intL_at hp)
    obtain ⟨gb, ob, rfl, hcb⟩ := (HBR.out.below HB.out).2 k _ (intL_at hq)
    have HP := hid hp
    have HQ := hid hq
    have hck : k + 1 ≤ n := hlt
    clear hp hq
    by_cases hpq : p = q
    ·subst hpq
     have hbn2 : (p != p) = false := by simp
     have HT2 : Hid (x.take (k + 1) = y.take (k + 1)) := hid (by rw [take_more HP.out, take_more HQ.out, HT.out])
     go_wp2_with fail
     go_quiet (fail)
     go_wp2_with fail
     go_roundw
     case rel => exact ⟨k + 1, hck, by go_num, HT2, below_drewN HB.out _⟩
     case measure => simp [RowKit.intOf]; omega
    ·have hbn2 : (p != q) = true := by simp; exact hpq
     have HRF : Hid (R = false) := hid (by rw [HR.out]; exact decide_eq_false (fun h => hpq (by have h1 := HP.out; rw [h, HQ.out] at h1; injection h1 with h1; exact h1.symm)))
     clear hpq
     go_wp2_with fail
     go_quiet (fail)
     go_wp2_with fail
     go_ret
     exact ⟨by rw [HRF.out]; rfl, below_drewN HB.out _⟩
   ·obtain rfl : k = n := by omega
    have HRT : Hid (R = true) := hid (by
     rw [HR.out]
     have := HT.out
     have h1 := HX.out
     rw [← h1, List.take_length, h1, ← HY.out, List.take_length] at this
     rw [this]; simp)
    go_wp2_with fail
    go_ret
    exact ⟨by rw [HRT.out]; rfl, HB.out⟩
 ·have HRF : Hid (R = false) := hid (by rw [HR.out]; exact decide_eq_false (fun h => hnm (by rw [← HX.out, ← HY.out, h])))
  go_enter Tryz.func31, Tryz.ntmps31
  have hbn : ((n : Int) != (m : Int)) = true := by simp; omega
  clear hnm
  go_wp2_with fail
  go_ret
  exact ⟨by rw [HRF.out]; rfl, Below.refl _ _⟩
end Go.Proofs.YtacjhbbieeliaaaGreatDoor
/- The text Kr. -/
namespace Go.Proofs.YtacjhbbieeliaaaGreatDoor
open Go.RowKit Go.Lib
set_option linter.unusedVariables false
set_option linter.unusedSimpArgs false
theorem check_form (ok : Nat → Prop) (lv : Value) (c : Rn.Tr) (V : Array Value) (w : World) (hN : Rn.nodes c ≤ 1000000) (ht : Rn.tame 100 c = true) (h : RnV w ok V c) (hr : ((bstr c.rule).toList == [114, 101, 106, 101, 99, 116, 101, 100]) = false) :
  Calls Tryz.prog 34 #[lv, .agg V] w fun e w' => e = .returned (.int .i64 6) ∧ Below w.heap.size w w' := by
 have HSX : Hid ((Tryz.prog.info? 42).map (·.size) = some V.size) := hid (by obtain ⟨A, cap, rfl, -⟩ := h.open; exact size_rn)
 have HPL := hid (pplain_any 1000000 40 1 ok c V (w.alloc (.cells V 42)) hN (Nat.le_refl _) rfl (Nat.le_refl _) ht (h.bel ((Below.refl w.heap.size w).alloc (Nat.le_refl _) (.cells V 42))))
 have HB := hid ((Below.refl w.heap.size w).alloc (Nat.le_refl _) (.cells V 42))
 have HK := hid (Blk.new w 42 V)
 have hk0 : (w.alloc (.cells V 42)).cell? ⟨w.heap.size, 0, none⟩ = some (.string (bstr c.rule)) := by
  obtain ⟨A, cap, rfl, -⟩ := h.open
  exact HK.out.cell 0
 have hws : w.heap.size < (w.alloc (.cells V 42)).heap.size := HK.out.lt
 have HKC := hid hk0
 clear h ht
 generalize Rn.plain 40 c = P at *
 generalize bstr c.rule = S at *
 generalize hw1 : w.alloc (.cells V 42) = w1 at *
 go_enter Tryz.func34, Tryz.ntmps34
 go_wp2_with (refine wpList_load_row rfl 42 _ rfl w.heap.size rfl 42 V (0, 0) _ HK.out Tryz.underlying42 rfl HSX.out ?_)
 refine HPL.out.mono ?_
 rintro e w2 ⟨rfl, hb2⟩
 have HB2 := hid (HB.out.trans (hb2.mono HB.out.size))
 have hc2 : w2.cell? ⟨w.heap.size, 0, none⟩ = some (.string S) := (Below.cell hb2 hws).trans HKC.out
 clear hb2
 cases P with
 | true =>
  go_wp2_with fail
  go_ret
  exact ⟨rfl, HB2.out⟩
 | false =>
  go_wp2_with fail
  go_ret
  exact ⟨rfl, HB2.out⟩
end Go.Proofs.YtacjhbbieeliaaaGreatDoor
/- The text Ks. -/
namespace Go.Proofs.YtacjhbbieeliaaaGreatDoor
open Go.RowKit Go.Lib
set_option linter.unusedVariables false
set_option linter.unusedSimpArgs false
def lvE1 : Co.Ev := { (default : Co.Ev) with id := 1, kind := 1, sender := [64, 97, 58, 115] }
def lvE2 : Co.Ev := { (default : Co.Ev) with id := 2, auth := [1] }
def lvE3 : Co.Ev := { (default : Co.Ev) with id := 3, auth := [1] }
def lvE4 : Co.Ev := { (default : Co.Ev) with id := 4, auth := [2, 3] }
def lvE9 : Co.Ev := { (default : Co.Ev) with id := 9, kind := 11, sender := [64, 98, 58, 115] }
def lvY : Rn.Tr := .mk [108, 111, 115, 116] 5 26 [.mk [98, 121] 0 0 []]
def lvT : List UInt8 := [108, 111, 115, 116, 32, 48, 48, 48, 48, 48, 48, 48, 48, 48, 48, 48, 48, 48, 48, 48, 53, 32, 115, 116, 97, 116, 101, 10, 32, 32, 98, 121, 32, 48, 48, 48, 48, 48, 48, 48, 48, 48, 48, 48, 48, 48, 48, 48, 48, 32, 111, 107, 10]
theorem lv_allowed : Co.allowedR lvE9 [lvE1] = .mk [97, 108, 108, 111, 119, 101, 100] 9 18 [.mk [99, 114, 101, 97, 116, 105, 111, 110] 1 0 [], .mk [115, 101, 110, 100, 101, 114, 45, 106, 111, 105, 110, 101, 100] 0 18 []] := by kernel_rfl
theorem lv_text : Rn.text lvY = lvT := by kernel_rfl
theorem lv_parse : Rn.parse lvT = .ok lvY := by kernel_rfl
theorem lv_bad : Rn.parse [97, 32, 48, 32, 111, 107, 10] = .bad 1 10 := by kernel_rfl
theorem lv_same : Rn.same lvY lvY = true := by kernel_rfl
theorem lv_tame : Rn.tame 100 lvY = true := by kernel_rfl
theorem lv_nodes : Rn.nodes lvY = 2 := by kernel_rfl
theorem lv_depth : Rn.depth lvY = 2 := by kernel_rfl
theorem lv_path : Co.pathP [lvE1, lvE2, lvE3, lvE4] 4 1 = [4, 2, 1] := by kernel_rfl
theorem lv_name : Rn.nameOf 30 = [100, 111, 119, 110] := by kernel_rfl
theorem lv_rule : ((bstr lvY.rule).toList == [114, 101, 106, 101, 99, 116, 101, 100]) = false := by kernel_rfl
theorem lv_lines : (Rn.lines 0 lvY).length ≤ 1000000 := by rw [show (Rn.lines 0 lvY).length = 53 by kernel_rfl]; decide
theorem ParseA.ok {base : Nat} {r : Rn.Res} {e : Ending} {w' : World} {x : Rn.Tr} (h : ParseA base r e w') (hr : r = .ok x) : ∃ V, e = .returned (.tuple #[.agg V, .int .i64 0, .int .i64 0]) ∧ RnV w' (fun b => base ≤ b) V x := by
 rcases h with ⟨n, k, h, -⟩ | ⟨y, V, h, h1, h2⟩
 ·rw [hr] at h; cases h
 ·rw [hr] at h; injection h with h; subst h; exact ⟨V, h1, h2⟩
theorem ParseA.bad {base : Nat} {r : Rn.Res} {e : Ending} {w' : World} {n : Nat} {k : Int} (h : ParseA base r e w') (hr : r = .bad n k) : e = .returned (.tuple #[.agg zRn, .int .i64 (n : Int), .int .i64 k]) := by
 rcases h with ⟨m, j, h, h1⟩ | ⟨y, V, h, -⟩
 ·rw [hr] at h; injection h with h2 h3; subst h2; subst h3; exact h1
 ·rw [hr] at h; cases h
theorem range_part {w : World} {g : Nat} {t : TypeId} {P X S : List Value} (h : Blk w g t (P ++ X ++ S).toArray) : w.rangeAt g P.length X := fun j v hj => by
 rw [h.cell, List.getElem?_toArray, List.append_assoc, List.getElem?_append_right (by omega), Nat.add_sub_cancel_left, List.getElem?_append_left (List.getElem?_eq_some_iff.1 hj).1]
 exact hj
def lvC1 : List Value := [.int .i64 1, .string ⟨#[]⟩, .string ⟨#[64, 97, 58, 115]⟩, .int .i64 1, .bool false, .string ⟨#[]⟩, .int .i64 0, .int .i64 0, .slice none 0 0, .slice none 0 0, .string ⟨#[]⟩, .int .i64 0, .int .i64 0, .bool false, .string ⟨#[]⟩, .slice none 0 0, .slice none 0 0, .slice none 0 0, .slice none 0 0, .int .i64 0, .int .i64 0, .int .i64 0, .int .i64 0, .int .i64 0, .int .i64 0, .int .i64 0, .int .i64 0, .string ⟨#[]⟩, .int .i64 0]
def lvC9 : List Value := [.int .i64 9, .string ⟨#[]⟩, .string ⟨#[64, 98, 58, 115]⟩, .int .i64 11, .bool false, .string ⟨#[]⟩, .int .i64 0, .int .i64 0, .slice none 0 0, .slice none 0 0, .string ⟨#[]⟩, .int .i64 0, .int .i64 0, .bool false, .string ⟨#[]⟩, .slice none 0 0, .slice none 0 0, .slice none 0 0, .slice none 0 0, .int .i64 0, .int .i64 0, .int .i64 0, .int .i64 0, .int .i64 0, .int .i64 0, .int .i64 0, .int .i64 0, .string ⟨#[]⟩, .int .i64 0]
def lvC2 (g1 : Nat) : List Value := [.int .i64 2, .string ⟨#[]⟩, .string ⟨#[]⟩, .int .i64 0, .bool false, .string ⟨#[]⟩, .int .i64 0, .int .i64 0, .slice none 0 0, .slice (some ⟨g1, 0, none⟩) 1 1, .string ⟨#[]⟩, .int .i64 0, .int .i64 0, .bool false, .string ⟨#[]⟩, .slice none 0 0, .slice none 0 0, .slice none 0 0, .slice none 0 0, .int .i64 0, .int .i64 0, .int .i64 0, .int .i64 0, .int .i64 0, .int .i64 0, .int .i64 0, .int .i64 0, .string ⟨#[]⟩, .int .i64 0]
def lvC3 (g2 : Nat) : List Value := [.int .i64 3, .string ⟨#[]⟩, .string ⟨#[]⟩, .int .i64 0, .bool false, .string ⟨#[]⟩, .int .i64 0, .int .i64 0, .slice none 0 0, .slice (some ⟨g2, 0, none⟩) 1 1, .string ⟨#[]⟩, .int .i64 0, .int .i64 0, .bool false, .string ⟨#[]⟩, .slice none 0 0, .slice none 0 0, .slice none 0 0, .slice none 0 0, .int .i64 0, .int .i64 0, .int .i64 0, .int .i64 0, .int .i64 0, .int .i64 0, .int .i64 0, .int .i64 0, .string ⟨#[]⟩, .int .i64 0]
def lvC4 (g3 : Nat) : List Value := [.int .i64 4, .string ⟨#[]⟩, .string ⟨#[]⟩, .int .i64 0, .bool false, .string ⟨#[]⟩, .int .i64 0, .int .i64 0, .slice none 0 0, .slice (some ⟨g3, 0, none⟩) 2 2, .string ⟨#[]⟩, .int .i64 0, .int .i64 0, .bool false, .string ⟨#[]⟩, .slice none 0 0, .slice none 0 0, .slice none 0 0, .slice none 0 0, .int .i64 0, .int .i64 0, .int .i64 0, .int .i64 0, .int .i64 0, .int .i64 0, .int .i64 0, .int .i64 0, .string ⟨#[]⟩, .int .i64 0]
def lvBig (g1 g2 g3 : Nat) : Array Value := (lvC1 ++ lvC2 g1 ++ lvC3 g2 ++ lvC4 g3).toArray
abbrev lvOk : Nat → Prop := fun _ => True
theorem slc_blk {w : World} {g n : Nat} {L : List Int} (h : Blk w g 3 (intL L).toArray) (hn : L.length = n) : SlcOf lvOk w (.slice (some ⟨g, 0, none⟩) n n) L.length 1 (intL L) :=
 ⟨_, _, by rw [hn], ⟨by unfold intL; rw [List.length_map, Nat.mul_one], fun j v hj => ⟨g, 0, rfl, by rw [Nat.zero_add, h.cell j, List.getElem?_toArray]; exact hj⟩⟩, fun _ _ _ => trivial⟩
theorem lv_v9 (w : World) : EvV lvOk w lvC9 lvE9 := ⟨_, _, _, _, _, _, rfl, ⟨SlcOf.nil .., SlcOf.nil .., SlcOf.nil .., SlcOf.nil .., SlcOf.nil .., SlcOf.nil ..⟩⟩
theorem lv_row {w : World} {g1 g2 g3 g : Nat} (h1 : Blk w g1 3 #[.int .i64 1]) (h2 : Blk w g2 3 #[.int .i64 1]) (h3 : Blk w g3 3 #[.int .i64 2, .int .i64 3]) (h : Blk w g 34 (lvBig g1 g2 g3)) : EvRow lvOk w (some ⟨g, 0, none⟩) [lvE1, lvE2, lvE3, lvE4] := by
 intro i x hi
 rcases i with _ | _ | _ | _ | i
 ·injection hi with hi
  subst hi
  exact ⟨g, 0, lvC1, rfl, trivial, range_part (P := []) (X := lvC1) (S := lvC2 g1 ++ lvC3 g2 ++ lvC4 g3) (t := 34) (by rw [List.nil_append, ← List.append_assoc, ← List.append_assoc]; exact h), ⟨_, _, _, _, _, _, rfl, ⟨SlcOf.nil .., SlcOf.nil .., SlcOf.nil .., SlcOf.nil .., SlcOf.nil .., SlcOf.nil ..⟩⟩⟩
 ·injection hi with hi
  subst hi
  exact ⟨g, 0, lvC2 g1, rfl, trivial, range_part (P := lvC1) (X := lvC2 g1) (S := lvC3 g2 ++ lvC4 g3) (t := 34) (by rw [← List.append_assoc]; exact h), ⟨_, _, _, _, _, _, rfl, ⟨SlcOf.nil .., slc_blk (L := [1]) h1 rfl, SlcOf.nil .., SlcOf.nil .., SlcOf.nil .., SlcOf.nil ..⟩⟩⟩
 ·injection hi with hi
  subst hi
  exact ⟨g, 0, lvC3 g2, rfl, trivial, range_part (P := lvC1 ++ lvC2 g1) (X := lvC3 g2) (S := lvC4 g3) (t := 34) h, ⟨_, _, _, _, _, _, rfl, ⟨SlcOf.nil .., slc_blk (L := [1]) h2 rfl, SlcOf.nil .., SlcOf.nil .., SlcOf.nil .., SlcOf.nil ..⟩⟩⟩
 ·injection hi with hi
  subst hi
  exact ⟨g, 0, lvC4 g3, rfl, trivial, range_part (P := lvC1 ++ lvC2 g1 ++ lvC3 g2) (X := lvC4 g3) (S := []) (t := 34) (by rw [List.append_nil]; exact h), ⟨_, _, _, _, _, _, rfl, ⟨SlcOf.nil .., slc_blk (L := [2, 3]) h3 rfl, SlcOf.nil .., SlcOf.nil .., SlcOf.nil .., SlcOf.nil ..⟩⟩⟩
 ·simp at hi
theorem live_any (m : Int) (w : World) (hm : w.cell? ⟨0, 0, none⟩ = some (.int .i64 m)) : Calls Tryz.prog 10 #[] w fun e w' => e = .returned (.bool true) ∧ Below w.heap.size w w' := by
 have hk1 := Blk.new w 3 #[.int .i64 1]
 have hk2 := Blk.new (w.alloc (.cells #[.int .i64 1] 3)) 3 #[.int .i64 1]
 have hk3 := Blk.new ((w.alloc (.cells #[.int .i64 1] 3)).alloc (.cells #[.int .i64 1] 3)) 3 #[.int .i64 2, .int .i64 3]
 have hk4 := Blk.new (((w.alloc (.cells #[.int .i64 1] 3)).alloc (.cells #[.int .i64 1] 3)).alloc (.cells #[.int .i64 2, .int .i64 3] 3)) 34 #[.int .i64 1, .string ⟨#[]⟩, .string ⟨#[64, 97, 58, 115]⟩, .int .i64 1, .bool false, .string ⟨#[]⟩, .int .i64 0, .int .i64 0, .slice none 0 0, .slice none 0 0, .string ⟨#[]⟩, .int .i64 0, .int .i64 0, .bool false, .string ⟨#[]⟩, .slice none 0 0, .slice none 0 0, .slice none 0 0, .slice none 0 0, .int .i64 0, .int .i64 0, .int .i64 0, .int .i64 0, .int .i64 0, .int .i64 0, .int .i64 0, .int .i64 0, .string ⟨#[]⟩, .int .i64 0, .int .i64 2, .string ⟨#[]⟩, .string ⟨#[]⟩, .int .i64 0, .bool false, .string ⟨#[]⟩, .int .i64 0, .int .i64 0, .slice none 0 0, .slice (some ⟨w.heap.size, 0, none⟩) 1 1, .string ⟨#[]⟩, .int .i64 0, .int .i64 0, .bool false, .string ⟨#[]⟩, .slice none 0 0, .slice none 0 0, .slice none 0 0, .slice none 0 0, .int .i64 0, .int .i64 0, .int .i64 0, .int .i64 0, .int .i64 0, .int .i64 0, .int .i64 0, .int .i64 0, .string ⟨#[]⟩, .int .i64 0, .int .i64 3, .string ⟨#[]⟩, .string ⟨#[]⟩, .int .i64 0, .bool false, .string ⟨#[]⟩, .int .i64 0, .int .i64 0, .slice none 0 0, .slice (some ⟨w.heap.size + 1, 0, none⟩) 1 1, .string ⟨#[]⟩, .int .i64 0, .int .i64 0, .bool false, .string ⟨#[]⟩, .slice none 0 0, .slice none 0 0, .slice none 0 0, .slice none 0 0, .int .i64 0, .int .i64 0, .int .i64 0, .int .i64 0, .int .i64 0, .int .i64 0, .int .i64 0, .int .i64 0, .string ⟨#[]⟩, .int .i64 0, .int .i64 4, .string ⟨#[]⟩, .string ⟨#[]⟩, .int .i64 0, .bool false, .string ⟨#[]⟩, .int .i64 0, .int .i64 0, .slice none 0 0, .slice (some ⟨w.heap.size + 1 + 1, 0, none⟩) 2 2, .string ⟨#[]⟩, .int .i64 0, .int .i64 0, .bool false, .string ⟨#[]⟩, .slice none 0 0, .slice none 0 0, .slice none 0 0, .slice none 0 0, .int .i64 0, .int .i64 0, .int .i64 0, .int .i64 0, .int .i64 0, .int .i64 0, .int .i64 0, .int .i64 0, .string ⟨#[]⟩, .int .i64 0]
 simp only [World.size_alloc] at hk2 hk3 hk4
 have HROW := hid (lv_row (((hk1.alloc _).alloc _).alloc _) ((hk2.alloc _).alloc _) (hk3.alloc _) hk4)
 have HB4 := hid ((((Below.refl w.heap.size w).alloc (Nat.le_refl _) (.cells #[.int .i64 1] 3)).alloc (by simp) (.cells #[.int .i64 1] 3)).alloc (by simp; omega) (.cells #[.int .i64 2, .int .i64 3] 3) |>.alloc (by simp; omega) (.cells #[.int .i64 1, .string ⟨#[]⟩, .string ⟨#[64, 97, 58, 115]⟩, .int .i64 1, .bool false, .string ⟨#[]⟩, .int .i64 0, .int .i64 0, .slice none 0 0, .slice none 0 0, .string ⟨#[]⟩, .int .i64 0, .int .i64 0, .bool false, .string ⟨#[]⟩, .slice none 0 0, .slice none 0 0, .slice none 0 0, .slice none 0 0, .int .i64 0, .int .i64 0, .int .i64 0, .int .i64 0, .int .i64 0, .int .i64 0, .int .i64 0, .int .i64 0, .string ⟨#[]⟩, .int .i64 0, .int .i64 2, .string ⟨#[]⟩, .string ⟨#[]⟩, .int .i64 0, .bool false, .string ⟨#[]⟩, .int .i64 0, .int .i64 0, .slice none 0 0, .slice (some ⟨w.heap.size, 0, none⟩) 1 1, .string ⟨#[]⟩, .int .i64 0, .int .i64 0, .bool false, .string ⟨#[]⟩, .slice none 0 0, .slice none 0 0, .slice none 0 0, .slice none 0 0, .int .i64 0, .int .i64 0, .int .i64 0, .int .i64 0, .int .i64 0, .int .i64 0, .int .i64 0, .int .i64 0, .string ⟨#[]⟩, .int .i64 0, .int .i64 3, .string ⟨#[]⟩, .string ⟨#[]⟩, .int .i64 0, .bool false, .string ⟨#[]⟩, .int .i64 0, .int .i64 0, .slice none 0 0, .slice (some ⟨w.heap.size + 1, 0, none⟩) 1 1, .string ⟨#[]⟩, .int .i64 0, .int .i64 0, .bool false, .string ⟨#[]⟩, .slice none 0 0, .slice none 0 0, .slice none 0 0, .slice none 0 0, .int .i64 0, .int .i64 0, .int .i64 0, .int .i64 0, .int .i64 0, .int .i64 0, .int .i64 0, .int .i64 0, .string ⟨#[]⟩, .int .i64 0, .int .i64 4, .string ⟨#[]⟩, .string ⟨#[]⟩, .int .i64 0, .bool false, .string ⟨#[]⟩, .int .i64 0, .int .i64 0, .slice none 0 0, .slice (some ⟨w.heap.size + 1 + 1, 0, none⟩) 2 2, .string ⟨#[]⟩, .int .i64 0, .int .i64 0, .bool false, .string ⟨#[]⟩, .slice none 0 0, .slice none 0 0, .slice none 0 0, .slice none 0 0, .int .i64 0, .int .i64 0, .int .i64 0, .int .i64 0, .int .i64 0, .int .i64 0, .int .i64 0, .int .i64 0, .string ⟨#[]⟩, .int .i64 0] 34))
 have HM := hid hm
 have HM0 := hid (block_lt hm)
 clear hk1 hk2 hk3 hk4 hm
 go_enter Tryz.func10, Tryz.ntmps10
 go_wp2_with fail
 generalize hw4 : (((w.alloc (.cells #[.int .i64 1] 3)).alloc (.cells #[.int .i64 1] 3)).alloc (.cells #[.int .i64 2, .int .i64 3] 3)).alloc (.cells #[.int .i64 1, .string ⟨#[]⟩, .string ⟨#[64, 97, 58, 115]⟩, .int .i64 1, .bool false, .string ⟨#[]⟩, .int .i64 0, .int .i64 0, .slice none 0 0, .slice none 0 0, .string ⟨#[]⟩, .int .i64 0, .int .i64 0, .bool false, .string ⟨#[]⟩, .slice none 0 0, .slice none 0 0, .slice none 0 0, .slice none 0 0, .int .i64 0, .int .i64 0, .int .i64 0, .int .i64 0, .int .i64 0, .int .i64 0, .int .i64 0, .int .i64 0, .string ⟨#[]⟩, .int .i64 0, .int .i64 2, .string ⟨#[]⟩, .string ⟨#[]⟩, .int .i64 0, .bool false, .string ⟨#[]⟩, .int .i64 0, .int .i64 0, .slice none 0 0, .slice (some ⟨w.heap.size, 0, none⟩) 1 1, .string ⟨#[]⟩, .int .i64 0, .int .i64 0, .bool false, .string ⟨#[]⟩, .slice none 0 0, .slice none 0 0, .slice none 0 0, .slice none 0 0, .int .i64 0, .int .i64 0, .int .i64 0, .int .i64 0, .int .i64 0, .int .i64 0, .int .i64 0, .int .i64 0, .string ⟨#[]⟩, .int .i64 0, .int .i64 3, .string ⟨#[]⟩, .string ⟨#[]⟩, .int .i64 0, .bool false, .string ⟨#[]⟩, .int .i64 0, .int .i64 0, .slice none 0 0, .slice (some ⟨w.heap.size + 1, 0, none⟩) 1 1, .string ⟨#[]⟩, .int .i64 0, .int .i64 0, .bool false, .string ⟨#[]⟩, .slice none 0 0, .slice none 0 0, .slice none 0 0, .slice none 0 0, .int .i64 0, .int .i64 0, .int .i64 0, .int .i64 0, .int .i64 0, .int .i64 0, .int .i64 0, .int .i64 0, .string ⟨#[]⟩, .int .i64 0, .int .i64 4, .string ⟨#[]⟩, .string ⟨#[]⟩, .int .i64 0, .bool false, .string ⟨#[]⟩, .int .i64 0, .int .i64 0, .slice none 0 0, .slice (some ⟨w.heap.size + 1 + 1, 0, none⟩) 2 2, .string ⟨#[]⟩, .int .i64 0, .int .i64 0, .bool false, .string ⟨#[]⟩, .slice none 0 0, .slice none 0 0, .slice none 0 0, .slice none 0 0, .int .i64 0, .int .i64 0, .int .i64 0, .int .i64 0, .int .i64 0, .int .i64 0, .int .i64 0, .int .i64 0, .string ⟨#[]⟩, .int .i64 0] 34) = w4 at *
 refine (pexp_other lvOk lvE9 lvC9 [lvE1] (some ⟨w.heap.size + 1 + 1 + 1, 0, none⟩) 4 w4 (lv_v9 w4) (HROW.out.take 1) (by decide) (by simp; decide) (by decide) (by decide) (by decide) (fun W hW => pallowed_any lvOk lvE9 [lvE1] _ 4 lvC9 W (lv_v9 W) ((HROW.out.take 1).bel hW) (by decide) (by decide) (fun _ h => absurd h (by decide)) (fun _ _ h => absurd h (by decide)))).mono ?_
 rintro e w5 ⟨⟨V, rfl, hV⟩, hb5⟩
 rw [lv_allowed] at hV
 obtain ⟨Ak, capk, rfl, hrk⟩ := hV.open
 simp only [Rn.Tr.rule, Rn.Tr.id, Rn.Tr.err, Rn.Tr.kids] at hrk
 obtain ⟨bk, ok_, X0, rfl, -, hr0, -, hv0⟩ := hrk 0 _ rfl
 obtain ⟨bk1, ok1, X1, he1, -, hr1, -, hv1⟩ := hrk 1 _ rfl
 have eb : bk1 = bk := by injection he1 with e; injection e with e1 e2 e3; exact e1.symm
 have eo : ok1 = ok_ := by injection he1 with e; injection e with e1 e2 e3; exact e2.symm
 subst eb; subst eo
 obtain ⟨A0, cap0, hX0, -⟩ := hv0.open
 obtain ⟨A1, cap1, hX1, -⟩ := hv1.open
 have hx0 : X0 = _ := congrArg Array.toList hX0
 have hx1 : X1 = _ := congrArg Array.toList hX1
 have hd0 : w5.cell? ⟨bk1, ok1, none⟩ = some (.string ⟨#[99, 114, 101, 97, 116, 105, 111, 110]⟩) := by
  have := hr0 0 (.string ⟨#[99, 114, 101, 97, 116, 105, 111, 110]⟩) (by rw [hx0]; rfl)
  simpa using this
 have hd1 : w5.cell? ⟨bk1, ok1 + 1, none⟩ = some (.int .i64 1) := by
  have := hr0 1 (.int .i64 1) (by rw [hx0]; rfl)
  simpa using this
 have hd4 : w5.cell? ⟨bk1, ok1 + 4, none⟩ = some (.string ⟨#[115, 101, 110, 100, 101, 114, 45, 106, 111, 105, 110, 101, 100]⟩) := by
  have := hr1 0 (.string ⟨#[115, 101, 110, 100, 101, 114, 45, 106, 111, 105, 110, 101, 100]⟩) (by rw [hx1]; rfl)
  simpa using this
 have HD0 := hid hd0
 have HD1 := hid hd1
 have HD4 := hid hd4
 have HB5 := hid (HB4.out.trans (hb5.mono HB4.out.size))
 have HR5 := hid (HROW.out.bel hb5)
 have HM5 := hid ((Below.cell HB5.out HM0.out).trans HM.out)
 have hbk := block_lt hd0
 clear hd0 hd1 hd4 hr0 hr1 hv0 hv1 hrk he1 hX0 hX1 hx0 hx1 hV hb5 HB4 HROW
 have hn5 := Blk.new w5 42 zRn
 have hb6 := below_setRow (g := w5.heap.size) ((Below.refl w5.heap.size w5).alloc (Nat.le_refl _) (.cells zRn 42)) (Nat.le_refl _) #[.string (bstr [97, 108, 108, 111, 119, 101, 100]), .int .i64 9, .int .i64 18, .slice (some ⟨bk1, ok1, none⟩) 2 capk]
 have hk6 : Blk ((w5.alloc (.cells zRn 42)).setRow w5.heap.size #[.string (bstr [97, 108, 108, 111, 119, 101, 100]), .int .i64 9, .int .i64 18, .slice (some ⟨bk1, ok1, none⟩) 2 capk]) w5.heap.size 42 #[.string (bstr [97, 108, 108, 111, 119, 101, 100]), .int .i64 9, .int .i64 18, .slice (some ⟨bk1, ok1, none⟩) 2 capk] := setRow_heap _ _ _ _ _ _ hn5
 have HN5 := hid hn5
 generalize hw6 : (w5.alloc (.cells zRn 42)).setRow w5.heap.size #[.string (bstr [97, 108, 108, 111, 119, 101, 100]), .int .i64 9, .int .i64 18, .slice (some ⟨bk1, ok1, none⟩) 2 capk] = w6 at *
 have HK6 := hid hk6
 have HB56 := hid hb6
 have HB6 := hid (HB5.out.trans (hb6.mono HB5.out.size))
 have HS56 := hid hk6.lt
 have hn7 := Blk.new (w6.alloc (.cells #[.string ⟨#[98, 121]⟩, .int .i64 0, .int .i64 0, .slice none 0 0] 42)) 42 zRn
 rw [World.size_alloc] at hn7
 have hb7 := ((Below.refl w6.heap.size w6).alloc (Nat.le_refl _) (.cells #[.string ⟨#[98, 121]⟩, .int .i64 0, .int .i64 0, .slice none 0 0] 42)).alloc (by rw [World.size_alloc]; omega) (.cells zRn 42)
 have hb8 := below_setRow (g := w6.heap.size + 1) hb7 (by omega) #[.string ⟨#[108, 111, 115, 116]⟩, .int .i64 5, .int .i64 26, .slice (some ⟨w6.heap.size, 0, none⟩) 1 1]
 have hk8 : Blk (((w6.alloc (.cells #[.string ⟨#[98, 121]⟩, .int .i64 0, .int .i64 0, .slice none 0 0] 42)).alloc (.cells zRn 42)).setRow (w6.heap.size + 1) #[.string ⟨#[108, 111, 115, 116]⟩, .int .i64 5, .int .i64 26, .slice (some ⟨w6.heap.size, 0, none⟩) 1 1]) (w6.heap.size + 1) 42 #[.string ⟨#[108, 111, 115, 116]⟩, .int .i64 5, .int .i64 26, .slice (some ⟨w6.heap.size, 0, none⟩) 1 1] := setRow_heap _ _ _ _ _ _ hn7
 have hby : Blk (((w6.alloc (.cells #[.string ⟨#[98, 121]⟩, .int .i64 0, .int .i64 0, .slice none 0 0] 42)).alloc (.cells zRn 42)).setRow (w6.heap.size + 1) #[.string ⟨#[108, 111, 115, 116]⟩, .int .i64 5, .int .i64 26, .slice (some ⟨w6.heap.size, 0, none⟩) 1 1]) w6.heap.size 42 #[.string ⟨#[98, 121]⟩, .int .i64 0, .int .i64 0, .slice none 0 0] := (setRow_other _ _ _ _ (by omega)).trans ((Blk.new w6 42 #[.string ⟨#[98, 121]⟩, .int .i64 0, .int .i64 0, .slice none 0 0]).alloc (.cells zRn 42))
 have HN7 := hid hn7
 generalize hw8 : ((w6.alloc (.cells #[.string ⟨#[98, 121]⟩, .int .i64 0, .int .i64 0, .slice none 0 0] 42)).alloc (.cells zRn 42)).setRow (w6.heap.size + 1) #[.string ⟨#[108, 111, 115, 116]⟩, .int .i64 5, .int .i64 26, .slice (some ⟨w6.heap.size, 0, none⟩) 1 1] = w8 at *
 have HK8 := hid hk8
 have HB68 := hid hb8
 have HB8 := hid (HB6.out.trans (hb8.mono HB6.out.size))
 have HY8 : Hid (RnV w8 lvOk #[.string ⟨#[108, 111, 115, 116]⟩, .int .i64 5, .int .i64 26, .slice (some ⟨w6.heap.size, 0, none⟩) 1 1] lvY) := hid (RnV.make (ks := [.mk [98, 121] 0 0 []]) (fun i c hi => by
  rcases i with _ | i
  ·injection hi with hi
   subst hi
   exact ⟨w6.heap.size, 0, (#[.string ⟨#[98, 121]⟩, .int .i64 0, .int .i64 0, .slice none 0 0]).toList, rfl, trivial, range_of_blk hby, rfl, RnV.make (ks := []) (A := none) (cap := 0) (fun i c hi => by cases hi)⟩
  ·simp at hi))
 have HM8 := hid ((Below.cell HB8.out HM0.out).trans HM.out)
 have HP1 := hid (parse_any (bstr lvT) m w8 (by rw [bstr_size]; decide) HM8.out)
 clear hn5 hb6 hk6 hn7 hb7 hb8 hk8 hby
 go_wp2_with (first
  | ((with_reducible refine store_rowe rfl 42 _ _ rfl w5.heap.size #[.string (bstr [97, 108, 108, 111, 119, 101, 100]), .int .i64 9, .int .i64 18, .slice (some ⟨bk1, ok1, none⟩) 2 capk] ?_ ?_ 42 zRn HN5.out size_rn rfl (by simp [Value.oneCell']) ?_); rfl; rfl; rw [hw6])
  | ((with_reducible refine store_rowe rfl 42 _ _ rfl (w6.heap.size + 1) #[.string ⟨#[108, 111, 115, 116]⟩, .int .i64 5, .int .i64 26, .slice (some ⟨w6.heap.size, 0, none⟩) 1 1] ?_ ?_ 42 zRn HN7.out size_rn rfl (by simp [Value.oneCell']) ?_); rfl; rfl; rw [hw8]))
 refine HP1.out.mono ?_
 rintro e w9 ⟨hp, hb9⟩
 obtain ⟨Vw, rfl, hVz⟩ := hp.ok (by rw [bstr_list]; exact lv_parse)
 obtain ⟨Az, capz, rfl, -⟩ := id hVz.open
 have hvz := hVz.size
 have HSZ : Hid ((Tryz.prog.info? 42).map (·.size) = some (#[.string (bstr lvY.rule), .int .i64 lvY.id, .int .i64 lvY.err, .slice Az lvY.kids.length capz] : Array Value).size) := hid (by rw [hvz]; exact size_rn (x := undef) (y := undef) (z := undef) (v := undef))
 have HSE : Hid (zRn.size = (#[.string (bstr lvY.rule), .int .i64 lvY.id, .int .i64 lvY.err, .slice Az lvY.kids.length capz] : Array Value).size) := hid hvz.symm
 have HOZ : Hid ((#[.string (bstr lvY.rule), .int .i64 lvY.id, .int .i64 lvY.err, .slice Az lvY.kids.length capz] : Array Value).all (·.oneCell') = true) := hid hVz.one
 have hn9 := Blk.new w9 42 zRn
 have hb10 := below_setRow (g := w9.heap.size) ((Below.refl w9.heap.size w9).alloc (Nat.le_refl _) (.cells zRn 42)) (Nat.le_refl _) #[.string (bstr lvY.rule), .int .i64 lvY.id, .int .i64 lvY.err, .slice Az lvY.kids.length capz]
 have hk10 : Blk ((w9.alloc (.cells zRn 42)).setRow w9.heap.size #[.string (bstr lvY.rule), .int .i64 lvY.id, .int .i64 lvY.err, .slice Az lvY.kids.length capz]) w9.heap.size 42 #[.string (bstr lvY.rule), .int .i64 lvY.id, .int .i64 lvY.err, .slice Az lvY.kids.length capz] := setRow_heap _ _ _ _ _ _ hn9
 have HN9 := hid hn9
 generalize hw10 : (w9.alloc (.cells zRn 42)).setRow w9.heap.size #[.string (bstr lvY.rule), .int .i64 lvY.id, .int .i64 lvY.err, .slice Az lvY.kids.length capz] = w10 at *
 have HK10 := hid hk10
 have hb810 := hb9.trans (hb10.mono hb9.size)
 have HB810 := hid hb810
 have HB10 := hid (HB8.out.trans (hb810.mono HB8.out.size))
 have HZ10 := hid (hVz.bel hb10)
 have HM10 := hid ((Below.cell HB10.out HM0.out).trans HM.out)
 have HP2 := hid (parse_any (bstr [97, 32, 48, 32, 111, 107, 10]) m w10 (by rw [bstr_size]; decide) HM10.out)
 clear hp hb9 hVz hvz hn9 hb10 hk10 hb810 HP1
 go_wp2_with ((with_reducible refine store_rowe rfl 42 _ _ rfl w9.heap.size #[.string (bstr lvY.rule), .int .i64 lvY.id, .int .i64 lvY.err, .slice Az lvY.kids.length capz] ?_ ?_ 42 zRn HN9.out HSZ.out HSE.out HOZ.out ?_); rfl; rfl; rw [hw10])
 refine HP2.out.mono ?_
 rintro e w11 ⟨hp, hb11⟩
 obtain rfl := hp.bad (by rw [bstr_list]; exact lv_bad)
 have hn11 := Blk.new w11 42 zRn
 have hb12 := below_setRow (g := w11.heap.size) ((Below.refl w11.heap.size w11).alloc (Nat.le_refl _) (.cells zRn 42)) (Nat.le_refl _) zRn
 have HN11 := hid hn11
 generalize hw12 : (w11.alloc (.cells zRn 42)).setRow w11.heap.size zRn = w12 at *
 have hb1012 := hb11.trans (hb12.mono hb11.size)
 have HB812 := hid (HB810.out.trans (hb1012.mono HB810.out.size))
 have HB612 := hid (HB68.out.trans (HB812.out.mono HB68.out.size))
 have HB512 := hid (HB56.out.trans (HB612.out.mono HB56.out.size))
 have HB12 := hid (HB10.out.trans (hb1012.mono HB10.out.size))
 have HZ12 := hid (HZ10.out.bel hb1012)
 have HKZ12 := hid (HK10.out.below hb1012 HK10.out.lt)
 have HY12 := hid (HY8.out.bel HB812.out)
 have HKY12 := hid (HK8.out.below HB812.out HK8.out.lt)
 have HR12 := hid (HR5.out.bel HB512.out)
 have hcx2 : w12.cell? ⟨w5.heap.size, 2, none⟩ = some (.int .i64 18) := (Below.cell HB612.out HS56.out).trans (HK6.out.cell 2)
 have hcx3 : w12.cell? ⟨w5.heap.size, 3, none⟩ = some (.slice (some ⟨bk1, ok1, none⟩) 2 capk) := (Below.cell HB612.out HS56.out).trans (HK6.out.cell 3)
 have hd0 : w12.cell? ⟨bk1, ok1, none⟩ = some (.string ⟨#[99, 114, 101, 97, 116, 105, 111, 110]⟩) := (Below.cell HB512.out hbk).trans HD0.out
 have hd1 : w12.cell? ⟨bk1, ok1 + 1, none⟩ = some (.int .i64 1) := (Below.cell HB512.out hbk).trans HD1.out
 have hd4 : w12.cell? ⟨bk1, ok1 + 4, none⟩ = some (.string ⟨#[115, 101, 110, 100, 101, 114, 45, 106, 111, 105, 110, 101, 100]⟩) := (Below.cell HB512.out hbk).trans HD4.out
 have HT := hid (ptext_any 1000 lvOk lvY #[.string ⟨#[108, 111, 115, 116]⟩, .int .i64 5, .int .i64 26, .slice (some ⟨w6.heap.size, 0, none⟩) 1 1] w12 (by rw [lv_nodes]; decide) (by decide) lv_tame (fun _ => lv_lines) HY12.out)
 clear hp hb11 hn11 hb12 hb1012 HP2 HK6 HD0 HD1 HD4 hbk
 have hy12_0 : w12.cell? ⟨w6.heap.size + 1, 0, none⟩ = some (.string ⟨#[108, 111, 115, 116]⟩) := HKY12.out.cell 0
 have hy12_1 : w12.cell? ⟨w6.heap.size + 1, 1, none⟩ = some (.int .i64 5) := HKY12.out.cell 1
 have hy12_2 : w12.cell? ⟨w6.heap.size + 1, 2, none⟩ = some (.int .i64 26) := HKY12.out.cell 2
 have hy12_3 : w12.cell? ⟨w6.heap.size + 1, 3, none⟩ = some (.slice (some ⟨w6.heap.size, 0, none⟩) 1 1) := HKY12.out.cell 3
 go_wp2_with ((with_reducible refine store_rowe rfl 42 _ _ rfl w11.heap.size zRn ?_ ?_ 42 zRn HN11.out size_rn rfl (by kernel_rfl) ?_); rfl; rfl; rw [hw12])
 refine HT.out.mono ?_
 rintro e w13 ⟨rfl, hb13⟩
 rw [show bstr (Rn.text lvY) = ⟨#[108, 111, 115, 116, 32, 48, 48, 48, 48, 48, 48, 48, 48, 48, 48, 48, 48, 48, 48, 48, 53, 32, 115, 116, 97, 116, 101, 10, 32, 32, 98, 121, 32, 48, 48, 48, 48, 48, 48, 48, 48, 48, 48, 48, 48, 48, 48, 48, 48, 32, 111, 107, 10]⟩ from by rw [lv_text]; rfl]
 have HB13 := hid (HB12.out.trans (hb13.mono HB12.out.size))
 have HZ13 := hid (HZ12.out.bel hb13)
 have HKZ13 := hid (HKZ12.out.below hb13 HKZ12.out.lt)
 have HY13 := hid (HY12.out.bel hb13)
 have HKY13 := hid (HKY12.out.below hb13 HKY12.out.lt)
 have HR13 := hid (HR12.out.bel hb13)
 clear hb13
 have hy13_0 : w13.cell? ⟨w6.heap.size + 1, 0, none⟩ = some (.string ⟨#[108, 111, 115, 116]⟩) := HKY13.out.cell 0
 have hy13_1 : w13.cell? ⟨w6.heap.size + 1, 1, none⟩ = some (.int .i64 5) := HKY13.out.cell 1
 have hy13_2 : w13.cell? ⟨w6.heap.size + 1, 2, none⟩ = some (.int .i64 26) := HKY13.out.cell 2
 have hy13_3 : w13.cell? ⟨w6.heap.size + 1, 3, none⟩ = some (.slice (some ⟨w6.heap.size, 0, none⟩) 1 1) := HKY13.out.cell 3
 have hz13_0 : w13.cell? ⟨w9.heap.size, 0, none⟩ = some (.string ⟨#[108, 111, 115, 116]⟩) := HKZ13.out.cell 0
 have hz13_1 : w13.cell? ⟨w9.heap.size, 1, none⟩ = some (.int .i64 5) := HKZ13.out.cell 1
 have hz13_2 : w13.cell? ⟨w9.heap.size, 2, none⟩ = some (.int .i64 26) := HKZ13.out.cell 2
 have hz13_3 : w13.cell? ⟨w9.heap.size, 3, none⟩ = some (.slice Az 1 capz) := HKZ13.out.cell 3
 clear hcx2 hcx3 hd0 hd1 hd4
 go_wp2_with fail
 refine (psame_any 1000 lvOk _ lvY lvY #[.string ⟨#[108, 111, 115, 116]⟩, .int .i64 5, .int .i64 26, .slice (some ⟨w6.heap.size, 0, none⟩) 1 1] #[.string (bstr lvY.rule), .int .i64 lvY.id, .int .i64 lvY.err, .slice Az lvY.kids.length capz] w13 (by rw [lv_nodes]; decide) (by decide) HY13.out HZ13.out).mono ?_
 rintro e w14 ⟨rfl, hb14⟩
 rw [lv_same]
 have HB14 := hid (HB13.out.trans (hb14.mono HB13.out.size))
 have HZ14 := hid (HZ13.out.bel hb14)
 have HKZ14 := hid (HKZ13.out.below hb14 HKZ13.out.lt)
 have HY14 := hid (HY13.out.bel hb14)
 have HKY14 := hid (HKY13.out.below hb14 HKY13.out.lt)
 have HR14 := hid (HR13.out.bel hb14)
 clear hb14
 have hy14_0 : w14.cell? ⟨w6.heap.size + 1, 0, none⟩ = some (.string ⟨#[108, 111, 115, 116]⟩) := HKY14.out.cell 0
 have hy14_1 : w14.cell? ⟨w6.heap.size + 1, 1, none⟩ = some (.int .i64 5) := HKY14.out.cell 1
 have hy14_2 : w14.cell? ⟨w6.heap.size + 1, 2, none⟩ = some (.int .i64 26) := HKY14.out.cell 2
 have hy14_3 : w14.cell? ⟨w6.heap.size + 1, 3, none⟩ = some (.slice (some ⟨w6.heap.size, 0, none⟩) 1 1) := HKY14.out.cell 3
 clear hy13_0 hy13_1 hy13_2 hy13_3 hz13_0 hz13_1 hz13_2 hz13_3
 go_wp2_with fail
 refine (psize_any 1000 lvOk lvY #[.string ⟨#[108, 111, 115, 116]⟩, .int .i64 5, .int .i64 26, .slice (some ⟨w6.heap.size, 0, none⟩) 1 1] w14 (by rw [lv_nodes]; decide) (by decide) HY14.out).mono ?_
 rintro e w15 ⟨rfl, hb15⟩
 rw [lv_nodes]
 have HB15 := hid (HB14.out.trans (hb15.mono HB14.out.size))
 have HZ15 := hid (HZ14.out.bel hb15)
 have HKZ15 := hid (HKZ14.out.below hb15 HKZ14.out.lt)
 have HY15 := hid (HY14.out.bel hb15)
 have HKY15 := hid (HKY14.out.below hb15 HKY14.out.lt)
 have HR15 := hid (HR14.out.bel hb15)
 clear hb15
 have hy15_0 : w15.cell? ⟨w6.heap.size + 1, 0, none⟩ = some (.string ⟨#[108, 111, 115, 116]⟩) := HKY15.out.cell 0
 have hy15_1 : w15.cell? ⟨w6.heap.size + 1, 1, none⟩ = some (.int .i64 5) := HKY15.out.cell 1
 have hy15_2 : w15.cell? ⟨w6.heap.size + 1, 2, none⟩ = some (.int .i64 26) := HKY15.out.cell 2
 have hy15_3 : w15.cell? ⟨w6.heap.size + 1, 3, none⟩ = some (.slice (some ⟨w6.heap.size, 0, none⟩) 1 1) := HKY15.out.cell 3
 clear hy14_0 hy14_1 hy14_2 hy14_3
 go_wp2_with fail
 refine (pdepth_any 1000 lvOk lvY #[.string ⟨#[108, 111, 115, 116]⟩, .int .i64 5, .int .i64 26, .slice (some ⟨w6.heap.size, 0, none⟩) 1 1] w15 (by rw [lv_nodes]; decide) (by decide) HY15.out).mono ?_
 rintro e w16 ⟨rfl, hb16⟩
 rw [lv_depth]
 have HB16 := hid (HB15.out.trans (hb16.mono HB15.out.size))
 have HZ16 := hid (HZ15.out.bel hb16)
 have HKZ16 := hid (HKZ15.out.below hb16 HKZ15.out.lt)
 have HY16 := hid (HY15.out.bel hb16)
 have HKY16 := hid (HKY15.out.below hb16 HKY15.out.lt)
 have HR16 := hid (HR15.out.bel hb16)
 clear hb16
 clear hy15_0 hy15_1 hy15_2 hy15_3
 go_wp2_with fail
 refine (path_any lvOk [lvE1, lvE2, lvE3, lvE4] (some ⟨w.heap.size + 1 + 1 + 1, 0, none⟩) 4 4 1 w16 HR16.out (by decide) (by decide) (by simp [lvE1, lvE2, lvE3, lvE4, W64]; decide)).mono ?_
 rintro e w17 ⟨⟨vp, rfl, hp⟩, hb17⟩
 rw [lv_path] at hp
 have hb18 := hb17.alloc hb17.size (.cells #[.int .i64 4, .int .i64 2, .int .i64 1] 3)
 obtain ⟨Ap, capp, rfl, -, hra, -⟩ := own_at hp
 have hra2 : Rd w17 Ap 3 (intL [4, 2, 1]) := hra
 have HRA := hid (hra2.below ((Below.refl w17.heap.size w17).alloc (Nat.le_refl _) (.cells #[.int .i64 4, .int .i64 2, .int .i64 1] 3)))
 have HRB : Hid (Rd (w17.alloc (.cells #[.int .i64 4, .int .i64 2, .int .i64 1] 3)) (some ⟨w17.heap.size, 0, none⟩) 3 (intL [4, 2, 1])) := hid ⟨rfl, fun j u hj => ⟨w17.heap.size, 0, rfl, by rw [Nat.zero_add, (Blk.new w17 3 #[.int .i64 4, .int .i64 2, .int .i64 1]).cell j, List.getElem?_toArray]; exact hj⟩⟩
 generalize hw18 : w17.alloc (.cells #[.int .i64 4, .int .i64 2, .int .i64 1] 3) = w18 at *
 have HB18 := hid (HB16.out.trans (hb18.mono HB16.out.size))
 have HZ18 := hid (HZ16.out.bel hb18)
 have HKZ18 := hid (HKZ16.out.below hb18 HKZ16.out.lt)
 have HY18 := hid (HY16.out.bel hb18)
 have HKY18 := hid (HKY16.out.below hb18 HKY16.out.lt)
 have HR18 := hid (HR16.out.bel hb18)
 clear hb18
 clear hp hra hra2 hb17
 go_wp2_with fail
 refine (rsame_ints [4, 2, 1] [4, 2, 1] 3 3 Ap _ capp 3 w18 rfl rfl HRA.out HRB.out (by decide)).mono ?_
 rintro e w19 ⟨rfl, hb19⟩
 rw [show decide (([4, 2, 1] : List Int) = [4, 2, 1]) = true from rfl]
 have HB19 := hid (HB18.out.trans (hb19.mono HB18.out.size))
 have HZ19 := hid (HZ18.out.bel hb19)
 have HKZ19 := hid (HKZ18.out.below hb19 HKZ18.out.lt)
 have HY19 := hid (HY18.out.bel hb19)
 have HKY19 := hid (HKY18.out.below hb19 HKY18.out.lt)
 have HR19 := hid (HR18.out.bel hb19)
 clear hb19
 go_wp2_with fail
 refine (errno_any 30 w19).mono ?_
 rintro e w20 ⟨rfl, hb20⟩
 rw [show bstr (Rn.nameOf 30) = ⟨#[100, 111, 119, 110]⟩ from by rw [lv_name]; rfl]
 have HB20 := hid (HB19.out.trans (hb20.mono HB19.out.size))
 have HZ20 := hid (HZ19.out.bel hb20)
 have HKZ20 := hid (HKZ19.out.below hb20 HKZ19.out.lt)
 have HY20 := hid (HY19.out.bel hb20)
 have HKY20 := hid (HKY19.out.below hb20 HKY19.out.lt)
 have HR20 := hid (HR19.out.bel hb20)
 clear hb20
 have hy20_0 : w20.cell? ⟨w6.heap.size + 1, 0, none⟩ = some (.string ⟨#[108, 111, 115, 116]⟩) := HKY20.out.cell 0
 have hy20_1 : w20.cell? ⟨w6.heap.size + 1, 1, none⟩ = some (.int .i64 5) := HKY20.out.cell 1
 have hy20_2 : w20.cell? ⟨w6.heap.size + 1, 2, none⟩ = some (.int .i64 26) := HKY20.out.cell 2
 have hy20_3 : w20.cell? ⟨w6.heap.size + 1, 3, none⟩ = some (.slice (some ⟨w6.heap.size, 0, none⟩) 1 1) := HKY20.out.cell 3
 go_wp2_with fail
 refine (check_form lvOk _ lvY #[.string ⟨#[108, 111, 115, 116]⟩, .int .i64 5, .int .i64 26, .slice (some ⟨w6.heap.size, 0, none⟩) 1 1] w20 (by rw [lv_nodes]; decide) lv_tame HY20.out lv_rule).mono ?_
 rintro e w21 ⟨rfl, hb21⟩
 have HB21 := hid (HB20.out.trans (hb21.mono HB20.out.size))
 have HZ21 := hid (HZ20.out.bel hb21)
 have HKZ21 := hid (HKZ20.out.below hb21 HKZ20.out.lt)
 have HY21 := hid (HY20.out.bel hb21)
 have HKY21 := hid (HKY20.out.below hb21 HKY20.out.lt)
 have HR21 := hid (HR20.out.bel hb21)
 clear hb21
 go_wp2_with fail
 go_ret
 exact ⟨rfl, HB21.out⟩
end Go.Proofs.YtacjhbbieeliaaaGreatDoor
