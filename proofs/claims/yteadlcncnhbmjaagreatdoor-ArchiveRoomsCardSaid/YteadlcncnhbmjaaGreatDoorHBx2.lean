/- The text Bx2. -/
import Derived.Test.YteadlcncnhbmjaaGreatDoorHBx1
set_option linter.unusedSimpArgs false
set_option maxHeartbeats 16000000
set_option maxRecDepth 100000
set_option linter.unusedVariables false
namespace Go.Proofs.YteadlcncnhbmjaaGreatDoor
open Go.RowKit Go.Lib
set_option linter.unusedVariables false
set_option linter.unusedSimpArgs false
theorem EvX.below {w w' : World} {X : Array Value} {CL : List Value} {x1 x2 x5 x27 x10 x14 : ByteArray} {A8 A9 A15 A16 A17 A18 : Option Addr} {l8 l9 : List Int} {l15 l16 : List (List UInt8)} {l17 : List (List UInt8 × Int)} {l18 : List (Int × Int)} {c8 c9 c15 c16 c17 c18 : Nat} (h : EvX w X CL x1 x2 x5 x27 x10 x14 A8 A9 A15 A16 A17 A18 l8 l9 l15 l16 l17 l18 c8 c9 c15 c16 c17 c18) (hb : Below w.heap.size w w') : EvX w' X CL x1 x2 x5 x27 x10 x14 A8 A9 A15 A16 A17 A18 l8 l9 l15 l16 l17 l18 c8 c9 c15 c16 c17 c18 :=
 { h with r15 := h.r15.below hb, r16 := h.r16.below hb, r17 := h.r17.below hb }
theorem brief_any (X : Array Value) (CL : List Value) (x1 x2 x5 x27 x10 x14 : ByteArray) (A8 A9 A15 A16 A17 A18 : Option Addr) (l8 l9 : List Int) (l15 l16 : List (List UInt8)) (l17 : List (List UInt8 × Int)) (l18 : List (Int × Int)) (c8 c9 c15 c16 c17 c18 : Nat) (w : World) (h : EvX w X CL x1 x2 x5 x27 x10 x14 A8 A9 A15 A16 A17 A18 l8 l9 l15 l16 l17 l18 c8 c9 c15 c16 c17 c18) : Calls Tryz.prog 18 #[.agg X] w fun e w' => (∃ b, e = .returned (.bool b) ∧ (b = true → x1.size ≤ 100 ∧ x2.size ≤ 100 ∧ x5.size ≤ 100 ∧ x27.size ≤ 100 ∧ x10.size ≤ 500 ∧ x14.size ≤ 100 ∧ l8.length ≤ 40 ∧ l9.length ≤ 40 ∧ l15.length ≤ 40 ∧ l16.length ≤ 40 ∧ l17.length ≤ 40 ∧ l18.length ≤ 20 ∧ (∀ s ∈ l15, s.length ≤ 100) ∧ (∀ s ∈ l16, s.length ≤ 100) ∧ (∀ s ∈ l17, s.1.length ≤ 100))) ∧ Below w.heap.size w w' := by
 have HLG : Hid (∀ W, Below w.heap.size w W → Calls Tryz.prog 46 #[.agg X] W fun e w' => LongA l8.length l9.length e ∧ Below W.heap.size W w') := hid (fun W hb => long_any X CL x1 x2 x5 x27 x10 x14 A8 A9 A15 A16 A17 A18 l8 l9 l15 l16 l17 l18 c8 c9 c15 c16 c17 c18 W (h.below hb))
 have hB0 := (Below.refl w.heap.size w).alloc (Nat.le_refl _) (.cells X 40)
 have HB0 := hid hB0
 have HK0 := hid (Blk.new w 40 X)
 have HS0 : Hid ((Tryz.prog.info? 40).map (·.size) = some X.size) := hid (by rw [size_event, h.size])
 have HX := hid h
 clear h hB0
 generalize hw1 : w.alloc (.cells X 40) = w1 at *
 have HRG : Hid (w1.rangeAt w.heap.size 10 CL) := hid (fun j v hj => (HK0.out.cell (10 + j)).trans (HX.out.sub j v hj))
 have HSC : Hid ((Tryz.prog.info? 36).map (·.size) = some CL.length) := hid (by rw [HX.out.len]; kernel_rfl)
 have HSD : Hid ((Tryz.prog.info? 36).map (·.size) = some CL.toArray.size) := hid (by rw [List.size_toArray]; exact HSC.out)
 have HOC := hid HX.out.one
 have HZC : Hid (16 = CL.toArray.size) := hid (by rw [List.size_toArray, HX.out.len])
 go_enter Tryz.func18, Tryz.ntmps18
 go_upto_region 2 with (first
  | ((with_reducible refine wpList_load_mid rfl 36 _ rfl w.heap.size 10 ?_ CL _ HRG.out Tryz.underlying36 ?_ HSC.out ?_); rfl; rfl)
  | ((with_reducible refine wpList_store_row' rfl 36 _ _ rfl w1.heap.size CL.toArray ?_ ?_ 36 _ (Blk.new w1 36 _) HSD.out ?_ HOC.out ?_); rfl; rfl; exact HZC.out; intro w4 hk4 hs4 hbl4; have hz4 := ((Below.refl w1.heap.size w1).alloc (Nat.le_refl _) _).trans (hbl4 w1.heap.size (Nat.le_refl _)); have HB4 := hid (HB0.out.trans (hz4.mono HB0.out.size)); have HK4 := hid (HK0.out.below hz4 HK0.out.lt); have HC4 := hid hk4; clear hk4 hs4 hbl4 hz4))
 simp only [List.append_eq, List.cons_append, List.nil_append]
 go_wp2_with (first
  | (refine load_row_w (by rfl) 40 _ rfl w.heap.size rfl 40 X (0, 0) _ (by rfl) HK4.out Tryz.underlying40 HS0.out ?_)
  | (refine wpList_load_row rfl 40 _ rfl w.heap.size rfl 40 X (0, 0) _ HK4.out Tryz.underlying40 rfl HS0.out ?_))
 refine (HLG.out _ HB4.out).mono ?_
 rintro e w5 ⟨⟨b0, rfl, hlong⟩, hb5⟩
 have HBF := hid (HB4.out.trans (hb5.mono HB4.out.size))
 have HKF := hid (HK4.out.below hb5 HK4.out.lt)
 have HCF := hid (HC4.out.below hb5 HC4.out.lt)
 clear hb5
 cases b0 with
 | true =>
  clear hlong
  go_wp2_with fail
  go_ret
  exact ⟨⟨false, rfl, fun h => by cases h⟩, HBF.out⟩
 | false =>
 obtain ⟨hl8, hl9⟩ := hlong rfl
 clear hlong
 have f1 := (HKF.out.cell 1).trans HX.out.f1
 have f2 := (HKF.out.cell 2).trans HX.out.f2
 have f5 := (HKF.out.cell 5).trans HX.out.f5
 have f8 := (HKF.out.cell 8).trans HX.out.f8
 have f9 := (HKF.out.cell 9).trans HX.out.f9
 have f27 := (HKF.out.cell 27).trans HX.out.f27
 have g0 := (HCF.out.cell 0).trans (List.getElem?_toArray.trans HX.out.g0)
 have g4 := (HCF.out.cell 4).trans (List.getElem?_toArray.trans HX.out.g4)
 have g5 := (HCF.out.cell 5).trans (List.getElem?_toArray.trans HX.out.g5)
 have g6 := (HCF.out.cell 6).trans (List.getElem?_toArray.trans HX.out.g6)
 have g7 := (HCF.out.cell 7).trans (List.getElem?_toArray.trans HX.out.g7)
 have g8 := (HCF.out.cell 8).trans (List.getElem?_toArray.trans HX.out.g8)
 have R15 := hid (HX.out.r15.below HBF.out)
 have R16 := hid (HX.out.r16.below HBF.out)
 have R17 := hid (HX.out.r17.below HBF.out)
 by_cases c0 : 100 < x1.size
 ·have d0 : decide ((100 : Int) < (x1.size : Int)) = true := decide_eq_true (by omega)
  go_wp2_with fail
  go_ret
  exact ⟨⟨false, rfl, fun h => by cases h⟩, HBF.out⟩
 have d0 : decide ((100 : Int) < (x1.size : Int)) = false := decide_eq_false (by omega)
 by_cases c1 : 100 < x2.size
 ·have d1 : decide ((100 : Int) < (x2.size : Int)) = true := decide_eq_true (by omega)
  go_wp2_with fail
  go_ret
  exact ⟨⟨false, rfl, fun h => by cases h⟩, HBF.out⟩
 have d1 : decide ((100 : Int) < (x2.size : Int)) = false := decide_eq_false (by omega)
 by_cases c2 : 100 < x5.size
 ·have d2 : decide ((100 : Int) < (x5.size : Int)) = true := decide_eq_true (by omega)
  go_wp2_with fail
  go_ret
  exact ⟨⟨false, rfl, fun h => by cases h⟩, HBF.out⟩
 have d2 : decide ((100 : Int) < (x5.size : Int)) = false := decide_eq_false (by omega)
 by_cases c3 : 100 < x27.size
 ·have d3 : decide ((100 : Int) < (x27.size : Int)) = true := decide_eq_true (by omega)
  go_wp2_with fail
  go_ret
  exact ⟨⟨false, rfl, fun h => by cases h⟩, HBF.out⟩
 have d3 : decide ((100 : Int) < (x27.size : Int)) = false := decide_eq_false (by omega)
 by_cases c4 : 500 < x10.size
 ·have d4 : decide ((500 : Int) < (x10.size : Int)) = true := decide_eq_true (by omega)
  go_wp2_with fail
  go_ret
  exact ⟨⟨false, rfl, fun h => by cases h⟩, HBF.out⟩
 have d4 : decide ((500 : Int) < (x10.size : Int)) = false := decide_eq_false (by omega)
 by_cases c5 : 100 < x14.size
 ·have d5 : decide ((100 : Int) < (x14.size : Int)) = true := decide_eq_true (by omega)
  go_wp2_with fail
  go_ret
  exact ⟨⟨false, rfl, fun h => by cases h⟩, HBF.out⟩
 have d5 : decide ((100 : Int) < (x14.size : Int)) = false := decide_eq_false (by omega)
 by_cases c6 : 40 < l15.length
 ·have d6 : decide ((40 : Int) < (l15.length : Int)) = true := decide_eq_true (by omega)
  go_wp2_with fail
  go_ret
  exact ⟨⟨false, rfl, fun h => by cases h⟩, HBF.out⟩
 have d6 : decide ((40 : Int) < (l15.length : Int)) = false := decide_eq_false (by omega)
 by_cases c7 : 40 < l16.length
 ·have d7 : decide ((40 : Int) < (l16.length : Int)) = true := decide_eq_true (by omega)
  go_wp2_with fail
  go_ret
  exact ⟨⟨false, rfl, fun h => by cases h⟩, HBF.out⟩
 have d7 : decide ((40 : Int) < (l16.length : Int)) = false := decide_eq_false (by omega)
 by_cases c8 : 40 < l17.length
 ·have d8 : decide ((40 : Int) < (l17.length : Int)) = true := decide_eq_true (by omega)
  go_wp2_with fail
  go_ret
  exact ⟨⟨false, rfl, fun h => by cases h⟩, HBF.out⟩
 have d8 : decide ((40 : Int) < (l17.length : Int)) = false := decide_eq_false (by omega)
 by_cases c9 : 20 < l18.length
 ·have d9 : decide ((20 : Int) < (l18.length : Int)) = true := decide_eq_true (by omega)
  go_wp2_with fail
  go_ret
  exact ⟨⟨false, rfl, fun h => by cases h⟩, HBF.out⟩
 have d9 : decide ((20 : Int) < (l18.length : Int)) = false := decide_eq_false (by omega)
 go_wp2_with fail
 go_loopw [4] (fun i wr => ∃ k : Nat, k ≤ l15.length ∧ i = .int .i64 (k : Int) ∧ wr = w5 ∧ ∀ s ∈ l15.take k, s.length ≤ 100) (fun i _ => l15.length - (RowKit.intOf i).toNat)
 case atStart => exact ⟨0, Nat.zero_le _, rfl, rfl, fun s h => by simp at h⟩
 case round =>
  obtain ⟨k, hk, rfl, rfl, hall⟩ := hrel
  have HALL := hid hall
  clear hall
  by_cases hlt : k < l15.length
  ·obtain ⟨bb, ob, s, rfl, hs, hcs⟩ := R15.out.str_at hlt
   have hss := bstr_size s
   have HS := hid hs
   clear hs
   by_cases hsz : s.length ≤ 100
   ·have h100 : decide ((100 : Int) < ((bstr s).size : Int)) = false := decide_eq_false (by omega)
    have HN : Hid (∀ t ∈ l15.take (k + 1), t.length ≤ 100) := hid (fun t ht => by
     rw [take_snoc HS.out] at ht
     rcases List.mem_append.1 ht with ht | ht
     ·exact HALL.out t ht
     ·rw [List.mem_singleton.1 ht]; exact hsz)
    clear hss
    generalize bstr s = S at *
    go_wp2_with fail
    go_roundw
    case rel => exact ⟨k + 1, by omega, by go_num, by trivial, HN.out⟩
    case measure => simp [RowKit.intOf]; omega
   ·have h100 : decide ((100 : Int) < ((bstr s).size : Int)) = true := decide_eq_true (by omega)
    clear hss
    generalize bstr s = S at *
    go_wp2_with fail
    go_ret
    exact ⟨⟨false, rfl, fun h => by cases h⟩, HBF.out⟩
  ·obtain rfl : k = l15.length := by omega
   have HA0 : Hid (∀ s ∈ l15, s.length ≤ 100) := hid (by have := HALL.out; rwa [List.take_length] at this)
   clear HALL
   go_wp2_with fail
   go_loopw [5] (fun i wq => ∃ k : Nat, k ≤ l16.length ∧ i = .int .i64 (k : Int) ∧ wq = wr ∧ ∀ s ∈ l16.take k, s.length ≤ 100) (fun i _ => l16.length - (RowKit.intOf i).toNat)
   case atStart => exact ⟨0, Nat.zero_le _, rfl, rfl, fun s h => by simp at h⟩
   case round =>
    obtain ⟨k, hk, rfl, rfl, hall⟩ := hrel
    have HALL := hid hall
    clear hall
    by_cases hlt : k < l16.length
    ·obtain ⟨bb, ob, s, rfl, hs, hcs⟩ := R16.out.str_at hlt
     have hss := bstr_size s
     have HS := hid hs
     clear hs
     by_cases hsz : s.length ≤ 100
     ·have h100 : decide ((100 : Int) < ((bstr s).size : Int)) = false := decide_eq_false (by omega)
      have HN : Hid (∀ t ∈ l16.take (k + 1), t.length ≤ 100) := hid (fun t ht => by
       rw [take_snoc HS.out] at ht
       rcases List.mem_append.1 ht with ht | ht
       ·exact HALL.out t ht
       ·rw [List.mem_singleton.1 ht]; exact hsz)
      clear hss
      generalize bstr s = S at *
      go_wp2_with fail
      go_roundw
      case rel => exact ⟨k + 1, by omega, by go_num, by trivial, HN.out⟩
      case measure => simp [RowKit.intOf]; omega
     ·have h100 : decide ((100 : Int) < ((bstr s).size : Int)) = true := decide_eq_true (by omega)
      clear hss
      generalize bstr s = S at *
      go_wp2_with fail
      go_ret
      exact ⟨⟨false, rfl, fun h => by cases h⟩, HBF.out⟩
    ·obtain rfl : k = l16.length := by omega
     have HA1 : Hid (∀ s ∈ l16, s.length ≤ 100) := hid (by have := HALL.out; rwa [List.take_length] at this)
     clear HALL
     go_wp2_with fail
     go_loopw [6] (fun i wq => ∃ k : Nat, k ≤ l17.length ∧ i = .int .i64 (k : Int) ∧ wq = wr ∧ ∀ s ∈ l17.take k, s.1.length ≤ 100) (fun i _ => l17.length - (RowKit.intOf i).toNat)
     case atStart => exact ⟨0, Nat.zero_le _, rfl, rfl, fun s h => by simp at h⟩
     case round =>
      obtain ⟨k, hk, rfl, rfl, hall⟩ := hrel
      have HALL := hid hall
      clear hall
      by_cases hlt : k < l17.length
      ·obtain ⟨bb, ob, s, rfl, hs, hcs, hcn⟩ := R17.out.usr_at hlt
       have hss := bstr_size s.1
       have HS := hid hs
       clear hs hcn
       by_cases hsz : s.1.length ≤ 100
       ·have h100 : decide ((100 : Int) < ((bstr s.1).size : Int)) = false := decide_eq_false (by omega)
        have HN : Hid (∀ t ∈ l17.take (k + 1), t.1.length ≤ 100) := hid (fun t ht => by
         rw [take_snoc HS.out] at ht
         rcases List.mem_append.1 ht with ht | ht
         ·exact HALL.out t ht
         ·rw [List.mem_singleton.1 ht]; exact hsz)
        clear hss
        generalize bstr s.1 = S at *
        go_wp2_with fail
        go_roundw
        case rel => exact ⟨k + 1, by omega, by go_num, by trivial, HN.out⟩
        case measure => simp [RowKit.intOf]; omega
       ·have h100 : decide ((100 : Int) < ((bstr s.1).size : Int)) = true := decide_eq_true (by omega)
        clear hss
        generalize bstr s.1 = S at *
        go_wp2_with fail
        go_ret
        exact ⟨⟨false, rfl, fun h => by cases h⟩, HBF.out⟩
      ·obtain rfl : k = l17.length := by omega
       have HA2 : Hid (∀ s ∈ l17, s.1.length ≤ 100) := hid (by have := HALL.out; rwa [List.take_length] at this)
       clear HALL
       go_wp2_with fail
       go_ret
       exact ⟨⟨true, rfl, fun _ => ⟨by omega, by omega, by omega, by omega, by omega, by omega, by omega, by omega, by omega, by omega, by omega, by omega, HA0.out, HA1.out, HA2.out⟩⟩, HBF.out⟩
end Go.Proofs.YteadlcncnhbmjaaGreatDoor
