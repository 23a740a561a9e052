/- The texts Ac2, Ay1 of this proof, one behind the other. -/
import Derived.Below
import Derived.SliceStrings
import Derived.Test.YteadlcncnhbmjaaGreatDoorMav
import Derived.Test.YteadlcncnhbmjaaGreatDoorMai
set_option linter.unusedSimpArgs false
set_option maxHeartbeats 16000000
set_option maxRecDepth 100000
set_option linter.unusedVariables false
/- The text Ac2. -/
namespace Go.Proofs.YteadlcncnhbmjaaGreatDoor
open Go.ChangeShapes Go.WideShapes Go.ChangeAt Go.RowKit Go.Sort
set_option linter.unusedVariables false
theorem laidOut : laidOutB Tryz.prog = true := by kernel_rfl
theorem cells_str : Tryz.prog.cellsOf 9 = 1 := by kernel_rfl
theorem open_texts {H : Type} {enc : TypeId × Value → H} {W : World} {a0 : Option Addr} {len cap fuel : Nat} {x : DataW H × List MemPlace}
  (hf : DataW.trod enc Tryz.prog W 0 (fun _ => true) true fuel 30 [.slice a0 len cap] = some x) : ∃ d : List (List UInt8), d.length = len ∧ Rd W a0 len (strL d) := by
 rcases open_strings Tryz.underlying30 Tryz.underlying9 cells_str hf with ⟨hcs, hx⟩ | ⟨a, len', cap', ss, hcs, _, hl, hm, hz, hx, hcell, _⟩
 ·simp at hcs
  obtain ⟨rfl, rfl, rfl⟩ := hcs
  exact ⟨[], rfl, rfl, fun j v h => by cases h⟩
 ·simp at hcs
  obtain ⟨rfl, rfl, rfl⟩ := hcs
  simp only [if_true] at hz
  obtain ⟨b, off, spot⟩ := a
  have hln : ((ss.take len).map (fun s => s.data.toList)).length = len := by simp; omega
  refine ⟨(ss.take len).map (fun s => s.data.toList), hln, by rw [strL_len', hln], fun j v hv => ?_⟩
  have hj : j < len := by
   have := (List.getElem?_eq_some_iff.1 hv).1
   rwa [strL_len', hln] at this
  have hspot : spot = none := by simpa [Addr.add] using World.cell?_spot (hcell 0 (by omega))
  subst hspot
  refine ⟨b, off, rfl, ?_⟩
  have hc := hcell j (by omega)
  rw [show (⟨b, off, none⟩ : Addr).add j = ⟨b, off + j, none⟩ from Addr.add_mid _ _ _] at hc
  rw [hc, ← hv]
  unfold strL
  rw [List.getElem?_map, List.getElem?_map, List.getElem?_take_of_lt hj, List.getElem?_eq_getElem (by omega)]
  simp only [Option.map_some, List.getD, List.getElem?_eq_getElem (show j < ss.length by omega), Option.getD_some]
end Go.Proofs.YteadlcncnhbmjaaGreatDoor
/- The text Ay1. -/
namespace Go.Proofs.YteadlcncnhbmjaaGreatDoor
open Go.RowKit Go.Lib
set_option linter.unusedVariables false
theorem neg_rem (A : Nat) : Int.tmod (-(A : Int)) 10 = -((A % 10 : Nat) : Int) := by rw [Int.neg_tmod, Int.tmod_eq_emod_of_nonneg (by omega)]; omega
theorem neg_quo (A : Nat) : Int.tdiv (-(A : Int)) 10 = -((A / 10 : Nat) : Int) := by rw [Int.neg_tdiv, Int.tdiv_eq_ediv_of_nonneg (by omega)]; omega
theorem dig_byte2 (d : Nat) (h : d < 10) : IntKind.u8.wrap (48 + (d : Int)) = ((UInt8.ofNat (48 + d)).toNat : Int) := by rw [(Ar.dig_of d h).2, IntKind.wrap_u8]; omega
def DgR (A u : Nat) (acc : List UInt8) : Prop := Ar.digs A = (if u = 0 then [] else Ar.digs u) ++ acc
theorem DgR.first (A : Nat) : DgR A (A / 10) [UInt8.ofNat (48 + A % 10)] := by
 unfold DgR
 by_cases h : A < 10
 ·rw [Ar.digs_small A h, if_pos (by omega), Nat.mod_eq_of_lt h]; rfl
 ·rw [Ar.digs_step A (by omega), if_neg (by omega)]
theorem DgR.next {A u : Nat} {acc : List UInt8} (h : DgR A u acc) (hu : u ≠ 0) : DgR A (u / 10) (UInt8.ofNat (48 + u % 10) :: acc) := by
 have h1 : DgR u (u / 10) [UInt8.ofNat (48 + u % 10)] := DgR.first u
 unfold DgR at *
 rw [h, if_neg hu, h1]
 simp
theorem DgR.last {A : Nat} {acc : List UInt8} (h : DgR A 0 acc) : Ar.digs A = acc := by unfold DgR at h; rw [h, if_pos rfl]; rfl
theorem DgR.len {A u : Nat} {acc : List UInt8} (h : DgR A u acc) (hA : A ≤ 9223372036854775808) : acc.length ≤ 19 := by
 have h1 := digs_len 18 A (by omega)
 unfold DgR at h
 rw [h, List.length_append] at h1
 omega
theorem conv_one (W : World) (c : UInt8) : (convert 69 9 (.slice (some ⟨W.heap.size, 0, none⟩) 1 1)).run Tryz.prog (W.alloc (.cells #[.int .u8 (c.toNat : Int)] 5)) = .ok (.string (bstr [c])) (W.alloc (.cells #[.int .u8 (c.toNat : Int)] 5)) := conv_own (own_lit8 W c)
theorem rtext_any (n : Int) (w : World) (hn : Ar.inInt n) : Calls Tryz.prog 122 #[.int .i64 n] w fun e w' => e = .returned (.string (bstr (Ar.itoa n))) ∧ Below w.heap.size w w' := by
 obtain ⟨hn1, hn2⟩ := hn
 obtain ⟨A, hA⟩ : ∃ A, n.natAbs = A := ⟨_, rfl⟩
 have hA9 : A ≤ 9223372036854775808 := by omega
 have hq0 := neg_quo A
 have hr0 := neg_rem A
 obtain ⟨d0, hd0⟩ : ∃ d, A % 10 = d := ⟨_, rfl⟩
 have hdl : d0 < 10 := by omega
 have hb0 := dig_byte2 d0 hdl
 have HF := hid (DgR.first A)
 rw [hd0] at hr0 HF
 obtain ⟨c, hc⟩ : ∃ c, UInt8.ofNat (48 + d0) = c := ⟨_, rfl⟩
 rw [hc] at hb0 HF
 obtain ⟨A1, hA1⟩ : ∃ A1, A / 10 = A1 := ⟨_, rfl⟩
 rw [hA1] at hq0 HF
 have hA1l : A1 ≤ 922337203685477580 := by omega
 have hcv0 := conv_one w c
 clear hc hd0 hA1
 by_cases h0 : n < 0
 ·have HI : Hid (Ar.itoa n = 45 :: Ar.digs A) := hid (by unfold Ar.itoa; rw [if_pos h0, hA])
  obtain rfl : n = -(A : Int) := by omega
  have h1 : decide ((A : Int) < 0) = false := decide_eq_false (by omega)
  have h2 : 0 < A := by omega
  clear hA h0
  go_enter Tryz.func122, Tryz.ntmps122
  go_wp2_with fail
  have HB1 := hid ((Below.refl w.heap.size w).alloc (Nat.le_refl _) (.cells #[.int .u8 (c.toNat : Int)] 5))
  generalize hw1 : w.alloc (.cells #[.int .u8 (c.toNat : Int)] 5) = w1 at *
  clear hw1 hr0 hq0 hb0 hcv0
  go_loopw [3, 4] (fun lx sx wr => ∃ (u : Nat) (acc : List UInt8), lx = .int .i64 (-(u : Int)) ∧ sx = .string (bstr acc) ∧ u ≤ 922337203685477580 ∧ DgR A u acc ∧ Below w.heap.size w wr) (fun lx _ _ => (RowKit.intOf lx).natAbs)
  case atStart => exact ⟨A1, [c], rfl, rfl, hA1l, HF.out, HB1.out⟩
  case round =>
   obtain ⟨u, acc, rfl, rfl, hul, hd, hb⟩ := hrel
   have hlen := hd.len hA9
   have HD := hid hd
   have HB := hid hb
   have hbs := hb.size
   clear hd hb
   by_cases hu : u = 0
   ·subst hu
    have HE : Hid (Ar.itoa (-(A : Int)) = 45 :: acc) := hid (by rw [HI.out, HD.out.last])
    rw [show -((0 : Nat) : Int) = 0 from rfl]
    have hss : (bstr acc).size = acc.length := bstr_size acc
    have hov : ¬ 9223372036854775807 < 1 + (bstr acc).size := by omega
    clear HD HI HF HB1
    go_wp2_with fail
    go_ret
    exact ⟨ret_str (by rw [HE.out]; exact str_eq (by simp [bstr])), HB.out⟩
   ·have HN := hid (HD.out.next hu)
    have hu0 : ¬ (-(u : Int) = 0) := by omega
    have hq := neg_quo u
    have hr := neg_rem u
    obtain ⟨d, hd⟩ : ∃ d, u % 10 = d := ⟨_, rfl⟩
    have hdl2 : d < 10 := by omega
    have hbt := dig_byte2 d hdl2
    rw [hd] at hr HN
    obtain ⟨c2, hc2⟩ : ∃ c, UInt8.ofNat (48 + d) = c := ⟨_, rfl⟩
    rw [hc2] at hbt HN
    obtain ⟨u1, hu1⟩ : ∃ u1, u / 10 = u1 := ⟨_, rfl⟩
    have HLT : Hid (u1 < u) := hid (by omega)
    have hu1l : u1 ≤ 922337203685477580 := by omega
    rw [hu1] at hq HN
    have hcv := conv_one wr c2
    have HS : Hid (bstr [c2] ++ bstr acc = bstr (c2 :: acc)) := hid (str_eq (by simp [bstr]))
    have hsz : (bstr acc).size = acc.length := bstr_size acc
    have hsz1 : (bstr [c2]).size = 1 := bstr_size [c2]
    have hov : ¬ 9223372036854775807 < (bstr [c2]).size + (bstr acc).size := by omega
    clear hd hc2 hu1
    generalize hK1 : bstr [c2] = K1 at *
    generalize hK2 : bstr acc = K2 at *
    go_wp2_with fail
    go_roundw
    case rel => exact ⟨u1, c2 :: acc, rfl, by rw [← HS.out], hu1l, HN.out, HB.out.alloc hbs _⟩
    case measure => have := HLT.out; simp [RowKit.intOf]; omega
 ·have HI : Hid (Ar.itoa n = Ar.digs A) := hid (by unfold Ar.itoa; rw [if_neg h0, hA])
  obtain rfl : n = (A : Int) := by omega
  have h2 : decide ((A : Int) < 0) = false := decide_eq_false h0
  clear hA h0
  by_cases hz : A = 0
  ·have h1 : ¬ 0 < A := by omega
   rw [show -(A : Int) = (A : Int) from by omega] at hq0 hr0
   clear hz
   go_enter Tryz.func122, Tryz.ntmps122
   go_wp2_with fail
   have HB1 := hid ((Below.refl w.heap.size w).alloc (Nat.le_refl _) (.cells #[.int .u8 (c.toNat : Int)] 5))
   generalize hw1 : w.alloc (.cells #[.int .u8 (c.toNat : Int)] 5) = w1 at *
   clear hw1 hr0 hq0 hb0 hcv0
   go_loopw [3, 4] (fun lx sx wr => ∃ (u : Nat) (acc : List UInt8), lx = .int .i64 (-(u : Int)) ∧ sx = .string (bstr acc) ∧ u ≤ 922337203685477580 ∧ DgR A u acc ∧ Below w.heap.size w wr) (fun lx _ _ => (RowKit.intOf lx).natAbs)
   case atStart => exact ⟨A1, [c], rfl, rfl, hA1l, HF.out, HB1.out⟩
   case round =>
    obtain ⟨u, acc, rfl, rfl, hul, hd, hb⟩ := hrel
    have hlen := hd.len hA9
    have HD := hid hd
    have HB := hid hb
    have hbs := hb.size
    clear hd hb
    by_cases hu : u = 0
    ·subst hu
     have HE : Hid (Ar.itoa (A : Int) = acc) := hid (by rw [HI.out, HD.out.last])
     rw [show -((0 : Nat) : Int) = 0 from rfl]
     have hss : (bstr acc).size = acc.length := bstr_size acc
     have h3 : decide ((A : Int) < 0) = false := decide_eq_false (by omega)
     clear HD HI HF HB1
     go_wp2_with fail
     go_ret
     exact ⟨ret_str (by rw [HE.out]), HB.out⟩
    ·have HN := hid (HD.out.next hu)
     have hu0 : ¬ (-(u : Int) = 0) := by omega
     have hq := neg_quo u
     have hr := neg_rem u
     obtain ⟨d, hd⟩ : ∃ d, u % 10 = d := ⟨_, rfl⟩
     have hdl2 : d < 10 := by omega
     have hbt := dig_byte2 d hdl2
     rw [hd] at hr HN
     obtain ⟨c2, hc2⟩ : ∃ c, UInt8.ofNat (48 + d) = c := ⟨_, rfl⟩
     rw [hc2] at hbt HN
     obtain ⟨u1, hu1⟩ : ∃ u1, u / 10 = u1 := ⟨_, rfl⟩
     have HLT : Hid (u1 < u) := hid (by omega)
     have hu1l : u1 ≤ 922337203685477580 := by omega
     rw [hu1] at hq HN
     have hcv := conv_one wr c2
     have HS : Hid (bstr [c2] ++ bstr acc = bstr (c2 :: acc)) := hid (str_eq (by simp [bstr]))
     have hsz : (bstr acc).size = acc.length := bstr_size acc
     have hsz1 : (bstr [c2]).size = 1 := bstr_size [c2]
     have hov : ¬ 9223372036854775807 < (bstr [c2]).size + (bstr acc).size := by omega
     clear hd hc2 hu1
     generalize hK1 : bstr [c2] = K1 at *
     generalize hK2 : bstr acc = K2 at *
     go_wp2_with fail
     go_roundw
     case rel => exact ⟨u1, c2 :: acc, rfl, by rw [← HS.out], hu1l, HN.out, HB.out.alloc hbs _⟩
     case measure => have := HLT.out; simp [RowKit.intOf]; omega
  ·have h1 : 0 < A := by omega
   clear hz
   go_enter Tryz.func122, Tryz.ntmps122
   go_wp2_with fail
   have HB1 := hid ((Below.refl w.heap.size w).alloc (Nat.le_refl _) (.cells #[.int .u8 (c.toNat : Int)] 5))
   generalize hw1 : w.alloc (.cells #[.int .u8 (c.toNat : Int)] 5) = w1 at *
   clear hw1 hr0 hq0 hb0 hcv0
   go_loopw [3, 4] (fun lx sx wr => ∃ (u : Nat) (acc : List UInt8), lx = .int .i64 (-(u : Int)) ∧ sx = .string (bstr acc) ∧ u ≤ 922337203685477580 ∧ DgR A u acc ∧ Below w.heap.size w wr) (fun lx _ _ => (RowKit.intOf lx).natAbs)
   case atStart => exact ⟨A1, [c], rfl, rfl, hA1l, HF.out, HB1.out⟩
   case round =>
    obtain ⟨u, acc, rfl, rfl, hul, hd, hb⟩ := hrel
    have hlen := hd.len hA9
    have HD := hid hd
    have HB := hid hb
    have hbs := hb.size
    clear hd hb
    by_cases hu : u = 0
    ·subst hu
     have HE : Hid (Ar.itoa (A : Int) = acc) := hid (by rw [HI.out, HD.out.last])
     rw [show -((0 : Nat) : Int) = 0 from rfl]
     have hss : (bstr acc).size = acc.length := bstr_size acc
     have h3 : decide ((A : Int) < 0) = false := decide_eq_false (by omega)
     clear HD HI HF HB1
     go_wp2_with fail
     go_ret
     exact ⟨ret_str (by rw [HE.out]), HB.out⟩
    ·have HN := hid (HD.out.next hu)
     have hu0 : ¬ (-(u : Int) = 0) := by omega
     have hq := neg_quo u
     have hr := neg_rem u
     obtain ⟨d, hd⟩ : ∃ d, u % 10 = d := ⟨_, rfl⟩
     have hdl2 : d < 10 := by omega
     have hbt := dig_byte2 d hdl2
     rw [hd] at hr HN
     obtain ⟨c2, hc2⟩ : ∃ c, UInt8.ofNat (48 + d) = c := ⟨_, rfl⟩
     rw [hc2] at hbt HN
     obtain ⟨u1, hu1⟩ : ∃ u1, u / 10 = u1 := ⟨_, rfl⟩
     have HLT : Hid (u1 < u) := hid (by omega)
     have hu1l : u1 ≤ 922337203685477580 := by omega
     rw [hu1] at hq HN
     have hcv := conv_one wr c2
     have HS : Hid (bstr [c2] ++ bstr acc = bstr (c2 :: acc)) := hid (str_eq (by simp [bstr]))
     have hsz : (bstr acc).size = acc.length := bstr_size acc
     have hsz1 : (bstr [c2]).size = 1 := bstr_size [c2]
     have hov : ¬ 9223372036854775807 < (bstr [c2]).size + (bstr acc).size := by omega
     clear hd hc2 hu1
     generalize hK1 : bstr [c2] = K1 at *
     generalize hK2 : bstr acc = K2 at *
     go_wp2_with fail
     go_roundw
     case rel => exact ⟨u1, c2 :: acc, rfl, by rw [← HS.out], hu1l, HN.out, HB.out.alloc hbs _⟩
     case measure => have := HLT.out; simp [RowKit.intOf]; omega
end Go.Proofs.YteadlcncnhbmjaaGreatDoor
