/- The texts Ac2, Ay1, Ay2, Ay5 of this proof, one behind the other. -/
import Derived.Below
import Derived.SliceStrings
import Derived.Test.YteadlcncnhbmjaaGreatDoorMav
import Derived.Test.YteadlcncnhbmjaaGreatDoorMai
import Derived.Test.YteadlcncnhbmjaaGreatDoorMao
import Derived.Test.YteadlcncnhbmjaaGreatDoorMal
import Derived.Test.YteadlcncnhbmjaaGreatDoorMas
import Derived.Test.YteadlcncnhbmjaaGreatDoorMat
set_option linter.unusedSimpArgs false
set_option linter.unusedVariables false
/- A []string that came in, as the walks want it. -/
namespace Go.Proofs.YteadlcncnhbmjaaGreatDoor
open Go.ChangeShapes Go.WideShapes Go.ChangeAt Go.RowKit Go.Sort
set_option linter.unusedVariables false

theorem laidOut : laidOutB Tryz.prog = true := by kernel_rfl
theorem cells_str : Tryz.prog.cellsOf 9 = 1 := by kernel_rfl
theorem open_texts {H : Type} {enc : TypeId × Value → H} {W : World} {a0 : Option Addr} {len cap fuel : Nat} {x : DataW H × List MemPlace}
    (hf : DataW.trod enc Tryz.prog W 0 (fun _ => true) true fuel 30 [.slice a0 len cap] = some x) : ∃ d : List (List UInt8), d.length = len ∧ Rd W a0 len (strL d) := by
  rcases open_strings Tryz.underlying30 Tryz.underlying9 cells_str hf with ⟨hcs, hx⟩ | ⟨a, len', cap', ss, hcs, _, hl, hm, hz, hx, hcell, _⟩
  · simp at hcs
    obtain ⟨rfl, rfl, rfl⟩ := hcs
    exact ⟨[], rfl, rfl, fun j v h => by cases h⟩
  · simp at hcs
    obtain ⟨rfl, rfl, rfl⟩ := hcs
    simp only [if_true] at hz
    obtain ⟨b, off, spot⟩ := a
    have hln : ((ss.take len).map (fun s => s.data.toList)).length = len := by simp; omega
    refine ⟨(ss.take len).map (fun s => s.data.toList), hln, by rw [strL_len', hln], fun j v hv => ?_⟩
    have hj : j < len := by
      have := (List.getElem?_eq_some_iff.1 hv).1
      rwa [strL_len', hln] at this
    have hspot : spot = none := by simpa [Addr.add] using World.cell?_spot (hcell 0 (by omega))
    subst hspot
    refine ⟨b, off, rfl, ?_⟩
    have hc := hcell j (by omega)
    rw [show (⟨b, off, none⟩ : Addr).add j = ⟨b, off + j, none⟩ from Addr.add_mid _ _ _] at hc
    rw [hc, ← hv]
    unfold strL
    rw [List.getElem?_map, List.getElem?_map, List.getElem?_take_of_lt hj, List.getElem?_eq_getElem (by omega)]
    simp only [Option.map_some, List.getD, List.getElem?_eq_getElem (show j < ss.length by omega), Option.getD_some]
end Go.Proofs.YteadlcncnhbmjaaGreatDoor
/- The walk of the reference's Text of a number. -/
namespace Go.Proofs.YteadlcncnhbmjaaGreatDoor
open Go.RowKit Go.Lib
set_option linter.unusedVariables false

theorem neg_rem (A : Nat) : Int.tmod (-(A : Int)) 10 = -((A % 10 : Nat) : Int) := by rw [Int.neg_tmod, Int.tmod_eq_emod_of_nonneg (by omega)]; omega
theorem neg_quo (A : Nat) : Int.tdiv (-(A : Int)) 10 = -((A / 10 : Nat) : Int) := by rw [Int.neg_tdiv, Int.tdiv_eq_ediv_of_nonneg (by omega)]; omega
theorem dig_byte2 (d : Nat) (h : d < 10) : IntKind.u8.wrap (48 + (d : Int)) = ((UInt8.ofNat (48 + d)).toNat : Int) := by rw [(Ar.dig_of d h).2, IntKind.wrap_u8]; omega
/-- the digits left, and those that are written -/
def DgR (A u : Nat) (acc : List UInt8) : Prop := Ar.digs A = (if u = 0 then [] else Ar.digs u) ++ acc
theorem DgR.first (A : Nat) : DgR A (A / 10) [UInt8.ofNat (48 + A % 10)] := by
  unfold DgR
  by_cases h : A < 10
  · rw [Ar.digs_small A h, if_pos (by omega), Nat.mod_eq_of_lt h]; rfl
  · rw [Ar.digs_step A (by omega), if_neg (by omega)]
theorem DgR.next {A u : Nat} {acc : List UInt8} (h : DgR A u acc) (hu : u ≠ 0) : DgR A (u / 10) (UInt8.ofNat (48 + u % 10) :: acc) := by
  have h1 : DgR u (u / 10) [UInt8.ofNat (48 + u % 10)] := DgR.first u
  unfold DgR at *
  rw [h, if_neg hu, h1]
  simp
theorem DgR.last {A : Nat} {acc : List UInt8} (h : DgR A 0 acc) : Ar.digs A = acc := by unfold DgR at h; rw [h, if_pos rfl]; rfl
theorem DgR.len {A u : Nat} {acc : List UInt8} (h : DgR A u acc) (hA : A ≤ 9223372036854775808) : acc.length ≤ 19 := by
  have h1 := digs_len 18 A (by omega)
  unfold DgR at h
  rw [h, List.length_append] at h1
  omega
theorem conv_one (W : World) (c : UInt8) : (convert 69 9 (.slice (some ⟨W.heap.size, 0, none⟩) 1 1)).run Tryz.prog (W.alloc (.cells #[.int .u8 (c.toNat : Int)] 5)) = .ok (.string (bstr [c])) (W.alloc (.cells #[.int .u8 (c.toNat : Int)] 5)) := conv_own (own_lit8 W c)
set_option maxHeartbeats 2000000 in
set_option maxRecDepth 100000 in
theorem rtext_any (n : Int) (w : World) (hn : Ar.inInt n) : Calls Tryz.prog 122 #[.int .i64 n] w fun e w' => e = .returned (.string (bstr (Ar.itoa n))) ∧ Below w.heap.size w w' := by
  obtain ⟨hn1, hn2⟩ := hn
  obtain ⟨A, hA⟩ : ∃ A, n.natAbs = A := ⟨_, rfl⟩
  have hA9 : A ≤ 9223372036854775808 := by omega
  have hq0 := neg_quo A
  have hr0 := neg_rem A
  obtain ⟨d0, hd0⟩ : ∃ d, A % 10 = d := ⟨_, rfl⟩
  have hdl : d0 < 10 := by omega
  have hb0 := dig_byte2 d0 hdl
  have HF := Lib.hid (DgR.first A)
  rw [hd0] at hr0 HF
  obtain ⟨c, hc⟩ : ∃ c, UInt8.ofNat (48 + d0) = c := ⟨_, rfl⟩
  rw [hc] at hb0 HF
  obtain ⟨A1, hA1⟩ : ∃ A1, A / 10 = A1 := ⟨_, rfl⟩
  rw [hA1] at hq0 HF
  have hA1l : A1 ≤ 922337203685477580 := by omega
  have hcv0 := conv_one w c
  clear hc hd0 hA1
  by_cases h0 : n < 0
  · have HI : Hid (Ar.itoa n = 45 :: Ar.digs A) := Lib.hid (by unfold Ar.itoa; rw [if_pos h0, hA])
    obtain rfl : n = -(A : Int) := by omega
    have h1 : decide ((A : Int) < 0) = false := decide_eq_false (by omega)
    have h2 : 0 < A := by omega
    clear hA h0
    go_enter Tryz.func122, Tryz.ntmps122
    go_wp2_with fail
    have HB1 := Lib.hid ((Below.refl w.heap.size w).alloc (Nat.le_refl _) (.cells #[.int .u8 (c.toNat : Int)] 5))
    generalize hw1 : w.alloc (.cells #[.int .u8 (c.toNat : Int)] 5) = w1 at *
    clear hw1 hr0 hq0 hb0 hcv0
    go_loopw [3, 4] (fun lx sx wr => ∃ (u : Nat) (acc : List UInt8), lx = .int .i64 (-(u : Int)) ∧ sx = .string (bstr acc) ∧ u ≤ 922337203685477580 ∧ DgR A u acc ∧ Below w.heap.size w wr) (fun lx _ _ => (RowKit.intOf lx).natAbs)
    case atStart => exact ⟨A1, [c], rfl, rfl, hA1l, HF.out, HB1.out⟩
    case round =>
      obtain ⟨u, acc, rfl, rfl, hul, hd, hb⟩ := hrel
      have hlen := hd.len hA9
      have HD := Lib.hid hd
      have HB := Lib.hid hb
      have hbs := hb.size
      clear hd hb
      by_cases hu : u = 0
      · subst hu
        have HE : Hid (Ar.itoa (-(A : Int)) = 45 :: acc) := Lib.hid (by rw [HI.out, HD.out.last])
        rw [show -((0 : Nat) : Int) = 0 from rfl]
        have hss : (bstr acc).size = acc.length := bstr_size acc
        have hov : ¬ 9223372036854775807 < 1 + (bstr acc).size := by omega
        clear HD HI HF HB1
        go_wp2_with fail
        go_ret
        exact ⟨ret_str (by rw [HE.out]; exact str_eq (by simp [bstr])), HB.out⟩
      · have HN := Lib.hid (HD.out.next hu)
        have hu0 : ¬ (-(u : Int) = 0) := by omega
        have hq := neg_quo u
        have hr := neg_rem u
        obtain ⟨d, hd⟩ : ∃ d, u % 10 = d := ⟨_, rfl⟩
        have hdl2 : d < 10 := by omega
        have hbt := dig_byte2 d hdl2
        rw [hd] at hr HN
        obtain ⟨c2, hc2⟩ : ∃ c, UInt8.ofNat (48 + d) = c := ⟨_, rfl⟩
        rw [hc2] at hbt HN
        obtain ⟨u1, hu1⟩ : ∃ u1, u / 10 = u1 := ⟨_, rfl⟩
        have HLT : Hid (u1 < u) := Lib.hid (by omega)
        have hu1l : u1 ≤ 922337203685477580 := by omega
        rw [hu1] at hq HN
        have hcv := conv_one wr c2
        have HS : Hid (bstr [c2] ++ bstr acc = bstr (c2 :: acc)) := Lib.hid (str_eq (by simp [bstr]))
        have hsz : (bstr acc).size = acc.length := bstr_size acc
        have hsz1 : (bstr [c2]).size = 1 := bstr_size [c2]
        have hov : ¬ 9223372036854775807 < (bstr [c2]).size + (bstr acc).size := by omega
        clear hd hc2 hu1
        generalize hK1 : bstr [c2] = K1 at *
        generalize hK2 : bstr acc = K2 at *
        go_wp2_with fail
        go_roundw
        case rel => exact ⟨u1, c2 :: acc, rfl, by rw [← HS.out], hu1l, HN.out, HB.out.alloc hbs _⟩
        case measure => have := HLT.out; simp [RowKit.intOf]; omega
  · have HI : Hid (Ar.itoa n = Ar.digs A) := Lib.hid (by unfold Ar.itoa; rw [if_neg h0, hA])
    obtain rfl : n = (A : Int) := by omega
    have h2 : decide ((A : Int) < 0) = false := decide_eq_false h0
    clear hA h0
    by_cases hz : A = 0
    · have h1 : ¬ 0 < A := by omega
      rw [show -(A : Int) = (A : Int) from by omega] at hq0 hr0
      clear hz
      go_enter Tryz.func122, Tryz.ntmps122
      go_wp2_with fail
      have HB1 := Lib.hid ((Below.refl w.heap.size w).alloc (Nat.le_refl _) (.cells #[.int .u8 (c.toNat : Int)] 5))
      generalize hw1 : w.alloc (.cells #[.int .u8 (c.toNat : Int)] 5) = w1 at *
      clear hw1 hr0 hq0 hb0 hcv0
      go_loopw [3, 4] (fun lx sx wr => ∃ (u : Nat) (acc : List UInt8), lx = .int .i64 (-(u : Int)) ∧ sx = .string (bstr acc) ∧ u ≤ 922337203685477580 ∧ DgR A u acc ∧ Below w.heap.size w wr) (fun lx _ _ => (RowKit.intOf lx).natAbs)
      case atStart => exact ⟨A1, [c], rfl, rfl, hA1l, HF.out, HB1.out⟩
      case round =>
        obtain ⟨u, acc, rfl, rfl, hul, hd, hb⟩ := hrel
        have hlen := hd.len hA9
        have HD := Lib.hid hd
        have HB := Lib.hid hb
        have hbs := hb.size
        clear hd hb
        by_cases hu : u = 0
        · subst hu
          have HE : Hid (Ar.itoa (A : Int) = acc) := Lib.hid (by rw [HI.out, HD.out.last])
          rw [show -((0 : Nat) : Int) = 0 from rfl]
          have hss : (bstr acc).size = acc.length := bstr_size acc
          have h3 : decide ((A : Int) < 0) = false := decide_eq_false (by omega)
          clear HD HI HF HB1
          go_wp2_with fail
          go_ret
          exact ⟨ret_str (by rw [HE.out]), HB.out⟩
        · have HN := Lib.hid (HD.out.next hu)
          have hu0 : ¬ (-(u : Int) = 0) := by omega
          have hq := neg_quo u
          have hr := neg_rem u
          obtain ⟨d, hd⟩ : ∃ d, u % 10 = d := ⟨_, rfl⟩
          have hdl2 : d < 10 := by omega
          have hbt := dig_byte2 d hdl2
          rw [hd] at hr HN
          obtain ⟨c2, hc2⟩ : ∃ c, UInt8.ofNat (48 + d) = c := ⟨_, rfl⟩
          rw [hc2] at hbt HN
          obtain ⟨u1, hu1⟩ : ∃ u1, u / 10 = u1 := ⟨_, rfl⟩
          have HLT : Hid (u1 < u) := Lib.hid (by omega)
          have hu1l : u1 ≤ 922337203685477580 := by omega
          rw [hu1] at hq HN
          have hcv := conv_one wr c2
          have HS : Hid (bstr [c2] ++ bstr acc = bstr (c2 :: acc)) := Lib.hid (str_eq (by simp [bstr]))
          have hsz : (bstr acc).size = acc.length := bstr_size acc
          have hsz1 : (bstr [c2]).size = 1 := bstr_size [c2]
          have hov : ¬ 9223372036854775807 < (bstr [c2]).size + (bstr acc).size := by omega
          clear hd hc2 hu1
          generalize hK1 : bstr [c2] = K1 at *
          generalize hK2 : bstr acc = K2 at *
          go_wp2_with fail
          go_roundw
          case rel => exact ⟨u1, c2 :: acc, rfl, by rw [← HS.out], hu1l, HN.out, HB.out.alloc hbs _⟩
          case measure => have := HLT.out; simp [RowKit.intOf]; omega
    · have h1 : 0 < A := by omega
      clear hz
      go_enter Tryz.func122, Tryz.ntmps122
      go_wp2_with fail
      have HB1 := Lib.hid ((Below.refl w.heap.size w).alloc (Nat.le_refl _) (.cells #[.int .u8 (c.toNat : Int)] 5))
      generalize hw1 : w.alloc (.cells #[.int .u8 (c.toNat : Int)] 5) = w1 at *
      clear hw1 hr0 hq0 hb0 hcv0
      go_loopw [3, 4] (fun lx sx wr => ∃ (u : Nat) (acc : List UInt8), lx = .int .i64 (-(u : Int)) ∧ sx = .string (bstr acc) ∧ u ≤ 922337203685477580 ∧ DgR A u acc ∧ Below w.heap.size w wr) (fun lx _ _ => (RowKit.intOf lx).natAbs)
      case atStart => exact ⟨A1, [c], rfl, rfl, hA1l, HF.out, HB1.out⟩
      case round =>
        obtain ⟨u, acc, rfl, rfl, hul, hd, hb⟩ := hrel
        have hlen := hd.len hA9
        have HD := Lib.hid hd
        have HB := Lib.hid hb
        have hbs := hb.size
        clear hd hb
        by_cases hu : u = 0
        · subst hu
          have HE : Hid (Ar.itoa (A : Int) = acc) := Lib.hid (by rw [HI.out, HD.out.last])
          rw [show -((0 : Nat) : Int) = 0 from rfl]
          have hss : (bstr acc).size = acc.length := bstr_size acc
          have h3 : decide ((A : Int) < 0) = false := decide_eq_false (by omega)
          clear HD HI HF HB1
          go_wp2_with fail
          go_ret
          exact ⟨ret_str (by rw [HE.out]), HB.out⟩
        · have HN := Lib.hid (HD.out.next hu)
          have hu0 : ¬ (-(u : Int) = 0) := by omega
          have hq := neg_quo u
          have hr := neg_rem u
          obtain ⟨d, hd⟩ : ∃ d, u % 10 = d := ⟨_, rfl⟩
          have hdl2 : d < 10 := by omega
          have hbt := dig_byte2 d hdl2
          rw [hd] at hr HN
          obtain ⟨c2, hc2⟩ : ∃ c, UInt8.ofNat (48 + d) = c := ⟨_, rfl⟩
          rw [hc2] at hbt HN
          obtain ⟨u1, hu1⟩ : ∃ u1, u / 10 = u1 := ⟨_, rfl⟩
          have HLT : Hid (u1 < u) := Lib.hid (by omega)
          have hu1l : u1 ≤ 922337203685477580 := by omega
          rw [hu1] at hq HN
          have hcv := conv_one wr c2
          have HS : Hid (bstr [c2] ++ bstr acc = bstr (c2 :: acc)) := Lib.hid (str_eq (by simp [bstr]))
          have hsz : (bstr acc).size = acc.length := bstr_size acc
          have hsz1 : (bstr [c2]).size = 1 := bstr_size [c2]
          have hov : ¬ 9223372036854775807 < (bstr [c2]).size + (bstr acc).size := by omega
          clear hd hc2 hu1
          generalize hK1 : bstr [c2] = K1 at *
          generalize hK2 : bstr acc = K2 at *
          go_wp2_with fail
          go_roundw
          case rel => exact ⟨u1, c2 :: acc, rfl, by rw [← HS.out], hu1l, HN.out, HB.out.alloc hbs _⟩
          case measure => have := HLT.out; simp [RowKit.intOf]; omega
end Go.Proofs.YteadlcncnhbmjaaGreatDoor
/- The walk of the reference's Int. Written by genay2.py. -/
namespace Go.Proofs.YteadlcncnhbmjaaGreatDoor
open Go.RowKit Go.Lib
set_option linter.unusedVariables false

/-- what Int answers -/
def IntA (s : List UInt8) (e : Ending) : Prop := (∃ n, Ar.rint s = some n ∧ e = .returned (.tuple #[.int .i64 n, .bool true])) ∨ (Ar.rint s = none ∧ ∃ n, e = .returned (.tuple #[.int .i64 n, .bool false]))
theorem rint_long {s : List UInt8} (h : s.length = Ar.minusAt s ∨ Ar.minusAt s + 19 < s.length) : Ar.rint s = none := by unfold Ar.rint; rw [if_pos h]
theorem rint_none {s : List UInt8} (h : Ar.negL 0 (s.drop (Ar.minusAt s)) = none) : Ar.rint s = none := by
  unfold Ar.rint
  rw [h]
  split <;> rfl
theorem rint_plus {s : List UInt8} {n : Int} (hm : Ar.minusAt s = 0) (hl : ¬ (s.length = Ar.minusAt s ∨ Ar.minusAt s + 19 < s.length)) (h : Ar.negL 0 (s.drop (Ar.minusAt s)) = some n) : Ar.rint s = if n = -9223372036854775808 then none else if Ar.itoa (-n) = s then some (-n) else none := by
  unfold Ar.rint
  rw [if_neg hl, h]
  simp only
  rw [if_pos hm]
theorem rint_minus {s : List UInt8} {n : Int} (hm : Ar.minusAt s = 1) (hl : ¬ (s.length = Ar.minusAt s ∨ Ar.minusAt s + 19 < s.length)) (h : Ar.negL 0 (s.drop (Ar.minusAt s)) = some n) : Ar.rint s = if Ar.itoa n = s then some n else none := by
  unfold Ar.rint
  rw [if_neg hl, h]
  simp only
  rw [if_neg (by omega)]
theorem neg_stuck {t : List UInt8} {k : Nat} {n : Int} {c : UInt8} (h : Ar.negL 0 (t.take k) = some n) (hk : t[k]? = some c) (hs : Ar.negS n c = none) : Ar.negL 0 t = none := by
  obtain ⟨h1, h2⟩ := List.getElem?_eq_some_iff.1 hk
  have e := List.take_append_drop k t
  rw [List.drop_eq_getElem_cons h1, h2] at e
  rw [← e, Ar.negL_app, h]
  show (Ar.negS n c).bind _ = none
  rw [hs]
  rfl
theorem neg_next {t : List UInt8} {k : Nat} {n m : Int} {c : UInt8} (h : Ar.negL 0 (t.take k) = some n) (hk : t[k]? = some c) (hs : Ar.negS n c = some m) : Ar.negL 0 (t.take (k + 1)) = some m := by
  rw [take_snoc hk, Ar.negL_app, h]
  show (Ar.negS n c).bind (fun m => Ar.negL m []) = _
  rw [hs]
  rfl
set_option maxHeartbeats 4000000 in
set_option maxRecDepth 100000 in
theorem rint_any (S : ByteArray) (w : World) (hs : S.size ≤ 1000000) : Calls Tryz.prog 96 #[.string S] w fun e w' => IntA S.data.toList e ∧ Below w.heap.size w w' := by
  have HLE : Hid (S.data.toList.length = S.size) := Lib.hid (str_size S).symm
  have HAT : Hid (∀ k (h : k < S.size), S.data.toList[k]? = some S[k]) := Lib.hid (at_str S)
  have HBS : Hid (bstr S.data.toList = S) := Lib.hid (bstr_of S)
  generalize S.data.toList = L at *
  have hw0 : Below w.heap.size w w := Below.refl _ _
  have HW0 := Lib.hid hw0
  clear hw0
  by_cases h0 : S.size = 0
  · have HN : Hid (Ar.rint L = none) := Lib.hid (by
      have : L = [] := List.eq_nil_of_length_eq_zero (by have := HLE.out; omega)
      rw [this]; rfl)
    go_enter Tryz.func96, Tryz.ntmps96
    go_wp2_with fail
    go_ret2
    exact ⟨.inr ⟨HN.out, 0, rfl⟩, HW0.out⟩
  · have h0' : 0 < S.size := by omega
    have HC0 := Lib.hid (HAT.out 0 h0')
    by_cases hc0 : S[0]'h0' = 45
    · have HM : Hid (Ar.minusAt L = 1) := Lib.hid (by unfold Ar.minusAt; rw [List.head?_eq_getElem?, HC0.out, hc0]; rfl)
      have hz : (((S[0]'h0').toNat : Int) == 45) = true := by rw [hc0]; rfl
      clear hc0 HC0
      by_cases hlen : S.size = 1 ∨ 20 < S.size
      · have HN : Hid (Ar.rint L = none) := Lib.hid (rint_long (by rw [HM.out, HLE.out]; omega))
        by_cases hl1 : S.size = 1
        · have g1 : ((S.size : Int) == 1) = true := by rw [hl1]; rfl
          clear hlen
          go_enter Tryz.func96, Tryz.ntmps96
          go_wp2_with fail
          go_ret2
          exact ⟨.inr ⟨HN.out, _, rfl⟩, HW0.out⟩
        · have g1 : ((S.size : Int) == 1) = false := by rw [beq_eq_false_iff_ne]; omega
          have g2 : 20 < S.size := by omega
          clear hlen hl1
          go_enter Tryz.func96, Tryz.ntmps96
          go_wp2_with fail
          go_ret2
          exact ⟨.inr ⟨HN.out, _, rfl⟩, HW0.out⟩
      · have HLN : Hid (¬ (L.length = Ar.minusAt L ∨ Ar.minusAt L + 19 < L.length)) := Lib.hid (by rw [HM.out, HLE.out]; omega)
        have g1 : ((S.size : Int) == 1) = false := by rw [beq_eq_false_iff_ne]; omega
        have g2 : ¬ 20 < S.size := by omega
        have hat : 1 < S.size := by omega
        clear hlen
        go_enter Tryz.func96, Tryz.ntmps96
        go_wp2_with fail
        go_loopw [5, 6] (fun nx ix wr => ∃ (k : Nat) (n : Int), k + 1 ≤ S.size ∧ ix = .int .i64 ((k + 1 : Nat) : Int) ∧ nx = .int .i64 n ∧ -9223372036854775808 ≤ n ∧ n ≤ 0 ∧ Ar.negL 0 ((L.drop 1).take k) = some n ∧ ∃ q, wr = w.drewN q) (fun _ ix _ => S.size - (RowKit.intOf ix).toNat)
        case atStart => exact ⟨0, 0, by omega, rfl, rfl, by omega, by omega, rfl, 0, rfl⟩
        case round =>
          obtain ⟨k, n, hk, rfl, rfl, hn1, hn2, hneg, q, rfl⟩ := hrel
          have HNEG := Lib.hid hneg
          have HWQ := Lib.hid (below_drewN HW0.out q)
          clear hneg
          by_cases hlt : k + 1 < S.size
          · have HCK : Hid ((L.drop 1)[k]? = some S[k + 1]) := Lib.hid (by rw [List.getElem?_drop, Nat.add_comm]; exact HAT.out _ hlt)
            obtain ⟨d, hd⟩ : ∃ d : Int, ((S[k + 1]'hlt).toNat : Int) = d + 48 := ⟨((S[k + 1]'hlt).toNat : Int) - 48, by omega⟩
            have hd1 : -48 ≤ d := by omega
            have hd2 : d ≤ 207 := by have := (S[k + 1]'hlt).toNat_lt; omega
            have HSC : Hid (Ar.negS n S[k + 1] = if d < 0 ∨ 9 < d ∨ n < -922337203685477580 ∨ n = -922337203685477580 ∧ 8 < d then none else some (10 * n - d)) := Lib.hid (by unfold Ar.negS; rw [hd, Int.add_sub_cancel])
            have HRET : Hid (Ar.negS n S[k + 1] = none → Ar.rint L = none) := Lib.hid (fun h => rint_none (by rw [HM.out]; exact neg_stuck HNEG.out HCK.out h))
            have HNX : Hid (∀ m, Ar.negS n S[k + 1] = some m → Ar.negL 0 ((L.drop 1).take (k + 1)) = some m ∧ -9223372036854775808 ≤ m ∧ m ≤ 0) := Lib.hid (fun m h => ⟨neg_next HNEG.out HCK.out h, Ar.negS_range h hn2⟩)
            generalize Ar.negS n S[k + 1] = NS at *
            by_cases p1 : d < 0
            · have p1' : decide (d < 0) = true := decide_eq_true p1
              have HNO : Hid (Ar.rint L = none) := Lib.hid (HRET.out (by rw [HSC.out, if_pos (by omega)]))
              clear HSC HRET HNX
              go_wp2_with fail
              go_ret2
              exact ⟨.inr ⟨HNO.out, _, rfl⟩, by first | exact HWQ.out | (rw [World.drewN_drewN]; exact below_drewN HW0.out _)⟩
            · have p1' : decide (d < 0) = false := decide_eq_false p1
              by_cases p2 : 9 < d
              · have p2' : decide (9 < d) = true := decide_eq_true p2
                have HNO : Hid (Ar.rint L = none) := Lib.hid (HRET.out (by rw [HSC.out, if_pos (by omega)]))
                clear HSC HRET HNX
                go_wp2_with fail
                go_ret2
                exact ⟨.inr ⟨HNO.out, _, rfl⟩, by first | exact HWQ.out | (rw [World.drewN_drewN]; exact below_drewN HW0.out _)⟩
              · have p2' : decide (9 < d) = false := decide_eq_false p2
                by_cases p3 : n < -922337203685477580
                · have p3' : decide (n < -922337203685477580) = true := decide_eq_true p3
                  have HNO : Hid (Ar.rint L = none) := Lib.hid (HRET.out (by rw [HSC.out, if_pos (by omega)]))
                  clear HSC HRET HNX
                  go_wp2_with fail
                  go_ret2
                  exact ⟨.inr ⟨HNO.out, _, rfl⟩, by first | exact HWQ.out | (rw [World.drewN_drewN]; exact below_drewN HW0.out _)⟩
                · have p3' : decide (n < -922337203685477580) = false := decide_eq_false p3
                  by_cases p4 : n = -922337203685477580
                  · have p4' : (n == -922337203685477580) = true := by rw [p4]; rfl
                    by_cases p5 : 8 < d
                    · have p5' : decide (8 < d) = true := decide_eq_true p5
                      have HNO : Hid (Ar.rint L = none) := Lib.hid (HRET.out (by rw [HSC.out, if_pos (by omega)]))
                      clear HSC HRET HNX
                      go_wp2_with fail
                      go_ret2
                      exact ⟨.inr ⟨HNO.out, _, rfl⟩, by first | exact HWQ.out | (rw [World.drewN_drewN]; exact below_drewN HW0.out _)⟩
                    · have p5' : decide (8 < d) = false := decide_eq_false p5
                      have HYES : Hid (Ar.negL 0 ((L.drop 1).take (k + 1)) = some (10 * n - d) ∧ -9223372036854775808 ≤ 10 * n - d ∧ 10 * n - d ≤ 0) := Lib.hid (HNX.out _ (by rw [HSC.out, if_neg (by omega)]))
                      obtain ⟨hy1, hy2, hy3⟩ := HYES.out
                      replace hy1 := Lib.hid hy1
                      clear HSC HRET HNX HYES
                      go_wp2_with fail
                      go_roundw
                      case rel => exact ⟨k + 1, 10 * n - d, by omega, by go_num, by go_num, hy2, hy3, hy1.out, by first | exact ⟨_, rfl⟩ | exact ⟨_, World.drewN_drewN _ _ _⟩⟩
                      case measure => simp [RowKit.intOf]; omega
                  · have p4' : (n == -922337203685477580) = false := by rw [beq_eq_false_iff_ne]; exact p4
                    have HYES : Hid (Ar.negL 0 ((L.drop 1).take (k + 1)) = some (10 * n - d) ∧ -9223372036854775808 ≤ 10 * n - d ∧ 10 * n - d ≤ 0) := Lib.hid (HNX.out _ (by rw [HSC.out, if_neg (by omega)]))
                    obtain ⟨hy1, hy2, hy3⟩ := HYES.out
                    replace hy1 := Lib.hid hy1
                    clear HSC HRET HNX HYES
                    go_wp2_with fail
                    go_roundw
                    case rel => exact ⟨k + 1, 10 * n - d, by omega, by go_num, by go_num, hy2, hy3, hy1.out, by first | exact ⟨_, rfl⟩ | exact ⟨_, World.drewN_drewN _ _ _⟩⟩
                    case measure => simp [RowKit.intOf]; omega
          · have hkS : k + 1 = S.size := by omega
            have HEND : Hid (Ar.negL 0 (L.drop (Ar.minusAt L)) = some n) := Lib.hid (by have h := HNEG.out; rw [HM.out]; rwa [List.take_of_length_le (by rw [List.length_drop, HLE.out]; omega)] at h)
            have HP := Lib.hid (rint_minus HM.out HLN.out HEND.out)
            have hcm := str_beq (Ar.itoa (n)) L
            rw [HBS.out] at hcm
            have HT := Lib.hid (fun W => rtext_any (n) W (by unfold Ar.inInt; omega))
            by_cases hq : Ar.itoa (n) = L
            · have HN : Hid (Ar.rint L = some (n)) := Lib.hid (by rw [HP.out, if_pos hq])
              rw [show (Ar.itoa (n) == L) = true from by simpa using hq] at hcm
              clear hq HP
              generalize bstr (Ar.itoa (n)) = T at *
              go_wp2_with fail
              refine (HT.out _).mono ?_
              rintro e w3 ⟨rfl, hb3⟩
              have HB3 := Lib.hid (HWQ.out.trans (hb3.mono HWQ.out.size))
              clear hb3
              go_wp2_with fail
              go_ret2
              exact ⟨.inl ⟨_, HN.out, rfl⟩, HB3.out⟩
            · have HN : Hid (Ar.rint L = none) := Lib.hid (by rw [HP.out, if_neg hq])
              rw [show (Ar.itoa (n) == L) = false from by simpa using hq] at hcm
              clear hq HP
              generalize bstr (Ar.itoa (n)) = T at *
              go_wp2_with fail
              refine (HT.out _).mono ?_
              rintro e w3 ⟨rfl, hb3⟩
              have HB3 := Lib.hid (HWQ.out.trans (hb3.mono HWQ.out.size))
              clear hb3
              go_wp2_with fail
              go_ret2
              exact ⟨.inr ⟨HN.out, _, rfl⟩, HB3.out⟩
    · have HM : Hid (Ar.minusAt L = 0) := Lib.hid (by unfold Ar.minusAt; rw [List.head?_eq_getElem?, HC0.out, if_neg (fun h => hc0 (by injection h))])
      have hz : (((S[0]'h0').toNat : Int) == 45) = false := by
        rw [beq_eq_false_iff_ne]
        intro h
        exact hc0 (UInt8.toNat_inj.1 (by have : (45 : UInt8).toNat = 45 := rfl; omega))
      clear hc0 HC0
      by_cases hlen : S.size = 0 ∨ 19 < S.size
      · have HN : Hid (Ar.rint L = none) := Lib.hid (rint_long (by rw [HM.out, HLE.out]; omega))
        by_cases hl1 : S.size = 0
        · have g1 : ((S.size : Int) == 0) = true := by rw [hl1]; rfl
          clear hlen
          go_enter Tryz.func96, Tryz.ntmps96
          go_wp2_with fail
          go_ret2
          exact ⟨.inr ⟨HN.out, _, rfl⟩, HW0.out⟩
        · have g1 : ((S.size : Int) == 0) = false := by rw [beq_eq_false_iff_ne]; omega
          have g2 : 19 < S.size := by omega
          clear hlen hl1
          go_enter Tryz.func96, Tryz.ntmps96
          go_wp2_with fail
          go_ret2
          exact ⟨.inr ⟨HN.out, _, rfl⟩, HW0.out⟩
      · have HLN : Hid (¬ (L.length = Ar.minusAt L ∨ Ar.minusAt L + 19 < L.length)) := Lib.hid (by rw [HM.out, HLE.out]; omega)
        have g1 : ((S.size : Int) == 0) = false := by rw [beq_eq_false_iff_ne]; omega
        have g2 : ¬ 19 < S.size := by omega
        have hat : 0 < S.size := by omega
        clear hlen
        go_enter Tryz.func96, Tryz.ntmps96
        go_wp2_with fail
        go_loopw [5, 6] (fun nx ix wr => ∃ (k : Nat) (n : Int), k ≤ S.size ∧ ix = .int .i64 ((k : Nat) : Int) ∧ nx = .int .i64 n ∧ -9223372036854775808 ≤ n ∧ n ≤ 0 ∧ Ar.negL 0 ((L.drop 0).take k) = some n ∧ ∃ q, wr = w.drewN q) (fun _ ix _ => S.size - (RowKit.intOf ix).toNat)
        case atStart => exact ⟨0, 0, by omega, rfl, rfl, by omega, by omega, rfl, 0, rfl⟩
        case round =>
          obtain ⟨k, n, hk, rfl, rfl, hn1, hn2, hneg, q, rfl⟩ := hrel
          have HNEG := Lib.hid hneg
          have HWQ := Lib.hid (below_drewN HW0.out q)
          clear hneg
          by_cases hlt : k < S.size
          · have HCK : Hid ((L.drop 0)[k]? = some S[k]) := Lib.hid (by rw [List.getElem?_drop, Nat.add_comm]; exact HAT.out _ hlt)
            obtain ⟨d, hd⟩ : ∃ d : Int, ((S[k]'hlt).toNat : Int) = d + 48 := ⟨((S[k]'hlt).toNat : Int) - 48, by omega⟩
            have hd1 : -48 ≤ d := by omega
            have hd2 : d ≤ 207 := by have := (S[k]'hlt).toNat_lt; omega
            have HSC : Hid (Ar.negS n S[k] = if d < 0 ∨ 9 < d ∨ n < -922337203685477580 ∨ n = -922337203685477580 ∧ 8 < d then none else some (10 * n - d)) := Lib.hid (by unfold Ar.negS; rw [hd, Int.add_sub_cancel])
            have HRET : Hid (Ar.negS n S[k] = none → Ar.rint L = none) := Lib.hid (fun h => rint_none (by rw [HM.out]; exact neg_stuck HNEG.out HCK.out h))
            have HNX : Hid (∀ m, Ar.negS n S[k] = some m → Ar.negL 0 ((L.drop 0).take (k + 1)) = some m ∧ -9223372036854775808 ≤ m ∧ m ≤ 0) := Lib.hid (fun m h => ⟨neg_next HNEG.out HCK.out h, Ar.negS_range h hn2⟩)
            generalize Ar.negS n S[k] = NS at *
            by_cases p1 : d < 0
            · have p1' : decide (d < 0) = true := decide_eq_true p1
              have HNO : Hid (Ar.rint L = none) := Lib.hid (HRET.out (by rw [HSC.out, if_pos (by omega)]))
              clear HSC HRET HNX
              go_wp2_with fail
              go_ret2
              exact ⟨.inr ⟨HNO.out, _, rfl⟩, by first | exact HWQ.out | (rw [World.drewN_drewN]; exact below_drewN HW0.out _)⟩
            · have p1' : decide (d < 0) = false := decide_eq_false p1
              by_cases p2 : 9 < d
              · have p2' : decide (9 < d) = true := decide_eq_true p2
                have HNO : Hid (Ar.rint L = none) := Lib.hid (HRET.out (by rw [HSC.out, if_pos (by omega)]))
                clear HSC HRET HNX
                go_wp2_with fail
                go_ret2
                exact ⟨.inr ⟨HNO.out, _, rfl⟩, by first | exact HWQ.out | (rw [World.drewN_drewN]; exact below_drewN HW0.out _)⟩
              · have p2' : decide (9 < d) = false := decide_eq_false p2
                by_cases p3 : n < -922337203685477580
                · have p3' : decide (n < -922337203685477580) = true := decide_eq_true p3
                  have HNO : Hid (Ar.rint L = none) := Lib.hid (HRET.out (by rw [HSC.out, if_pos (by omega)]))
                  clear HSC HRET HNX
                  go_wp2_with fail
                  go_ret2
                  exact ⟨.inr ⟨HNO.out, _, rfl⟩, by first | exact HWQ.out | (rw [World.drewN_drewN]; exact below_drewN HW0.out _)⟩
                · have p3' : decide (n < -922337203685477580) = false := decide_eq_false p3
                  by_cases p4 : n = -922337203685477580
                  · have p4' : (n == -922337203685477580) = true := by rw [p4]; rfl
                    by_cases p5 : 8 < d
                    · have p5' : decide (8 < d) = true := decide_eq_true p5
                      have HNO : Hid (Ar.rint L = none) := Lib.hid (HRET.out (by rw [HSC.out, if_pos (by omega)]))
                      clear HSC HRET HNX
                      go_wp2_with fail
                      go_ret2
                      exact ⟨.inr ⟨HNO.out, _, rfl⟩, by first | exact HWQ.out | (rw [World.drewN_drewN]; exact below_drewN HW0.out _)⟩
                    · have p5' : decide (8 < d) = false := decide_eq_false p5
                      have HYES : Hid (Ar.negL 0 ((L.drop 0).take (k + 1)) = some (10 * n - d) ∧ -9223372036854775808 ≤ 10 * n - d ∧ 10 * n - d ≤ 0) := Lib.hid (HNX.out _ (by rw [HSC.out, if_neg (by omega)]))
                      obtain ⟨hy1, hy2, hy3⟩ := HYES.out
                      replace hy1 := Lib.hid hy1
                      clear HSC HRET HNX HYES
                      go_wp2_with fail
                      go_roundw
                      case rel => exact ⟨k + 1, 10 * n - d, by omega, by go_num, by go_num, hy2, hy3, hy1.out, by first | exact ⟨_, rfl⟩ | exact ⟨_, World.drewN_drewN _ _ _⟩⟩
                      case measure => simp [RowKit.intOf]; omega
                  · have p4' : (n == -922337203685477580) = false := by rw [beq_eq_false_iff_ne]; exact p4
                    have HYES : Hid (Ar.negL 0 ((L.drop 0).take (k + 1)) = some (10 * n - d) ∧ -9223372036854775808 ≤ 10 * n - d ∧ 10 * n - d ≤ 0) := Lib.hid (HNX.out _ (by rw [HSC.out, if_neg (by omega)]))
                    obtain ⟨hy1, hy2, hy3⟩ := HYES.out
                    replace hy1 := Lib.hid hy1
                    clear HSC HRET HNX HYES
                    go_wp2_with fail
                    go_roundw
                    case rel => exact ⟨k + 1, 10 * n - d, by omega, by go_num, by go_num, hy2, hy3, hy1.out, by first | exact ⟨_, rfl⟩ | exact ⟨_, World.drewN_drewN _ _ _⟩⟩
                    case measure => simp [RowKit.intOf]; omega
          · have hkS : k = S.size := by omega
            have HEND : Hid (Ar.negL 0 (L.drop (Ar.minusAt L)) = some n) := Lib.hid (by have h := HNEG.out; rw [HM.out]; rwa [List.take_of_length_le (by rw [List.length_drop, HLE.out]; omega)] at h)
            have HP := Lib.hid (rint_plus HM.out HLN.out HEND.out)
            by_cases hmin : n = -9223372036854775808
            · have HN : Hid (Ar.rint L = none) := Lib.hid (by rw [HP.out, if_pos hmin])
              have gm : (n == -9223372036854775808) = true := by rw [hmin]; rfl
              clear HP hmin
              go_wp2_with fail
              go_ret2
              exact ⟨.inr ⟨HN.out, _, rfl⟩, HWQ.out⟩
            · have gm : (n == -9223372036854775808) = false := by rw [beq_eq_false_iff_ne]; exact hmin
              have hcm := str_beq (Ar.itoa (-n)) L
              rw [HBS.out] at hcm
              have HT := Lib.hid (fun W => rtext_any (-n) W (by unfold Ar.inInt; omega))
              by_cases hq : Ar.itoa (-n) = L
              · have HN : Hid (Ar.rint L = some (-n)) := Lib.hid (by rw [HP.out, if_neg hmin, if_pos hq])
                rw [show (Ar.itoa (-n) == L) = true from by simpa using hq] at hcm
                clear hq HP
                generalize bstr (Ar.itoa (-n)) = T at *
                go_wp2_with fail
                refine (HT.out _).mono ?_
                rintro e w3 ⟨rfl, hb3⟩
                have HB3 := Lib.hid (HWQ.out.trans (hb3.mono HWQ.out.size))
                clear hb3
                go_wp2_with fail
                go_ret2
                exact ⟨.inl ⟨_, HN.out, rfl⟩, HB3.out⟩
              · have HN : Hid (Ar.rint L = none) := Lib.hid (by rw [HP.out, if_neg hmin, if_neg hq])
                rw [show (Ar.itoa (-n) == L) = false from by simpa using hq] at hcm
                clear hq HP
                generalize bstr (Ar.itoa (-n)) = T at *
                go_wp2_with fail
                refine (HT.out _).mono ?_
                rintro e w3 ⟨rfl, hb3⟩
                have HB3 := Lib.hid (HWQ.out.trans (hb3.mono HWQ.out.size))
                clear hb3
                go_wp2_with fail
                go_ret2
                exact ⟨.inr ⟨HN.out, _, rfl⟩, HB3.out⟩
end Go.Proofs.YteadlcncnhbmjaaGreatDoor
/- The walk of the reference's Apply. Written by genay5.py. -/
namespace Ar
theorem astep_short {s : Str} (p : List Str × List Str) (h : s.length < 2) : astep p s = none := by
  rcases s with _ | ⟨a, _ | ⟨b, s⟩⟩
  · rfl
  · rfl
  · simp only [List.length_cons] at h
    omega
theorem astep_nosp {c d : UInt8} {t : Str} (p : List Str × List Str) (h : d ≠ 32) : astep p (c :: d :: t) = none := by
  have he : elem (c :: d :: t) = none := by
    show (if d = 32 then some (c, t) else none) = none
    rw [if_neg h]
  unfold astep
  rw [he]
theorem astep_sign {c : UInt8} {t : Str} (p : List Str × List Str) (h1 : c ≠ 61) (h2 : c ≠ 45) (h3 : c ≠ 43) : astep p (c :: 32 :: t) = none := by
  unfold astep
  rw [elem_one]
  simp only
  rw [if_neg h1, if_neg h2, if_neg h3]
theorem lines_two {t : Str} (h : (10 : UInt8) ∈ t) : 1 < (lines t).length := by
  obtain ⟨l, r, e, hl⟩ := List.eq_append_cons_of_mem h
  rw [e, lines_cons _ _ hl]
  have := List.length_pos_iff.2 (lines_ne r)
  simp only [List.length_cons]
  omega
theorem join_snoc (sep : Str) : ∀ (l : List Str) (x : Str), l ≠ [] → join sep (l ++ [x]) = join sep l ++ sep ++ x
  | [], x, h => absurd rfl h
  | [a], x, _ => rfl
  | a :: b :: r, x, _ => by
    have ih := join_snoc sep (b :: r) x (by simp)
    show a ++ sep ++ join sep ((b :: r) ++ [x]) = a ++ sep ++ join sep (b :: r) ++ sep ++ x
    rw [ih]
    simp
end Ar
namespace Go.Proofs.YteadlcncnhbmjaaGreatDoor
open Go.RowKit Go.Lib
set_option linter.unusedVariables false

theorem own_first {w : World} {base : Nat} {v : Value} {X : List (List UInt8)} (h : OwnS base w v X) (hne : X ≠ []) : ∃ g c, v = .slice (some ⟨g, 0, none⟩) X.length c ∧ X.length ≤ c ∧ g < w.heap.size := by
  obtain ⟨h1, h2⟩ := h
  rcases h2 with h2 | ⟨g, cap, cur, hv, hg, hh, hn, hcap, hsz, ht⟩
  · exact absurd (List.eq_nil_of_length_eq_zero h2.2) hne
  · refine ⟨g, cap, hv, hn, (Array.getElem?_eq_some_iff.1 hh).1⟩
theorem slice_left0 (W : World) (b o n cap m : Nat) (hm : m ≤ n) (hn : n ≤ cap) : (Instr.slice 30 (.slice (some ⟨b, o, none⟩) n cap) none (some (.int .i64 (m : Int))) none).run Tryz.prog W = .ok (.slice (some ⟨b, o, none⟩) m cap) W := by
  rw [run_slice_h W 30 _ n cap (by kernel_rfl) .i64 _ (by omega) (by omega)]
  rw [show (Go.sizeOf (Tryz.prog.elem 30)).run Tryz.prog W = .ok 1 W from by kernel_rfl]
  show Result.ok (sliced _ _ _ _ _) W = _
  unfold sliced
  rw [Int.toNat_natCast]
  by_cases h : cap = 0
  · rw [if_pos h, Nat.sub_zero, Nat.sub_zero]
  · rw [if_neg h, Nat.sub_zero, Nat.sub_zero]
    simp [Addr.add]
set_option maxHeartbeats 8000000 in
set_option maxRecDepth 100000 in
theorem rapply_any (a : ByteArray) (A : Option Addr) (ca : Nat) (d : List (List UInt8)) (w : World) (hr : Rd w A d.length (strL d)) (ha : a.size ≤ 2000) (hd : d.length ≤ 2000) (hx : ∀ s ∈ d, s.length ≤ 2000) :
    Calls Tryz.prog 38 #[.string a, .slice A d.length ca] w fun e w' => ApA (Ar.apply a.data.toList d) e ∧ Below w.heap.size w w' := by
  have HR0 := Lib.hid hr
  have HX := Lib.hid hx
  have HSH := Lib.hid (Ar.lines_short a.data.toList)
  have HNE := Lib.hid (Ar.lines_ne a.data.toList)
  have hll := Ar.lines_len a.data.toList
  have hsz : a.data.toList.length = a.size := str_size a
  rw [hsz] at hll
  have HSZ := Lib.hid hsz
  have HLN := Lib.hid (rlines_any a w (by omega))
  clear hsz hr hx
  generalize hXX : Ar.lines a.data.toList = X at *
  have HXX := Lib.hid hXX
  clear hXX
  go_enter Tryz.func38, Tryz.ntmps38
  go_wp2_with fail
  refine HLN.out.mono ?_
  rintro e w1 ⟨⟨v1, rfl, ho1⟩, hb1⟩
  obtain ⟨g1, c1, rfl, hc1, hg1⟩ := own_first ho1 HNE.out
  have HRL := Lib.hid (Rd.of_own ho1)
  have HRD := Lib.hid (HR0.out.below hb1)
  have HB1 := Lib.hid hb1
  have HO2 := Lib.hid (World.ownsRow_lit (base := w1.heap.size) (e := 9) (size := 1) w1 #[] 0 (Nat.le_refl _) (by decide) rfl)
  have HB2 := Lib.hid ((Below.refl w1.heap.size w1).alloc (Nat.le_refl _) (.cells #[] 9))
  have HFIN : Hid (∀ wr, Below w1.heap.size w1 wr → Below w.heap.size w wr) := Lib.hid (fun wr h => HB1.out.trans (h.mono HB1.out.size))
  have HPI0 : Hid (PI w1 (w1.alloc (.cells #[] 9)) w1.heap.size X d 0 (some ⟨g1, 0, none⟩) c1 X [] (.slice (some ⟨w1.heap.size, 0, none⟩) 0 0)) := Lib.hid ⟨Nat.zero_le _, hc1, HRL.out.below HB2.out, fun q e => by injection e with e; rw [← e]; exact hg1, HO2.out, rfl, HB2.out⟩
  clear ho1 hb1
  go_wp2_with fail
  go_loopw [6, 7, 8] (fun lx ox ix wr => ∃ (k : Nat) (A1 : Option Addr) (c1 : Nat) (L O : List (List UInt8)), ix = .int .i64 k ∧ lx = .slice A1 L.length c1 ∧ PI w1 wr w1.heap.size X d k A1 c1 L O ox) (fun _ _ ix _ => d.length - (RowKit.intOf ix).toNat)
  case atStart => exact ⟨0, _, _, X, [], rfl, rfl, HPI0.out⟩
  case round =>
    obtain ⟨k, A1, c1, L, O, rfl, rfl, hpi⟩ := hrel
    obtain ⟨AO, capO, rfl⟩ := own_any hpi.own
    have HPI := Lib.hid hpi
    have hkle := hpi.kle
    have hcap := hpi.cap
    have hbd := hpi.bound
    have HBD := Lib.hid hbd.2
    have hbl := hbd.1
    have hwrs := hpi.bel.size
    clear hpi hbd
    by_cases hlt : k < d.length
    · obtain ⟨ba, oa, s, rfl, hs, hc0⟩ := (HRD.out.below HPI.out.bel).str_at hlt
      have HS := Lib.hid hs
      have HSL : Hid (s.length ≤ 2000) := Lib.hid (HX.out s (List.mem_of_getElem? hs))
      have HNO : Hid (Ar.astep (L, O) s = none → ∀ wr', Below w1.heap.size w1 wr' → ApA (Ar.apply a.data.toList d) (.returned (.tuple #[.string ⟨#[]⟩, .bool false])) ∧ Below w.heap.size w wr') := Lib.hid (fun h wr' hb => ⟨.inr ⟨Ar.apply_stuck HS.out (by rw [HXX.out]; exact HPI.out.eq) h, rfl⟩, HFIN.out _ hb⟩)
      have HBQ : Hid (∀ q, Below w1.heap.size w1 (wr.drewN q)) := Lib.hid (fun q => below_drewN HPI.out.bel q)
      clear hs
      have hss := bstr_size s
      by_cases hsh : s.length < 2
      · have HAN := Lib.hid (Ar.astep_short (L, O) hsh)
        have y0 : decide (((bstr s).size : Int) < 2) = true := decide_eq_true (by omega)
        clear hss hsh
        generalize bstr s = S at *
        go_wp2_with fail
        go_ret2
        exact HNO.out HAN.out _ (by first | exact HPI.out.bel | exact HBQ.out _)
      · rcases s with _ | ⟨c, _ | ⟨b, t⟩⟩
        · exact absurd (by simp) hsh
        · exact absurd (by simp) hsh
        simp only [List.length_cons] at hss
        clear hsh
        have y0 : decide (((bstr (c :: b :: t)).size : Int) < 2) = false := decide_eq_false (by omega)
        have hi0 : 0 < (bstr (c :: b :: t)).size := by omega
        have hi1 : 1 < (bstr (c :: b :: t)).size := by omega
        have hi2 : 2 ≤ (bstr (c :: b :: t)).size := by omega
        clear hss
        have e0 : (bstr (c :: b :: t))[0]'hi0 = c := rfl
        have e1 : (bstr (c :: b :: t))[1]'hi1 = b := rfl
        by_cases hb : b = 32
        · have hy1 : ((((bstr (c :: b :: t))[1]'hi1).toNat : Int) != 32) = false := by rw [e1, hb]; rfl
          have hex : (bstr (c :: b :: t)).extract 2 (bstr (c :: b :: t)).size = bstr t := extract_bstr (bstr (c :: b :: t)) 2
          subst hb
          have HTL : Hid (t.length ≤ 2000) := Lib.hid (by have := HSL.out; simp only [List.length_cons] at this; omega)
          have htl : (bstr t).size ≤ 2000 := by rw [bstr_size]; exact HTL.out
          clear e1
          by_cases k61 : c = 61
          · have g61 : ((((bstr (c :: 32 :: t))[0]'hi0).toNat : Int) == 61) = true := by rw [e0, k61]; rfl
            have HAS : Hid (Ar.astep (L, O) (c :: 32 :: t) = (match Ar.pnum t with | some n => if 1 ≤ n ∧ n ≤ L.length then some (L.drop n.toNat, O ++ L.take n.toNat) else none | none => none)) := Lib.hid (by rw [k61]; exact Ar.astep_eq L O t)
            have HIN := Lib.hid (fun W => rint_any (bstr t) W (by omega))
            rw [show (bstr t).data.toList = t from rfl] at HIN
            have HRP := Lib.hid (Ar.rint_eq t)
            have hrp := HRP.out
            have HEQR := Lib.hid hrp
            clear hrp e0 k61
            generalize hsS : (c :: 32 :: t) = s at *
            generalize bstr s = S at *
            generalize htt : bstr t = ST at *
            clear hsS
            go_wp2_with fail
            refine (HIN.out _).mono ?_
            rintro e w3 ⟨hia, hb3⟩
            have HB3 := Lib.hid hb3
            have HBW3 : Hid (Below w1.heap.size w1 w3) := Lib.hid (by first | exact HPI.out.bel.trans (hb3.mono hwrs) | exact (HBQ.out _).trans (hb3.mono hwrs))
            clear hb3
            rcases hia with ⟨v, hv, rfl⟩ | ⟨hv, n0, rfl⟩
            · have HPN : Hid (Ar.pnum t = some v) := Lib.hid (by rw [← HEQR.out]; exact hv)
              have hvr := Ar.pnum_range HPN.out
              obtain ⟨hv1, hv2⟩ := hvr
              clear hv
              by_cases hin : 1 ≤ v ∧ v ≤ L.length
              · obtain ⟨hin1, hin2⟩ := hin
                obtain ⟨T, L2, hLT, hTv⟩ : ∃ T L2, L = T ++ L2 ∧ (T.length : Int) = v := ⟨L.take v.toNat, L.drop v.toNat, (List.take_append_drop _ _).symm, by rw [List.length_take]; omega⟩
                subst hTv
                have HLT := Lib.hid hLT
                have hlen : L.length = T.length + L2.length := by rw [hLT, List.length_append]
                have hvA : decide ((T.length : Int) < 1) = false := decide_eq_false (by omega)
                have hvB : decide ((L.length : Int) < (T.length : Int)) = false := decide_eq_false (by omega)
                obtain ⟨bL, oL, x0, hA1, _, _⟩ := HPI.out.rd.str_at (k := 0) (by omega)
                subst hA1
                have hs1 : ∀ W : World, (Instr.slice 30 (.slice (some ⟨bL, oL, none⟩) L.length c1) none (some (.int .i64 (T.length : Int))) (some (.int .i64 (T.length : Int)))).run Tryz.prog W = .ok (.slice (some ⟨bL, oL, none⟩) T.length T.length) W := fun W => slice_left W bL oL L.length c1 T.length (by omega) hcap
                have hs1b : ∀ W : World, (Instr.slice 30 (.slice (some ⟨bL, oL, none⟩) L.length c1) none (some (.int .i64 (T.length : Int))) none).run Tryz.prog W = .ok (.slice (some ⟨bL, oL, none⟩) T.length c1) W := fun W => slice_left0 W bL oL L.length c1 T.length (by omega) hcap
                obtain ⟨A2, hA2b, hA2, hs2⟩ := slice_rest bL oL L.length c1 T.length (by omega) hcap
                have hs2' : ∀ W : World, (Instr.slice 30 (.slice (some ⟨bL, oL, none⟩) L.length c1) (some (.int .i64 (T.length : Int))) none none).run Tryz.prog W = .ok (.slice (some A2) L2.length (c1 - T.length)) W := fun W => by rw [hs2 W, hlen, Nat.add_sub_cancel_left]
                have HAS2 : Hid (Ar.astep (L, O) s = some (L2, O ++ T)) := Lib.hid (by rw [HAS.out, HPN.out]; simp only; rw [if_pos ⟨hin1, hin2⟩, hLT, Int.toNat_natCast, List.drop_left, List.take_left])
                have HRF : Hid (Rd wr (some ⟨bL, oL, none⟩) T.length (strL T)) := Lib.hid (by have h := HPI.out.rd; rw [hLT] at h; exact h.front)
                have HRR : Hid (Rd wr (some A2) L2.length (strL L2)) := Lib.hid (by have h := HPI.out.rd; rw [hLT] at h; exact h.rest (by rw [← hLT]; exact hA2))
                have HLOW : Hid (A2.block < w1.heap.size) := Lib.hid (by rw [hA2b]; exact HPI.out.low _ rfl)
                have HLEN := Lib.hid hlen
                clear hs2 hA2 hA2b hLT hlen
                have HOW5 : Hid (OwnS w1.heap.size w3 (.slice AO O.length capO) O) := Lib.hid (by first | exact own_below (show OwnS w1.heap.size wr _ O from HPI.out.own) HB3.out (Nat.le_refl _) | exact own_below (show OwnS w1.heap.size (wr.drewN _) _ O from HPI.out.own) HB3.out (Nat.le_refl _))
                have HRF5 : Hid (Rd w3 (some ⟨bL, oL, none⟩) T.length (strL T)) := Lib.hid (by first | exact HRF.out.below HB3.out | exact (HRF.out.drewN _).below HB3.out)
                have HRR5 : Hid (Rd w3 (some A2) L2.length (strL L2)) := Lib.hid (by first | exact HRR.out.below HB3.out | exact (HRR.out.drewN _).below HB3.out)
                have hs5 := HBW3.out.size
                have hTL : T.length ≤ 100000 := by omega
                go_wp2_with (at_builtin; refine app_rdS rfl _ _ rfl w3 (.slice AO O.length capO) O T w1.heap.size rfl (some ⟨bL, oL, none⟩) c1 rfl HOW5.out HRF5.out hs5 (by omega) ?_; intro v6 w6 ho6 hg6 hb6; obtain ⟨A6, cap6, rfl⟩ := own_any ho6)
                have HP : Hid (PI w1 w6 w1.heap.size X d (k + 1) (some A2) (c1 - T.length) L2 (O ++ T) (.slice A6 (O ++ T).length cap6)) := Lib.hid (HPI.out.step hlt HS.out HAS2.out (hb6 _ HBW3.out) (HRR5.out.low (hb6 _ (Below.refl _ _)) (fun q e => by injection e with e; rw [← e]; exact HLOW.out)) (fun q e => by injection e with e; rw [← e]; exact HLOW.out) ho6 (by have := HLEN.out; omega))
                rw [show (O ++ T).length = O.length + T.length from List.length_append] at HP
                clear hg6 hb6 ho6
                go_wp2_with fail
                go_roundw
                case rel => exact ⟨k + 1, some A2, c1 - T.length, L2, O ++ T, by go_num, rfl, HP.out⟩
                case measure => simp [RowKit.intOf]; omega
              · have HAN : Hid (Ar.astep (L, O) s = none) := Lib.hid (by rw [HAS.out, HPN.out]; simp only; rw [if_neg hin])
                by_cases hv0 : v < 1
                · have hv0' : decide (v < 1) = true := decide_eq_true hv0
                  clear hin
                  go_wp2_with fail
                  go_ret2
                  exact HNO.out HAN.out _ HBW3.out
                · have hv0' : decide (v < 1) = false := decide_eq_false hv0
                  have hvL : decide ((L.length : Int) < v) = true := decide_eq_true (by omega)
                  clear hin hv0
                  go_wp2_with fail
                  go_ret2
                  exact HNO.out HAN.out _ HBW3.out
            · have HAN : Hid (Ar.astep (L, O) s = none) := Lib.hid (by rw [HAS.out, ← HEQR.out, hv])
              clear hv
              go_wp2_with fail
              go_ret2
              exact HNO.out HAN.out _ HBW3.out
          · have g61 : ((((bstr (c :: 32 :: t))[0]'hi0).toNat : Int) == 61) = false := by rw [e0, beq_eq_false_iff_ne]; exact fun h => k61 (Ar.byte_ext (by rw [show c.toNat = 61 from by omega]; rfl))
            by_cases k45 : c = 45
            · have g45 : ((((bstr (c :: 32 :: t))[0]'hi0).toNat : Int) == 45) = true := by rw [e0, k45]; rfl
              by_cases hL0 : L.length = 0
              · have HAN : Hid (Ar.astep (L, O) (c :: 32 :: t) = none) := Lib.hid (by rw [k45, List.eq_nil_of_length_eq_zero hL0, Ar.astep_minus])
                have z1 : ((L.length : Int) == 0) = true := by rw [hL0]; rfl
                clear e0 k61 k45
                generalize hsS : (c :: 32 :: t) = s at *
                generalize bstr s = S at *
                generalize htt : bstr t = ST at *
                clear hsS
                go_wp2_with fail
                go_ret2
                exact HNO.out HAN.out _ (by first | exact HPI.out.bel | exact HBQ.out _)
              · have z1 : ((L.length : Int) == 0) = false := by rw [beq_eq_false_iff_ne]; omega
                have z2 : ¬ ((L.length : Int) = 0) := by omega
                have z3 : ¬ (L = []) := fun e => hL0 (by rw [e]; rfl)
                obtain ⟨bL, oL, x0, hA1, hx0, hcx⟩ := HPI.out.rd.str_at (k := 0) (by omega)
                subst hA1
                rw [Nat.add_zero] at hcx
                obtain ⟨L2, hLT⟩ : ∃ L2, L = [x0] ++ L2 := by
                  cases hh : L with
                  | nil => exact absurd hh z3
                  | cons y L2 => rw [hh] at hx0; injection hx0 with hx0; exact ⟨L2, by rw [hx0]; rfl⟩
                have hcm := str_beq x0 t
                have hlen : L.length = 1 + L2.length := by rw [hLT, List.length_append]; rfl
                have HLEN := Lib.hid hlen
                have hl1 : 1 ≤ L.length := by omega
                by_cases hxt : x0 = t
                · have gcm : (!((bstr x0).toList == (bstr t).toList)) = false := by rw [hcm, hxt]; simp
                  have HAS2 : Hid (Ar.astep (L, O) (c :: 32 :: t) = some (L2, O)) := Lib.hid (by rw [k45, hLT, Ar.astep_minus]; show (if x0 = t then some (L2, O) else none) = _; rw [if_pos hxt])
                  obtain ⟨A2, hA2b, hA2, hs2⟩ := slice_rest bL oL L.length c1 1 (by omega) hcap
                  have hs2' : ∀ W : World, (Instr.slice 30 (.slice (some ⟨bL, oL, none⟩) L.length c1) (some (.int .i64 1)) none none).run Tryz.prog W = .ok (.slice (some A2) L2.length (c1 - 1)) W := fun W => by have h := hs2 W; rw [hlen, Nat.add_sub_cancel_left] at h; rw [hlen]; exact h
                  have HRR : Hid (Rd wr (some A2) L2.length (strL L2)) := Lib.hid (by have h := HPI.out.rd; rw [hLT] at h; exact h.rest (by rw [← hLT]; exact hA2))
                  have HLOW : Hid (A2.block < w1.heap.size) := Lib.hid (by rw [hA2b]; exact HPI.out.low _ rfl)
                  have HP : Hid (∀ q, PI w1 (wr.drewN q) w1.heap.size X d (k + 1) (some A2) (c1 - 1) L2 O (.slice AO O.length capO)) := Lib.hid (fun q => HPI.out.step hlt HS.out HAS2.out (HBQ.out q) (HRR.out.drewN q) (fun q e => by injection e with e; rw [← e]; exact HLOW.out) HPI.out.own (by have := HLEN.out; omega))
                  clear hs2 hA2 hA2b hLT hlen hcm hxt hx0 hL0 e0 k61 k45
                  generalize hsS : (c :: 32 :: t) = s at *
                  generalize bstr s = S at *
                  generalize htt : bstr t = ST at *
                  generalize bstr x0 = SX at *
                  clear hsS
                  go_wp2_with fail
                  try (go_quiet (fail); go_wp2_with fail)
                  go_roundw
                  case rel => exact ⟨k + 1, some A2, c1 - 1, L2, O, by go_num, rfl, by first | exact HP.out 0 | exact HP.out _⟩
                  case measure => simp [RowKit.intOf]; omega
                · have gcm : (!((bstr x0).toList == (bstr t).toList)) = true := by rw [hcm]; simpa using hxt
                  have HAN : Hid (Ar.astep (L, O) (c :: 32 :: t) = none) := Lib.hid (by rw [k45, hLT, Ar.astep_minus]; show (if x0 = t then some (L2, O) else none) = _; rw [if_neg hxt])
                  clear hLT hlen hcm hxt hx0 hL0 e0 k61 k45
                  generalize hsS : (c :: 32 :: t) = s at *
                  generalize bstr s = S at *
                  generalize htt : bstr t = ST at *
                  generalize bstr x0 = SX at *
                  clear hsS
                  go_wp2_with fail
                  go_ret2
                  exact HNO.out HAN.out _ (by first | exact HPI.out.bel | exact HBQ.out _)
            · have g45 : ((((bstr (c :: 32 :: t))[0]'hi0).toNat : Int) == 45) = false := by rw [e0, beq_eq_false_iff_ne]; exact fun h => k45 (Ar.byte_ext (by rw [show c.toNat = 45 from by omega]; rfl))
              by_cases k43 : c = 43
              · have g43 : ((((bstr (c :: 32 :: t))[0]'hi0).toNat : Int) != 43) = false := by rw [e0, k43]; rfl
                have HAS : Hid (Ar.astep (L, O) (c :: 32 :: t) = if (10 : UInt8) ∈ t then none else some (L, O ++ [t])) := Lib.hid (by rw [k43]; exact Ar.astep_plus L O t)
                have HLT := Lib.hid (fun W => rlines_any (bstr t) W (by omega))
                rw [show (bstr t).data.toList = t from rfl] at HLT
                clear e0 k61 k45 k43
                generalize hsS : (c :: 32 :: t) = s at *
                clear hsS
                by_cases hin : (10 : UInt8) ∈ t
                · have HAN : Hid (Ar.astep (L, O) s = none) := Lib.hid (by rw [HAS.out, if_pos hin])
                  have h2 : decide ((1 : Int) < ((Ar.lines t).length : Int)) = true := decide_eq_true (by have := Ar.lines_two hin; omega)
                  clear hin
                  generalize Ar.lines t = LT at *
                  generalize bstr s = S at *
                  generalize htt : bstr t = ST at *
                  go_wp2_with fail
                  refine (HLT.out _).mono ?_
                  rintro e w3 ⟨⟨v3, rfl, ho3⟩, hb3⟩
                  obtain ⟨A3, c3, rfl⟩ := own_any ho3
                  have HBW3 : Hid (Below w1.heap.size w1 w3) := Lib.hid (by first | exact HPI.out.bel.trans (hb3.mono hwrs) | exact (HBQ.out _).trans (hb3.mono hwrs))
                  clear ho3 hb3
                  go_wp2_with fail
                  go_ret2
                  exact HNO.out HAN.out _ HBW3.out
                · have HAS2 : Hid (Ar.astep (L, O) s = some (L, O ++ [t])) := Lib.hid (by rw [HAS.out, if_neg hin])
                  have h2 : decide ((1 : Int) < ((Ar.lines t).length : Int)) = false := by rw [Ar.lines_of_noLF t hin]; rfl
                  clear hin
                  generalize Ar.lines t = LT at *
                  have HSTR : Hid (∀ u ∈ [Value.string (bstr t)], u.oneCell' = true) := Lib.hid (one_strs [t])
                  have HTE : Hid (strL [t] = [Value.string (bstr t)]) := Lib.hid rfl
                  generalize bstr s = S at *
                  generalize htt : bstr t = ST at *
                  go_wp2_with fail
                  refine (HLT.out _).mono ?_
                  rintro e w3 ⟨⟨v3, rfl, ho3⟩, hb3⟩
                  obtain ⟨A3, c3, rfl⟩ := own_any ho3
                  have HBW3 : Hid (Below w1.heap.size w1 w3) := Lib.hid (by first | exact HPI.out.bel.trans (hb3.mono hwrs) | exact (HBQ.out _).trans (hb3.mono hwrs))
                  have hsz3 := HBW3.out.size
                  have HB3 := Lib.hid hb3
                  have HOWN : Hid (w3.ownsRow w1.heap.size 9 1 (.slice AO O.length capO) O.length (strL O)) := Lib.hid (by first | exact own_below (show OwnS w1.heap.size wr _ O from HPI.out.own) HB3.out (Nat.le_refl _) | exact own_below (show OwnS w1.heap.size (wr.drewN _) _ O from HPI.out.own) HB3.out (Nat.le_refl _))
                  have HRD3 : Hid (Rd w3 A1 L.length (strL L)) := Lib.hid (by first | exact HPI.out.rd.below HB3.out | exact (HPI.out.rd.drewN _).below HB3.out)
                  clear ho3 hb3
                  go_wp2_with (at_builtin; refine app_lit rowStr rfl _ _ rfl w3 [.string ST] 1 rfl HSTR.out (.slice AO O.length capO) O.length (strL O) w1.heap.size rfl HOWN.out rfl hsz3 (by omega) ?_; intro v6 w6 ho6 hg6 hb6; obtain ⟨A6, cap6, rfl⟩ := own_slice ho6)
                  have HP : Hid (PI w1 w6 w1.heap.size X d (k + 1) A1 c1 L (O ++ [t]) (.slice A6 (O.length + 1) cap6)) := Lib.hid (HPI.out.step hlt HS.out HAS2.out (hb6 _ HBW3.out) (HRD3.out.low (hb6 _ (Below.refl _ _)) HPI.out.low) HPI.out.low (by unfold OwnS; rw [List.length_append, strL_append, HTE.out]; exact ho6) HPI.out.cap)
                  clear hg6 hb6 ho6
                  go_roundw
                  case rel => exact ⟨k + 1, A1, c1, L, O ++ [t], by go_num, rfl, HP.out⟩
                  case measure => simp [RowKit.intOf]; omega
              · have g43 : ((((bstr (c :: 32 :: t))[0]'hi0).toNat : Int) != 43) = true := by rw [e0, bne_iff_ne]; exact fun h => k43 (Ar.byte_ext (by rw [show c.toNat = 43 from by omega]; rfl))
                have HAN : Hid (Ar.astep (L, O) (c :: 32 :: t) = none) := Lib.hid (Ar.astep_sign (L, O) k61 k45 k43)
                clear e0 k61 k45 k43
                generalize hsS : (c :: 32 :: t) = s at *
                generalize bstr s = S at *
                generalize htt : bstr t = ST at *
                clear hsS
                go_wp2_with fail
                go_ret2
                exact HNO.out HAN.out _ (by first | exact HPI.out.bel | exact HBQ.out _)
        · have hy1 : ((((bstr (c :: b :: t))[1]'hi1).toNat : Int) != 32) = true := by rw [e1, bne_iff_ne]; exact fun h => hb (Ar.byte_ext (by rw [show b.toNat = 32 from by omega]; rfl))
          have HAN : Hid (Ar.astep (L, O) (c :: b :: t) = none) := Lib.hid (Ar.astep_nosp (L, O) hb)
          clear e0 e1 hb
          generalize hsS : (c :: b :: t) = s at *
          generalize bstr s = S at *
          clear hsS
          go_wp2_with fail
          go_ret2
          exact HNO.out HAN.out _ (by first | exact HPI.out.bel | exact HBQ.out _)
    · obtain rfl : k = d.length := by omega
      have HEQ : Hid (Ar.aall (X, []) d = some (L, O)) := Lib.hid (by have := HPI.out.eq; rwa [List.take_length] at this)
      have HEND : Hid (Ar.apply a.data.toList d = if L = [] ∧ O ≠ [] then some (Ar.join [10] O) else none) := Lib.hid (Ar.apply_end (by rw [HXX.out]; exact HEQ.out))
      have HEL : Hid (∀ y ∈ O, y.length ≤ 2000) := Lib.hid (fun y hy => by
        rcases HBD.out y hy with hy | ⟨q, hq, hy⟩
        · have := HSH.out y hy
          have h2 := HSZ.out
          omega
        · exact Nat.le_trans hy (HX.out q hq))
      have HJ : Hid (∀ j, (Ar.join [10] (O.take j)).length ≤ 100000000) := Lib.hid (fun j => by
        have h1 := Ar.join_le [10] 2000 (O.take j) (fun y hy => HEL.out y (List.mem_of_mem_take hy))
        have h2 : (O.take j).length ≤ 4001 := by rw [List.length_take]; omega
        have h3 := Nat.mul_le_mul_right (2000 + [10].length) h2
        simp only [List.length_singleton] at h1 h3
        omega)
      by_cases hL0 : L.length = 0
      · have hL : L = [] := List.eq_nil_of_length_eq_zero hL0
        have z1 : ¬ (0 < L.length) := by omega
        by_cases hO0 : O.length = 0
        · have hO : O = [] := List.eq_nil_of_length_eq_zero hO0
          have z2 : ((O.length : Int) == 0) = true := by rw [hO0]; rfl
          have HNN : Hid (Ar.apply a.data.toList d = none) := Lib.hid (by rw [HEND.out, if_neg (fun h => h.2 hO)])
          clear hL hO
          go_wp2_with fail
          go_ret2
          exact ⟨.inr ⟨HNN.out, rfl⟩, HFIN.out _ HPI.out.bel⟩
        · have z2 : ((O.length : Int) == 0) = false := by rw [beq_eq_false_iff_ne]; omega
          have hO1 : 0 < O.length := by omega
          have HNN : Hid (Ar.apply a.data.toList d = some (Ar.join [10] O)) := Lib.hid (by rw [HEND.out, if_pos ⟨hL, fun h => hO0 (by rw [h]; rfl)⟩])
          clear hL
          have HRO := Lib.hid (Rd.of_own HPI.out.own)
          obtain ⟨bO, oO, x0, hAO, hx0, hcx⟩ := HRO.out.str_at (k := 0) hO1
          subst hAO
          rw [Nat.add_zero] at hcx
          have HJ1 : Hid (Ar.join [10] (O.take 1) = x0) := Lib.hid (by
            cases hh : O with
            | nil => rw [hh] at hO1; simp at hO1
            | cons y r => rw [hh] at hx0; injection hx0 with hx0)
          clear hx0
          generalize hsx : bstr x0 = SX at *
          go_wp2_with fail
          go_loopw [13, 14] (fun sx ix ws => ∃ j q : Nat, 1 ≤ j ∧ j ≤ O.length ∧ ix = .int .i64 j ∧ sx = .string (bstr (Ar.join [10] (O.take j))) ∧ ws = wr.drewN q) (fun _ ix _ => O.length - (RowKit.intOf ix).toNat)
          case atStart => exact ⟨1, 0, Nat.le_refl _, hO1, rfl, by rw [HJ1.out, hsx], rfl⟩
          case round =>
            obtain ⟨j, q, hj1, hjl, rfl, rfl, rfl⟩ := hrel
            by_cases hjlt : j < O.length
            · obtain ⟨bj, oj, xj, ej, hxj, hcj⟩ := (HRO.out.drewN q).str_at hjlt
              injection ej with ej
              injection ej with ej1 ej2 ej3
              subst ej1 ej2
              have HSN : Hid (bstr (Ar.join [10] (O.take j)) ++ (⟨#[10]⟩ : ByteArray) ++ bstr xj = bstr (Ar.join [10] (O.take (j + 1)))) := Lib.hid (by
                rw [take_snoc hxj, Ar.join_snoc [10] _ _ (fun h => by have := congrArg List.length h; rw [List.length_take, List.length_nil] at this; omega)]
                exact str_eq (by simp [bstr]))
              have hq0 : (bstr (Ar.join [10] (O.take j))).size ≤ 100000000 := by rw [bstr_size]; exact HJ.out _
              have hq1 : (bstr xj).size ≤ 2000 := by rw [bstr_size]; exact HEL.out _ (List.mem_of_getElem? hxj)
              have hq2 : ¬ 9223372036854775807 < (bstr (Ar.join [10] (O.take j))).size + 1 := by omega
              have hq3 : ¬ 9223372036854775807 < (bstr (Ar.join [10] (O.take j))).size + 1 + (bstr xj).size := by omega
              clear hxj hq0 hq1
              generalize bstr xj = XJ at *
              generalize bstr (Ar.join [10] (O.take j)) = BJ at *
              go_wp2_with fail
              try (go_quiet (fail); go_wp2_with fail)
              go_roundw
              case rel => exact ⟨j + 1, _, by omega, by omega, by go_num, by rw [HSN.out], rfl⟩
              case measure => simp [RowKit.intOf]; omega
            · obtain rfl : j = O.length := by omega
              have HTO : Hid (Ar.join [10] (O.take O.length) = Ar.join [10] O) := Lib.hid (by rw [List.take_length])
              rw [HTO.out]
              have HBE := Lib.hid (below_drewN HPI.out.bel q)
              go_wp2_with fail
              go_ret2
              exact ⟨.inl ⟨_, HNN.out, rfl⟩, HFIN.out _ HBE.out⟩
      · have z1 : 0 < L.length := by omega
        have HNN : Hid (Ar.apply a.data.toList d = none) := Lib.hid (by rw [HEND.out, if_neg (fun h => hL0 (by rw [h.1]; rfl))])
        go_wp2_with fail
        go_ret2
        exact ⟨.inr ⟨HNN.out, rfl⟩, HFIN.out _ HPI.out.bel⟩
end Go.Proofs.YteadlcncnhbmjaaGreatDoor
