/- The texts Jb, Jc, Jd of this proof, one behind the other. -/
import Derived.Deep.CutBlock
import Derived.Test.YtipclcaafpckcaaGreatDoorMap
set_option linter.unusedSimpArgs false
set_option maxHeartbeats 16000000
set_option maxRecDepth 100000
/- The text Jb. -/
namespace Rn
theorem strip_at (s : Str) : (strip s).2 = s.drop (2 * (strip s).1) := by
 have h := strip_inv s
 have : s.drop (2 * (strip s).1) = (List.replicate (2 * (strip s).1) 32 ++ (strip s).2).drop (2 * (strip s).1) := congrArg _ h
 rw [this, List.drop_append_of_le_length (by simp), List.drop_of_length_le (by simp)]
 rfl
theorem pre_two {s : Str} {p : Nat} : [32, 32] <+: s.drop p ↔ s[p]? = some 32 ∧ s[p + 1]? = some 32 := by
 constructor
 ·rintro ⟨t, h⟩
  have h0 : (s.drop p)[0]? = some 32 := by rw [← h]; rfl
  have h1 : (s.drop p)[1]? = some 32 := by rw [← h]; rfl
  rw [List.getElem?_drop] at h0 h1
  exact ⟨h0, h1⟩
 ·rintro ⟨h0, h1⟩
  obtain ⟨l0, e0⟩ := List.getElem?_eq_some_iff.1 h0
  obtain ⟨l1, e1⟩ := List.getElem?_eq_some_iff.1 h1
  exact ⟨s.drop (p + 2), by rw [List.drop_eq_getElem_cons l0, List.drop_eq_getElem_cons l1, e0, e1]; rfl⟩
def rowA (lv : Nat) (a r : Str) : Option Rw := if ruled a then match cutB 32 r with
  | none => none
  | some (b, c) => match Sm.un b, code c with
   | some i, some e => some ⟨lv, a, (i : Int), e⟩
   | _, _ => none
  else none
end Rn
namespace Go.Proofs.YtipclcaafpckcaaGreatDoor
open Go.RowKit Go.Lib
set_option linter.unusedVariables false
set_option linter.unusedSimpArgs false
def rxC (x : Rn.Rw) : List Value := [.int .i64 (x.lv : Int), .string (bstr x.rule), .int .i64 x.id, .int .i64 x.err, .slice none 0 0]
abbrev zRx : Array Value := #[.int .i64 0, .string ⟨#[]⟩, .int .i64 0, .int .i64 0, .slice none 0 0]
theorem size_rx {a b c d e : Value} : (Tryz.prog.info? 77).map (·.size) = some (#[a, b, c, d, e] : Array Value).size := by kernel_rfl
def RRowA (s : List UInt8) (e : Ending) : Prop := (∃ x, Rn.row s = some x ∧ e = .returned (.tuple #[.agg (rxC x).toArray, .bool true])) ∨
 (Rn.row s = none ∧ ∃ V, e = .returned (.tuple #[.agg V, .bool false]) ∧ V.size = 5 ∧ V.all (·.oneCell') = true)
theorem rrow_any (S : ByteArray) (w : World) (hs : S.size ≤ 1000000) : Calls Tryz.prog 35 #[.string S] w fun e w' => RRowA S.data.toList e ∧ Below w.heap.size w w' := by
 have HAT := hid (at_str S)
 have hsz := str_size S
 have HSZ := hid hsz
 have hka0 := Blk.new w 77 zRx
 have HKA1 := hid (hka0.alloc (.cells zRx 77))
 have hkb0 := Blk.new (w.alloc (.cells zRx 77)) 77 zRx
 rw [World.size_alloc] at hkb0
 have HKB1 := hid hkb0
 have HB1 := hid (((Below.refl w.heap.size w).alloc (Nat.le_refl _) (.cells zRx 77)).alloc (by rw [World.size_alloc]; omega) (.cells zRx 77))
 clear hka0 hkb0 hsz
 have HSA : Hid ((w.alloc (.cells zRx 77)).heap.size = w.heap.size + 1) := hid (World.size_alloc ..)
 generalize hw1 : (w.alloc (.cells zRx 77)).alloc (.cells zRx 77) = w1 at *
 go_enter Tryz.func35, Tryz.ntmps35
 go_upto_block 0 with (fail)
 go_cut [5] from 12 to 36 (fun ix wx => ∃ j p : Nat, p = 2 * j ∧ p ≤ S.size ∧ ix = .int .i64 (p : Int) ∧ Rn.strip S.data.toList = (j, S.data.toList.drop p) ∧ Blk wx (w.heap.size + 1) 77 #[.int .i64 (j : Int), .string ⟨#[]⟩, .int .i64 0, .int .i64 0, .slice none 0 0] ∧ Blk wx w.heap.size 77 zRx ∧ Below w.heap.size w wx)
 case first =>
  go_wp2_with fail
  go_loopw [5] (fun ix wr => ∃ j p : Nat, Hid (p = 2 * j) ∧ p ≤ S.size ∧ ix = .int .i64 (p : Int) ∧ Hid (Rn.strip S.data.toList = (j + (Rn.strip (S.data.toList.drop p)).1, (Rn.strip (S.data.toList.drop p)).2)) ∧ Blk wr (w.heap.size + 1) 77 #[.int .i64 (j : Int), .string ⟨#[]⟩, .int .i64 0, .int .i64 0, .slice none 0 0] ∧ Blk wr w.heap.size 77 zRx ∧ Below w.heap.size w wr) (fun ix _ => S.size - (RowKit.intOf ix).toNat)
  case atStart => exact ⟨0, 0, hid rfl, Nat.zero_le _, rfl, hid (by rw [List.drop_zero, Nat.zero_add]), HKB1.out, HKA1.out, HB1.out⟩
  case round =>
   obtain ⟨j, p, HP, hp, rfl, HST, hkb, hka, hb⟩ := hrel
   have HKB := hid hkb
   have HKA := hid hka
   have HB := hid hb
   have hc0 := hkb.cell 0
   have hf0 := hkb.frozen 0
   clear hkb hka hb
   by_cases hq : [32, 32] <+: S.data.toList.drop p
   ·obtain ⟨h0, h1⟩ := Rn.pre_two.1 hq
    have HS2 := hid (Rn.strip_yes hq)
    have l1 := (List.getElem?_eq_some_iff.1 h1).1
    rw [← HSZ.out] at l1
    have l0 : p < S.size := by omega
    have g0 : ((S[p].toNat : Int) == 32) = true := by
     have := HAT.out p l0; rw [h0] at this; injection this with this; rw [← this]; rfl
    have g1 : ((S[p + 1].toNat : Int) == 32) = true := by
     have := HAT.out (p + 1) l1; rw [h1] at this; injection this with this; rw [← this]; rfl
    clear hq h0 h1
    have HPJ : Hid (p + 2 = 2 * (j + 1)) := hid (by have := HP.out; omega)
    have HS3 : Hid (Rn.strip S.data.toList = (j + 1 + (Rn.strip (S.data.toList.drop (p + 2))).1, (Rn.strip (S.data.toList.drop (p + 2))).2)) := hid (by rw [HST.out, HS2.out, List.drop_drop]; simp only []; congr 1; omega)
    have hj6 : j ≤ 1000000 := by have := HP.out; omega
    go_wp2_with fail
    go_roundw
    case rel => exact ⟨j + 1, p + 2, HPJ, by omega, by go_num, HS3, HKB.out.set_ 0 _, HKA.out.far (by show w.heap.size ≠ w.heap.size + 1; omega) _, HB.out.setCell (by show w.heap.size ≤ w.heap.size + 1; omega) _⟩
    case measure => simp [RowKit.intOf]; omega
   ·have HS2 := hid (Rn.strip_no hq)
    have HS3 : Hid (Rn.strip S.data.toList = (j, S.data.toList.drop p)) := hid (by rw [HST.out, HS2.out]; rfl)
    have HNQ := hid (fun a b => hq (Rn.pre_two.2 ⟨a, b⟩))
    clear hq
    by_cases l1 : p + 1 < S.size
    ·have l0 : p < S.size := by omega
     have e0 := HAT.out p l0
     have e1 := HAT.out (p + 1) l1
     by_cases k0 : S[p] = 32
     ·have k1 : S[p + 1] ≠ 32 := fun h => HNQ.out (by rw [e0, k0]) (by rw [e1, h])
      have g0 : ((S[p].toNat : Int) == 32) = true := by rw [k0]; rfl
      have g1 : ((S[p + 1].toNat : Int) == 32) = false := by
       rw [beq_eq_false_iff_ne]
       intro h
       exact k1 (UInt8.toNat_inj.1 (by show _ = 32; omega))
      clear e0 e1 k0 k1
      go_wp2_with fail
      go_meet
      exact ⟨j, p, HP.out, hp, rfl, HS3.out, HKB.out, HKA.out, HB.out⟩
     ·have g0 : ((S[p].toNat : Int) == 32) = false := by
       rw [beq_eq_false_iff_ne]
       intro h
       exact k0 (UInt8.toNat_inj.1 (by show _ = 32; omega))
      clear e0 e1 k0
      go_wp2_with fail
      go_meet
      exact ⟨j, p, HP.out, hp, rfl, HS3.out, HKB.out, HKA.out, HB.out⟩
    ·have g2 : ¬ (p : Int) + 1 < (S.size : Int) := by omega
     go_wp2_with fail
     go_meet
     exact ⟨j, p, HP.out, hp, rfl, HS3.out, HKB.out, HKA.out, HB.out⟩
 case rest =>
  obtain ⟨j, p, hpj, hp, rfl, hst, hkb, hka, hb⟩ := hcut
  have HPJ := hid hpj
  have HST := hid hst
  have HKB := hid hkb
  have HKA := hid hka
  have HB := hid hb
  have HU := hid (Rn.until_cut (c := 32) (s := S.data.toList) (k := p) (by rw [← HSZ.out]; exact hp))
  have HC := hid (until_any S p 32 wc hs hp)
  have hwc := hka.lt
  clear hpj hst hkb hka hb
  cases hc1 : Rn.cutB 32 (S.data.toList.drop p) with
  | none =>
   have HN : Hid (Rn.row S.data.toList = none) := hid (by unfold Rn.row; rw [HST.out]; simp only [hc1])
   have hu := HU.out
   rw [hc1] at hu
   have HU1 : Hid (Rn.untilF 32 S.data.toList p = S.size) := hid (hu.trans HSZ.out.symm)
   clear hu hc1
   go_wp2_with fail
   refine HC.out.mono ?_
   rintro e w2 ⟨rfl, rfl⟩
   rw [HU1.out]
   go_wp2_with (first
    | (refine wpList_load_row rfl 77 _ rfl (w.heap.size + 1) rfl 77 #[.int .i64 (j : Int), .string ⟨#[]⟩, .int .i64 0, .int .i64 0, .slice none 0 0] (0, 0) _ HKB.out Tryz.underlying77 rfl size_rx ?_)
    | ((with_reducible refine store_rowb rfl 77 _ _ rfl w.heap.size #[.int .i64 (j : Int), .string ⟨#[]⟩, .int .i64 0, .int .i64 0, .slice none 0 0] ?_ ?_ 77 zRx HKA.out size_rx ?_ (by simp [Value.oneCell']) ?_); rfl; rfl; rfl))
   exact bodyPost_ret (results_row_tmp rfl _ _ w.heap.size _ _ _ rfl (setRow_heap _ _ _ _ _ _ HKA.out) Tryz.underlying77 rfl size_rx) rfl ⟨.inr ⟨HN.out, _, rfl, rfl, by simp [Value.oneCell']⟩, below_setRow HB.out (Nat.le_refl _) _⟩
  | some q =>
   obtain ⟨a, r⟩ := q
   have hu := HU.out
   rw [hc1] at hu
   obtain ⟨hu1, hu2, hu3, hu4⟩ := hu
   obtain ⟨k, hk⟩ : ∃ k, p + a.length = k := ⟨_, rfl⟩
   rw [hk] at hu1 hu2 hu4
   rw [← HSZ.out] at hu2
   have HU1 := hid hu1
   have HXA : Hid ((S.extract p k).data.toList = a) := hid (by rw [Lib.extract_data, show k - p = a.length by omega]; exact hu3)
   have hpk : p ≤ k := by omega
   have hal : a.length ≤ 1000000 := by omega
   have HW := hid (fun W => rword_any (S.extract p k) W (by rw [str_size, HXA.out]; exact hal))
   have HRW : Hid (Rn.row S.data.toList = Rn.rowA j a r) := hid (by unfold Rn.row; rw [HST.out]; simp only [hc1]; rfl)
   have HR2 := hid (Rn.until_cut (c := 32) (s := S.data.toList) (k := k + 1) (by rw [← HSZ.out]; exact hu2))
   have HR3 : Hid (S.data.toList.drop (k + 1) = r) := hid hu4
   have HC2 := hid (fun W => until_any S (k + 1) 32 W hs hu2)
   clear hu1 hu3 hu4 hk hc1
   cases hr : Rn.ruled a with
   | false =>
    have HN : Hid (Rn.row S.data.toList = none) := hid (by rw [HRW.out]; unfold Rn.rowA; rw [hr]; rfl)
    have HRF := hid hr
    clear hr
    go_wp2_with fail
    refine HC.out.mono ?_
    rintro e w2 ⟨rfl, rfl⟩
    rw [HU1.out]
    go_wp2_with fail
    refine (HW.out _).mono ?_
    rintro e w3 ⟨rfl, rfl⟩
    rw [HXA.out, HRF.out]
    go_wp2_with (first
     | (refine wpList_load_row rfl 77 _ rfl (w.heap.size + 1) rfl 77 #[.int .i64 (j : Int), .string ⟨#[]⟩, .int .i64 0, .int .i64 0, .slice none 0 0] (0, 0) _ HKB.out Tryz.underlying77 rfl size_rx ?_)
     | ((with_reducible refine store_rowb rfl 77 _ _ rfl w.heap.size #[.int .i64 (j : Int), .string ⟨#[]⟩, .int .i64 0, .int .i64 0, .slice none 0 0] ?_ ?_ 77 zRx HKA.out size_rx ?_ (by simp [Value.oneCell']) ?_); rfl; rfl; rfl))
    exact bodyPost_ret (results_row_tmp rfl _ _ w.heap.size _ _ _ rfl (setRow_heap _ _ _ _ _ _ HKA.out) Tryz.underlying77 rfl size_rx) rfl ⟨.inr ⟨HN.out, _, rfl, rfl, by simp [Value.oneCell']⟩, below_setRow HB.out (Nat.le_refl _) _⟩
   | true =>
    have HRF := hid hr
    clear hr
    go_wp2_with fail
    refine HC.out.mono ?_
    rintro e w2 ⟨rfl, rfl⟩
    rw [HU1.out]
    go_wp2_with fail
    refine (HW.out _).mono ?_
    rintro e w3 ⟨rfl, rfl⟩
    rw [HXA.out, HRF.out]
    cases hc2 : Rn.cutB 32 r with
    | none =>
     have HN : Hid (Rn.row S.data.toList = none) := hid (by rw [HRW.out]; unfold Rn.rowA; rw [HRF.out, if_pos rfl, hc2])
     have hu := HR2.out
     rw [HR3.out, hc2] at hu
     have HU2 : Hid (Rn.untilF 32 S.data.toList (k + 1) = S.size) := hid (hu.trans HSZ.out.symm)
     clear hu hc2
     go_wp2_with fail
     refine (HC2.out _).mono ?_
     rintro e w4 ⟨rfl, rfl⟩
     rw [HU2.out]
     go_wp2_with (first
      | (refine wpList_load_row rfl 77 _ rfl (w.heap.size + 1) rfl 77 #[.int .i64 (j : Int), .string ⟨#[]⟩, .int .i64 0, .int .i64 0, .slice none 0 0] (0, 0) _ HKB.out Tryz.underlying77 rfl size_rx ?_)
      | ((with_reducible refine store_rowb rfl 77 _ _ rfl w.heap.size #[.int .i64 (j : Int), .string ⟨#[]⟩, .int .i64 0, .int .i64 0, .slice none 0 0] ?_ ?_ 77 zRx HKA.out size_rx ?_ (by simp [Value.oneCell']) ?_); rfl; rfl; rfl))
     exact bodyPost_ret (results_row_tmp rfl _ _ w.heap.size _ _ _ rfl (setRow_heap _ _ _ _ _ _ HKA.out) Tryz.underlying77 rfl size_rx) rfl ⟨.inr ⟨HN.out, _, rfl, rfl, by simp [Value.oneCell']⟩, below_setRow HB.out (Nat.le_refl _) _⟩
    | some q =>
     obtain ⟨b, c⟩ := q
     have hu := HR2.out
     rw [HR3.out, hc2] at hu
     obtain ⟨hu1, hu2b, hu3, hu4⟩ := hu
     obtain ⟨n, hn⟩ : ∃ n, k + 1 + b.length = n := ⟨_, rfl⟩
     rw [hn] at hu1 hu2b hu4
     rw [← HSZ.out] at hu2b
     have HU2 := hid hu1
     have HXB : Hid ((S.extract (k + 1) n).data.toList = b) := hid (by rw [Lib.extract_data, HR3.out, show n - (k + 1) = b.length by omega]; exact hu3)
     have HXC : Hid ((S.extract (n + 1) S.size).data.toList = c) := hid (by rw [Lib.extract_to_end]; exact hu4)
     have hkn : k + 1 ≤ n := by omega
     have hbl : b.length ≤ 1000000 := by omega
     have HX2 := hid (fun W => runhex_any (S.extract (k + 1) n) W (by rw [str_size, HXB.out]; omega))
     have HRW2 : Hid (Rn.row S.data.toList = match Sm.un b, Rn.code c with
      | some i, some e => some ⟨j, a, (i : Int), e⟩
      | _, _ => none) := hid (by rw [HRW.out]; unfold Rn.rowA; rw [HRF.out, if_pos rfl, hc2])
     clear hu1 hu3 hu4 hn hc2
     go_wp2_with fail
     refine (HC2.out _).mono ?_
     rintro e w4 ⟨rfl, rfl⟩
     rw [HU2.out]
     go_wp2_with fail
     refine (HX2.out _).mono ?_
     rintro e w5 ⟨rfl, rfl⟩
     rw [HXB.out]
     cases hub : Sm.un b with
     | none =>
      have HN : Hid (Rn.row S.data.toList = none) := hid (by rw [HRW2.out, hub])
      have HUB : Hid (Sm.unB b = false) := hid (by unfold Sm.unB; rw [hub]; rfl)
      clear hub
      rw [HUB.out]
      go_wp2_with (first
       | (refine wpList_load_row rfl 77 _ rfl (w.heap.size + 1) rfl 77 #[.int .i64 (j : Int), .string ⟨#[]⟩, .int .i64 0, .int .i64 0, .slice none 0 0] (0, 0) _ HKB.out Tryz.underlying77 rfl size_rx ?_)
       | ((with_reducible refine store_rowb rfl 77 _ _ rfl w.heap.size #[.int .i64 (j : Int), .string ⟨#[]⟩, .int .i64 0, .int .i64 0, .slice none 0 0] ?_ ?_ 77 zRx HKA.out size_rx ?_ (by simp [Value.oneCell']) ?_); rfl; rfl; rfl))
      exact bodyPost_ret (results_row_tmp rfl _ _ w.heap.size _ _ _ rfl (setRow_heap _ _ _ _ _ _ HKA.out) Tryz.underlying77 rfl size_rx) rfl ⟨.inr ⟨HN.out, _, rfl, rfl, by simp [Value.oneCell']⟩, below_setRow HB.out (Nat.le_refl _) _⟩
     | some i =>
      have HUB : Hid (Sm.unB b = true) := hid (by unfold Sm.unB; rw [hub]; rfl)
      have HUN : Hid (Sm.unN b = (i : Int)) := hid (Sm.unN_some hub)
      have HRW3 : Hid (Rn.row S.data.toList = (Rn.code c).map fun e => ⟨j, a, (i : Int), e⟩) := hid (by rw [HRW2.out, hub]; cases Rn.code c <;> rfl)
      clear hub
      rw [HUB.out, HUN.out]
      have hc41 := HKB.out.cell 1
      have hf41 := HKB.out.frozen 1
      have hc42 := HKB.out.cell 2
      have hf42 := HKB.out.frozen 2
      go_wp2_with fail
      refine (rnames_any _).mono ?_
      rintro e w6 ⟨⟨bn, rfl, hrd⟩, hb6⟩
      have HKB6 : Hid (Blk w6 (w.heap.size + 1) 77 #[.int .i64 (j : Int), .string (S.extract p k), .int .i64 (i : Int), .int .i64 0, .slice none 0 0]) := hid (((HKB.out.set_ 1 _).set_ 2 _).below hb6 ((HKB.out.set_ 1 _).set_ 2 _).lt)
      have HKA6 : Hid (Blk w6 w.heap.size 77 zRx) := hid (((HKA.out.far (by show w.heap.size ≠ w.heap.size + 1; omega) _).far (by show w.heap.size ≠ w.heap.size + 1; omega) _).below hb6 ((HKA.out.far (by show w.heap.size ≠ w.heap.size + 1; omega) _).far (by show w.heap.size ≠ w.heap.size + 1; omega) _).lt)
      have HB6 : Hid (Below w.heap.size w w6) := hid (((HB.out.setCell (by show w.heap.size ≤ w.heap.size + 1; omega) _).setCell (by show w.heap.size ≤ w.heap.size + 1; omega) _).trans (hb6.mono ((HB.out.setCell (by show w.heap.size ≤ w.heap.size + 1; omega) _).setCell (by show w.heap.size ≤ w.heap.size + 1; omega) _).size))
      have HRD6 := hid hrd
      obtain ⟨C, hC⟩ : ∃ C, C = Rn.code c := ⟨_, rfl⟩
      have HCC0 : Hid (Rn.codeF 0 (Rn.names.drop 0) c = C) := hid (by rw [hC]; rfl)
      rw [← hC] at HRW3
      have HPK : Hid (bstr a = S.extract p k) := hid (by rw [← HXA.out, bstr_of])
      clear hC hb6 hrd hc41 hf41 hc42 hf42 HKB HKA HB
      go_wp2_with fail
      go_loopw [11] (fun ix wr => ∃ t : Nat, t ≤ 31 ∧ ix = .int .i64 (t : Int) ∧ Hid (Rn.codeF t (Rn.names.drop t) c = C) ∧ Blk wr (w.heap.size + 1) 77 #[.int .i64 (j : Int), .string (S.extract p k), .int .i64 (i : Int), .int .i64 0, .slice none 0 0] ∧ Blk wr w.heap.size 77 zRx ∧ Rd wr (some ⟨bn, 0, none⟩) 31 (strL Rn.names) ∧ Below w.heap.size w wr) (fun ix _ => 31 - (RowKit.intOf ix).toNat)
      case atStart => exact ⟨0, by omega, rfl, HCC0, HKB6.out, HKA6.out, HRD6.out, HB6.out⟩
      case round =>
       obtain ⟨t, ht, rfl, HCC, hkb, hka, hrd, hb⟩ := hrel
       have HKB := hid hkb
       have HKA := hid hka
       have HRD := hid hrd
       have HB := hid hb
       clear hb hka
       by_cases hlt : t < 31
       ·have HS := hid (code_step hlt c)
        have hcn : wr.cell? ⟨bn, t, none⟩ = some (.string (bstr (Rn.nameOf (t : Int)))) := by
         obtain ⟨g, o, e, hc⟩ := hrd.2 t _ (names_at hlt)
         injection e with e
         injection e with e1 e2 e3
         subst e1 e2
         rw [Nat.zero_add] at hc
         exact hc
        have hwr1 : IntKind.i64.wrap ((n : Int) + 1) = (n : Int) + 1 := IntWalk.i64_in _ (by omega)
        have hwr2 : ((n : Int) + 1).toNat = n + 1 := by omega
        have hwr3 : (n : Int) + 1 ≤ (S.size : Int) := by omega
        have hwr4 : n + 1 ≤ S.size := hu2b
        have hse := str_dec (Rn.nameOf (t : Int)) (S.extract (n + 1) S.size)
        rw [HXC.out] at hse
        have hc43 := hkb.cell 3
        have hf43 := hkb.frozen 3
        clear hkb hrd
        by_cases he : Rn.nameOf (t : Int) = c
        ·have HR : Hid (C = some (t : Int)) := hid (by rw [← HCC.out, HS.out, if_pos he])
         rw [decide_eq_true he] at hse
         clear he
         generalize Rn.nameOf (t : Int) = nn at *
         go_wp2_with fail
         go_quiet (fail)
         clear hwr1 hwr2 hwr3 hwr4
         have hka9 : Blk ((wr.drewN nq).setCell ⟨w.heap.size + 1, 3, none⟩ (.int .i64 (t : Int))) w.heap.size 77 zRx := (HKA.out.drewN nq).far (by show w.heap.size ≠ w.heap.size + 1; omega) _
         have hkb9 : Blk ((wr.drewN nq).setCell ⟨w.heap.size + 1, 3, none⟩ (.int .i64 (t : Int))) (w.heap.size + 1) 77 #[.int .i64 (j : Int), .string (S.extract p k), .int .i64 (i : Int), .int .i64 (t : Int), .slice none 0 0] := (HKB.out.drewN nq).set_ 3 _
         have HKA9 := hid hka9
         have HKB9 := hid hkb9
         have HB9 : Hid (Below w.heap.size w ((wr.drewN nq).setCell ⟨w.heap.size + 1, 3, none⟩ (.int .i64 (t : Int)))) := hid ((below_drewN HB.out nq).setCell (by show w.heap.size ≤ w.heap.size + 1; omega) _)
         have HRY : Hid (Rn.row S.data.toList = some ⟨j, a, (i : Int), (t : Int)⟩) := hid (by rw [HRW3.out, HR.out]; rfl)
         clear hka9 hkb9 hse
         go_wp2_with (first
          | (refine wpList_load_row rfl 77 _ rfl (w.heap.size + 1) rfl 77 #[.int .i64 (j : Int), .string (S.extract p k), .int .i64 (i : Int), .int .i64 (t : Int), .slice none 0 0] (0, 0) _ HKB9.out Tryz.underlying77 rfl size_rx ?_)
          | ((with_reducible refine store_rowb rfl 77 _ _ rfl w.heap.size #[.int .i64 (j : Int), .string (S.extract p k), .int .i64 (i : Int), .int .i64 (t : Int), .slice none 0 0] ?_ ?_ 77 zRx HKA9.out size_rx ?_ (by simp [Value.oneCell']) ?_); rfl; rfl; rfl))
         exact bodyPost_ret (results_row_tmp rfl _ _ w.heap.size _ _ _ rfl (setRow_heap _ _ _ _ _ _ HKA9.out) Tryz.underlying77 rfl size_rx) rfl ⟨.inl ⟨_, HRY.out, by unfold rxC; rw [HPK.out]; rfl⟩, below_setRow HB9.out (Nat.le_refl _) _⟩
        ·have HR : Hid (Rn.codeF (t + 1) (Rn.names.drop (t + 1)) c = C) := hid (by rw [← HCC.out, HS.out, if_neg he])
         rw [decide_eq_false he] at hse
         clear he
         generalize Rn.nameOf (t : Int) = nn at *
         go_wp2_with fail
         go_quiet (fail)
         clear hwr1 hwr2 hwr3 hwr4 hc43 hf43 hse
         go_wp2_with fail
         go_roundw
         case rel => exact ⟨t + 1, hlt, by go_num, HR, HKB.out.drewN nq, HKA.out.drewN nq, HRD.out.below (below_drewN (Below.refl _ wr) nq), below_drewN HB.out nq⟩
         case measure => simp [RowKit.intOf]; omega
       ·obtain rfl : t = 31 := by omega
        have HN : Hid (Rn.row S.data.toList = none) := hid (by rw [HRW3.out, ← HCC.out]; rfl)
        clear hkb hrd
        go_wp2_with (first
         | (refine wpList_load_row rfl 77 _ rfl (w.heap.size + 1) rfl 77 #[.int .i64 (j : Int), .string (S.extract p k), .int .i64 (i : Int), .int .i64 0, .slice none 0 0] (0, 0) _ HKB.out Tryz.underlying77 rfl size_rx ?_)
         | ((with_reducible refine store_rowb rfl 77 _ _ rfl w.heap.size #[.int .i64 (j : Int), .string (S.extract p k), .int .i64 (i : Int), .int .i64 0, .slice none 0 0] ?_ ?_ 77 zRx HKA.out size_rx ?_ (by simp [Value.oneCell']) ?_); rfl; rfl; rfl))
        exact bodyPost_ret (results_row_tmp rfl _ _ w.heap.size _ _ _ rfl (setRow_heap _ _ _ _ _ _ HKA.out) Tryz.underlying77 rfl size_rx) rfl ⟨.inr ⟨HN.out, _, rfl, rfl, by simp [Value.oneCell']⟩, below_setRow HB.out (Nat.le_refl _) _⟩
end Go.Proofs.YtipclcaafpckcaaGreatDoor
/- The text Jc. -/
namespace Go.Proofs.YtipclcaafpckcaaGreatDoor
open Go.RowKit Go.Lib
set_option linter.unusedVariables false
set_option linter.unusedSimpArgs false
def RxS : Shp Rn.Rw where
 sz := 5
 V := fun _ _ X x => X = rxC x
 pos := by decide
 len := fun h => by rw [h]; rfl
 one := fun h u hu => by
  rw [h] at hu
  unfold rxC at hu
  simp only [List.mem_cons, List.not_mem_nil, or_false] at hu
  rcases hu with rfl | rfl | rfl | rfl | rfl <;> rfl
 keep := fun h _ => h
theorem range_suf {w : World} {b o : Nat} {x : Rn.Rw} (h : w.rangeAt b o (rxC x)) : w.rangeAt b (o + 1) [Value.string (bstr x.rule), .int .i64 x.id, .int .i64 x.err, .slice none 0 0] := fun j v hj => by
 rw [Nat.add_assoc, Nat.add_comm 1 j]
 exact h (j + 1) v hj
def GrownA (base : Nat) (L : List Rn.Rw) (t : Rn.Tr) (rest : List Rn.Rw) (e : Ending) (w' : World) : Prop := ∃ (V : Array Value) (k : Nat), e = .returned (.tuple #[.agg V, .int .i64 (k : Int)]) ∧ L.drop k = rest ∧ k ≤ L.length ∧ RnV w' (fun b => base ≤ b) V t
theorem grown_any : ∀ (N : Nat) (ok : Nat → Prop) (x : Rn.Rw) (l L : List Rn.Rw) (b off cap i : Nat) (w : World), l.length < N → N ≤ 1000000 → L.length ≤ 1000000 → L.drop i = x :: l → RxS.Row ok w (some ⟨b, off, none⟩) L →
  Calls Tryz.prog 36 #[.slice (some ⟨b, off, none⟩) L.length cap, .int .i64 (i : Int)] w fun e w' => GrownA w.heap.size L (.mk x.rule x.id x.err (Rn.kidsA x.lv l).1) (Rn.kidsA x.lv l).2 e w' ∧ Below w.heap.size w w'
 | 0, _, _, _, _, _, _, _, _, _, h, _, _, _, _ => absurd h (Nat.not_lt_zero _)
 | N + 1, ok, x, l, L, b, off, cap, i, w, hN, hN6, hL6, hD, hrow => by
  have hb0 := (Below.refl w.heap.size w).alloc (Nat.le_refl _) (.cells zRn 25)
  have HROW := hid (hrow.bel hb0)
  have HB0 := hid hb0
  have IH := hid (fun y r k W h1 h2 h3 => grown_any N ok y r L b off cap k W h1 (by omega) hL6 h2 h3)
  have HKR0 := hid (Blk.new w 25 zRn)
  have hdl := congrArg List.length hD
  rw [List.length_drop, List.length_cons] at hdl
  have hi : i < L.length := by omega
  have hx : L[i]? = some x := by
   have h0 : (L.drop i)[0]? = some x := by rw [hD]; rfl
   rwa [List.getElem?_drop, Nat.add_zero] at h0
  obtain ⟨b1, o1, X1, e1, hok, hr1, rfl⟩ := HROW.out i x hx
  injection e1 with e1
  injection e1 with e1 e2 e3
  subst e1 e2
  replace hr1 : (w.alloc (.cells zRn 25)).rangeAt b (off + i * 5) (rxC x) := hr1
  have hrx := range_suf hr1
  have HRX := hid hrx
  have HLX : Hid ((Tryz.prog.info? 25).map (·.size) = some [Value.string (bstr x.rule), .int .i64 x.id, .int .i64 x.err, .slice none 0 0].length) := hid size_rea
  have hbw : b < (w.alloc (.cells zRn 25)).heap.size := range_lt hr1 (by unfold rxC; simp)
  have hs1 : w.heap.size + 1 ≤ (w.alloc (.cells zRn 25)).heap.size := by simp
  have HC4 : Hid ((w.alloc (.cells zRn 25)).cell? ⟨b, off + i * 5, none⟩ = some (.int .i64 (x.lv : Int))) := hid (hr1 0 _ rfl)
  have HDI : Hid (L.drop (i + 1) = l) := hid (by rw [← List.drop_drop, hD]; rfl)
  clear hb0 hrow hr1 hrx hdl hx hD
  generalize hw1 : w.alloc (.cells zRn 25) = w1 at *
  have HRX2 : Hid ((w1.alloc (.cells zRn 25)).rangeAt b (off + i * 5 + 1) [.string (bstr x.rule), .int .i64 x.id, .int .i64 x.err, .slice none 0 0]) := hid (range_keep HRX.out (((Below.refl w1.heap.size w1).alloc (Nat.le_refl _) (.cells zRn 25)).block b hbw))
  have hNEW := Blk.new w1 25 zRn
  have HNEW := hid hNEW
  have HK1 : Hid (Blk ((w1.alloc (.cells zRn 25)).setRow w1.heap.size #[.string (bstr x.rule), .int .i64 x.id, .int .i64 x.err, .slice none 0 0]) w1.heap.size 25 #[.string (bstr x.rule), .int .i64 x.id, .int .i64 x.err, .slice none 0 0]) := hid (setRow_heap _ _ _ _ _ _ hNEW)
  have HB1 : Hid (Below w1.heap.size w1 ((w1.alloc (.cells zRn 25)).setRow w1.heap.size #[.string (bstr x.rule), .int .i64 x.id, .int .i64 x.err, .slice none 0 0])) := hid (below_setRow ((Below.refl w1.heap.size w1).alloc (Nat.le_refl _) (.cells zRn 25)) (Nat.le_refl _) _)
  have hs2 : w1.heap.size + 1 ≤ ((w1.alloc (.cells zRn 25)).setRow w1.heap.size #[.string (bstr x.rule), .int .i64 x.id, .int .i64 x.err, .slice none 0 0]).heap.size := HK1.out.lt
  clear hNEW
  go_enter Tryz.func36, Tryz.ntmps36
  go_wp2_with (first
   | ((with_reducible refine wpList_load_mid rfl 25 _ rfl b (off + i * 5 + 1) ?_ [.string (bstr x.rule), .int .i64 x.id, .int .i64 x.err, .slice none 0 0] _ HRX.out Tryz.underlying25 ?_ HLX.out ?_); rfl; rfl)
   | ((with_reducible refine store_rowb rfl 25 _ _ rfl w1.heap.size #[.string (bstr x.rule), .int .i64 x.id, .int .i64 x.err, .slice none 0 0] ?_ ?_ 25 zRn HNEW.out size_rn ?_ (by simp [Value.oneCell']) ?_); rfl; rfl; rfl))
  generalize (w1.alloc (.cells zRn 25)).setRow w1.heap.size #[.string (bstr x.rule), .int .i64 x.id, .int .i64 x.err, .slice none 0 0] = wc at *
  have HKI : Hid (RxS.Row ok w1 (some ⟨b, off, none⟩) L) := HROW
  go_loopw [7] (fun kx wr => ∃ (k : Nat) (r : List Rn.Rw) (acc : List Rn.Tr) (kv : Value), kx = .int .i64 (k : Int) ∧ Hid (L.drop k = r) ∧ k ≤ L.length ∧ Hid (Rn.kidsA x.lv l = (acc ++ (Rn.kidsA x.lv r).1, (Rn.kidsA x.lv r).2)) ∧ acc.length + r.length ≤ l.length ∧ Blk wr w1.heap.size 25 #[.string (bstr x.rule), .int .i64 x.id, .int .i64 x.err, kv] ∧ RnS.Own 25 (fun b => w1.heap.size + 1 ≤ b) wr (w1.heap.size + 1) kv acc ∧ Below w1.heap.size w1 wr) (fun kx _ => L.length - (RowKit.intOf kx).toNat)
  case atStart => exact ⟨i + 1, l, [], _, by go_num, HDI, hi, hid rfl, by simp, HK1.out, Shp.Own.nil, HB1.out⟩
  case round =>
   obtain ⟨k, r, acc, kv, rfl, HDK, hk, HKA, hlen, hkr, hown, hb⟩ := hrel
   have HB := hid hb
   have HKR := hid hkr
   have HOW := hid hown
   have hsr : w1.heap.size + 1 ≤ wr.heap.size := hkr.lt
   have hcx : wr.cell? ⟨b, off + i * 5, none⟩ = some (.int .i64 (x.lv : Int)) := (hb.cell (p := ⟨b, off + i * 5, none⟩) hbw).trans HC4.out
   have HROr := hid (HROW.out.bel hb)
   have hdk := congrArg List.length HDK.out
   rw [List.length_drop] at hdk
   clear hb hkr hown
   cases r with
   | nil =>
    rw [List.length_nil] at hdk
    have hkL : ¬ (k : Int) < (L.length : Int) := by omega
    have hkd : decide ((k : Int) < (L.length : Int)) = false := decide_eq_false hkL
    have hkd2 : decide (k < L.length) = false := decide_eq_false (by omega)
    have HFIN : Hid (Rn.kidsA x.lv l = (acc, [])) := hid (by rw [HKA.out]; simp [Rn.kidsA_nil])
    clear hdk
    go_wp2_with fail
    go_quiet (fail)
    obtain ⟨A5, c5, rfl, hc5⟩ := HOW.out.len
    have HK0r : Hid (Blk (wr.drewN nq) w.heap.size 25 zRn) := hid ((HKR0.out.below HB.out (by omega)).drewN nq)
    have HKRr := hid (HKR.out.drewN nq)
    go_wp2_with (first
     | (refine wpList_load_row rfl 25 _ rfl w1.heap.size rfl 25 #[.string (bstr x.rule), .int .i64 x.id, .int .i64 x.err, .slice A5 acc.length c5] (0, 0) _ HKRr.out Tryz.underlying25 rfl size_rn ?_)
     | ((with_reducible refine store_rowb rfl 25 _ _ rfl w.heap.size #[.string (bstr x.rule), .int .i64 x.id, .int .i64 x.err, .slice A5 acc.length c5] ?_ ?_ 25 zRn HK0r.out size_rn ?_ (by simp [Value.oneCell']) ?_); rfl; rfl; rfl))
    have hk5 : Blk ((wr.drewN nq).setRow w.heap.size #[.string (bstr x.rule), .int .i64 x.id, .int .i64 x.err, .slice A5 acc.length c5]) w.heap.size 25 #[.string (bstr x.rule), .int .i64 x.id, .int .i64 x.err, .slice A5 acc.length c5] := setRow_heap (wr.drewN nq) _ _ _ _ _ HK0r.out
    obtain ⟨A6, c6, e6, -, hrow6⟩ := HOW.out.row (ok' := fun b => w1.heap.size + 1 ≤ b) (fun b h => h) (fun k hk => by
     obtain ⟨xs, h1, -⟩ := HOW.out
     exact (h1.lt k hk).1)
    injection e6 with e6 _ e7
    subst e6 e7
    have hrow7 := hrow6.keep (w' := (wr.drewN nq).setRow w.heap.size #[.string (bstr x.rule), .int .i64 x.id, .int .i64 x.err, .slice A5 acc.length c5]) (ok' := fun b => w.heap.size ≤ b) (fun b hb _ => ⟨by omega, setRow_other _ _ _ _ (by omega)⟩)
    have hbf := below_setRow (g := w.heap.size) (w := (wr.drewN nq)) (below_drewN (HB0.out.trans (HB.out.mono HB0.out.size)) nq) (Nat.le_refl _) #[.string (bstr x.rule), .int .i64 x.id, .int .i64 x.err, .slice A5 acc.length c5]
    refine bodyPost_ret (results_row_tmp rfl _ _ w.heap.size _ _ _ rfl hk5 Tryz.underlying25 rfl size_rn) rfl ?_
    refine ⟨⟨_, k, rfl, ?_, hk, ?_⟩, hbf⟩
    ·rw [HFIN.out]; exact HDK.out
    ·rw [HFIN.out]; exact RnV.make hrow7.rn
   | cons y r =>
    rw [List.length_cons] at hdk hlen
    have hkl : k < L.length := by omega
    have hy : L[k]? = some y := by
     have h0 : (L.drop k)[0]? = some y := by rw [HDK.out]; rfl
     rwa [List.getElem?_drop, Nat.add_zero] at h0
    obtain ⟨b2, o2, X2, e2, -, hr2, rfl⟩ := HROr.out k y hy
    injection e2 with e2
    injection e2 with f1 f2 f3
    subst f1 f2
    have hcy : wr.cell? ⟨b, off + k * 5, none⟩ = some (.int .i64 (y.lv : Int)) := hr2 0 _ rfl
    have hkd : decide ((k : Int) < (L.length : Int)) = true := decide_eq_true (by omega)
    have hkd2 : decide (k < L.length) = true := decide_eq_true hkl
    have hki : (k : Int) < (L.length : Int) := by omega
    have hii : (i : Int) < (L.length : Int) := by omega
    have HDK2 : Hid (L.drop (k + 1) = r) := hid (by rw [← List.drop_drop, HDK.out]; rfl)
    have HDL := hid hdk
    clear hy hr2 hdk
    by_cases hlt : x.lv < y.lv
    ·have hd1 : decide ((x.lv : Int) < (y.lv : Int)) = true := by simpa using hlt
     have hd2 : decide (x.lv < y.lv) = true := by simpa using hlt
     have hstep := Rn.kidsA_step (l := r) hlt
     have hle := Rn.kidsA_len y.lv r
     have HKA2 : Hid (Rn.kidsA x.lv l = ((acc ++ [.mk y.rule y.id y.err (Rn.kidsA y.lv r).1]) ++ (Rn.kidsA x.lv (Rn.kidsA y.lv r).2).1, (Rn.kidsA x.lv (Rn.kidsA y.lv r).2).2)) := hid (by rw [HKA.out, hstep]; simp)
     clear hstep HKA
     have HG := hid (fun W h => IH.out y r k W (by omega) HDK.out h)
     generalize Rn.Tr.mk y.rule y.id y.err (Rn.kidsA y.lv r).1 = t at *
     generalize (Rn.kidsA y.lv r).2 = r2 at *
     go_wp2_with fail
     go_quiet (fail)
     go_wp2_with fail
     have hz1 := (below_drewN (Below.refl wr.heap.size wr) nq).alloc (Nat.le_refl _) (.cells zRn 25)
     have HZ1 : Hid (Below wr.heap.size wr ((wr.drewN nq).alloc (.cells zRn 25))) := hid hz1
     have hsz1 : ((wr.drewN nq).alloc (.cells zRn 25)).heap.size = wr.heap.size + 1 := World.size_alloc ..
     have HK6 := hid (Blk.new (wr.drewN nq) 25 zRn)
     refine (HG.out _ (HROr.out.bel HZ1.out)).mono ?_
     rintro e w3 ⟨⟨V, k3, rfl, hdk3, hk3, hV⟩, hb3⟩
     rw [hsz1] at hb3 hV
     have HB3 : Hid (Below wr.heap.size wr w3) := hid (HZ1.out.trans (hb3.mono (Nat.le_succ _)))
     have HK63 : Hid (Blk w3 wr.heap.size 25 zRn) := hid (HK6.out.below hb3 (Nat.lt_succ_self _))
     have HV3 := hid hV
     have HDK3 := hid hdk3
     have hl3 := congrArg List.length hdk3
     rw [List.length_drop] at hl3
     obtain ⟨B, bc, rfl, -⟩ := hV.open
     have hkk : k < k3 := by have := HDL.out; omega
     clear hz1 hsz1 hb3 hV hdk3 hl3 hcy hcx hd1 hd2 hkd hkd2 hki hii
     go_upto_region 6 with (((with_reducible refine store_rowb rfl 25 _ _ rfl wr.heap.size #[.string (bstr t.rule), .int .i64 t.id, .int .i64 t.err, .slice B t.kids.length bc] ?_ ?_ 25 zRn HK63.out size_rn ?_ (by simp [Value.oneCell']) ?_); rfl; rfl; rfl))
     obtain ⟨A5, c5, rfl, hc5⟩ := HOW.out.len
     have HB5 : Hid (Below wr.heap.size wr (w3.setRow wr.heap.size #[.string (bstr t.rule), .int .i64 t.id, .int .i64 t.err, .slice B t.kids.length bc])) := hid (below_setRow HB3.out (Nat.le_refl _) #[.string (bstr t.rule), .int .i64 t.id, .int .i64 t.err, .slice B t.kids.length bc])
     have HK65 : Hid (Blk (w3.setRow wr.heap.size #[.string (bstr t.rule), .int .i64 t.id, .int .i64 t.err, .slice B t.kids.length bc]) wr.heap.size 25 #[.string (bstr t.rule), .int .i64 t.id, .int .i64 t.err, .slice B t.kids.length bc]) := hid (setRow_heap _ _ _ _ _ _ HK63.out)
     have HV5 := hid (HV3.out.keep (w' := w3.setRow wr.heap.size #[.string (bstr t.rule), .int .i64 t.id, .int .i64 t.err, .slice B t.kids.length bc]) (ok' := fun b => wr.heap.size + 1 ≤ b) (fun b hb _ => ⟨hb, setRow_other _ _ _ _ (by omega)⟩))
     have hs5 : wr.heap.size + 1 ≤ (w3.setRow wr.heap.size #[.string (bstr t.rule), .int .i64 t.id, .int .i64 t.err, .slice B t.kids.length bc]).heap.size := HK65.out.lt
     generalize w3.setRow wr.heap.size #[.string (bstr t.rule), .int .i64 t.id, .int .i64 t.err, .slice B t.kids.length bc] = w5 at *
     have HKR5 := hid (HKR.out.below HB5.out hsr)
     have hc35 : w5.cell? ⟨w1.heap.size, 3, none⟩ = some (.slice A5 acc.length c5) := HKR5.out.cell 3
     have hz8 := (Below.refl w5.heap.size w5).alloc (Nat.le_refl _) (.cells #[.string (bstr t.rule), .int .i64 t.id, .int .i64 t.err, .slice B t.kids.length bc] 25)
     have HB8 := hid (HB5.out.trans (hz8.mono HB5.out.size))
     have HKR8 := hid (HKR5.out.below hz8 HKR5.out.lt)
     have HOW8 := hid ((HOW.out.bel HB5.out).bel hz8)
     have HV8 := hid (HV5.out.bel hz8)
     have hs8 : (w5.alloc (.cells #[.string (bstr t.rule), .int .i64 t.id, .int .i64 t.err, .slice B t.kids.length bc] 25)).heap.size = w5.heap.size + 1 := World.size_alloc ..
     have HRD8 : Hid (Rd (w5.alloc (.cells #[.string (bstr t.rule), .int .i64 t.id, .int .i64 t.err, .slice B t.kids.length bc] 25)) (some ⟨w5.heap.size, 0, none⟩) (1 * 4) [.string (bstr t.rule), .int .i64 t.id, .int .i64 t.err, .slice B t.kids.length bc]) := hid (Rd.of_blk (vs := [.string (bstr t.rule), .int .i64 t.id, .int .i64 t.err, .slice B t.kids.length bc]) (Blk.new w5 25 _))
     have hs8b : w1.heap.size + 1 ≤ (w5.alloc (.cells #[.string (bstr t.rule), .int .i64 t.id, .int .i64 t.err, .slice B t.kids.length bc] 25)).heap.size := by omega
     have HO1 : Hid (∀ u ∈ ([.string (bstr t.rule), .int .i64 t.id, .int .i64 t.err, .slice B t.kids.length bc] : List Value), u.oneCell' = true) := hid (by intro u hu; simp at hu; rcases hu with rfl | rfl | rfl | rfl <;> rfl)
     have HOL : Hid (∀ k, (Value.slice A5 acc.length c5).ownBlock = some k → w1.heap.size + 1 ≤ k ∧ k < wr.heap.size) := hid (fun k hk => by
      obtain ⟨xs0, h0, -⟩ := HOW.out
      exact h0.lt k hk)
     have HVK : Hid (RnS.V (fun b => (w1.heap.size + 1 ≤ b) ∧ some b ≠ (Value.slice A5 acc.length c5).ownBlock) (w5.alloc (.cells #[.string (bstr t.rule), .int .i64 t.id, .int .i64 t.err, .slice B t.kids.length bc] 25)) [.string (bstr t.rule), .int .i64 t.id, .int .i64 t.err, .slice B t.kids.length bc] t) := hid (RnV.keep (V := #[.string (bstr t.rule), .int .i64 t.id, .int .i64 t.err, .slice B t.kids.length bc]) HV8.out fun b hb _ => ⟨⟨by omega, fun e => by have := (HOL.out b e.symm).2; omega⟩, rfl⟩)
     obtain ⟨xs, hown8, hcs8⟩ := HOW8.out
     have HOX := hid hown8
     have HCS := hid hcs8
     clear hown8 hcs8 hz8 hs8
     go_wp2_with (first
      | (refine wpList_load_row rfl 25 _ rfl wr.heap.size rfl 25 #[.string (bstr t.rule), .int .i64 t.id, .int .i64 t.err, .slice B t.kids.length bc] (0, 0) _ HK65.out Tryz.underlying25 rfl size_rn ?_)
      | (at_builtin; refine app_row rowRn rfl _ _ rfl _ (.slice A5 acc.length c5) acc.length xs _ (w1.heap.size + 1) rfl HOX.out _ 1 1 rfl HRD8.out HO1.out hs8b (by omega) ?_; intro v9 w9 ho9 hg9 hb9 hw9; have HOW9 := hid (Shp.Own.app (M := [t]) HOX.out HCS.out (Shp.Cells.one HVK.out) ho9 hg9 hw9); have HKR9 := hid (HKR8.out.grown hg9 (fun e => by have := (HOL.out _ e.symm).1; omega)); have hcl9 := HKR9.out.cell 3; have hfr9 := HKR9.out.frozen 3; obtain ⟨A9, c9, rfl, hc9⟩ := HOW9.out.len; clear ho9 hw9))
     have hl9 : (acc ++ [t]).length = acc.length + 1 := by rw [List.length_append]; rfl
     have how := HOW9.out.far (w' := w9.setCell ⟨w1.heap.size, 3, none⟩ (.slice A9 (acc.length + 1) c9)) (fun b h => h) (fun b hb _ => Below.heap_setCell _ _ _ _ (by show b ≠ w1.heap.size; omega))
     rw [hl9] at how
     go_roundw
     case rel => exact ⟨k3, r2, acc ++ [t], _, rfl, HDK3, hk3, HKA2, by rw [hl9]; omega, HKR9.out.set_ 3 _, how, ((HB.out.trans (HB8.out.mono (by omega))).trans ((Below.refl w1.heap.size _).grown hg9 (by omega) (fun k e => by have := (HOL.out k e).1; omega))).setCell (by simp) _⟩
     case measure => simp [RowKit.intOf]; omega
    ·have hd1 : decide ((x.lv : Int) < (y.lv : Int)) = false := by simpa using hlt
     have hd2 : decide (x.lv < y.lv) = false := by simpa using hlt
     have HFIN : Hid (Rn.kidsA x.lv l = (acc, y :: r)) := hid (by rw [HKA.out, Rn.kidsA_stop hlt]; simp)
     go_wp2_with fail
     go_quiet (fail)
     obtain ⟨A5, c5, rfl, hc5⟩ := HOW.out.len
     have HK0r : Hid (Blk (wr.drewN nq) w.heap.size 25 zRn) := hid ((HKR0.out.below HB.out (by omega)).drewN nq)
     have HKRr := hid (HKR.out.drewN nq)
     go_wp2_with (first
      | (refine wpList_load_row rfl 25 _ rfl w1.heap.size rfl 25 #[.string (bstr x.rule), .int .i64 x.id, .int .i64 x.err, .slice A5 acc.length c5] (0, 0) _ HKRr.out Tryz.underlying25 rfl size_rn ?_)
      | ((with_reducible refine store_rowb rfl 25 _ _ rfl w.heap.size #[.string (bstr x.rule), .int .i64 x.id, .int .i64 x.err, .slice A5 acc.length c5] ?_ ?_ 25 zRn HK0r.out size_rn ?_ (by simp [Value.oneCell']) ?_); rfl; rfl; rfl))
     have hk5 : Blk ((wr.drewN nq).setRow w.heap.size #[.string (bstr x.rule), .int .i64 x.id, .int .i64 x.err, .slice A5 acc.length c5]) w.heap.size 25 #[.string (bstr x.rule), .int .i64 x.id, .int .i64 x.err, .slice A5 acc.length c5] := setRow_heap (wr.drewN nq) _ _ _ _ _ HK0r.out
     obtain ⟨A6, c6, e6, -, hrow6⟩ := HOW.out.row (ok' := fun b => w1.heap.size + 1 ≤ b) (fun b h => h) (fun k hk => by
      obtain ⟨xs, h1, -⟩ := HOW.out
      exact (h1.lt k hk).1)
     injection e6 with e6 _ e7
     subst e6 e7
     have hrow7 := hrow6.keep (w' := (wr.drewN nq).setRow w.heap.size #[.string (bstr x.rule), .int .i64 x.id, .int .i64 x.err, .slice A5 acc.length c5]) (ok' := fun b => w.heap.size ≤ b) (fun b hb _ => ⟨by omega, setRow_other _ _ _ _ (by omega)⟩)
     have hbf := below_setRow (g := w.heap.size) (w := (wr.drewN nq)) (below_drewN (HB0.out.trans (HB.out.mono HB0.out.size)) nq) (Nat.le_refl _) #[.string (bstr x.rule), .int .i64 x.id, .int .i64 x.err, .slice A5 acc.length c5]
     refine bodyPost_ret (results_row_tmp rfl _ _ w.heap.size _ _ _ rfl hk5 Tryz.underlying25 rfl size_rn) rfl ?_
     refine ⟨⟨_, k, rfl, ?_, hk, ?_⟩, hbf⟩
     ·rw [HFIN.out]; exact HDK.out
     ·rw [HFIN.out]; exact RnV.make hrow7.rn
end Go.Proofs.YtipclcaafpckcaaGreatDoor
/- The text Jd. -/
namespace Go.Proofs.YtipclcaafpckcaaGreatDoor
open Go.RowKit Go.Lib
set_option linter.unusedVariables false
set_option linter.unusedSimpArgs false
theorem RRowA.no {s : List UInt8} {e : Ending} (h : RRowA s e) (hr : Rn.row s = none) : ∃ V, e = .returned (.tuple #[.agg V, .bool false]) ∧ V.size = 5 ∧ V.all (·.oneCell') = true := by
 rcases h with ⟨x, h1, -⟩ | ⟨-, V, rfl, h1, h2⟩
 ·rw [hr] at h1; cases h1
 ·exact ⟨V, rfl, h1, h2⟩
theorem RRowA.yes {s : List UInt8} {e : Ending} (h : RRowA s e) {x : Rn.Rw} (hr : Rn.row s = some x) : e = .returned (.tuple #[.agg #[.int .i64 (x.lv : Int), .string (bstr x.rule), .int .i64 x.id, .int .i64 x.err, .slice none 0 0], .bool true]) := by
 rcases h with ⟨y, h1, rfl⟩ | ⟨h1, -⟩
 ·rw [hr] at h1; injection h1 with h1; rw [h1]; rfl
 ·rw [hr] at h1; cases h1
theorem info_rx : (Tryz.prog.info? 77).map (fun i => (i.zero, i.size, i.bytes)) = some (some (.agg zRx), 5, 64) := by kernel_rfl
theorem rowRx : RowU 74 77 5 64 := ⟨Tryz.underlying74, ⟨_, info_rx, rfl⟩, by decide, by decide⟩
theorem rparse_any (S : ByteArray) (w : World) (hs : S.size ≤ 100000) :
  Calls Tryz.prog 19 #[.string S] w fun e w' => ParseA w.heap.size (Rn.parse S.data.toList) e w' ∧ Below w.heap.size w w' := by
 have HSZ := hid (str_size S)
 have HBK0 := hid (Blk.new w 25 zRn)
 have HB0 := hid ((Below.refl w.heap.size w).alloc (Nat.le_refl _) (.cells zRn 25))
 have hgt : ¬ 100000 < S.size := by omega
 have hPA : Rn.parse S.data.toList = (match Rn.parseA [] S.data.toList with | .inl n => .bad n 10 | .inr l => .ok (Rn.grow l)) := by
  have := str_size S
  unfold Rn.parse Rn.parseA
  rw [if_neg (by omega)]
  rfl
 have HPA := hid hPA
 clear hPA
 generalize hw1 : w.alloc (.cells zRn 25) = w1 at *
 go_enter Tryz.func19, Tryz.ntmps19
 go_wp2_with fail
 go_loopw [5, 6] (fun lv ix wr => ∃ (p : Nat) (L : List Rn.Rw), ix = .int .i64 (p : Int) ∧ p ≤ S.size ∧ Hid (L.length ≤ p) ∧ RxS.Own 77 (fun b => w.heap.size + 1 ≤ b) wr (w.heap.size + 1) lv L ∧ Hid (Rn.parseA [] S.data.toList = Rn.parseA L (S.data.toList.drop p)) ∧ Hid (∀ q ∈ L, q.lv ≤ 39) ∧ Blk wr w.heap.size 25 zRn ∧ Below w.heap.size w wr) (fun _ ix _ => S.size - (RowKit.intOf ix).toNat)
 case atStart => exact ⟨0, [], rfl, Nat.zero_le _, hid (Nat.le_refl _), Shp.Own.nil, hid rfl, hid (fun q h => by cases h), HBK0.out, HB0.out⟩
 case round =>
  obtain ⟨p, L, rfl, hp, HLP, hown, HPL, HZ39, hk, hb⟩ := hrel
  have HOW := hid hown
  have HK := hid hk
  have HB := hid hb
  have hsw := hb.size
  have hkw := hk.lt
  obtain ⟨A, c, rfl, hlc⟩ := hown.len
  have HUN := hid (fun W => until_any S p 10 W (by omega) hp)
  have HU := hid (Rn.until_cut (c := 10) (s := S.data.toList) (k := p) (by rw [← HSZ.out]; exact hp))
  clear hown hk hb
  cases L with
  | nil =>
   have HOP := hid (Rn.parseA_open (l := []) (s := S.data.toList.drop p) (by simp))
   by_cases hpl : p < S.size
   ·skip
    cases hc : Rn.cutB 10 (S.data.toList.drop p) with
    | none =>
     have HRES : Hid (Rn.parse S.data.toList = .bad 1 10) := hid (by rw [HPA.out, HPL.out, HOP.out, hc]; rfl)
     have hu := HU.out
     rw [hc] at hu
     have HU1 : Hid (Rn.untilF 10 S.data.toList p = S.size) := hid (hu.trans HSZ.out.symm)
     have HKF := HK
     have HBF := HB
     clear hu hc
     go_wp2_with fail
     refine (HUN.out _).mono ?_
     rintro e w2 ⟨rfl, rfl⟩
     rw [HU1.out]
     go_wp2_with ((with_reducible refine store_rowb rfl 25 _ _ rfl w.heap.size zRn ?_ ?_ 25 zRn HKF.out size_rn ?_ (by simp [Value.oneCell']) ?_); rfl; rfl; rfl)
     exact bodyPost_ret (results_row_tmp2 rfl _ _ w.heap.size _ _ _ rfl (setRow_heap _ _ _ _ _ _ HKF.out) Tryz.underlying25 rfl size_rn) rfl ⟨.inl ⟨1, 10, HRES.out, rfl⟩, below_setRow HBF.out (Nat.le_refl _) _⟩
    | some q =>
     obtain ⟨a, r⟩ := q
     have hu := HU.out
     rw [hc] at hu
     obtain ⟨hu1, hu2, hu3, hu4⟩ := hu
     obtain ⟨k, hk⟩ : ∃ k, p + a.length = k := ⟨_, rfl⟩
     rw [hk] at hu1 hu2 hu4
     rw [← HSZ.out] at hu2
     have HU1 := hid hu1
     have HXA : Hid ((S.extract p k).data.toList = a) := hid (by rw [Lib.extract_data, show k - p = a.length by omega]; exact hu3)
     have HDR : Hid (S.data.toList.drop (k + 1) = r) := hid hu4
     have hpk : p ≤ k := by omega
     have hal : a.length ≤ 1000000 := by omega
     have HRW := hid (fun W => rrow_any (S.extract p k) W (by rw [str_size, HXA.out]; exact hal))
     clear hu1 hu3 hu4 hk
     cases hr : Rn.row a with
     | none =>
      have HRES : Hid (Rn.parse S.data.toList = .bad 1 10) := hid (by rw [HPA.out, HPL.out, HOP.out, hc]; simp only [hr]; rfl)
      clear hc
      go_wp2_with fail
      refine (HUN.out _).mono ?_
      rintro e w2 ⟨rfl, rfl⟩
      rw [HU1.out]
      go_wp2_with fail
      refine (HRW.out _).mono ?_
      rintro e w3 ⟨hla, hb3⟩
      rw [HXA.out] at hla
      obtain ⟨V, rfl, hvs, hvo⟩ := hla.no hr
      have HSX : Hid ((Tryz.prog.info? 77).map (·.size) = some V.size) := hid (by rw [hvs]; kernel_rfl)
      have HSZV : Hid (zRx.size = V.size) := hid (by rw [hvs]; rfl)
      have HOV := hid hvo
      clear hvs hvo
      have HBR3 := hid hb3
      have HK3 := hid (HK.out.below hb3 hkw)
      have hs3 := hb3.size
      clear hb3 hla
      have HN4 := hid (Blk.new w3 77 zRx)
      have HK5 : Hid (Blk ((w3.alloc (.cells zRx 77)).setRow w3.heap.size V) w.heap.size 25 zRn) := hid ((setRow_other _ _ _ _ (by omega)).trans (HK3.out.alloc (.cells zRx 77)))
      have HN5 : Hid (Blk ((w3.alloc (.cells zRx 77)).setRow w3.heap.size V) w3.heap.size 77 V) := hid (setRow_heap _ _ _ _ _ _ HN4.out)
      have HBR5 := hid (below_setRow (g := w3.heap.size) (HBR3.out.alloc (by omega) (.cells zRx 77)) (by omega) V)
      have hs5 : w.heap.size < ((w3.alloc (.cells zRx 77)).setRow w3.heap.size V).heap.size := HK5.out.lt
      go_upto_region 10 with (((with_reducible refine store_rowb rfl 77 _ _ rfl w3.heap.size V ?_ ?_ 77 zRx HN4.out HSX.out HSZV.out HOV.out ?_); rfl; rfl))
      have HOW5 := hid (HOW.out.bel HBR5.out)
      have HB5 := hid (HB.out.trans (HBR5.out.mono hsw))
      generalize (w3.alloc (.cells zRx 77)).setRow w3.heap.size V = w5 at *
      have HKF := HK5
      have HBF := HB5
      go_wp2_with ((with_reducible refine store_rowb rfl 25 _ _ rfl w.heap.size zRn ?_ ?_ 25 zRn HKF.out size_rn ?_ (by simp [Value.oneCell']) ?_); rfl; rfl; rfl)
      exact bodyPost_ret (results_row_tmp2 rfl _ _ w.heap.size _ _ _ rfl (setRow_heap _ _ _ _ _ _ HKF.out) Tryz.underlying25 rfl size_rn) rfl ⟨.inl ⟨1, 10, HRES.out, rfl⟩, below_setRow HBF.out (Nat.le_refl _) _⟩
     | some y =>
      go_wp2_with fail
      refine (HUN.out _).mono ?_
      rintro e w2 ⟨rfl, rfl⟩
      rw [HU1.out]
      go_wp2_with fail
      refine (HRW.out _).mono ?_
      rintro e w3 ⟨hla, hb3⟩
      rw [HXA.out] at hla
      obtain rfl := hla.yes hr
      have HSX : Hid ((Tryz.prog.info? 77).map (·.size) = some (#[.int .i64 (y.lv : Int), .string (bstr y.rule), .int .i64 y.id, .int .i64 y.err, .slice none 0 0] : Array Value).size) := hid size_rx
      have HSZV : Hid (zRx.size = (#[.int .i64 (y.lv : Int), .string (bstr y.rule), .int .i64 y.id, .int .i64 y.err, .slice none 0 0] : Array Value).size) := hid rfl
      have HOV : Hid ((#[.int .i64 (y.lv : Int), .string (bstr y.rule), .int .i64 y.id, .int .i64 y.err, .slice none 0 0] : Array Value).all (·.oneCell') = true) := hid (by simp [Value.oneCell'])
      have HBR3 := hid hb3
      have HK3 := hid (HK.out.below hb3 hkw)
      have hs3 := hb3.size
      clear hb3 hla
      have HN4 := hid (Blk.new w3 77 zRx)
      have HK5 : Hid (Blk ((w3.alloc (.cells zRx 77)).setRow w3.heap.size (#[.int .i64 (y.lv : Int), .string (bstr y.rule), .int .i64 y.id, .int .i64 y.err, .slice none 0 0] : Array Value)) w.heap.size 25 zRn) := hid ((setRow_other _ _ _ _ (by omega)).trans (HK3.out.alloc (.cells zRx 77)))
      have HN5 : Hid (Blk ((w3.alloc (.cells zRx 77)).setRow w3.heap.size (#[.int .i64 (y.lv : Int), .string (bstr y.rule), .int .i64 y.id, .int .i64 y.err, .slice none 0 0] : Array Value)) w3.heap.size 77 (#[.int .i64 (y.lv : Int), .string (bstr y.rule), .int .i64 y.id, .int .i64 y.err, .slice none 0 0] : Array Value)) := hid (setRow_heap _ _ _ _ _ _ HN4.out)
      have HBR5 := hid (below_setRow (g := w3.heap.size) (HBR3.out.alloc (by omega) (.cells zRx 77)) (by omega) (#[.int .i64 (y.lv : Int), .string (bstr y.rule), .int .i64 y.id, .int .i64 y.err, .slice none 0 0] : Array Value))
      have hs5 : w.heap.size < ((w3.alloc (.cells zRx 77)).setRow w3.heap.size (#[.int .i64 (y.lv : Int), .string (bstr y.rule), .int .i64 y.id, .int .i64 y.err, .slice none 0 0] : Array Value)).heap.size := HK5.out.lt
      go_upto_region 10 with (((with_reducible refine store_rowb rfl 77 _ _ rfl w3.heap.size (#[.int .i64 (y.lv : Int), .string (bstr y.rule), .int .i64 y.id, .int .i64 y.err, .slice none 0 0] : Array Value) ?_ ?_ 77 zRx HN4.out HSX.out HSZV.out HOV.out ?_); rfl; rfl))
      have HOW5 := hid (HOW.out.bel HBR5.out)
      have HB5 := hid (HB.out.trans (HBR5.out.mono hsw))
      generalize (w3.alloc (.cells zRx 77)).setRow w3.heap.size (#[.int .i64 (y.lv : Int), .string (bstr y.rule), .int .i64 y.id, .int .i64 y.err, .slice none 0 0] : Array Value) = w5 at *
      have hcl := HN5.out.cell 0
      by_cases hlv : y.lv = 0
      ·have HLN : Hid (([] ++ [y]).length ≤ k + 1) := hid (by rw [List.length_append]; have := HLP.out; show _ + 1 ≤ _; omega)
       have HP2 : Hid (Rn.parseA [] S.data.toList = Rn.parseA ([] ++ [y]) (S.data.toList.drop (k + 1))) := hid (by rw [HPL.out, HOP.out, hc]; simp only [hr]; rw [if_pos (by simp [Rn.okLv, Rn.last, hlv]), HDR.out])
       have HL39 : Hid (∀ q ∈ [] ++ [y], q.lv ≤ 39) := hid (fun q hq => by
        rcases List.mem_append.1 hq with h | h
        ·exact HZ39.out q h
        ·rw [List.mem_singleton.1 h]; omega)
       have hd1 : ((y.lv : Int) == 0) = true := by rw [beq_iff_eq]; omega
       have hd2 : (y.lv == 0) = true := by rw [beq_iff_eq]; omega
       clear hlv hc hr
       have hz8 := (Below.refl w5.heap.size w5).alloc (Nat.le_refl _) (.cells (#[.int .i64 (y.lv : Int), .string (bstr y.rule), .int .i64 y.id, .int .i64 y.err, .slice none 0 0] : Array Value) 77)
       have HOW8 := hid (HOW5.out.bel hz8)
       have HK8 := hid (HK5.out.below hz8 hs5)
       have HB8 := hid (HB5.out.trans (hz8.mono HB5.out.size))
       have HRD8 : Hid (Rd (w5.alloc (.cells (#[.int .i64 (y.lv : Int), .string (bstr y.rule), .int .i64 y.id, .int .i64 y.err, .slice none 0 0] : Array Value) 77)) (some ⟨w5.heap.size, 0, none⟩) (1 * 5) (rxC y)) := hid (Rd.of_blk (vs := rxC y) (Blk.new w5 77 _))
       have hs8b : w.heap.size + 1 ≤ (w5.alloc (.cells (#[.int .i64 (y.lv : Int), .string (bstr y.rule), .int .i64 y.id, .int .i64 y.err, .slice none 0 0] : Array Value) 77)).heap.size := by rw [World.size_alloc]; omega
       have HO1 : Hid (∀ u ∈ rxC y, u.oneCell' = true) := hid (by intro u hu; unfold rxC at hu; simp at hu; rcases hu with rfl | rfl | rfl | rfl | rfl <;> rfl)
       obtain ⟨xs, hown8, hcs8⟩ := HOW8.out
       have HOL : Hid (∀ k, (Value.slice A 0 c).ownBlock = some k → w.heap.size + 1 ≤ k) := hid (fun k hk => (hown8.lt k hk).1)
       have HOX := hid hown8
       have HCX := hid hcs8
       clear hown8 hcs8 hz8
       go_wp2_with (first
        | (refine wpList_load_row rfl 77 _ rfl w3.heap.size rfl 77 (#[.int .i64 (y.lv : Int), .string (bstr y.rule), .int .i64 y.id, .int .i64 y.err, .slice none 0 0] : Array Value) (0, 0) _ HN5.out Tryz.underlying77 rfl size_rx ?_)
        | (at_builtin; refine app_row rowRx rfl _ _ rfl _ (.slice A 0 c) 0 xs _ (w.heap.size + 1) rfl HOX.out _ 1 1 rfl HRD8.out HO1.out hs8b (by omega) ?_; intro v9 w9 ho9 hg9 hb9 hw9))
       go_roundw
       case rel => exact ⟨k + 1, [] ++ [y], by go_num, hu2, HLN, Shp.Own.app (M := [y]) HOX.out HCX.out (Shp.Cells.one (x := y) (X := rxC y) rfl) ho9 hg9 hw9, HP2, HL39, HK8.out.grown hg9 (fun e => by have := HOL.out _ e.symm; omega), HB8.out.trans ((Below.refl w.heap.size _).grown hg9 (by omega) (fun k e => by have := HOL.out k e; omega))⟩
       case measure => simp [RowKit.intOf]; omega
      ·have HRES : Hid (Rn.parse S.data.toList = .bad 1 10) := hid (by rw [HPA.out, HPL.out, HOP.out, hc]; simp only [hr]; rw [if_neg (by simp [Rn.okLv, Rn.last, hlv])]; rfl)
       have hd1 : ((y.lv : Int) == 0) = false := by rw [beq_eq_false_iff_ne]; omega
       have hd2 : (y.lv == 0) = false := by rw [beq_eq_false_iff_ne]; omega
       clear hlv hc hr
       have HKF := HK5
       have HBF := HB5
       go_wp2_with ((with_reducible refine store_rowb rfl 25 _ _ rfl w.heap.size zRn ?_ ?_ 25 zRn HKF.out size_rn ?_ (by simp [Value.oneCell']) ?_); rfl; rfl; rfl)
       exact bodyPost_ret (results_row_tmp2 rfl _ _ w.heap.size _ _ _ rfl (setRow_heap _ _ _ _ _ _ HKF.out) Tryz.underlying25 rfl size_rn) rfl ⟨.inl ⟨1, 10, HRES.out, rfl⟩, below_setRow HBF.out (Nat.le_refl _) _⟩
   ·have hc : Rn.cutB 10 (S.data.toList.drop p) = none := by rw [List.drop_eq_nil_of_le (by rw [← HSZ.out]; omega)]; rfl
    have HRES : Hid (Rn.parse S.data.toList = .bad 1 10) := hid (by rw [HPA.out, HPL.out, HOP.out, hc]; rfl)
    have hu := HU.out
    rw [hc] at hu
    have HU1 : Hid (Rn.untilF 10 S.data.toList p = S.size) := hid (hu.trans HSZ.out.symm)
    have HKF := HK
    have HBF := HB
    clear hu hc
    go_wp2_with fail
    refine (HUN.out _).mono ?_
    rintro e w2 ⟨rfl, rfl⟩
    rw [HU1.out]
    go_wp2_with ((with_reducible refine store_rowb rfl 25 _ _ rfl w.heap.size zRn ?_ ?_ 25 zRn HKF.out size_rn ?_ (by simp [Value.oneCell']) ?_); rfl; rfl; rfl)
    exact bodyPost_ret (results_row_tmp2 rfl _ _ w.heap.size _ _ _ rfl (setRow_heap _ _ _ _ _ _ HKF.out) Tryz.underlying25 rfl size_rn) rfl ⟨.inl ⟨1, 10, HRES.out, rfl⟩, below_setRow HBF.out (Nat.le_refl _) _⟩
  | cons x l =>
   obtain ⟨A1, c1, e1, -, hrow⟩ := HOW.out.row (ok' := fun b => w.heap.size + 1 ≤ b) (fun b h => h) (fun k hk => by
    obtain ⟨xs, h1, -⟩ := HOW.out
    exact (h1.lt k hk).1)
   injection e1 with e1 _ e2
   subst e1 e2
   obtain ⟨z, b, off, X, hz, rfl, -, hbz, hrz, rfl⟩ := hrow.at_ (i := l.length) (by simp)
   have hll : l.length + 1 ≤ 100000 := by have := HLP.out; rw [List.length_cons] at this; omega
   have hnz : ((l.length : Int) + 1 == 0) = false := by rw [beq_eq_false_iff_ne]; omega
   by_cases hpl : p < S.size
   ·have hcz : wr.cell? ⟨b, off + l.length * 5, none⟩ = some (.int .i64 (z.lv : Int)) := hrz 0 _ rfl
    have HCZ := hid hcz
    have HLZ : Hid (Rn.last (x :: l) = some z.lv) := hid (by
     unfold Rn.last
     rw [List.getLast?_eq_getElem?]
     show ((x :: l)[l.length]?).map _ = _
     rw [hz]; rfl)
    have HZL : Hid (z.lv ≤ 39) := hid (HZ39.out z (List.mem_of_getElem? hz))
    have HOP := hid (Rn.parseA_open (l := x :: l) (s := S.data.toList.drop p) (fun h => by
     have h1 := congrArg List.length h.1
     rw [List.length_drop, List.length_nil, ← HSZ.out] at h1
     omega))
    clear hcz hrow hz hrz
    cases hc : Rn.cutB 10 (S.data.toList.drop p) with
    | none =>
     have HRES : Hid (Rn.parse S.data.toList = .bad (l.length + 2) 10) := hid (by rw [HPA.out, HPL.out, HOP.out, hc]; rfl)
     have hu := HU.out
     rw [hc] at hu
     have HU1 : Hid (Rn.untilF 10 S.data.toList p = S.size) := hid (hu.trans HSZ.out.symm)
     have HKF := HK
     have HBF := HB
     clear hu hc
     go_wp2_with fail
     refine (HUN.out _).mono ?_
     rintro e w2 ⟨rfl, rfl⟩
     rw [HU1.out]
     go_wp2_with ((with_reducible refine store_rowb rfl 25 _ _ rfl w.heap.size zRn ?_ ?_ 25 zRn HKF.out size_rn ?_ (by simp [Value.oneCell']) ?_); rfl; rfl; rfl)
     exact bodyPost_ret (results_row_tmp2 rfl _ _ w.heap.size _ _ _ rfl (setRow_heap _ _ _ _ _ _ HKF.out) Tryz.underlying25 rfl size_rn) rfl ⟨.inl ⟨(l.length + 2), 10, HRES.out, rfl⟩, below_setRow HBF.out (Nat.le_refl _) _⟩
    | some q =>
     obtain ⟨a, r⟩ := q
     have hu := HU.out
     rw [hc] at hu
     obtain ⟨hu1, hu2, hu3, hu4⟩ := hu
     obtain ⟨k, hk⟩ : ∃ k, p + a.length = k := ⟨_, rfl⟩
     rw [hk] at hu1 hu2 hu4
     rw [← HSZ.out] at hu2
     have HU1 := hid hu1
     have HXA : Hid ((S.extract p k).data.toList = a) := hid (by rw [Lib.extract_data, show k - p = a.length by omega]; exact hu3)
     have HDR : Hid (S.data.toList.drop (k + 1) = r) := hid hu4
     have hpk : p ≤ k := by omega
     have hal : a.length ≤ 1000000 := by omega
     have HRW := hid (fun W => rrow_any (S.extract p k) W (by rw [str_size, HXA.out]; exact hal))
     clear hu1 hu3 hu4 hk
     cases hr : Rn.row a with
     | none =>
      have HRES : Hid (Rn.parse S.data.toList = .bad (l.length + 2) 10) := hid (by rw [HPA.out, HPL.out, HOP.out, hc]; simp only [hr]; rfl)
      clear hc
      go_wp2_with fail
      refine (HUN.out _).mono ?_
      rintro e w2 ⟨rfl, rfl⟩
      rw [HU1.out]
      go_wp2_with fail
      refine (HRW.out _).mono ?_
      rintro e w3 ⟨hla, hb3⟩
      rw [HXA.out] at hla
      obtain ⟨V, rfl, hvs, hvo⟩ := hla.no hr
      have HSX : Hid ((Tryz.prog.info? 77).map (·.size) = some V.size) := hid (by rw [hvs]; kernel_rfl)
      have HSZV : Hid (zRx.size = V.size) := hid (by rw [hvs]; rfl)
      have HOV := hid hvo
      clear hvs hvo
      have HBR3 := hid hb3
      have HK3 := hid (HK.out.below hb3 hkw)
      have hs3 := hb3.size
      clear hb3 hla
      have HN4 := hid (Blk.new w3 77 zRx)
      have HK5 : Hid (Blk ((w3.alloc (.cells zRx 77)).setRow w3.heap.size V) w.heap.size 25 zRn) := hid ((setRow_other _ _ _ _ (by omega)).trans (HK3.out.alloc (.cells zRx 77)))
      have HN5 : Hid (Blk ((w3.alloc (.cells zRx 77)).setRow w3.heap.size V) w3.heap.size 77 V) := hid (setRow_heap _ _ _ _ _ _ HN4.out)
      have HBR5 := hid (below_setRow (g := w3.heap.size) (HBR3.out.alloc (by omega) (.cells zRx 77)) (by omega) V)
      have hs5 : w.heap.size < ((w3.alloc (.cells zRx 77)).setRow w3.heap.size V).heap.size := HK5.out.lt
      go_upto_region 10 with (((with_reducible refine store_rowb rfl 77 _ _ rfl w3.heap.size V ?_ ?_ 77 zRx HN4.out HSX.out HSZV.out HOV.out ?_); rfl; rfl))
      have HOW5 := hid (HOW.out.bel HBR5.out)
      have HB5 := hid (HB.out.trans (HBR5.out.mono hsw))
      generalize (w3.alloc (.cells zRx 77)).setRow w3.heap.size V = w5 at *
      have HKF := HK5
      have HBF := HB5
      go_wp2_with ((with_reducible refine store_rowb rfl 25 _ _ rfl w.heap.size zRn ?_ ?_ 25 zRn HKF.out size_rn ?_ (by simp [Value.oneCell']) ?_); rfl; rfl; rfl)
      exact bodyPost_ret (results_row_tmp2 rfl _ _ w.heap.size _ _ _ rfl (setRow_heap _ _ _ _ _ _ HKF.out) Tryz.underlying25 rfl size_rn) rfl ⟨.inl ⟨(l.length + 2), 10, HRES.out, rfl⟩, below_setRow HBF.out (Nat.le_refl _) _⟩
     | some y =>
      go_wp2_with fail
      refine (HUN.out _).mono ?_
      rintro e w2 ⟨rfl, rfl⟩
      rw [HU1.out]
      go_wp2_with fail
      refine (HRW.out _).mono ?_
      rintro e w3 ⟨hla, hb3⟩
      rw [HXA.out] at hla
      obtain rfl := hla.yes hr
      have HSX : Hid ((Tryz.prog.info? 77).map (·.size) = some (#[.int .i64 (y.lv : Int), .string (bstr y.rule), .int .i64 y.id, .int .i64 y.err, .slice none 0 0] : Array Value).size) := hid size_rx
      have HSZV : Hid (zRx.size = (#[.int .i64 (y.lv : Int), .string (bstr y.rule), .int .i64 y.id, .int .i64 y.err, .slice none 0 0] : Array Value).size) := hid rfl
      have HOV : Hid ((#[.int .i64 (y.lv : Int), .string (bstr y.rule), .int .i64 y.id, .int .i64 y.err, .slice none 0 0] : Array Value).all (·.oneCell') = true) := hid (by simp [Value.oneCell'])
      have HBR3 := hid hb3
      have HK3 := hid (HK.out.below hb3 hkw)
      have hs3 := hb3.size
      clear hb3 hla
      have HN4 := hid (Blk.new w3 77 zRx)
      have HK5 : Hid (Blk ((w3.alloc (.cells zRx 77)).setRow w3.heap.size (#[.int .i64 (y.lv : Int), .string (bstr y.rule), .int .i64 y.id, .int .i64 y.err, .slice none 0 0] : Array Value)) w.heap.size 25 zRn) := hid ((setRow_other _ _ _ _ (by omega)).trans (HK3.out.alloc (.cells zRx 77)))
      have HN5 : Hid (Blk ((w3.alloc (.cells zRx 77)).setRow w3.heap.size (#[.int .i64 (y.lv : Int), .string (bstr y.rule), .int .i64 y.id, .int .i64 y.err, .slice none 0 0] : Array Value)) w3.heap.size 77 (#[.int .i64 (y.lv : Int), .string (bstr y.rule), .int .i64 y.id, .int .i64 y.err, .slice none 0 0] : Array Value)) := hid (setRow_heap _ _ _ _ _ _ HN4.out)
      have HBR5 := hid (below_setRow (g := w3.heap.size) (HBR3.out.alloc (by omega) (.cells zRx 77)) (by omega) (#[.int .i64 (y.lv : Int), .string (bstr y.rule), .int .i64 y.id, .int .i64 y.err, .slice none 0 0] : Array Value))
      have hs5 : w.heap.size < ((w3.alloc (.cells zRx 77)).setRow w3.heap.size (#[.int .i64 (y.lv : Int), .string (bstr y.rule), .int .i64 y.id, .int .i64 y.err, .slice none 0 0] : Array Value)).heap.size := HK5.out.lt
      go_upto_region 10 with (((with_reducible refine store_rowb rfl 77 _ _ rfl w3.heap.size (#[.int .i64 (y.lv : Int), .string (bstr y.rule), .int .i64 y.id, .int .i64 y.err, .slice none 0 0] : Array Value) ?_ ?_ 77 zRx HN4.out HSX.out HSZV.out HOV.out ?_); rfl; rfl))
      have HOW5 := hid (HOW.out.bel HBR5.out)
      have HB5 := hid (HB.out.trans (HBR5.out.mono hsw))
      have HCZ5 : Hid (((w3.alloc (.cells zRx 77)).setRow w3.heap.size (#[.int .i64 (y.lv : Int), .string (bstr y.rule), .int .i64 y.id, .int .i64 y.err, .slice none 0 0] : Array Value)).cell? ⟨b, off + l.length * 5, none⟩ = some (.int .i64 (z.lv : Int))) := hid ((HBR5.out.cell (p := ⟨b, off + l.length * 5, none⟩) hbz).trans HCZ.out)
      generalize (w3.alloc (.cells zRx 77)).setRow w3.heap.size (#[.int .i64 (y.lv : Int), .string (bstr y.rule), .int .i64 y.id, .int .i64 y.err, .slice none 0 0] : Array Value) = w5 at *
      have hcl := HN5.out.cell 0
      by_cases hlv : 1 ≤ y.lv ∧ y.lv ≤ z.lv + 1 ∧ y.lv ≤ 39
      ·have HLN : Hid (((x :: l) ++ [y]).length ≤ k + 1) := hid (by rw [List.length_append]; have := HLP.out; show _ + 1 ≤ _; omega)
       have HP2 : Hid (Rn.parseA [] S.data.toList = Rn.parseA ((x :: l) ++ [y]) (S.data.toList.drop (k + 1))) := hid (by rw [HPL.out, HOP.out, hc]; simp only [hr]; rw [if_pos (by rw [HLZ.out]; simp [Rn.okLv]; omega), HDR.out])
       have HL39 : Hid (∀ q ∈ (x :: l) ++ [y], q.lv ≤ 39) := hid (fun q hq => by
        rcases List.mem_append.1 hq with h | h
        ·exact HZ39.out q h
        ·rw [List.mem_singleton.1 h]; omega)
       have hd1 : decide ((1 : Int) ≤ (y.lv : Int)) = true := decide_eq_true (by omega)
       have hd2 : decide (1 ≤ y.lv) = true := decide_eq_true (by omega)
       have hd3 : decide ((y.lv : Int) ≤ (z.lv : Int) + 1) = true := decide_eq_true (by omega)
       have hd4 : decide ((y.lv : Int) ≤ 39) = true := decide_eq_true (by omega)
       have hd5 : decide (y.lv ≤ 39) = true := decide_eq_true (by omega)
       have hd6 : decide (y.lv ≤ z.lv + 1) = true := decide_eq_true (by omega)
       clear hlv hc hr
       have hcz := HCZ5.out
       have hwr1 : IntKind.i64.wrap ((l.length : Int) + 1 - 1) = (l.length : Int) := by rw [IntWalk.i64_in _ (by omega)]; omega
       have hwr2 : (l.length : Int) < (l.length : Int) + 1 := by omega
       have hwr3 : IntKind.i64.wrap ((z.lv : Int) + 1) = (z.lv : Int) + 1 := IntWalk.i64_in _ (by have := HZL.out; omega)
       go_wp2_with fail
       go_quiet (fail)
       clear hcz hwr1 hwr2 hwr3 hcl
       have HK5b := hid (HK5.out.drewN nq)
       have HN5b := hid (HN5.out.drewN nq)
       have HB5b := hid (below_drewN HB5.out nq)
       have HOW5b := hid (HOW5.out.bel (below_drewN (Below.refl _ w5) nq))
       have hs5b : w.heap.size < (w5.drewN nq).heap.size := hs5
       clear HK5 HN5 HB5 hs5 HOW5 HCZ5 HBR5
       have HK5 := HK5b
       have HN5 := HN5b
       have HB5 := HB5b
       have HOW5 := HOW5b
       have hs5 := hs5b
       clear HK5b HN5b HB5b HOW5b hs5b
       generalize w5.drewN nq = w5 at *
       have hz8 := (Below.refl w5.heap.size w5).alloc (Nat.le_refl _) (.cells (#[.int .i64 (y.lv : Int), .string (bstr y.rule), .int .i64 y.id, .int .i64 y.err, .slice none 0 0] : Array Value) 77)
       have HOW8 := hid (HOW5.out.bel hz8)
       have HK8 := hid (HK5.out.below hz8 hs5)
       have HB8 := hid (HB5.out.trans (hz8.mono HB5.out.size))
       have HRD8 : Hid (Rd (w5.alloc (.cells (#[.int .i64 (y.lv : Int), .string (bstr y.rule), .int .i64 y.id, .int .i64 y.err, .slice none 0 0] : Array Value) 77)) (some ⟨w5.heap.size, 0, none⟩) (1 * 5) (rxC y)) := hid (Rd.of_blk (vs := rxC y) (Blk.new w5 77 _))
       have hs8b : w.heap.size + 1 ≤ (w5.alloc (.cells (#[.int .i64 (y.lv : Int), .string (bstr y.rule), .int .i64 y.id, .int .i64 y.err, .slice none 0 0] : Array Value) 77)).heap.size := by rw [World.size_alloc]; omega
       have HO1 : Hid (∀ u ∈ rxC y, u.oneCell' = true) := hid (by intro u hu; unfold rxC at hu; simp at hu; rcases hu with rfl | rfl | rfl | rfl | rfl <;> rfl)
       obtain ⟨xs, hown8, hcs8⟩ := HOW8.out
       have HOL : Hid (∀ k, (Value.slice (some ⟨b, off, none⟩) (l.length + 1) c).ownBlock = some k → w.heap.size + 1 ≤ k) := hid (fun k hk => (hown8.lt k hk).1)
       have HOX := hid hown8
       have HCX := hid hcs8
       clear hown8 hcs8 hz8
       go_wp2_with (first
        | (refine wpList_load_row rfl 77 _ rfl w3.heap.size rfl 77 (#[.int .i64 (y.lv : Int), .string (bstr y.rule), .int .i64 y.id, .int .i64 y.err, .slice none 0 0] : Array Value) (0, 0) _ HN5.out Tryz.underlying77 rfl size_rx ?_)
        | (at_builtin; refine app_row rowRx rfl _ _ rfl _ (.slice (some ⟨b, off, none⟩) (l.length + 1) c) (l.length + 1) xs _ (w.heap.size + 1) rfl HOX.out _ 1 1 rfl HRD8.out HO1.out hs8b (by omega) ?_; intro v9 w9 ho9 hg9 hb9 hw9))
       go_roundw
       case rel => exact ⟨k + 1, (x :: l) ++ [y], by go_num, hu2, HLN, Shp.Own.app (M := [y]) HOX.out HCX.out (Shp.Cells.one (x := y) (X := rxC y) rfl) ho9 hg9 hw9, HP2, HL39, HK8.out.grown hg9 (fun e => by have := HOL.out _ e.symm; omega), HB8.out.trans ((Below.refl w.heap.size _).grown hg9 (by omega) (fun k e => by have := HOL.out k e; omega))⟩
       case measure => simp [RowKit.intOf]; omega
      ·by_cases hl1 : 1 ≤ y.lv
       ·by_cases hl2 : y.lv ≤ z.lv + 1
        ·have HRES : Hid (Rn.parse S.data.toList = .bad (l.length + 2) 10) := hid (by rw [HPA.out, HPL.out, HOP.out, hc]; simp only [hr]; rw [if_neg (by rw [HLZ.out]; simp [Rn.okLv]; omega)]; rfl)
         have hd1 : decide ((1 : Int) ≤ (y.lv : Int)) = true := decide_eq_true (by omega)
         have hd2 : decide (1 ≤ y.lv) = true := decide_eq_true (by omega)
         have hd3 : decide ((y.lv : Int) ≤ (z.lv : Int) + 1) = true := decide_eq_true (by omega)
         have hd6 : decide (y.lv ≤ z.lv + 1) = true := decide_eq_true (by omega)
         have hd4 : decide ((y.lv : Int) ≤ 39) = false := decide_eq_false (by omega)
         have hd5 : decide (y.lv ≤ 39) = false := decide_eq_false (by omega)
         clear hlv hc hr
         have hcz := HCZ5.out
         have hwr1 : IntKind.i64.wrap ((l.length : Int) + 1 - 1) = (l.length : Int) := by rw [IntWalk.i64_in _ (by omega)]; omega
         have hwr2 : (l.length : Int) < (l.length : Int) + 1 := by omega
         have hwr3 : IntKind.i64.wrap ((z.lv : Int) + 1) = (z.lv : Int) + 1 := IntWalk.i64_in _ (by have := HZL.out; omega)
         go_wp2_with fail
         go_quiet (fail)
         clear hcz hwr1 hwr2 hwr3 hcl
         have HK5b := hid (HK5.out.drewN nq)
         have HN5b := hid (HN5.out.drewN nq)
         have HB5b := hid (below_drewN HB5.out nq)
         have HOW5b := hid (HOW5.out.bel (below_drewN (Below.refl _ w5) nq))
         have hs5b : w.heap.size < (w5.drewN nq).heap.size := hs5
         clear HK5 HN5 HB5 hs5 HOW5 HCZ5 HBR5
         have HK5 := HK5b
         have HN5 := HN5b
         have HB5 := HB5b
         have HOW5 := HOW5b
         have hs5 := hs5b
         clear HK5b HN5b HB5b HOW5b hs5b
         generalize w5.drewN nq = w5 at *
         have HKF := HK5
         have HBF := HB5
         go_wp2_with ((with_reducible refine store_rowb rfl 25 _ _ rfl w.heap.size zRn ?_ ?_ 25 zRn HKF.out size_rn ?_ (by simp [Value.oneCell']) ?_); rfl; rfl; rfl)
         exact bodyPost_ret (results_row_tmp2 rfl _ _ w.heap.size _ _ _ rfl (setRow_heap _ _ _ _ _ _ HKF.out) Tryz.underlying25 rfl size_rn) rfl ⟨.inl ⟨(l.length + 2), 10, HRES.out, rfl⟩, below_setRow HBF.out (Nat.le_refl _) _⟩
        ·have HRES : Hid (Rn.parse S.data.toList = .bad (l.length + 2) 10) := hid (by rw [HPA.out, HPL.out, HOP.out, hc]; simp only [hr]; rw [if_neg (by rw [HLZ.out]; simp [Rn.okLv]; omega)]; rfl)
         have hd1 : decide ((1 : Int) ≤ (y.lv : Int)) = true := decide_eq_true (by omega)
         have hd2 : decide (1 ≤ y.lv) = true := decide_eq_true (by omega)
         have hd3 : decide ((y.lv : Int) ≤ (z.lv : Int) + 1) = false := decide_eq_false (by omega)
         have hd6 : decide (y.lv ≤ z.lv + 1) = false := decide_eq_false (by omega)
         clear hlv hc hr
         have hcz := HCZ5.out
         have hwr1 : IntKind.i64.wrap ((l.length : Int) + 1 - 1) = (l.length : Int) := by rw [IntWalk.i64_in _ (by omega)]; omega
         have hwr2 : (l.length : Int) < (l.length : Int) + 1 := by omega
         have hwr3 : IntKind.i64.wrap ((z.lv : Int) + 1) = (z.lv : Int) + 1 := IntWalk.i64_in _ (by have := HZL.out; omega)
         go_wp2_with fail
         go_quiet (fail)
         clear hcz hwr1 hwr2 hwr3 hcl
         have HK5b := hid (HK5.out.drewN nq)
         have HN5b := hid (HN5.out.drewN nq)
         have HB5b := hid (below_drewN HB5.out nq)
         have HOW5b := hid (HOW5.out.bel (below_drewN (Below.refl _ w5) nq))
         have hs5b : w.heap.size < (w5.drewN nq).heap.size := hs5
         clear HK5 HN5 HB5 hs5 HOW5 HCZ5 HBR5
         have HK5 := HK5b
         have HN5 := HN5b
         have HB5 := HB5b
         have HOW5 := HOW5b
         have hs5 := hs5b
         clear HK5b HN5b HB5b HOW5b hs5b
         generalize w5.drewN nq = w5 at *
         have HKF := HK5
         have HBF := HB5
         go_wp2_with ((with_reducible refine store_rowb rfl 25 _ _ rfl w.heap.size zRn ?_ ?_ 25 zRn HKF.out size_rn ?_ (by simp [Value.oneCell']) ?_); rfl; rfl; rfl)
         exact bodyPost_ret (results_row_tmp2 rfl _ _ w.heap.size _ _ _ rfl (setRow_heap _ _ _ _ _ _ HKF.out) Tryz.underlying25 rfl size_rn) rfl ⟨.inl ⟨(l.length + 2), 10, HRES.out, rfl⟩, below_setRow HBF.out (Nat.le_refl _) _⟩
       ·have HRES : Hid (Rn.parse S.data.toList = .bad (l.length + 2) 10) := hid (by rw [HPA.out, HPL.out, HOP.out, hc]; simp only [hr]; rw [if_neg (by rw [HLZ.out]; simp [Rn.okLv]; omega)]; rfl)
        have hd1 : decide ((1 : Int) ≤ (y.lv : Int)) = false := decide_eq_false (by omega)
        have hd2 : decide (1 ≤ y.lv) = false := decide_eq_false (by omega)
        clear hlv hc hr
        have hcz := HCZ5.out
        have hwr1 : IntKind.i64.wrap ((l.length : Int) + 1 - 1) = (l.length : Int) := by rw [IntWalk.i64_in _ (by omega)]; omega
        have hwr2 : (l.length : Int) < (l.length : Int) + 1 := by omega
        have hwr3 : IntKind.i64.wrap ((z.lv : Int) + 1) = (z.lv : Int) + 1 := IntWalk.i64_in _ (by have := HZL.out; omega)
        go_wp2_with fail
        go_quiet (fail)
        clear hcz hwr1 hwr2 hwr3 hcl
        have HK5b := hid (HK5.out.drewN nq)
        have HN5b := hid (HN5.out.drewN nq)
        have HB5b := hid (below_drewN HB5.out nq)
        have HOW5b := hid (HOW5.out.bel (below_drewN (Below.refl _ w5) nq))
        have hs5b : w.heap.size < (w5.drewN nq).heap.size := hs5
        clear HK5 HN5 HB5 hs5 HOW5 HCZ5 HBR5
        have HK5 := HK5b
        have HN5 := HN5b
        have HB5 := HB5b
        have HOW5 := HOW5b
        have hs5 := hs5b
        clear HK5b HN5b HB5b HOW5b hs5b
        generalize w5.drewN nq = w5 at *
        have HKF := HK5
        have HBF := HB5
        go_wp2_with ((with_reducible refine store_rowb rfl 25 _ _ rfl w.heap.size zRn ?_ ?_ 25 zRn HKF.out size_rn ?_ (by simp [Value.oneCell']) ?_); rfl; rfl; rfl)
        exact bodyPost_ret (results_row_tmp2 rfl _ _ w.heap.size _ _ _ rfl (setRow_heap _ _ _ _ _ _ HKF.out) Tryz.underlying25 rfl size_rn) rfl ⟨.inl ⟨(l.length + 2), 10, HRES.out, rfl⟩, below_setRow HBF.out (Nat.le_refl _) _⟩
   ·have hT : S.data.toList.drop p = [] := List.drop_eq_nil_of_le (by rw [← HSZ.out]; omega)
    have HRES : Hid (Rn.parse S.data.toList = .ok (.mk x.rule x.id x.err (Rn.kidsA x.lv l).1)) := hid (by rw [HPA.out, HPL.out, hT, Rn.parseA_done (by simp)]; rfl)
    have HG := hid (grown_any (l.length + 1) _ x l (x :: l) b off c 0 wr (Nat.lt_succ_self _) (by omega) (by simp; omega) rfl hrow)
    generalize Rn.Tr.mk x.rule x.id x.err (Rn.kidsA x.lv l).1 = t at *
    clear hrow hT hz hrz
    go_wp2_with fail
    refine HG.out.mono ?_
    rintro e w3 ⟨⟨V, k3, rfl, -, -, hV⟩, hb3⟩
    have hs3 := hb3.size
    obtain ⟨B, bc, rfl, -⟩ := hV.open
    have HK4 := hid ((HK.out.below hb3 hkw).alloc (.cells zRn 25))
    have HN4 := hid (Blk.new w3 25 zRn)
    have HK5 : Hid (Blk ((w3.alloc (.cells zRn 25)).setRow w3.heap.size #[.string (bstr t.rule), .int .i64 t.id, .int .i64 t.err, .slice B t.kids.length bc]) w.heap.size 25 zRn) := hid ((setRow_other _ _ _ _ (by omega)).trans HK4.out)
    have HN5 : Hid (Blk ((w3.alloc (.cells zRn 25)).setRow w3.heap.size #[.string (bstr t.rule), .int .i64 t.id, .int .i64 t.err, .slice B t.kids.length bc]) w3.heap.size 25 #[.string (bstr t.rule), .int .i64 t.id, .int .i64 t.err, .slice B t.kids.length bc]) := hid (setRow_heap _ _ _ _ _ _ HN4.out)
    have HK6 : Hid (Blk (((w3.alloc (.cells zRn 25)).setRow w3.heap.size #[.string (bstr t.rule), .int .i64 t.id, .int .i64 t.err, .slice B t.kids.length bc]).setRow w.heap.size #[.string (bstr t.rule), .int .i64 t.id, .int .i64 t.err, .slice B t.kids.length bc]) w.heap.size 25 #[.string (bstr t.rule), .int .i64 t.id, .int .i64 t.err, .slice B t.kids.length bc]) := hid (setRow_heap _ _ _ _ _ _ HK5.out)
    have HB6 := hid (below_setRow (g := w.heap.size) (below_setRow (g := w3.heap.size) ((HB.out.trans (hb3.mono hsw)).alloc (by omega) (.cells zRn 25)) (by omega) #[.string (bstr t.rule), .int .i64 t.id, .int .i64 t.err, .slice B t.kids.length bc]) (Nat.le_refl _) #[.string (bstr t.rule), .int .i64 t.id, .int .i64 t.err, .slice B t.kids.length bc])
    have HV6 := hid (hV.keep (w' := (((w3.alloc (.cells zRn 25)).setRow w3.heap.size #[.string (bstr t.rule), .int .i64 t.id, .int .i64 t.err, .slice B t.kids.length bc]).setRow w.heap.size #[.string (bstr t.rule), .int .i64 t.id, .int .i64 t.err, .slice B t.kids.length bc])) (ok' := fun b => w.heap.size ≤ b) (fun b hb hl => ⟨by omega, ((setRow_other _ _ _ _ (by omega)).trans (setRow_other _ _ _ _ (by omega))).trans (Below.heap_alloc _ _ _ hl)⟩))
    clear hb3 hV
    go_wp2_with (first
     | ((with_reducible refine store_rowb rfl 25 _ _ rfl w3.heap.size #[.string (bstr t.rule), .int .i64 t.id, .int .i64 t.err, .slice B t.kids.length bc] ?_ ?_ 25 zRn HN4.out size_rn ?_ (by simp [Value.oneCell']) ?_); rfl; rfl; rfl)
     | (refine wpList_load_row rfl 25 _ rfl w3.heap.size rfl 25 #[.string (bstr t.rule), .int .i64 t.id, .int .i64 t.err, .slice B t.kids.length bc] (0, 0) _ HN5.out Tryz.underlying25 rfl size_rn ?_)
     | ((with_reducible refine store_rowb rfl 25 _ _ rfl w.heap.size #[.string (bstr t.rule), .int .i64 t.id, .int .i64 t.err, .slice B t.kids.length bc] ?_ ?_ 25 zRn HK5.out size_rn ?_ (by simp [Value.oneCell']) ?_); rfl; rfl; rfl))
    exact bodyPost_ret (results_row_tmp2 rfl _ _ w.heap.size _ _ _ rfl HK6.out Tryz.underlying25 rfl size_rn) rfl ⟨.inr ⟨_, _, HRES.out, rfl, HV6.out⟩, HB6.out⟩
end Go.Proofs.YtipclcaafpckcaaGreatDoor
