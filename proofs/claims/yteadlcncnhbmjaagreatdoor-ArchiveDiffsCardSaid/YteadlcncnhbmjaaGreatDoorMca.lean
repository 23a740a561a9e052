/- The texts Ay3, Ay4 of this proof, one behind the other. -/
import Derived.Test.YteadlcncnhbmjaaGreatDoorMbb
import Derived.Test.YteadlcncnhbmjaaGreatDoorMaq
import Derived.Test.YteadlcncnhbmjaaGreatDoorMas
import Derived.Test.YteadlcncnhbmjaaGreatDoorMat
set_option linter.unusedSimpArgs false
/- The walks of the reference's table of best ways, of kept. -/
namespace Ar
/-- how many lines may stay from two places on -/
def bestA (x y : List Str) (i j : Nat) : Nat := best (x.drop i) (y.drop j)
theorem bestA_i (x y : List Str) (j : Nat) : bestA x y x.length j = 0 := by unfold bestA; rw [List.drop_length, best_nil]
theorem bestA_j (x y : List Str) (i : Nat) : bestA x y i y.length = 0 := by unfold bestA; rw [List.drop_length, best_nil2]
theorem bestA_eq {x y : List Str} {i j : Nat} {a b : Str} (hx : x[i]? = some a) (hy : y[j]? = some b) (h : a = b) : bestA x y i j = bestA x y (i + 1) (j + 1) + 1 := by
  unfold bestA
  rw [drop_at hx, drop_at hy, h, best_eq]
theorem bestA_ne {x y : List Str} {i j : Nat} {a b : Str} (hx : x[i]? = some a) (hy : y[j]? = some b) (h : a ≠ b) : bestA x y i j = max (bestA x y (i + 1) j) (bestA x y i (j + 1)) := by
  unfold bestA
  rw [drop_at hx, drop_at hy, best_ne _ _ h]
theorem bestA_le (x y : List Str) (i j : Nat) : bestA x y i j ≤ x.length + y.length := by
  unfold bestA
  have := best_le (x.drop i) (y.drop j)
  rw [List.length_drop, List.length_drop] at this
  omega
/-- the way of the reference is the way of the program -/
theorem way_A {x y : List Str} {i j : Nat} {a b : Str} (hx : x[i]? = some a) (hy : y[j]? = some b) (h : a ≠ b) : disA x y (i + 1) j + 1 = disA x y i j ↔ bestA x y i (j + 1) ≤ bestA x y (i + 1) j := by
  unfold bestA disA
  rw [drop_at hx, drop_at hy]
  exact way_same _ _ h
theorem flat_inj {W i j i' j' : Nat} (hj : j < W) (hj' : j' < W) (h : i * W + j = i' * W + j') : i = i' ∧ j = j' := by
  rcases Nat.lt_trichotomy i i' with hl | hl | hl
  · have := Nat.mul_le_mul_right W (show i + 1 ≤ i' from hl)
    rw [Nat.succ_mul] at this
    omega
  · subst hl; exact ⟨rfl, by omega⟩
  · have := Nat.mul_le_mul_right W (show i' + 1 ≤ i from hl)
    rw [Nat.succ_mul] at this
    omega
end Ar
namespace Go.Proofs.YteadlcncnhbmjaaGreatDoor
open Go.RowKit Go.Lib
set_option linter.unusedVariables false

/-- the flat table, done from place i, j on -/
def BT (w : World) (g : Nat) (x y : List (List UInt8)) (i j : Nat) : Prop :=
  ∃ cur, Blk w g 3 cur ∧ cur.size = (x.length + 1) * (y.length + 1) ∧ ∀ i' j', i' ≤ x.length → j' ≤ y.length → (i < i' ∨ i = i' ∧ j ≤ j' ∨ j' = y.length) → cur[i' * (y.length + 1) + j']? = some (.int .i64 (Ar.bestA x y i' j' : Nat))
theorem flat_lt {m n i j : Nat} (hi : i ≤ m) (hj : j ≤ n) : i * (n + 1) + j < (m + 1) * (n + 1) := by
  have := Nat.mul_le_mul_right (n + 1) hi
  rw [Nat.succ_mul]
  omega
theorem BT.at {w : World} {g : Nat} {x y : List (List UInt8)} {i j i' j' : Nat} (h : BT w g x y i j) (hi : i' ≤ x.length) (hj : j' ≤ y.length) (hd : i < i' ∨ i = i' ∧ j ≤ j' ∨ j' = y.length) : w.cell? ⟨g, i' * (y.length + 1) + j', none⟩ = some (.int .i64 (Ar.bestA x y i' j' : Nat)) := by
  obtain ⟨cur, hb, _, hv⟩ := h
  rw [hb.cell]
  exact hv i' j' hi hj hd
theorem BT.any {w : World} {g : Nat} {x y : List (List UInt8)} {i j i' j' : Nat} (h : BT w g x y i j) (hi : i' ≤ x.length) (hj : j' ≤ y.length) : ∃ v, w.cell? ⟨g, i' * (y.length + 1) + j', none⟩ = some v := by
  obtain ⟨cur, hb, hs, hv⟩ := h
  rw [hb.cell]
  exact ⟨_, Array.getElem?_eq_getElem (by rw [hs]; exact flat_lt hi hj)⟩
theorem BT.frozen {w : World} {g : Nat} {x y : List (List UInt8)} {i j : Nat} (h : BT w g x y i j) (k : Nat) : w.frozen? ⟨g, k, none⟩ = false := by
  obtain ⟨cur, hb, _, _⟩ := h
  exact hb.frozen k
theorem BT.lt {w : World} {g : Nat} {x y : List (List UInt8)} {i j : Nat} (h : BT w g x y i j) : g < w.heap.size := by
  obtain ⟨cur, hb, _, _⟩ := h
  exact hb.lt
theorem BT.below {w w' : World} {g B : Nat} {x y : List (List UInt8)} {i j : Nat} (h : BT w g x y i j) (hb : Below B w w') (hg : g < B) : BT w' g x y i j := by
  obtain ⟨cur, hk, hs, hv⟩ := h
  exact ⟨cur, hk.below hb hg, hs, hv⟩
theorem BT.drewN {w : World} {g : Nat} {x y : List (List UInt8)} {i j : Nat} (h : BT w g x y i j) (q : Nat) : BT (w.drewN q) g x y i j := h
theorem BT.set {w : World} {g : Nat} {x y : List (List UInt8)} {i j : Nat} (h : BT w g x y i (j + 1)) (hi : i < x.length) (hj : j < y.length) {k : Nat} (hk : k = i * (y.length + 1) + j) {n : Int} (hn : n = (Ar.bestA x y i j : Nat)) : BT (w.setCell ⟨g, k, none⟩ (.int .i64 n)) g x y i j := by
  obtain ⟨cur, hb, hs, hv⟩ := h
  subst hk
  refine ⟨cur.setIfInBounds (i * (y.length + 1) + j) (.int .i64 n), hb.set_ _ _, by rw [Array.size_setIfInBounds]; exact hs, fun i' j' h1 h2 h3 => ?_⟩
  rw [Array.getElem?_setIfInBounds]
  by_cases e : i * (y.length + 1) + j = i' * (y.length + 1) + j'
  · obtain ⟨rfl, rfl⟩ := Ar.flat_inj (by omega) (by omega) e
    rw [if_pos rfl, if_pos (by rw [hs]; exact flat_lt h1 h2), hn]
  · rw [if_neg e]
    refine hv i' j' h1 h2 ?_
    rcases h3 with h3 | ⟨rfl, h3⟩ | h3
    · exact .inl h3
    · refine .inr (.inl ⟨rfl, ?_⟩)
      rcases Nat.lt_or_ge j j' with hl | hl
      · omega
      · exact absurd (by rw [show j = j' from by omega]) e
    · exact .inr (.inr h3)
theorem BT.row {w : World} {g : Nat} {x y : List (List UInt8)} {i : Nat} (h : BT w g x y (i + 1) 0) : BT w g x y i y.length := by
  obtain ⟨cur, hb, hs, hv⟩ := h
  refine ⟨cur, hb, hs, fun i' j' h1 h2 h3 => hv i' j' h1 h2 ?_⟩
  rcases h3 with h3 | ⟨rfl, h3⟩ | h3
  · rcases Nat.lt_or_ge (i + 1) i' with hl | hl
    · exact .inl hl
    · exact .inr (.inl ⟨by omega, Nat.zero_le _⟩)
  · exact .inr (.inr (by omega))
  · exact .inr (.inr h3)
theorem BT.new (w : World) (x y : List (List UInt8)) : BT (w.alloc (.cells (madeCells #[.int .i64 0] ((x.length + 1) * (y.length + 1))) 3)) w.heap.size x y x.length 0 := by
  refine ⟨_, Blk.new _ _ _, by rw [size_madeCells], fun i' j' h1 h2 h3 => ?_⟩
  rw [made_at _ _ _ (flat_lt h1 h2)]
  rcases h3 with h3 | ⟨rfl, h3⟩ | rfl
  · omega
  · rw [Ar.bestA_i]; rfl
  · rw [Ar.bestA_j]; rfl
set_option maxHeartbeats 4000000 in
set_option maxRecDepth 100000 in
theorem best_any (A B : Option Addr) (ca cb : Nat) (x y : List (List UInt8)) (w : World) (hx : Rd w A x.length (strL x)) (hy : Rd w B y.length (strL y)) (hxl : x.length ≤ 2000) (hyl : y.length ≤ 2000) :
    Calls Tryz.prog 94 #[.slice A x.length ca, .slice B y.length cb] w fun e w' => e = .returned (.slice (some ⟨w.heap.size, 0, none⟩) ((x.length + 1) * (y.length + 1)) ((x.length + 1) * (y.length + 1))) ∧ BT w' w.heap.size x y 0 0 ∧ Below w.heap.size w w' := by
  have HX := Lib.hid hx
  have HY := Lib.hid hy
  clear hx hy
  have HT0 := Lib.hid (BT.new w x y)
  have HB0 := Lib.hid ((Below.refl w.heap.size w).alloc (Nat.le_refl _) (.cells (madeCells #[.int .i64 0] ((x.length + 1) * (y.length + 1))) 3))
  obtain ⟨SZ, hSZ⟩ : ∃ SZ, (x.length + 1) * (y.length + 1) = SZ := ⟨_, rfl⟩
  have HSZ := Lib.hid hSZ
  have hszl : SZ ≤ 4004001 := by
    have h1 := Nat.mul_le_mul (show x.length + 1 ≤ 2001 by omega) (show y.length + 1 ≤ 2001 by omega)
    omega
  have hmul : ((x.length : Int) + 1) * ((y.length : Int) + 1) = (SZ : Int) := by rw [← hSZ, Int.natCast_mul, Int.natCast_add, Int.natCast_add]; rfl
  rw [hSZ] at HT0 HB0
  rw [hSZ]
  have hmk : ∀ W : World, (Instr.makeSlice 29 (.int .i64 (SZ : Int)) (.int .i64 (SZ : Int))).run Tryz.prog W = .ok (.slice (some ⟨W.heap.size, 0, none⟩) SZ SZ) (W.alloc (.cells (madeCells #[.int .i64 0] SZ) 3)) := fun W => by
    obtain ⟨iI, hi, hz0, hz1, hz2⟩ := info_parts info_int
    have h := run_make (P := Tryz.prog) W 29 3 iI (.int .i64 0) Tryz.underlying29 hi hz0 .i64 .i64 (SZ : Int) (SZ : Int) (by omega) (by omega) (by rw [hz2]; omega) (by omega)
    rw [show ((SZ : Int)).toNat = SZ from by omega, hz1, Nat.mul_one] at h
    exact h
  generalize hw1 : w.alloc (.cells (madeCells #[.int .i64 0] SZ) 3) = w1 at *
  clear hSZ
  go_enter Tryz.func94, Tryz.ntmps94
  go_wp2_with fail
  go_loopw [7] (fun ix wr => ∃ k : Nat, k ≤ x.length ∧ ix = .int .i64 ((k : Int) - 1) ∧ BT wr w.heap.size x y k 0 ∧ Below w.heap.size w wr) (fun ix _ => (RowKit.intOf ix + 1).toNat)
  case atStart => exact ⟨x.length, Nat.le_refl _, by go_num, HT0.out, HB0.out⟩
  case round =>
    obtain ⟨k, hk, hix, ht, hb⟩ := hrel
    have HT := Lib.hid ht
    have HB := Lib.hid hb
    clear ht hb
    rcases k with _ | i
    · rw [show ((0 : Nat) : Int) - 1 = -1 from rfl] at hix
      subst hix
      go_wp2_with fail
      go_ret
      exact ⟨rfl, HT.out, HB.out⟩
    · rw [show ((i + 1 : Nat) : Int) - 1 = (i : Int) from by omega] at hix
      subst hix
      have hin : i < x.length := by omega
      obtain ⟨P0, hP0⟩ : ∃ P0, i * (y.length + 1) = P0 := ⟨_, rfl⟩
      obtain ⟨P1, hP1⟩ : ∃ P1, (i + 1) * (y.length + 1) = P1 := ⟨_, rfl⟩
      have hm0 : (i : Int) * ((y.length : Int) + 1) = (P0 : Int) := by rw [← hP0, Int.natCast_mul, Int.natCast_add]; rfl
      have hm1 : ((i : Int) + 1) * ((y.length : Int) + 1) = (P1 : Int) := by rw [← hP1, Int.natCast_mul, Int.natCast_add, Int.natCast_add]; rfl
      have HP0 := Lib.hid hP0
      have HP1 := Lib.hid hP1
      have hPP : P1 = P0 + (y.length + 1) := by rw [← hP1, ← hP0, Nat.succ_mul]
      have hPS : P1 + (y.length + 1) ≤ SZ := by
        have h1 := Nat.mul_le_mul_right (y.length + 1) (show i + 1 + 1 ≤ x.length + 1 by omega)
        rw [HSZ.out, Nat.succ_mul (i + 1), hP1] at h1
        exact h1
      replace hPP := Lib.hid hPP
      clear hP0 hP1
      have hp1 : P0 + (y.length + 1) + (y.length + 1) ≤ SZ := by have := hPP.out; omega
      clear hmk hmul
      go_wp2_with fail
      go_loopw [8] (fun jx wr => ∃ j0 : Nat, j0 ≤ y.length ∧ jx = .int .i64 ((j0 : Int) - 1) ∧ BT wr w.heap.size x y i j0 ∧ Below w.heap.size w wr) (fun jx _ => (RowKit.intOf jx + 1).toNat)
      case atStart => exact ⟨y.length, Nat.le_refl _, by go_num, HT.out.row, HB.out⟩
      case round =>
        obtain ⟨j0, hj, hjx, ht2, hb2⟩ := hrel
        have HT2 := Lib.hid ht2
        have HB2 := Lib.hid hb2
        have hbs := hb2.size
        clear ht2 hb2
        rcases j0 with _ | j
        · rw [show ((0 : Nat) : Int) - 1 = -1 from rfl] at hjx
          subst hjx
          go_wp2_with fail
          go_roundw
          case rel => exact ⟨i, by omega, by go_num, HT2.out, HB2.out⟩
          case measure => simp [RowKit.intOf] <;> omega
        · rw [show ((j + 1 : Nat) : Int) - 1 = (j : Int) from by omega] at hjx
          subst hjx
          obtain ⟨ba, oa, a, rfl, hxa, hca⟩ := (HX.out.below HB2.out).str_at (k := i) (by omega)
          obtain ⟨bb, ob, b, rfl, hyb, hcb⟩ := (HY.out.below HB2.out).str_at (k := j) (by omega)
          have HXA := Lib.hid hxa
          have HYB := Lib.hid hyb
          have hv1 := HT2.out.at (i' := i + 1) (j' := j) (by omega) (by omega) (.inl (Nat.lt_succ_self _))
          have hv2 := HT2.out.at (i' := i) (j' := j + 1) (by omega) (by omega) (.inr (.inl ⟨rfl, Nat.le_refl _⟩))
          have hv3 := HT2.out.at (i' := i + 1) (j' := j + 1) (by omega) (by omega) (.inl (Nat.lt_succ_self _))
          obtain ⟨v0, hv0⟩ := HT2.out.any (i' := i) (j' := j) (by omega) (by omega)
          rw [HP0.out] at hv0 hv2
          rw [HP1.out] at hv1 hv3
          rw [← Nat.add_assoc] at hv2 hv3
          have hf0 := HT2.out.frozen (P0 + j)
          have hl1 : Ar.bestA x y (i + 1) j ≤ 4000 := Nat.le_trans (Ar.bestA_le x y _ _) (by omega)
          have hl2 : Ar.bestA x y i (j + 1) ≤ 4000 := Nat.le_trans (Ar.bestA_le x y _ _) (by omega)
          have hl3 : Ar.bestA x y (i + 1) (j + 1) ≤ 4000 := Nat.le_trans (Ar.bestA_le x y _ _) (by omega)
          have HEQ : Hid (a = b → Ar.bestA x y i j = Ar.bestA x y (i + 1) (j + 1) + 1) := Lib.hid (fun h => Ar.bestA_eq hxa hyb h)
          have HNE : Hid (a ≠ b → Ar.bestA x y i j = max (Ar.bestA x y (i + 1) j) (Ar.bestA x y i (j + 1))) := Lib.hid (fun h => Ar.bestA_ne hxa hyb h)
          have HSET : Hid (∀ n q, n = (Ar.bestA x y i j : Int) → BT ((wr.drewN q).setCell ⟨w.heap.size, P0 + j, none⟩ (.int .i64 n)) w.heap.size x y i j) := Lib.hid (fun n q hn => (HT2.out.drewN q).set hin (by omega) (by rw [HP0.out]) hn)
          have HBS : Hid (∀ n q, Below w.heap.size w ((wr.drewN q).setCell ⟨w.heap.size, P0 + j, none⟩ (.int .i64 n))) := Lib.hid (fun n q => (below_drewN HB2.out q).setCell (Nat.le_refl _) _)
          have hsb := str_beq a b
          generalize Ar.bestA x y (i + 1) (j + 1) = v3 at *
          generalize Ar.bestA x y (i + 1) j = v1 at *
          generalize Ar.bestA x y i (j + 1) = v2 at *
          generalize Ar.bestA x y i j = vv at *
          have hjl : j < y.length := by omega
          clear hxa hyb
          have hcase : (a = b ∧ ((bstr a).toList == (bstr b).toList) = true) ∨ (a ≠ b ∧ ((bstr a).toList == (bstr b).toList) = false) := by
            by_cases hab : a = b
            · exact .inl ⟨hab, by rw [hsb, hab]; exact beq_self_eq_true _⟩
            · exact .inr ⟨hab, by rw [hsb]; simpa using hab⟩
          clear hsb
          generalize bstr a = sa at *
          generalize bstr b = sb at *
          rcases hcase with ⟨hab, h1⟩ | ⟨hab, h1⟩
          · have HE := Lib.hid (HEQ.out hab)
            clear HEQ HNE hab
            by_cases hgt : v1 < v2
            · go_wp2_with fail
              go_quiet (fail)
              go_wp2_with fail
              go_roundw
              case rel => exact ⟨j, by omega, by go_num, HSET.out _ _ (by rw [HE.out]; omega), HBS.out _ _⟩
              case measure => simp [RowKit.intOf] <;> omega
            · go_wp2_with fail
              go_quiet (fail)
              go_wp2_with fail
              go_roundw
              case rel => exact ⟨j, by omega, by go_num, HSET.out _ _ (by rw [HE.out]; omega), HBS.out _ _⟩
              case measure => simp [RowKit.intOf] <;> omega
          · have HE := Lib.hid (HNE.out hab)
            clear HEQ HNE hab
            by_cases hgt : v1 < v2
            · go_wp2_with fail
              go_quiet (fail)
              go_wp2_with fail
              go_roundw
              case rel => exact ⟨j, by omega, by go_num, HSET.out _ _ (by rw [HE.out]; omega), HBS.out _ _⟩
              case measure => simp [RowKit.intOf] <;> omega
            · go_wp2_with fail
              go_quiet (fail)
              go_wp2_with fail
              go_roundw
              case rel => exact ⟨j, by omega, by go_num, HSET.out _ _ (by rw [HE.out]; omega), HBS.out _ _⟩
              case measure => simp [RowKit.intOf] <;> omega
set_option maxHeartbeats 1000000 in
set_option maxRecDepth 100000 in
theorem kept_any (v : Value) (us : List (List UInt8)) (n base : Nat) (w : World) (ho : OwnS base w v us) (hn : n ≤ 1000000) (hu : us.length ≤ 1000000) (hbase : base ≤ w.heap.size) :
    Calls Tryz.prog 95 #[v, .int .i64 n] w fun e w' => ∃ v', e = .returned v' ∧ OwnS base w' v' (us ++ flushS n) ∧ ∀ w0, Below base w0 w → Below base w0 w' := by
  obtain ⟨A0, cap0, rfl⟩ := own_any ho
  have HO := Lib.hid ho
  clear ho
  rcases Nat.eq_zero_or_pos n with h0 | h0
  · subst h0
    have HE : Hid (us ++ flushS 0 = us) := Lib.hid (by simp [flushS, Ar.flush])
    go_enter Tryz.func95, Tryz.ntmps95
    go_wp2_with fail
    go_ret
    exact ⟨_, rfl, by rw [HE.out]; exact HO.out, fun _ h => h⟩
  · have HF := Lib.hid (flush_pos h0)
    have HT := Lib.hid (fun W => rtext_any n W ⟨by omega, by omega⟩)
    have hTl : (bstr (Ar.itoa n)).size ≤ 100 := by rw [bstr_size]; have := itoa_len (n : Int) ⟨by omega, by omega⟩; omega
    have hS := keep_str n
    have hlen9 : ¬ 9223372036854775807 < 2 + (bstr (Ar.itoa n)).size := by omega
    go_enter Tryz.func95, Tryz.ntmps95
    go_wp2_with fail
    refine (HT.out _).mono ?_
    rintro e w2 ⟨rfl, hb2⟩
    have HB2 := Lib.hid hb2
    have HO2 := Lib.hid (own_below HO.out hb2 (Nat.le_refl _))
    have hbs2 := hb2.size
    have HSTR : Hid (∀ u ∈ [Value.string (bstr (Ar.Ed.enc (.keep n)))], u.oneCell' = true) := Lib.hid (one_strs [Ar.Ed.enc (.keep n)])
    have HTE : Hid (strL [Ar.Ed.enc (.keep n)] = [Value.string (bstr (Ar.Ed.enc (.keep n)))]) := Lib.hid rfl
    clear hb2
    generalize bstr (Ar.itoa n) = T at *
    generalize hU : bstr (Ar.Ed.enc (.keep n)) = U at *
    go_wp2_with (at_builtin; refine app_lit rowStr rfl _ _ rfl w2 [.string U] 1 rfl HSTR.out (.slice A0 us.length cap0) us.length (strL us) base rfl HO2.out rfl (by omega) (by omega) ?_; intro v6 w6 ho6 hg6 hb6; obtain ⟨A6, cap6, rfl⟩ := own_slice ho6)
    have HFIN : Hid (OwnS base w6 (.slice A6 (us.length + 1) cap6) (us ++ flushS n)) := Lib.hid (by rw [HF.out]; unfold OwnS; rw [List.length_append, strL_append, HTE.out]; exact ho6)
    go_ret
    exact ⟨_, rfl, HFIN.out, fun w0 h => hb6 w0 (h.trans (HB2.out.mono hbase))⟩
end Go.Proofs.YteadlcncnhbmjaaGreatDoor
/- The walk of the reference's Diff. Written by genay4.py. -/
namespace Go.Proofs.YteadlcncnhbmjaaGreatDoor
open Go.RowKit Go.Lib
set_option linter.unusedVariables false

/-- the loop of the reference's Diff: w1 the world ahead of the list -/
structure RDI (w1 wr : World) (X Y : List (List UInt8)) (i j n : Nat) (us : List (List UInt8)) (v : Value) : Prop where
  bel : Below w1.heap.size w1 wr
  own : OwnS w1.heap.size wr v us
  eq : encs (Ar.diff X Y) = us ++ encs (Ar.dlA X Y i j n)
  ile : i ≤ X.length
  jle : j ≤ Y.length
  nle : n ≤ i
  ule : us.length ≤ 2 * (i + j)
theorem RDI.keep {w1 wr : World} {X Y : List (List UInt8)} {i j n : Nat} {us : List (List UInt8)} {v : Value} (h : RDI w1 wr X Y i j n us v) (hi : i < X.length) (hj : j < Y.length) (he : Ar.dlA X Y i j n = Ar.dlA X Y (i + 1) (j + 1) (n + 1)) (q : Nat) : RDI w1 (wr.drewN q) X Y (i + 1) (j + 1) (n + 1) us v :=
  ⟨below_drewN h.bel q, h.own, by rw [h.eq, he], hi, hj, by have := h.nle; omega, by have := h.ule; omega⟩
theorem RDI.more {w1 wr w5 : World} {X Y : List (List UInt8)} {i j n i' j' m : Nat} {us : List (List UInt8)} {v v5 : Value} {c : UInt8} {l : List UInt8} {xs : List Value} (h : RDI w1 wr X Y i j n us v) (hb : Below w1.heap.size w1 w5)
    (h5 : w5.ownsRow w1.heap.size 9 1 v5 m xs) (hm : m = (us ++ flushS n).length + 1) (hxs : xs = strL (us ++ flushS n ++ [sgn c l]))
    (hi : i' ≤ X.length) (hj : j' ≤ Y.length) (hij : i' + j' = i + j + 1) (he : encs (Ar.dlA X Y i j n) = flushS n ++ sgn c l :: encs (Ar.dlA X Y i' j' 0)) : RDI w1 w5 X Y i' j' 0 (us ++ flushS n ++ [sgn c l]) v5 where
  bel := hb
  own := by
    subst hm hxs
    unfold OwnS
    rw [show (us ++ flushS n ++ [sgn c l]).length = (us ++ flushS n).length + 1 from by rw [List.length_append, List.length_singleton]]
    exact h5
  eq := by rw [h.eq, he]; simp
  ile := hi
  jle := hj
  nle := Nat.zero_le _
  ule := by
    have := h.ule
    have h2 := flushS_len n
    simp only [List.length_append, List.length_singleton]
    omega
theorem sgn_two (c : UInt8) (s : List UInt8) : (⟨#[c, 32]⟩ : ByteArray) ++ bstr s = bstr (sgn c s) := str_eq (by simp [bstr, sgn])
theorem own_lit0 (w : World) : OwnS w.heap.size (w.alloc (.cells #[] 9)) (.slice (some ⟨w.heap.size, 0, none⟩) 0 0) [] := World.ownsRow_lit (base := w.heap.size) (e := 9) (size := 1) w #[] 0 (Nat.le_refl _) (by decide) rfl
theorem encs_flush (n : Nat) (d : List Ar.Ed) (c : UInt8) (l : List UInt8) (e : Ar.Ed) (h : Ar.Ed.enc e = sgn c l) : encs (Ar.flush n ++ e :: d) = flushS n ++ sgn c l :: encs d := by rw [encs_app]; unfold encs flushS; rw [List.map_cons, h]
set_option maxHeartbeats 8000000 in
set_option maxRecDepth 100000 in
theorem rdiff_any (a b : ByteArray) (w : World) (ha : a.size ≤ 100000) (hb : b.size ≤ 100000) (hla : (Ar.lines a.data.toList).length ≤ 2000) (hlb : (Ar.lines b.data.toList).length ≤ 2000) :
    Calls Tryz.prog 36 #[.string a, .string b] w fun e w' => ∃ v, e = .returned v ∧ OwnS w.heap.size w' v (encs (Ar.diff (Ar.lines a.data.toList) (Ar.lines b.data.toList))) ∧ Below w.heap.size w w' := by
  have HLA := Lib.hid (rlines_any a w (by omega))
  have HLB := Lib.hid (fun W => rlines_any b W (by omega))
  have HSX := Lib.hid (Ar.lines_short a.data.toList)
  have HSY := Lib.hid (Ar.lines_short b.data.toList)
  rw [str_size a |>.symm] at HSX
  rw [str_size b |>.symm] at HSY
  generalize Ar.lines a.data.toList = X at *
  generalize Ar.lines b.data.toList = Y at *
  go_enter Tryz.func36, Tryz.ntmps36
  go_wp2_with fail
  refine HLA.out.mono ?_
  rintro e w2 ⟨⟨vx, rfl, hox⟩, hb2⟩
  obtain ⟨AX, cX, rfl⟩ := own_slice hox
  have HX2 := Lib.hid (Rd.of_own hox)
  have HB2 := Lib.hid hb2
  clear hox hb2
  go_wp2_with fail
  refine (HLB.out _).mono ?_
  rintro e w3 ⟨⟨vy, rfl, hoy⟩, hb3⟩
  obtain ⟨AY, cY, rfl⟩ := own_slice hoy
  have HX3 := Lib.hid (HX2.out.below hb3)
  have HY3 := Lib.hid (Rd.of_own hoy)
  have HB3 := Lib.hid (HB2.out.trans (hb3.mono HB2.out.size))
  clear hoy hb3
  have q1 : decide ((2000 : Int) < (X.length : Int)) = false := decide_eq_false (by omega)
  have q2 : decide ((2000 : Int) < (Y.length : Int)) = false := decide_eq_false (by omega)
  go_wp2_with fail
  try (go_quiet (fail); go_wp2_with fail)
  refine (best_any AX AY cX cY X Y _ (by first | exact HX3.out | exact HX3.out.drewN _) (by first | exact HY3.out | exact HY3.out.drewN _) hla hlb).mono ?_
  rintro e w4 ⟨rfl, ht4, hb4⟩
  have HX := Lib.hid (Rd.below (by first | exact HX3.out | exact HX3.out.drewN _) hb4)
  have HY := Lib.hid (Rd.below (by first | exact HY3.out | exact HY3.out.drewN _) hb4)
  have HT := Lib.hid ht4
  have HTL := Lib.hid ht4.lt
  have HB4 : Hid (Below w.heap.size w w4) := Lib.hid (by first | exact HB3.out.trans (hb4.mono HB3.out.size) | exact (below_drewN HB3.out _).trans (hb4.mono (below_drewN HB3.out _).size))
  clear ht4 hb4
  generalize hgT : w3.heap.size = gT at *
  clear hgT
  have HO0 := Lib.hid (own_lit0 w4)
  have HBA := Lib.hid ((Below.refl w4.heap.size w4).alloc (Nat.le_refl _) (.cells #[] 9))
  generalize hw5 : w4.alloc (.cells #[] 9) = w5 at *
  obtain ⟨SZ, hSZ⟩ : ∃ SZ, (X.length + 1) * (Y.length + 1) = SZ := ⟨_, rfl⟩
  have HSZ := Lib.hid hSZ
  have hszl : SZ ≤ 4004001 := by
    have h1 := Nat.mul_le_mul (show X.length + 1 ≤ 2001 by omega) (show Y.length + 1 ≤ 2001 by omega)
    omega
  rw [hSZ]
  clear hSZ
  go_wp2_with fail
  go_loopw [9, 10, 11, 12] (fun ox nx ix jx wr => ∃ (i j n : Nat) (us : List (List UInt8)), nx = .int .i64 n ∧ ix = .int .i64 i ∧ jx = .int .i64 j ∧ RDI w4 wr X Y i j n us ox) (fun _ _ ix jx _ => (X.length + Y.length) - ((RowKit.intOf ix).toNat + (RowKit.intOf jx).toNat))
  case atStart => exact ⟨0, 0, 0, [], rfl, rfl, rfl, ⟨HBA.out, HO0.out, rfl, Nat.zero_le _, Nat.zero_le _, Nat.le_refl _, by simp⟩⟩
  case round =>
    obtain ⟨i, j, n, us, rfl, rfl, rfl, hrel⟩ := hrel
    have HI := Lib.hid hrel
    obtain ⟨AO, cO, rfl⟩ := own_any hrel.own
    have hile := hrel.ile
    have hjle := hrel.jle
    have hnle := hrel.nle
    have hule := hrel.ule
    have hbs := hrel.bel.size
    have HK := Lib.hid (fun q => kept_any _ us n _ (wr.drewN q) hrel.own (by omega) (by omega) hbs)
    clear hrel
    by_cases hi : i < X.length
    · obtain ⟨bx, ox, ax, rfl, hxa, hcx⟩ := (HX.out.below HI.out.bel).str_at hi
      have HXA := Lib.hid hxa
      have HAL := Lib.hid (HSX.out ax (List.mem_of_getElem? hxa))
      by_cases hj : j < Y.length
      · obtain ⟨bz, oy, ay, rfl, hya, hcy⟩ := (HY.out.below HI.out.bel).str_at hj
        have HYA := Lib.hid hya
        have HYL := Lib.hid (HSY.out ay (List.mem_of_getElem? hya))
        have hsb := str_beq ax ay
        by_cases hab : ax = ay
        · have h1 : ((bstr ax).toList == (bstr ay).toList) = true := by rw [hsb, hab]; exact beq_self_eq_true _
          have HE : Hid (∀ q, RDI w4 (wr.drewN q) X Y (i + 1) (j + 1) (n + 1) us (.slice AO us.length cO)) := Lib.hid (fun q => HI.out.keep hi hj (Ar.dlA_eq n hxa hya hab) q)
          clear hxa hya hsb hab
          generalize bstr ax = sa at *
          generalize bstr ay = sb at *
          go_wp2_with fail
          go_quiet (fail)
          go_wp2_with fail
          go_roundw
          case rel => exact ⟨i + 1, j + 1, n + 1, us, by go_num, by go_num, by go_num, HE.out _⟩
          case measure => simp [RowKit.intOf]; omega
        · have h1 : ((bstr ax).toList == (bstr ay).toList) = false := by rw [hsb]; simpa using hab
          obtain ⟨P0, hP0⟩ : ∃ P0, i * (Y.length + 1) = P0 := ⟨_, rfl⟩
          obtain ⟨P1, hP1⟩ : ∃ P1, (i + 1) * (Y.length + 1) = P1 := ⟨_, rfl⟩
          have hm0 : (i : Int) * ((Y.length : Int) + 1) = (P0 : Int) := by rw [← hP0, Int.natCast_mul, Int.natCast_add]; rfl
          have hm1 : ((i : Int) + 1) * ((Y.length : Int) + 1) = (P1 : Int) := by rw [← hP1, Int.natCast_mul, Int.natCast_add, Int.natCast_add]; rfl
          have hPP : P1 = P0 + (Y.length + 1) := by rw [← hP1, ← hP0, Nat.succ_mul]
          have hPS : P1 + (Y.length + 1) ≤ SZ := by
            have h1 := Nat.mul_le_mul_right (Y.length + 1) (show i + 1 + 1 ≤ X.length + 1 by omega)
            rw [HSZ.out, Nat.succ_mul (i + 1), hP1] at h1
            exact h1
          have hp1 : P0 + (Y.length + 1) + (Y.length + 1) ≤ SZ := by omega
          have HV : Hid (∀ w6, Below w4.heap.size w4 w6 → w6.cell? ⟨gT, P1 + j, none⟩ = some (.int .i64 (Ar.bestA X Y (i + 1) j : Nat)) ∧ w6.cell? ⟨gT, P0 + j + 1, none⟩ = some (.int .i64 (Ar.bestA X Y i (j + 1) : Nat))) := Lib.hid (fun w6 hb => by
            have h := HT.out.below hb HTL.out
            have e1 := h.at (i' := i + 1) (j' := j) (by omega) (by omega) (.inl (Nat.zero_lt_succ _))
            have e2 := h.at (i' := i) (j' := j + 1) (by omega) (by omega) (by rcases Nat.eq_zero_or_pos i with h0 | h0; exact .inr (.inl ⟨h0.symm, Nat.zero_le _⟩); exact .inl h0)
            rw [hP1] at e1
            rw [hP0, ← Nat.add_assoc] at e2
            exact ⟨e1, e2⟩)
          have ew1 : IntKind.i64.wrap ((i : Int) + 1) = (i : Int) + 1 := IntWalk.i64_in _ (by omega)
          have ew2 : IntKind.i64.wrap (((i : Int) + 1) * ((Y.length : Int) + 1)) = (P1 : Int) := by rw [hm1]; exact IntWalk.i64_in _ (by omega)
          have ew3 : IntKind.i64.wrap ((P1 : Int) + (j : Int)) = (P1 : Int) + (j : Int) := IntWalk.i64_in _ (by omega)
          have ew4 : IntKind.i64.wrap ((i : Int) * ((Y.length : Int) + 1)) = (P0 : Int) := by rw [hm0]; exact IntWalk.i64_in _ (by omega)
          have ew5 : IntKind.i64.wrap ((P0 : Int) + (j : Int)) = (P0 : Int) + (j : Int) := IntWalk.i64_in _ (by omega)
          have ew6 : IntKind.i64.wrap ((P0 : Int) + (j : Int) + 1) = (P0 : Int) + (j : Int) + 1 := IntWalk.i64_in _ (by omega)
          have eb1 : (0 : Int) ≤ (P1 : Int) + (j : Int) := by omega
          have eb2 : (P1 : Int) + (j : Int) < (SZ : Int) := by omega
          have eb3 : (0 : Int) ≤ (P0 : Int) + (j : Int) + 1 := by omega
          have eb4 : (P0 : Int) + (j : Int) + 1 < (SZ : Int) := by omega
          have et1 : ((P1 : Int) + (j : Int)).toNat = P1 + j := by omega
          have et2 : ((P0 : Int) + (j : Int) + 1).toNat = P0 + j + 1 := by omega
          have ed1 : decide (Y.length ≤ j) = false := decide_eq_false (by omega)
          replace hPP := Lib.hid hPP
          clear hP0 hP1
          have hl1 : Ar.bestA X Y (i + 1) j ≤ 4000 := Nat.le_trans (Ar.bestA_le X Y _ _) (by omega)
          have hl2 : Ar.bestA X Y i (j + 1) ≤ 4000 := Nat.le_trans (Ar.bestA_le X Y _ _) (by omega)
          have HWAY := Lib.hid (Ar.way_A hxa hya hab)
          have HDEL : Hid (Ar.disA X Y (i + 1) j + 1 = Ar.disA X Y i j → encs (Ar.dlA X Y i j n) = flushS n ++ sgn 45 ax :: encs (Ar.dlA X Y (i + 1) j 0)) := Lib.hid (fun h => by rw [Ar.dlA_del n hxa hya hab h]; exact encs_flush _ _ _ _ _ rfl)
          have HADD : Hid (¬ Ar.disA X Y (i + 1) j + 1 = Ar.disA X Y i j → encs (Ar.dlA X Y i j n) = flushS n ++ sgn 43 ay :: encs (Ar.dlA X Y i (j + 1) 0)) := Lib.hid (fun h => by rw [Ar.dlA_add n hxa hya hab h]; exact encs_flush _ _ _ _ _ rfl)
          clear hxa hya hsb hab
          generalize Ar.bestA X Y (i + 1) j = v1 at *
          generalize Ar.bestA X Y i (j + 1) = v2 at *
          by_cases hway : v2 ≤ v1
          · have HEN := Lib.hid (HDEL.out (HWAY.out.2 hway))
            have hway' : decide ((v2 : Int) ≤ (v1 : Int)) = true := decide_eq_true (by omega)
            clear HDEL HADD HWAY
            generalize hsa : bstr ax = sa at *
            generalize bstr ay = sb at *
            go_wp2_with fail
            try (go_quiet (fail); go_wp2_with fail)
            refine (HK.out _).mono ?_
            rintro e w6 ⟨v6, rfl, ho6, hb6⟩
            obtain ⟨A6, c6, rfl⟩ := own_any ho6
            have HO6 := Lib.hid ho6
            have HB6 := Lib.hid (hb6 _ (below_drewN HI.out.bel _))
            have hbs6 := HB6.out.size
            obtain ⟨b7, o7, x7, e7, hx7, hc7⟩ := (HX.out.below HB6.out).str_at (k := i) (by omega)
            injection e7 with e7
            injection e7 with e7 e8 e9
            subst e7 e8
            rw [HXA.out] at hx7
            injection hx7 with hx7
            subst hx7
            rw [hsa] at hc7
            clear ho6 hb6
            obtain ⟨hv1, hv2⟩ := HV.out _ HB6.out
            have hlen6 : (us ++ flushS n).length ≤ 100000 := by rw [List.length_append]; have := flushS_len n; omega
            have hss : ¬ 9223372036854775807 < 2 + sa.size := by rw [← hsa, bstr_size]; have := HAL.out; omega
            have HSG : Hid ((⟨#[45, 32]⟩ : ByteArray) ++ sa = bstr (sgn 45 ax)) := Lib.hid (by rw [← hsa]; exact sgn_two _ _)
            have HSTR : Hid (∀ u ∈ [Value.string ((⟨#[45, 32]⟩ : ByteArray) ++ sa)], u.oneCell' = true) := Lib.hid (by rw [HSG.out]; exact one_strs [sgn 45 ax])
            obtain ⟨UL, hUL⟩ : ∃ UL, (us ++ flushS n).length = UL := ⟨_, rfl⟩
            have HUL := Lib.hid hUL
            rw [hUL] at HO6 hlen6
            rw [hUL]
            have HO7 : Hid (∀ q, (w6.drewN q).ownsRow w4.heap.size 9 1 (.slice A6 UL c6) UL (strL (us ++ flushS n))) := Lib.hid (fun q => by have h := HO6.out; unfold OwnS at h; rw [HUL.out] at h; exact h)
            have HB7 : Hid (∀ q, Below w4.heap.size w4 (w6.drewN q)) := Lib.hid (fun q => below_drewN HB6.out q)
            have HW7 : Hid (∀ q, w4.heap.size ≤ (w6.drewN q).heap.size) := Lib.hid (fun q => hbs6)
            clear hUL
            go_wp2_with fail
            go_quiet (fail)
            go_wp2_with (at_builtin; refine app_lit rowStr rfl _ _ rfl (w6.drewN _) [.string ((⟨#[45, 32]⟩ : ByteArray) ++ sa)] 1 rfl HSTR.out (.slice A6 UL c6) UL (strL (us ++ flushS n)) w4.heap.size rfl (HO7.out _) rfl (HW7.out _) (by omega) ?_; intro v8 w8 ho8 hg8 hb8; obtain ⟨A8, cap8, rfl⟩ := own_slice ho8)
            have HN : Hid (RDI w4 w8 X Y (i + 1) (j) 0 (us ++ flushS n ++ [sgn 45 ax]) (.slice A8 (UL + 1) cap8)) := Lib.hid (HI.out.more (hb8 _ (HB7.out _)) ho8 (by rw [HUL.out]) (by rw [strL_append (us ++ flushS n), HSG.out]; rfl) (by omega) (by omega) (by omega) HEN.out)
            clear ho8 hg8 hb8
            go_wp2_with fail
            go_roundw
            case rel => exact ⟨i + 1, j, 0, _, by go_num, by go_num, by go_num, HN.out⟩
            case measure => simp [RowKit.intOf]; omega
          · have HEN := Lib.hid (HADD.out (fun h => hway (HWAY.out.1 h)))
            have hway' : decide ((v2 : Int) ≤ (v1 : Int)) = false := decide_eq_false (by omega)
            clear HDEL HADD HWAY
            generalize bstr ax = sa at *
            generalize hsa : bstr ay = sb at *
            go_wp2_with fail
            try (go_quiet (fail); go_wp2_with fail)
            refine (HK.out _).mono ?_
            rintro e w6 ⟨v6, rfl, ho6, hb6⟩
            obtain ⟨A6, c6, rfl⟩ := own_any ho6
            have HO6 := Lib.hid ho6
            have HB6 := Lib.hid (hb6 _ (below_drewN HI.out.bel _))
            have hbs6 := HB6.out.size
            obtain ⟨b7, o7, x7, e7, hx7, hc7⟩ := (HY.out.below HB6.out).str_at (k := j) (by omega)
            injection e7 with e7
            injection e7 with e7 e8 e9
            subst e7 e8
            rw [HYA.out] at hx7
            injection hx7 with hx7
            subst hx7
            rw [hsa] at hc7
            clear ho6 hb6
            obtain ⟨hv1, hv2⟩ := HV.out _ HB6.out
            have hlen6 : (us ++ flushS n).length ≤ 100000 := by rw [List.length_append]; have := flushS_len n; omega
            have hss : ¬ 9223372036854775807 < 2 + sb.size := by rw [← hsa, bstr_size]; have := HYL.out; omega
            have HSG : Hid ((⟨#[43, 32]⟩ : ByteArray) ++ sb = bstr (sgn 43 ay)) := Lib.hid (by rw [← hsa]; exact sgn_two _ _)
            have HSTR : Hid (∀ u ∈ [Value.string ((⟨#[43, 32]⟩ : ByteArray) ++ sb)], u.oneCell' = true) := Lib.hid (by rw [HSG.out]; exact one_strs [sgn 43 ay])
            obtain ⟨UL, hUL⟩ : ∃ UL, (us ++ flushS n).length = UL := ⟨_, rfl⟩
            have HUL := Lib.hid hUL
            rw [hUL] at HO6 hlen6
            rw [hUL]
            have HO7 : Hid (∀ q, (w6.drewN q).ownsRow w4.heap.size 9 1 (.slice A6 UL c6) UL (strL (us ++ flushS n))) := Lib.hid (fun q => by have h := HO6.out; unfold OwnS at h; rw [HUL.out] at h; exact h)
            have HB7 : Hid (∀ q, Below w4.heap.size w4 (w6.drewN q)) := Lib.hid (fun q => below_drewN HB6.out q)
            have HW7 : Hid (∀ q, w4.heap.size ≤ (w6.drewN q).heap.size) := Lib.hid (fun q => hbs6)
            clear hUL
            go_wp2_with fail
            go_quiet (fail)
            go_wp2_with (at_builtin; refine app_lit rowStr rfl _ _ rfl (w6.drewN _) [.string ((⟨#[43, 32]⟩ : ByteArray) ++ sb)] 1 rfl HSTR.out (.slice A6 UL c6) UL (strL (us ++ flushS n)) w4.heap.size rfl (HO7.out _) rfl (HW7.out _) (by omega) ?_; intro v8 w8 ho8 hg8 hb8; obtain ⟨A8, cap8, rfl⟩ := own_slice ho8)
            have HN : Hid (RDI w4 w8 X Y (i) (j + 1) 0 (us ++ flushS n ++ [sgn 43 ay]) (.slice A8 (UL + 1) cap8)) := Lib.hid (HI.out.more (hb8 _ (HB7.out _)) ho8 (by rw [HUL.out]) (by rw [strL_append (us ++ flushS n), HSG.out]; rfl) (by omega) (by omega) (by omega) HEN.out)
            clear ho8 hg8 hb8
            go_wp2_with fail
            go_roundw
            case rel => exact ⟨i, j + 1, 0, _, by go_num, by go_num, by go_num, HN.out⟩
            case measure => simp [RowKit.intOf]; omega
      · obtain rfl : j = Y.length := by omega
        have HEN : Hid (encs (Ar.dlA X Y i Y.length n) = flushS n ++ sgn 45 ax :: encs (Ar.dlA X Y (i + 1) Y.length 0)) := Lib.hid (by rw [Ar.dlA_del0 n hxa]; exact encs_flush _ _ _ _ _ rfl)
        clear hxa
        generalize hsa : bstr ax = sa at *
        go_wp2_with fail
        try (go_quiet (fail); go_wp2_with fail)
        refine (HK.out _).mono ?_
        rintro e w6 ⟨v6, rfl, ho6, hb6⟩
        obtain ⟨A6, c6, rfl⟩ := own_any ho6
        have HO6 := Lib.hid ho6
        have HB6 := Lib.hid (hb6 _ (below_drewN HI.out.bel _))
        have hbs6 := HB6.out.size
        obtain ⟨b7, o7, x7, e7, hx7, hc7⟩ := (HX.out.below HB6.out).str_at (k := i) (by omega)
        injection e7 with e7
        injection e7 with e7 e8 e9
        subst e7 e8
        rw [HXA.out] at hx7
        injection hx7 with hx7
        subst hx7
        rw [hsa] at hc7
        clear ho6 hb6
        have hlen6 : (us ++ flushS n).length ≤ 100000 := by rw [List.length_append]; have := flushS_len n; omega
        have hss : ¬ 9223372036854775807 < 2 + sa.size := by rw [← hsa, bstr_size]; have := HAL.out; omega
        have HSG : Hid ((⟨#[45, 32]⟩ : ByteArray) ++ sa = bstr (sgn 45 ax)) := Lib.hid (by rw [← hsa]; exact sgn_two _ _)
        have HSTR : Hid (∀ u ∈ [Value.string ((⟨#[45, 32]⟩ : ByteArray) ++ sa)], u.oneCell' = true) := Lib.hid (by rw [HSG.out]; exact one_strs [sgn 45 ax])
        obtain ⟨UL, hUL⟩ : ∃ UL, (us ++ flushS n).length = UL := ⟨_, rfl⟩
        have HUL := Lib.hid hUL
        rw [hUL] at HO6 hlen6
        rw [hUL]
        have HO7 : Hid (∀ q, (w6.drewN q).ownsRow w4.heap.size 9 1 (.slice A6 UL c6) UL (strL (us ++ flushS n))) := Lib.hid (fun q => by have h := HO6.out; unfold OwnS at h; rw [HUL.out] at h; exact h)
        have HB7 : Hid (∀ q, Below w4.heap.size w4 (w6.drewN q)) := Lib.hid (fun q => below_drewN HB6.out q)
        have HW7 : Hid (∀ q, w4.heap.size ≤ (w6.drewN q).heap.size) := Lib.hid (fun q => hbs6)
        clear hUL
        go_wp2_with fail
        go_quiet (fail)
        go_wp2_with (at_builtin; refine app_lit rowStr rfl _ _ rfl (w6.drewN _) [.string ((⟨#[45, 32]⟩ : ByteArray) ++ sa)] 1 rfl HSTR.out (.slice A6 UL c6) UL (strL (us ++ flushS n)) w4.heap.size rfl (HO7.out _) rfl (HW7.out _) (by omega) ?_; intro v8 w8 ho8 hg8 hb8; obtain ⟨A8, cap8, rfl⟩ := own_slice ho8)
        have HN : Hid (RDI w4 w8 X Y (i + 1) (Y.length) 0 (us ++ flushS n ++ [sgn 45 ax]) (.slice A8 (UL + 1) cap8)) := Lib.hid (HI.out.more (hb8 _ (HB7.out _)) ho8 (by rw [HUL.out]) (by rw [strL_append (us ++ flushS n), HSG.out]; rfl) (by omega) (by omega) (by omega) HEN.out)
        clear ho8 hg8 hb8
        go_wp2_with fail
        go_roundw
        case rel => exact ⟨i + 1, Y.length, 0, _, by go_num, by go_num, by go_num, HN.out⟩
        case measure => simp [RowKit.intOf]; omega
    · obtain rfl : i = X.length := by omega
      by_cases hj : j < Y.length
      · obtain ⟨bz, oy, ay, rfl, hya, hcy⟩ := (HY.out.below HI.out.bel).str_at hj
        have HYA := Lib.hid hya
        have HYL := Lib.hid (HSY.out ay (List.mem_of_getElem? hya))
        have HEN : Hid (encs (Ar.dlA X Y X.length j n) = flushS n ++ sgn 43 ay :: encs (Ar.dlA X Y X.length (j + 1) 0)) := Lib.hid (by rw [Ar.dlA_add0 n hya]; exact encs_flush _ _ _ _ _ rfl)
        have ed1 : decide (Y.length ≤ j) = false := decide_eq_false (by omega)
        clear hya
        generalize hsa : bstr ay = sb at *
        go_wp2_with fail
        try (go_quiet (fail); go_wp2_with fail)
        refine (HK.out _).mono ?_
        rintro e w6 ⟨v6, rfl, ho6, hb6⟩
        obtain ⟨A6, c6, rfl⟩ := own_any ho6
        have HO6 := Lib.hid ho6
        have HB6 := Lib.hid (hb6 _ (below_drewN HI.out.bel _))
        have hbs6 := HB6.out.size
        obtain ⟨b7, o7, x7, e7, hx7, hc7⟩ := (HY.out.below HB6.out).str_at (k := j) (by omega)
        injection e7 with e7
        injection e7 with e7 e8 e9
        subst e7 e8
        rw [HYA.out] at hx7
        injection hx7 with hx7
        subst hx7
        rw [hsa] at hc7
        clear ho6 hb6
        have hlen6 : (us ++ flushS n).length ≤ 100000 := by rw [List.length_append]; have := flushS_len n; omega
        have hss : ¬ 9223372036854775807 < 2 + sb.size := by rw [← hsa, bstr_size]; have := HYL.out; omega
        have HSG : Hid ((⟨#[43, 32]⟩ : ByteArray) ++ sb = bstr (sgn 43 ay)) := Lib.hid (by rw [← hsa]; exact sgn_two _ _)
        have HSTR : Hid (∀ u ∈ [Value.string ((⟨#[43, 32]⟩ : ByteArray) ++ sb)], u.oneCell' = true) := Lib.hid (by rw [HSG.out]; exact one_strs [sgn 43 ay])
        obtain ⟨UL, hUL⟩ : ∃ UL, (us ++ flushS n).length = UL := ⟨_, rfl⟩
        have HUL := Lib.hid hUL
        rw [hUL] at HO6 hlen6
        rw [hUL]
        have HO7 : Hid (∀ q, (w6.drewN q).ownsRow w4.heap.size 9 1 (.slice A6 UL c6) UL (strL (us ++ flushS n))) := Lib.hid (fun q => by have h := HO6.out; unfold OwnS at h; rw [HUL.out] at h; exact h)
        have HB7 : Hid (∀ q, Below w4.heap.size w4 (w6.drewN q)) := Lib.hid (fun q => below_drewN HB6.out q)
        have HW7 : Hid (∀ q, w4.heap.size ≤ (w6.drewN q).heap.size) := Lib.hid (fun q => hbs6)
        clear hUL
        go_wp2_with fail
        go_quiet (fail)
        go_wp2_with (at_builtin; refine app_lit rowStr rfl _ _ rfl (w6.drewN _) [.string ((⟨#[43, 32]⟩ : ByteArray) ++ sb)] 1 rfl HSTR.out (.slice A6 UL c6) UL (strL (us ++ flushS n)) w4.heap.size rfl (HO7.out _) rfl (HW7.out _) (by omega) ?_; intro v8 w8 ho8 hg8 hb8; obtain ⟨A8, cap8, rfl⟩ := own_slice ho8)
        have HN : Hid (RDI w4 w8 X Y (X.length) (j + 1) 0 (us ++ flushS n ++ [sgn 43 ay]) (.slice A8 (UL + 1) cap8)) := Lib.hid (HI.out.more (hb8 _ (HB7.out _)) ho8 (by rw [HUL.out]) (by rw [strL_append (us ++ flushS n), HSG.out]; rfl) (by omega) (by omega) (by omega) HEN.out)
        clear ho8 hg8 hb8
        go_wp2_with fail
        go_roundw
        case rel => exact ⟨X.length, j + 1, 0, _, by go_num, by go_num, by go_num, HN.out⟩
        case measure => simp [RowKit.intOf]; omega
      · obtain rfl : j = Y.length := by omega
        have HEQ := Lib.hid HI.out.eq
        go_wp2_with fail
        try (go_quiet (fail); go_wp2_with fail)
        refine (HK.out 0).mono ?_
        rintro e w6 ⟨v6, rfl, ho6, hb6⟩
        obtain ⟨A6, c6, rfl⟩ := own_any ho6
        have HFI : Hid (OwnS w.heap.size w6 (.slice A6 (us ++ flushS n).length c6) (encs (Ar.diff X Y))) := Lib.hid (by rw [HEQ.out, Ar.dlA_end]; exact own_base' ho6 HB4.out.size)
        have HBF : Hid (Below w.heap.size w w6) := Lib.hid (HB4.out.trans ((hb6 _ HI.out.bel).mono HB4.out.size))
        clear ho6 hb6
        generalize (us ++ flushS n).length = UL at *
        go_wp2_with fail
        go_ret
        exact ⟨_, rfl, HFI.out, HBF.out⟩
end Go.Proofs.YteadlcncnhbmjaaGreatDoor
