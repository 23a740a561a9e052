/- The text Kw. -/
import Derived.Deep.RegionHeld3
import Derived.Test.YtipclcaafpckcaaGreatDoorMtaa
set_option linter.unusedSimpArgs false
set_option maxHeartbeats 16000000
set_option maxRecDepth 100000
set_option linter.unusedVariables false
namespace Rn
theorem lines_len {x : Tr} (h : plain 40 x = true) (hn : nodes x ≤ 60) : (lines 0 x).length ≤ 100000 := by
 have hc := plain_chain h
 have hf := fitsT 40 0 x h
 have hlow := chain_low _ _ hc (fun q hq => by cases hq)
 have hlen := low_len (fun y hy => ⟨hf y hy, hlow y hy⟩)
 rw [rowsT_len] at hlen
 rw [lines_rows]
 omega
theorem parse_none : parse [] = .bad 1 10 := by kernel_rfl
theorem lines_nil (lv : Nat) (x : Tr) : lines lv x ≠ [] := by
 cases x
 unfold lines
 simp
end Rn
namespace Go.Proofs.YtipclcaafpckcaaGreatDoor
open Go.RowKit Go.Lib
set_option linter.unusedVariables false
set_option linter.unusedSimpArgs false
theorem below_dr {W w1 : World} (h : Below w1.heap.size w1 W) : Below w1.heap.size w1 W.drew := h.drew
theorem texts_any (N : Nat) (ok ok' : Nat → Prop) (x y : Rn.Tr) (Vx Vy : Array Value) (n m : Int) (w : World) (hN : N ≤ 1000000) (hnx : Rn.nodes x ≤ N) (hny : Rn.nodes y ≤ N) (hx : RnV w ok Vx x) (hy : RnV w ok' Vy y) (hm : w.cell? ⟨0, 0, none⟩ = some (.int .i64 m)) :
  Calls Tryz.prog 3 #[.agg Vx, .agg Vy, .int .i64 n] w fun e w' => e = .returned (.bool true) ∧ Below w.heap.size w w' := by
 have HM := hid hm
 have HM0 := hid (block_lt hm)
 obtain ⟨Ax, capx, rfl, -⟩ := id hx.open
 obtain ⟨Ay, capy, rfl, -⟩ := id hy.open
 have hb1 := ((Below.refl w.heap.size w).alloc (Nat.le_refl _) (.cells #[.string (bstr x.rule), .int .i64 x.id, .int .i64 x.err, .slice Ax x.kids.length capx] 25)).alloc (by rw [World.size_alloc]; omega) (.cells #[.string (bstr y.rule), .int .i64 y.id, .int .i64 y.err, .slice Ay y.kids.length capy] 25)
 have hkx := (Blk.new w 25 #[.string (bstr x.rule), .int .i64 x.id, .int .i64 x.err, .slice Ax x.kids.length capx]).alloc (.cells #[.string (bstr y.rule), .int .i64 y.id, .int .i64 y.err, .slice Ay y.kids.length capy] 25)
 have hky := Blk.new (w.alloc (.cells #[.string (bstr x.rule), .int .i64 x.id, .int .i64 x.err, .slice Ax x.kids.length capx] 25)) 25 #[.string (bstr y.rule), .int .i64 y.id, .int .i64 y.err, .slice Ay y.kids.length capy]
 rw [World.size_alloc] at hky
 have HX1 := hid (hx.bel hb1)
 have HY1 := hid (hy.bel hb1)
 have HB1 := hid hb1
 clear hx hy hb1 hm
 generalize hw1 : (w.alloc (.cells #[.string (bstr x.rule), .int .i64 x.id, .int .i64 x.err, .slice Ax x.kids.length capx] 25)).alloc (.cells #[.string (bstr y.rule), .int .i64 y.id, .int .i64 y.err, .slice Ay y.kids.length capy] 25) = w1 at *
 have HKX1 := hid hkx
 have HKY1 := hid hky
 have HSX := hid (small_any N ok x #[.string (bstr x.rule), .int .i64 x.id, .int .i64 x.err, .slice Ax x.kids.length capx] w1 hnx hN HX1.out)
 go_enter Tryz.func3, Tryz.ntmps3
 have hx0 : w1.cell? ⟨w.heap.size, 0, none⟩ = some (.string (bstr x.rule)) := hkx.cell 0
 have hx1 : w1.cell? ⟨w.heap.size, 1, none⟩ = some (.int .i64 x.id) := hkx.cell 1
 have hx2 : w1.cell? ⟨w.heap.size, 2, none⟩ = some (.int .i64 x.err) := hkx.cell 2
 have hx3 : w1.cell? ⟨w.heap.size, 3, none⟩ = some (.slice Ax x.kids.length capx) := hkx.cell 3
 have hy0 : w1.cell? ⟨w.heap.size + 1, 0, none⟩ = some (.string (bstr y.rule)) := hky.cell 0
 have hy1 : w1.cell? ⟨w.heap.size + 1, 1, none⟩ = some (.int .i64 y.id) := hky.cell 1
 have hy2 : w1.cell? ⟨w.heap.size + 1, 2, none⟩ = some (.int .i64 y.err) := hky.cell 2
 have hy3 : w1.cell? ⟨w.heap.size + 1, 3, none⟩ = some (.slice Ay y.kids.length capy) := hky.cell 3
 clear hkx hky
 go_wp2_with fail
 refine HSX.out.mono ?_
 rintro e w2 ⟨rfl, hb2⟩
 have HB2 := hid (HB1.out.trans (hb2.mono HB1.out.size))
 have HX2 := hid (HX1.out.bel hb2)
 have HY2 := hid (HY1.out.bel hb2)
 have HKX2 := hid (HKX1.out.below hb2 HKX1.out.lt)
 have HKY2 := hid (HKY1.out.below hb2 HKY1.out.lt)
 clear hb2 hx0 hx1 hx2 hx3 hy0 hy1 hy2 hy3
 cases hsx : (decide (Rn.nodes x ≤ 60) && Rn.tame 100 x) with
 | false =>
  go_wp2_with fail
  go_ret
  exact ⟨rfl, HB2.out⟩
 | true =>
  have hx0 : w2.cell? ⟨w.heap.size, 0, none⟩ = some (.string (bstr x.rule)) := HKX2.out.cell 0
  have hx1 : w2.cell? ⟨w.heap.size, 1, none⟩ = some (.int .i64 x.id) := HKX2.out.cell 1
  have hx2 : w2.cell? ⟨w.heap.size, 2, none⟩ = some (.int .i64 x.err) := HKX2.out.cell 2
  have hx3 : w2.cell? ⟨w.heap.size, 3, none⟩ = some (.slice Ax x.kids.length capx) := HKX2.out.cell 3
  have hy0 : w2.cell? ⟨w.heap.size + 1, 0, none⟩ = some (.string (bstr y.rule)) := HKY2.out.cell 0
  have hy1 : w2.cell? ⟨w.heap.size + 1, 1, none⟩ = some (.int .i64 y.id) := HKY2.out.cell 1
  have hy2 : w2.cell? ⟨w.heap.size + 1, 2, none⟩ = some (.int .i64 y.err) := HKY2.out.cell 2
  have hy3 : w2.cell? ⟨w.heap.size + 1, 3, none⟩ = some (.slice Ay y.kids.length capy) := HKY2.out.cell 3
  go_wp2_with fail
  refine (small_any N ok' y #[.string (bstr y.rule), .int .i64 y.id, .int .i64 y.err, .slice Ay y.kids.length capy] w2 hny hN HY2.out).mono ?_
  rintro e w3 ⟨rfl, hb3⟩
  have HB3 := hid (HB2.out.trans (hb3.mono HB2.out.size))
  have HX3 := hid (HX2.out.bel hb3)
  have HY3 := hid (HY2.out.bel hb3)
  have HKX3 := hid (HKX2.out.below hb3 HKX2.out.lt)
  have HKY3 := hid (HKY2.out.below hb3 HKY2.out.lt)
  clear hb3 hx0 hx1 hx2 hx3 hy0 hy1 hy2 hy3
  cases hsy : (decide (Rn.nodes y ≤ 60) && Rn.tame 100 y) with
  | false =>
   go_wp2_with fail
   go_ret
   exact ⟨rfl, HB3.out⟩
  | true =>
   rw [Bool.and_eq_true, decide_eq_true_eq] at hsx hsy
   have HNX := hid hsx.1
   have HTX := hid hsx.2
   have HNY := hid hsy.1
   have HTY := hid hsy.2
   have HLX : Hid (Rn.plain 40 x = true → (Rn.lines 0 x).length ≤ 1000000) := hid (fun hp => by have := Rn.lines_len hp hsx.1; omega)
   clear hsx hsy
   have hx0 : w3.cell? ⟨w.heap.size, 0, none⟩ = some (.string (bstr x.rule)) := HKX3.out.cell 0
   have hx1 : w3.cell? ⟨w.heap.size, 1, none⟩ = some (.int .i64 x.id) := HKX3.out.cell 1
   have hx2 : w3.cell? ⟨w.heap.size, 2, none⟩ = some (.int .i64 x.err) := HKX3.out.cell 2
   have hx3 : w3.cell? ⟨w.heap.size, 3, none⟩ = some (.slice Ax x.kids.length capx) := HKX3.out.cell 3
   have hy0 : w3.cell? ⟨w.heap.size + 1, 0, none⟩ = some (.string (bstr y.rule)) := HKY3.out.cell 0
   have hy1 : w3.cell? ⟨w.heap.size + 1, 1, none⟩ = some (.int .i64 y.id) := HKY3.out.cell 1
   have hy2 : w3.cell? ⟨w.heap.size + 1, 2, none⟩ = some (.int .i64 y.err) := HKY3.out.cell 2
   have hy3 : w3.cell? ⟨w.heap.size + 1, 3, none⟩ = some (.slice Ay y.kids.length capy) := HKY3.out.cell 3
   go_wp2_with fail
   refine (ptext_any 1000 ok x #[.string (bstr x.rule), .int .i64 x.id, .int .i64 x.err, .slice Ax x.kids.length capx] w3 (by have := HNX.out; omega) (by decide) HTX.out HLX.out HX3.out).mono ?_
   rintro e w5 ⟨rfl, hb5⟩
   have HB5 := hid (HB3.out.trans (hb5.mono HB3.out.size))
   have HX5 := hid (HX3.out.bel hb5)
   have HY5 := hid (HY3.out.bel hb5)
   have HKX5 := hid (HKX3.out.below hb5 HKX3.out.lt)
   have HKY5 := hid (HKY3.out.below hb5 HKY3.out.lt)
   clear hb5 hx0 hx1 hx2 hx3 hy0 hy1 hy2 hy3
   have bstep : ∀ {F : FuncId} {args : Array Value} {W : World} {v : Value}, Below w5.heap.size w5 W → (Calls Tryz.prog F args W fun e w' => e = .returned v ∧ Below W.heap.size W w') → Calls Tryz.prog F args W fun e w' => e = .returned v ∧ Below w5.heap.size w5 w' := fun hW h => h.mono fun e w' ⟨h1, h2⟩ => ⟨h1, hW.trans (h2.mono hW.size)⟩
   have HP7 := hid (fun W (hW : Below w5.heap.size w5 W) => bstep hW (rtext_any 1000 ok x #[.string (bstr x.rule), .int .i64 x.id, .int .i64 x.err, .slice Ax x.kids.length capx] W (by have := HNX.out; omega) (by decide) HTX.out HLX.out (HX5.out.bel hW)))
   have HP8 := hid (fun W (hW : Below w5.heap.size w5 W) => bstep hW (psize_any 1000 ok x #[.string (bstr x.rule), .int .i64 x.id, .int .i64 x.err, .slice Ax x.kids.length capx] W (by have := HNX.out; omega) (by decide) (HX5.out.bel hW)))
   have HP9 := hid (fun W (hW : Below w5.heap.size w5 W) => bstep hW (rsize_any 1000 ok x #[.string (bstr x.rule), .int .i64 x.id, .int .i64 x.err, .slice Ax x.kids.length capx] W (by have := HNX.out; omega) (by decide) (HX5.out.bel hW)))
   have HP10 := hid (fun W (hW : Below w5.heap.size w5 W) => bstep hW (pdepth_any 1000 ok x #[.string (bstr x.rule), .int .i64 x.id, .int .i64 x.err, .slice Ax x.kids.length capx] W (by have := HNX.out; omega) (by decide) (HX5.out.bel hW)))
   have HP11 := hid (fun W (hW : Below w5.heap.size w5 W) => bstep hW (rdepth_any 1000 ok x #[.string (bstr x.rule), .int .i64 x.id, .int .i64 x.err, .slice Ax x.kids.length capx] W (by have := HNX.out; omega) (by decide) (HX5.out.bel hW)))
   have HP12 := hid (fun W (hW : Below w5.heap.size w5 W) => bstep hW (psame_any 1000 ok ok' x y #[.string (bstr x.rule), .int .i64 x.id, .int .i64 x.err, .slice Ax x.kids.length capx] #[.string (bstr y.rule), .int .i64 y.id, .int .i64 y.err, .slice Ay y.kids.length capy] W (by have := HNX.out; omega) (by decide) (HX5.out.bel hW) (HY5.out.bel hW)))
   have HP13 := hid (fun W (hW : Below w5.heap.size w5 W) => bstep hW (rsame_any 1000 ok ok' x y #[.string (bstr x.rule), .int .i64 x.id, .int .i64 x.err, .slice Ax x.kids.length capx] #[.string (bstr y.rule), .int .i64 y.id, .int .i64 y.err, .slice Ay y.kids.length capy] W (by have := HNX.out; omega) (by decide) (HX5.out.bel hW) (HY5.out.bel hW)))
   have HP14 := hid (fun W (hW : Below w5.heap.size w5 W) => bstep hW (errno_any n W))
   have HP15 := hid (fun W (hW : Below w5.heap.size w5 W) => bstep hW (rerrno_any n W))
   clear bstep
   obtain ⟨T, hT⟩ : ∃ T, T = bstr (Rn.text x) := ⟨_, rfl⟩
   have HT := hid hT
   rw [← hT] at HP7 ⊢
   clear hT
   have hBr := Below.refl w5.heap.size w5
   have hx0 : ∀ W, Below w5.heap.size w5 W → W.cell? ⟨w.heap.size, 0, none⟩ = some (.string (bstr x.rule)) := fun W h => (HKX5.out.below h HKX5.out.lt).cell 0
   have hx1 : ∀ W, Below w5.heap.size w5 W → W.cell? ⟨w.heap.size, 1, none⟩ = some (.int .i64 x.id) := fun W h => (HKX5.out.below h HKX5.out.lt).cell 1
   have hx2 : ∀ W, Below w5.heap.size w5 W → W.cell? ⟨w.heap.size, 2, none⟩ = some (.int .i64 x.err) := fun W h => (HKX5.out.below h HKX5.out.lt).cell 2
   have hx3 : ∀ W, Below w5.heap.size w5 W → W.cell? ⟨w.heap.size, 3, none⟩ = some (.slice Ax x.kids.length capx) := fun W h => (HKX5.out.below h HKX5.out.lt).cell 3
   have hy0 : ∀ W, Below w5.heap.size w5 W → W.cell? ⟨w.heap.size + 1, 0, none⟩ = some (.string (bstr y.rule)) := fun W h => (HKY5.out.below h HKY5.out.lt).cell 0
   have hy1 : ∀ W, Below w5.heap.size w5 W → W.cell? ⟨w.heap.size + 1, 1, none⟩ = some (.int .i64 y.id) := fun W h => (HKY5.out.below h HKY5.out.lt).cell 1
   have hy2 : ∀ W, Below w5.heap.size w5 W → W.cell? ⟨w.heap.size + 1, 2, none⟩ = some (.int .i64 y.err) := fun W h => (HKY5.out.below h HKY5.out.lt).cell 2
   have hy3 : ∀ W, Below w5.heap.size w5 W → W.cell? ⟨w.heap.size + 1, 3, none⟩ = some (.slice Ay y.kids.length capy) := fun W h => (HKY5.out.below h HKY5.out.lt).cell 3
   have hTT : (T.toList == T.toList) = true := by simp
   go_wp2_with fail
   go_region_held3 (fun W => Below w5.heap.size w5 W) (with_reducible (repeat (first | assumption | exact hBr | refine below_dr ?_))) (first | (go_at_call 7; refine (HP7.out _ (by with_reducible (repeat (first | assumption | exact hBr | refine below_dr ?_)))).mono ?_; rintro e w' ⟨rfl, hbw7⟩) | (go_at_call 8; refine (HP8.out _ (by with_reducible (repeat (first | assumption | exact hBr | refine below_dr ?_)))).mono ?_; rintro e w' ⟨rfl, hbw8⟩) | (go_at_call 9; refine (HP9.out _ (by with_reducible (repeat (first | assumption | exact hBr | refine below_dr ?_)))).mono ?_; rintro e w' ⟨rfl, hbw9⟩) | (go_at_call 10; refine (HP10.out _ (by with_reducible (repeat (first | assumption | exact hBr | refine below_dr ?_)))).mono ?_; rintro e w' ⟨rfl, hbw10⟩) | (go_at_call 11; refine (HP11.out _ (by with_reducible (repeat (first | assumption | exact hBr | refine below_dr ?_)))).mono ?_; rintro e w' ⟨rfl, hbw11⟩) | (go_at_call 12; refine (HP12.out _ (by with_reducible (repeat (first | assumption | exact hBr | refine below_dr ?_)))).mono ?_; rintro e w' ⟨rfl, hbw12⟩) | (go_at_call 13; refine (HP13.out _ (by with_reducible (repeat (first | assumption | exact hBr | refine below_dr ?_)))).mono ?_; rintro e w' ⟨rfl, hbw13⟩) | (go_at_call 14; refine (HP14.out _ (by with_reducible (repeat (first | assumption | exact hBr | refine below_dr ?_)))).mono ?_; rintro e w' ⟨rfl, hbw14⟩) | (go_at_call 15; refine (HP15.out _ (by with_reducible (repeat (first | assumption | exact hBr | refine below_dr ?_)))).mono ?_; rintro e w' ⟨rfl, hbw15⟩))
   clear hx0 hx1 hx2 hx3 hy0 hy1 hy2 hy3 HP7 HP8 HP9 HP10 HP11 HP12 HP13 HP14 HP15
   cases hp : Rn.plain 40 x with
   | false =>
    have hTe : T = (⟨#[]⟩ : ByteArray) := by rw [HT.out]; unfold Rn.text; rw [hp]; rfl
    clear hTT hp
    subst hTe
    go_wp2_with fail
    obtain ⟨w6, hw6⟩ : ∃ W, W = w' := ⟨_, rfl⟩
    subst hw6
    have HB6 := hid (HB5.out.trans (hbw15.mono HB5.out.size))
    have HM6 := hid ((Below.cell HB6.out HM0.out).trans HM.out)
    refine (parse_any ⟨#[]⟩ m w6 (by decide) HM6.out).mono ?_
    rintro e w7 ⟨hp, hb7⟩
    obtain rfl := hp.bad (show Rn.parse (⟨#[]⟩ : ByteArray).data.toList = _ from Rn.parse_none)
    clear hp
    have hn7 := Blk.new w7 25 zRn
    have hbs8 := below_setRow (g := w7.heap.size) ((Below.refl w7.heap.size w7).alloc (Nat.le_refl _) (.cells zRn 25)) (Nat.le_refl _) zRn
    have hks8 : Blk ((w7.alloc (.cells zRn 25)).setRow w7.heap.size zRn) w7.heap.size 25 zRn := setRow_heap _ _ _ _ _ _ hn7
    have HN7 := hid hn7
    generalize hw8 : (w7.alloc (.cells zRn 25)).setRow w7.heap.size zRn = w8 at *
    have HK8 := hid hks8
    have HBS8 := hid hbs8
    clear hn7 hbs8 hks8
    have HB8 := hid ((HB6.out.trans (hb7.mono HB6.out.size)).trans (HBS8.out.mono (Nat.le_trans HB6.out.size hb7.size)))
    have HM8 := hid ((Below.cell HB8.out HM0.out).trans HM.out)
    clear hb7
    go_wp2_with ((with_reducible refine store_rowe rfl 25 _ _ rfl w7.heap.size zRn ?_ ?_ 25 zRn HN7.out size_rn rfl (by simp [Value.oneCell']) ?_); rfl; rfl; rw [hw8])
    refine (live_any m w8 HM8.out).mono ?_
    rintro e w9 ⟨rfl, hb9⟩
    have HB9 := hid (HB8.out.trans (hb9.mono HB8.out.size))
    go_wp2_with fail
    go_ret
    exact ⟨rfl, HB9.out⟩
   | true =>
    have HPL := hid hp
    have HTL : Hid (T.data.toList = Rn.lines 0 x) := hid (by rw [HT.out]; unfold Rn.text; rw [hp]; rfl)
    have hT0 : (T.toList == []) = false := by
     rw [ByteArray.toList_eq, HTL.out, beq_eq_false_iff_ne]
     exact Rn.lines_nil 0 x
    have HTS : Hid (T.size ≤ 100000) := hid (by have h1 := str_size T; rw [HTL.out] at h1; have := Rn.lines_len hp HNX.out; omega)
    clear hp
    go_wp2_with fail
    obtain ⟨w6, hw6⟩ : ∃ W, W = w' := ⟨_, rfl⟩
    subst hw6
    have HB6 := hid (HB5.out.trans (hbw15.mono HB5.out.size))
    have HX6 := hid (HX5.out.bel hbw15)
    have HKX6 := hid (HKX5.out.below hbw15 HKX5.out.lt)
    have HM6 := hid ((Below.cell HB6.out HM0.out).trans HM.out)
    refine (parse_any T m w6 HTS.out HM6.out).mono ?_
    rintro e w7 ⟨hp, hb7⟩
    obtain ⟨Vw, rfl, hVz⟩ := hp.ok (by rw [HTL.out]; exact Rn.parse_text HPL.out HNX.out)
    obtain ⟨Az, capz, rfl, -⟩ := id hVz.open
    clear hp
    have hn7 := Blk.new w7 25 zRn
    have hbs8 := below_setRow (g := w7.heap.size) ((Below.refl w7.heap.size w7).alloc (Nat.le_refl _) (.cells zRn 25)) (Nat.le_refl _) #[.string (bstr x.rule), .int .i64 x.id, .int .i64 x.err, .slice Az x.kids.length capz]
    have hks8 : Blk ((w7.alloc (.cells zRn 25)).setRow w7.heap.size #[.string (bstr x.rule), .int .i64 x.id, .int .i64 x.err, .slice Az x.kids.length capz]) w7.heap.size 25 #[.string (bstr x.rule), .int .i64 x.id, .int .i64 x.err, .slice Az x.kids.length capz] := setRow_heap _ _ _ _ _ _ hn7
    have HN7 := hid hn7
    generalize hw8 : (w7.alloc (.cells zRn 25)).setRow w7.heap.size #[.string (bstr x.rule), .int .i64 x.id, .int .i64 x.err, .slice Az x.kids.length capz] = w8 at *
    have HK8 := hid hks8
    have HBS8 := hid hbs8
    clear hn7 hbs8 hks8
    have hb68 := hb7.trans (HBS8.out.mono hb7.size)
    have HB8 := hid (HB6.out.trans (hb68.mono HB6.out.size))
    have HX8 := hid (HX6.out.bel hb68)
    have HZ8 := hid (hVz.bel HBS8.out)
    have HKX8 := hid (HKX6.out.below hb68 HKX6.out.lt)
    clear hb7 hb68 hVz
    have HM8 := hid ((Below.cell HB8.out HM0.out).trans HM.out)
    have hs8 := block_lt HM8.out
    have bstep : ∀ {F : FuncId} {args : Array Value} {W : World} {v : Value}, Below w8.heap.size w8 W → (Calls Tryz.prog F args W fun e w' => e = .returned v ∧ Below W.heap.size W w') → Calls Tryz.prog F args W fun e w' => e = .returned v ∧ Below w8.heap.size w8 w' := fun hW h => h.mono fun e w' ⟨h1, h2⟩ => ⟨h1, hW.trans (h2.mono hW.size)⟩
    have HP13 := hid (fun W (hW : Below w8.heap.size w8 W) => bstep hW (rsame_any 1000 ok _ x x #[.string (bstr x.rule), .int .i64 x.id, .int .i64 x.err, .slice Ax x.kids.length capx] #[.string (bstr x.rule), .int .i64 x.id, .int .i64 x.err, .slice Az x.kids.length capz] W (by have := HNX.out; omega) (by decide) (HX8.out.bel hW) (HZ8.out.bel hW)))
    have HP18 : Hid (∀ W, Below w8.heap.size w8 W → Calls Tryz.prog 18 #[.string T] W fun e w' => e = .returned (.int .i64 (Rn.nodes x : Int)) ∧ Below w8.heap.size w8 w') := hid (fun W hW => (feeds_any T W (by have := HTS.out; omega)).mono fun e w' ⟨h1, h2⟩ => ⟨by rw [h1, HTL.out, Rn.feeds_lines HPL.out], by rw [← h2]; exact hW⟩)
    have HP9 := hid (fun W (hW : Below w8.heap.size w8 W) => bstep hW (rsize_any 1000 ok x #[.string (bstr x.rule), .int .i64 x.id, .int .i64 x.err, .slice Ax x.kids.length capx] W (by have := HNX.out; omega) (by decide) (HX8.out.bel hW)))
    have HP17 := hid (fun W (hW : Below w8.heap.size w8 W) => bstep hW (live_any m W ((Below.cell hW hs8).trans HM8.out)))
    rw [Rn.same_self x] at HP13
    clear bstep
    go_wp2_with ((with_reducible refine store_rowe rfl 25 _ _ rfl w7.heap.size #[.string (bstr x.rule), .int .i64 x.id, .int .i64 x.err, .slice Az x.kids.length capz] ?_ ?_ 25 zRn HN7.out size_rn rfl (by simp [Value.oneCell']) ?_); rfl; rfl; rw [hw8])
    have hBr := Below.refl w8.heap.size w8
    have hx0 : ∀ W, Below w8.heap.size w8 W → W.cell? ⟨w.heap.size, 0, none⟩ = some (.string (bstr x.rule)) := fun W h => (HKX8.out.below h HKX8.out.lt).cell 0
    have hx1 : ∀ W, Below w8.heap.size w8 W → W.cell? ⟨w.heap.size, 1, none⟩ = some (.int .i64 x.id) := fun W h => (HKX8.out.below h HKX8.out.lt).cell 1
    have hx2 : ∀ W, Below w8.heap.size w8 W → W.cell? ⟨w.heap.size, 2, none⟩ = some (.int .i64 x.err) := fun W h => (HKX8.out.below h HKX8.out.lt).cell 2
    have hx3 : ∀ W, Below w8.heap.size w8 W → W.cell? ⟨w.heap.size, 3, none⟩ = some (.slice Ax x.kids.length capx) := fun W h => (HKX8.out.below h HKX8.out.lt).cell 3
    have hz0 : ∀ W, Below w8.heap.size w8 W → W.cell? ⟨w7.heap.size, 0, none⟩ = some (.string (bstr x.rule)) := fun W h => (HK8.out.below h HK8.out.lt).cell 0
    have hz1 : ∀ W, Below w8.heap.size w8 W → W.cell? ⟨w7.heap.size, 1, none⟩ = some (.int .i64 x.id) := fun W h => (HK8.out.below h HK8.out.lt).cell 1
    have hz2 : ∀ W, Below w8.heap.size w8 W → W.cell? ⟨w7.heap.size, 2, none⟩ = some (.int .i64 x.err) := fun W h => (HK8.out.below h HK8.out.lt).cell 2
    have hz3 : ∀ W, Below w8.heap.size w8 W → W.cell? ⟨w7.heap.size, 3, none⟩ = some (.slice Az x.kids.length capz) := fun W h => (HK8.out.below h HK8.out.lt).cell 3
    go_region_held3 (fun W => Below w8.heap.size w8 W) (with_reducible (repeat (first | assumption | exact hBr | refine below_dr ?_))) (first | (go_at_call 13; refine (HP13.out _ (by with_reducible (repeat (first | assumption | exact hBr | refine below_dr ?_)))).mono ?_; rintro e w' ⟨rfl, hbw13⟩) | (go_at_call 18; refine (HP18.out _ (by with_reducible (repeat (first | assumption | exact hBr | refine below_dr ?_)))).mono ?_; rintro e w' ⟨rfl, hbw18⟩) | (go_at_call 9; refine (HP9.out _ (by with_reducible (repeat (first | assumption | exact hBr | refine below_dr ?_)))).mono ?_; rintro e w' ⟨rfl, hbw9⟩) | (go_at_call 17; refine (HP17.out _ (by with_reducible (repeat (first | assumption | exact hBr | refine below_dr ?_)))).mono ?_; rintro e w' ⟨rfl, hbw17⟩))
    go_wp2_with fail
    go_ret
    exact ⟨rfl, HB8.out.trans (hbw17.mono HB8.out.size)⟩
end Go.Proofs.YtipclcaafpckcaaGreatDoor
