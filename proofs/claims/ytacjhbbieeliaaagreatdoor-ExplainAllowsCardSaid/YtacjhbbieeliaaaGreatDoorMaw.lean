/- The texts Kg, Kh, Ki, Kj of this proof, one behind the other. -/
import Derived.Deep.CutRange
import Derived.Test.YtacjhbbieeliaaaGreatDoorMav
set_option linter.unusedSimpArgs false
set_option maxHeartbeats 16000000
set_option maxRecDepth 100000
/- The text Kg. -/
namespace Go.Proofs.YtacjhbbieeliaaaGreatDoor
open Go.RowKit Go.Lib
set_option linter.unusedVariables false
set_option linter.unusedSimpArgs false
abbrev zLv : Array Value := #[.slice none 0 0, .slice none 0 0, .int .i64 0, .int .i64 0, .int .i64 0, .int .i64 0, .int .i64 0, .int .i64 0, .int .i64 0]
theorem size_lvA {a b c d e f g h i : Value} : (Tryz.prog.info? 28).map (·.size) = some (#[a, b, c, d, e, f, g, h, i] : Array Value).size := by kernel_rfl
def DefA (c : List UInt8) (base : Nat) (e : Ending) (w' : World) : Prop := ∃ X, e = .returned (.agg X.toArray) ∧ LvV (fun b => base ≤ b) w' X (Co.lvDefault c)
theorem default_any (c : List UInt8) (w : World) : Calls Tryz.prog 53 #[.string (bstr c)] w fun e w' => DefA c w.heap.size e w' ∧ Below w.heap.size w w' := by
 have HD : Hid ((bstr c).toList = c) := hid (Lib.toList_data _)
 have hr := (Blk.new w 28 zLv).alloc (.cells #[.slice none 0 0, .slice none 0 0, .int .i64 0, .int .i64 0, .int .i64 0, .int .i64 0, .int .i64 50, .int .i64 50, .int .i64 50] 28)
 have hk := Blk.new (w.alloc (.cells zLv 28)) 28 #[.slice none 0 0, .slice none 0 0, .int .i64 0, .int .i64 0, .int .i64 0, .int .i64 0, .int .i64 50, .int .i64 50, .int .i64 50]
 rw [World.size_alloc] at hk
 have hb := ((Below.refl w.heap.size w).alloc (Nat.le_refl _) (.cells zLv 28)).alloc (by rw [World.size_alloc]; omega) (.cells #[.slice none 0 0, .slice none 0 0, .int .i64 0, .int .i64 0, .int .i64 0, .int .i64 0, .int .i64 50, .int .i64 50, .int .i64 50] 28)
 have HR := hid hr
 have HK := hid hk
 have HB := hid hb
 clear hr hk hb
 cases hc : c with
 | nil =>
  have he : (bstr ([] : List UInt8)).toList.isEmpty = true := by rw [Lib.toList_data]; rfl
  clear hc
  go_enter Tryz.func53, Tryz.ntmps53
  go_wp2_with (first
   | (refine wpList_load_row rfl 28 _ rfl (w.heap.size + 1) rfl 28 #[.slice none 0 0, .slice none 0 0, .int .i64 0, .int .i64 0, .int .i64 0, .int .i64 0, .int .i64 50, .int .i64 50, .int .i64 50] (0, 0) _ HK.out Tryz.underlying28 rfl size_lvA ?_)
   | ((with_reducible refine store_rowe rfl 28 _ _ rfl w.heap.size #[.slice none 0 0, .slice none 0 0, .int .i64 0, .int .i64 0, .int .i64 0, .int .i64 0, .int .i64 50, .int .i64 50, .int .i64 50] ?_ ?_ 28 zLv HR.out size_lvA ?_ (by simp [Value.oneCell']) ?_); rfl; rfl; rfl))
  exact bodyPost_ret (results_cell_row rfl _ _ w.heap.size 28 _ (0, 0) _ rfl (setRow_heap _ _ _ _ _ _ HR.out) Tryz.underlying28 rfl size_lvA) rfl ⟨⟨lvC (Co.lvDefault []) (.slice none 0 0) (.slice none 0 0), rfl, ⟨_, _, rfl, SlcOf.nil .., SlcOf.nil ..⟩⟩, below_setRow HB.out (Nat.le_refl _) _⟩
 | cons x r =>
  have he : (bstr (x :: r)).toList.isEmpty = false := by rw [Lib.toList_data]; rfl
  rw [hc] at HD
  clear hc
  generalize hbs : bstr (x :: r) = S at *
  have HBS := hid hbs
  clear hbs
  have hk2 := HK.out.cell 0
  have hf2 := HK.out.frozen 0
  go_enter Tryz.func53, Tryz.ntmps53
  go_wp2_with fail
  have hk3 := ((Blk.new w 28 #[.slice (some ⟨w.heap.size + 1 + 1, 0, none⟩) 1 1, .slice none 0 0, .int .i64 0, .int .i64 0, .int .i64 0, .int .i64 0, .int .i64 50, .int .i64 50, .int .i64 50]).alloc (.cells #[.slice (some ⟨w.heap.size + 1 + 1, 0, none⟩) 1 1, .slice none 0 0, .int .i64 0, .int .i64 0, .int .i64 0, .int .i64 0, .int .i64 50, .int .i64 50, .int .i64 50] 28)).alloc (.cells #[.string S, .int .i64 100] 49)
  have hk5 := Blk.new ((w.alloc (.cells #[.slice (some ⟨w.heap.size + 1 + 1, 0, none⟩) 1 1, .slice none 0 0, .int .i64 0, .int .i64 0, .int .i64 0, .int .i64 0, .int .i64 50, .int .i64 50, .int .i64 50] 28)).alloc (.cells #[.slice (some ⟨w.heap.size + 1 + 1, 0, none⟩) 1 1, .slice none 0 0, .int .i64 0, .int .i64 0, .int .i64 0, .int .i64 0, .int .i64 50, .int .i64 50, .int .i64 50] 28)) 49 #[.string S, .int .i64 100]
  rw [World.size_alloc, World.size_alloc] at hk5
  have hb3 := (((Below.refl w.heap.size w).alloc (Nat.le_refl _) (.cells #[.slice (some ⟨w.heap.size + 1 + 1, 0, none⟩) 1 1, .slice none 0 0, .int .i64 0, .int .i64 0, .int .i64 0, .int .i64 0, .int .i64 50, .int .i64 50, .int .i64 50] 28)).alloc (by rw [World.size_alloc]; omega) (.cells #[.slice (some ⟨w.heap.size + 1 + 1, 0, none⟩) 1 1, .slice none 0 0, .int .i64 0, .int .i64 0, .int .i64 0, .int .i64 0, .int .i64 50, .int .i64 50, .int .i64 50] 28)).alloc (by rw [World.size_alloc, World.size_alloc]; omega) (.cells #[.string S, .int .i64 100] 49)
  refine bodyPost_ret (results_cell_row rfl _ _ w.heap.size 28 _ (0, 0) _ rfl hk3 Tryz.underlying28 rfl size_lvA) rfl ⟨⟨lvC (Co.lvDefault (x :: r)) (.slice (some ⟨w.heap.size + 1 + 1, 0, none⟩) 1 1) (.slice none 0 0), rfl, ⟨_, _, rfl, ⟨_, _, rfl, ?_, fun _ a ha => ?_⟩, SlcOf.nil ..⟩⟩, hb3⟩
  ·show Rd _ _ (1 * 2) [.string (bstr (x :: r)), .int .i64 100]
   rw [HBS.out]
   exact Rd.of_blk (vs := [.string S, .int .i64 100]) hk5
  ·injection ha with ha
   subst ha
   show w.heap.size ≤ w.heap.size + 1 + 1
   omega
theorem ix_find0 {α : Type} (p : α → Bool) (l : List α) : (ixF p 0 l = -1 ∧ l.find? p = none) ∨ (∃ (i : Nat) (x : α), ixF p 0 l = (i : Int) ∧ l[i]? = some x ∧ l.find? p = some x) := by
 rcases ix_find p l 0 with h | ⟨i, x, h1, h2, h3⟩
 ·exact .inl h
 ·rw [Nat.zero_add] at h1
  exact .inr ⟨i, x, h1, h2, h3⟩
theorem one_usr {l : List (List UInt8 × Int)} : ∀ u ∈ usrL l, u.oneCell' = true := by
 intro u hu
 unfold usrL at hu
 obtain ⟨p, -, hp⟩ := List.mem_flatMap.1 hu
 simp at hp
 rcases hp with rfl | rfl <;> rfl
theorem one_knd {l : List (Int × Int)} : ∀ u ∈ kndL l, u.oneCell' = true := by
 intro u hu
 unfold kndL at hu
 obtain ⟨p, -, hp⟩ := List.mem_flatMap.1 hu
 simp at hp
 rcases hp with rfl | rfl <;> rfl
def OfA (l : List Co.Ev) (base : Nat) (e : Ending) (w' : World) : Prop := ∃ X, e = .returned (.tuple #[.agg X.toArray, .string (bstr (Co.creatorOf l))]) ∧ LvV (fun b => base ≤ b) w' X (Co.levelsOf l)
theorem ev_lv {ok : Nat → Prop} {w : World} {X : List Value} {e : Co.Ev} {b o : Nat} (h : EvV ok w X e) (hr : w.rangeAt b o X) : ∃ Y, w.rangeAt b (o + 10 + 7) Y ∧ LvV ok w Y (Co.lvOf e) := by
 obtain ⟨cp, ca, cl, cd, cu, ck, rfl, hl⟩ := h
 refine ⟨lvC (Co.lvOf e) cu ck, fun j v hj => ?_, ⟨cu, ck, rfl, hl.users, hl.kinds⟩⟩
 rw [show o + 10 + 7 + j = o + (17 + j) by omega]
 refine hr (17 + j) v ?_
 have hj9 : j < 9 := (List.getElem?_eq_some_iff.1 hj).1
 match j, hj9, hj with
 | 0, _, hj => exact hj
 | 1, _, hj => exact hj
 | 2, _, hj => exact hj
 | 3, _, hj => exact hj
 | 4, _, hj => exact hj
 | 5, _, hj => exact hj
 | 6, _, hj => exact hj
 | 7, _, hj => exact hj
 | 8, _, hj => exact hj
theorem lvof_any (ok : Nat → Prop) (l : List Co.Ev) (A : Option Addr) (cap : Nat) (w : World) (h : EvRow ok w A l) (hl : l.length ≤ 1000000) (hs : ∀ e ∈ l, e.users.length ≤ 1000000 ∧ e.kinds.length ≤ 1000000) :
  Calls Tryz.prog 19 #[.slice A l.length cap] w fun e w' => OfA l w.heap.size e w' ∧ Below w.heap.size w w' := by
 have hb0 := (Below.refl w.heap.size w).alloc (Nat.le_refl _) (.cells zLv 28)
 have HROW := hid (h.bel hb0)
 have HB0 := hid hb0
 have HKR := hid (Blk.new w 28 zLv)
 have HS := hid hs
 have hw1s : w.heap.size < (w.alloc (.cells zLv 28)).heap.size := by simp
 have HF1 := hid (lfirst_any ok l A cap 1 _ HROW.out hl)
 have HF3 := hid (fun W (hW : EvRow ok W A l) => lfirst_any ok l A cap 3 W hW hl)
 clear h hb0 hs
 generalize hw1 : w.alloc (.cells zLv 28) = w1 at *
 go_enter Tryz.func19, Tryz.ntmps19
 go_wp2_with fail
 refine HF1.out.mono ?_
 rintro e w2 ⟨rfl, hb2⟩
 have HB2 := hid (HB0.out.trans (hb2.mono HB0.out.size))
 have HKR2 := hid (HKR.out.below hb2 hw1s)
 have HROW2 := hid (HROW.out.bel hb2)
 have hw2s : w.heap.size < w2.heap.size := HKR2.out.lt
 clear hb2
 have HIX := hid (ix_find0 (Co.isKind 1) l)
 generalize ixF (Co.isKind 1) 0 l = i1 at *
 go_upto_if 11 with (fail)
 go_cut [4] from 8 to 17 (fun cx wx => cx = .string (bstr (Co.creatorOf l)) ∧ w2 = wx)
 case first =>
  rcases HIX.out with ⟨rfl, hf⟩ | ⟨i, x, rfl, hi, hf⟩
  ·have HCR : Hid (Co.creatorOf l = []) := hid (by unfold Co.creatorOf Co.createOf; rw [hf])
   clear hf
   go_wp2_with fail
   go_meet
   exact ⟨by rw [HCR.out]; rfl, rfl⟩
  ·have HCR : Hid (Co.creatorOf l = x.sender) := hid (by unfold Co.creatorOf Co.createOf; rw [hf])
   obtain ⟨b, off, X, rfl, -, hr, hv⟩ := HROW2.out i x hi
   have hc : w2.cell? ⟨b, off + i * 29 + 2, none⟩ = some (.string (bstr x.sender)) := hr 2 _ (EvV.c2 hv)
   have hil : i < l.length := (List.getElem?_eq_some_iff.1 hi).1
   clear hf hi hr hv
   go_wp2_with fail
   go_meet
   exact ⟨by rw [HCR.out], rfl⟩
 case rest =>
  obtain ⟨rfl, rfl⟩ := hcut
  go_wp2_with fail
  refine (HF3.out w2 HROW2.out).mono ?_
  rintro e w3 ⟨rfl, hb3⟩
  have HB3 := hid (HB2.out.trans (hb3.mono HB2.out.size))
  have HKR3 := hid (HKR2.out.below hb3 hw2s)
  have HROW3 := hid (HROW2.out.bel hb3)
  have hw3s : w.heap.size < w3.heap.size := HKR3.out.lt
  clear hb3
  have HIY := hid (ix_find0 (Co.isKind 3) l)
  generalize ixF (Co.isKind 3) 0 l = i3 at *
  generalize hcrs : Co.creatorOf l = CR at *
  have HCRS := hid hcrs
  clear hcrs
  rcases HIY.out with ⟨rfl, hf⟩ | ⟨i, x, rfl, hi, hf⟩
  ·have HLO : Hid (Co.levelsOf l = Co.lvDefault CR) := hid (by unfold Co.levelsOf; rw [hf, ← HCRS.out])
   clear hf
   go_wp2_with fail
   refine (default_any CR w3).mono ?_
   rintro e w4 ⟨⟨X, rfl, hX⟩, hb4⟩
   have HB4 := hid (HB3.out.trans (hb4.mono HB3.out.size))
   have HKR4 := hid (HKR3.out.below hb4 hw3s)
   have HSX : Hid ((Tryz.prog.info? 28).map (·.size) = some X.toArray.size) := hid (by rw [size_lv, List.size_toArray, hX.len])
   have HSZ : Hid (zLv.size = X.toArray.size) := hid (by show 9 = X.toArray.size; rw [List.size_toArray, hX.len])
   have HOV : Hid (X.toArray.all (·.oneCell') = true) := hid (all_oneCell_toArray hX.one)
   have HX := hid hX
   clear hb4 hX
   go_wp2_with ((with_reducible refine store_rowe rfl 28 _ _ rfl w.heap.size X.toArray ?_ ?_ 28 zLv HKR4.out HSX.out HSZ.out HOV.out ?_); rfl; rfl)
   refine bodyPost_ret (results_row_tmp rfl _ _ w.heap.size _ _ _ rfl (setRow_heap _ _ _ _ _ _ HKR4.out) Tryz.underlying28 rfl HSX.out) rfl ⟨⟨X, by rw [HCRS.out]; rfl, by rw [HLO.out]; exact HX.out.keep fun b hb _ => ⟨by omega, setRow_other _ _ _ _ (by omega)⟩⟩, below_setRow HB4.out (Nat.le_refl _) _⟩
  ·have HLO : Hid (Co.levelsOf l = Co.lvOf x) := hid (by unfold Co.levelsOf; rw [hf])
   obtain ⟨b, off, X, rfl, -, hr, hv⟩ := HROW3.out i x hi
   obtain ⟨Y, hry, hy⟩ := ev_lv hv hr
   have hry' : w3.rangeAt b (off + i * 29 + 10 + 7) Y := hry
   have hil : i < l.length := (List.getElem?_eq_some_iff.1 hi).1
   have hxl := HS.out x (List.mem_of_getElem? hi)
   have HLX : Hid ((Tryz.prog.info? 28).map (·.size) = some Y.length) := hid (by rw [size_lv, hy.len])
   have HSX : Hid ((Tryz.prog.info? 28).map (·.size) = some Y.toArray.size) := hid (by rw [size_lv, List.size_toArray, hy.len])
   have HSZ : Hid (zLv.size = Y.toArray.size) := hid (by show 9 = Y.toArray.size; rw [List.size_toArray, hy.len])
   have HOV : Hid (Y.toArray.all (·.oneCell') = true) := hid (all_oneCell_toArray hy.one)
   obtain ⟨cu, ck, hYe, ⟨Au, cpu, rfl, hu, -⟩, ⟨Ak, cpk, rfl, hk, -⟩⟩ := hy
   have HYE := hid hYe
   have HN := hid (Blk.new w3 28 zLv)
   have hb5 := below_setRow (g := w3.heap.size) ((Below.refl w3.heap.size w3).alloc (Nat.le_refl _) (.cells zLv 28)) (Nat.le_refl _) Y.toArray
   have HK5 : Hid (Blk ((w3.alloc (.cells zLv 28)).setRow w3.heap.size Y.toArray) w3.heap.size 28 Y.toArray) := hid (setRow_heap _ _ _ _ _ _ HN.out)
   have HB5 := hid (HB3.out.trans (hb5.mono HB3.out.size))
   have HKR5 := hid (HKR3.out.below hb5 hw3s)
   have HRU := hid (hu.below hb5)
   have HRK := hid (hk.below hb5)
   have hw5s : w3.heap.size < ((w3.alloc (.cells zLv 28)).setRow w3.heap.size Y.toArray).heap.size := HK5.out.lt
   clear hf hi hr hv hry hu hk hYe hb5
   go_upto_region 8 with (first
    | ((with_reducible refine wpList_load_mid rfl 28 _ rfl b (off + i * 29 + 10 + 7) ?_ Y _ hry' Tryz.underlying28 ?_ HLX.out ?_); rfl; rfl)
    | ((with_reducible refine store_rowe rfl 28 _ _ rfl w3.heap.size Y.toArray ?_ ?_ 28 zLv HN.out HSX.out HSZ.out HOV.out ?_); rfl; rfl))
   generalize (w3.alloc (.cells zLv 28)).setRow w3.heap.size Y.toArray = w5 at *
   have hk5 := HK5.out
   rw [HYE.out] at hk5
   have HK6 : Hid (Blk w5 w3.heap.size 28 (lvC (Co.lvOf x) (.slice Au x.users.length cpu) (.slice Ak x.kinds.length cpk)).toArray) := hid hk5
   have HC5 : Hid (w5.drew.cell? ⟨w3.heap.size, 0, none⟩ = some (.slice Au x.users.length cpu) ∧ w5.drew.cell? ⟨w3.heap.size, 1, none⟩ = some (.slice Ak x.kinds.length cpk)) := hid ⟨hk5.cell 0, hk5.cell 1⟩
   clear hk5 hry'
   refine region_till (fun W => W.cell? ⟨w3.heap.size, 0, none⟩ = some (.slice Au x.users.length cpu) ∧ W.cell? ⟨w3.heap.size, 1, none⟩ = some (.slice Ak x.kinds.length cpk)) (fun i => decide (7 ≤ i)) (by kernel_rfl) HC5.out (fun hHeld => ?_)
   refine till_take (i := 0) (oi := _) (v := ?_) rfl (by kernel_rfl) (by kernel_rfl) (by kernel_rfl) (by kernel_rfl) (fun _ _ _ h => h) (Or.inl ⟨by rfl, ?_⟩) hHeld ?_
   rotate_left
   ·intro wq hSw
    go_simp
    (try with_reducible rfl)
   (try simp only [Act.put, List.getElem_toArray, List.getElem_cons_zero, List.getElem_cons_succ, List.setIfInBounds_toArray, List.set_cons_zero, List.set_cons_succ])
   refine till_take (i := 1) (oi := _) (v := ?_) rfl (by kernel_rfl) (by kernel_rfl) (by kernel_rfl) (by kernel_rfl) (fun _ _ _ h => h) (Or.inl ⟨by rfl, ?_⟩) hHeld ?_
   rotate_left
   ·intro wq hSw
    have hSw1 := hSw.1
    go_simp
    (try with_reducible rfl)
   (try simp only [Act.put, List.getElem_toArray, List.getElem_cons_zero, List.getElem_cons_succ, List.setIfInBounds_toArray, List.set_cons_zero, List.set_cons_succ])
   refine till_take (i := 3) (oi := _) (v := ?_) rfl (by kernel_rfl) (by kernel_rfl) (by kernel_rfl) (by kernel_rfl) (fun _ _ _ h => h) (Or.inl ⟨by rfl, ?_⟩) hHeld ?_
   rotate_left
   ·intro wq hSw
    go_simp
    (try with_reducible rfl)
   (try simp only [Act.put, List.getElem_toArray, List.getElem_cons_zero, List.getElem_cons_succ, List.setIfInBounds_toArray, List.set_cons_zero, List.set_cons_succ])
   refine till_take (i := 4) (oi := _) (v := ?_) rfl (by kernel_rfl) (by kernel_rfl) (by kernel_rfl) (by kernel_rfl) (fun _ _ _ h => h) (Or.inl ⟨by rfl, ?_⟩) hHeld ?_
   rotate_left
   ·intro wq hSw
    have hSw2 := hSw.2
    go_simp
    (try with_reducible rfl)
   (try simp only [Act.put, List.getElem_toArray, List.getElem_cons_zero, List.getElem_cons_succ, List.setIfInBounds_toArray, List.set_cons_zero, List.set_cons_succ])
   refine till_ready (rs := [2]) (by kernel_rfl) (by simp) ?_
   refine ReadyT.cons (o := _) rfl (fun K hK => ?_) ReadyT.nil
   go_simp
   go_at_call 51
   refine (clonel_any ok Au x.users.length cpu (usrL x.users) w5.drew HRU.out one_usr hxl.1).mono ?_
   rintro e w6 ⟨⟨c6, rfl, hs6⟩, hb6⟩
   have HS6 := hid hs6
   have HB6 := hid hb6
   obtain ⟨A6, p6, rfl, -⟩ := hs6
   have hz6 : w3.heap.size < w6.heap.size := Nat.lt_of_lt_of_le hw5s hb6.size
   have HC6 : Hid (w6.cell? ⟨w3.heap.size, 0, none⟩ = some (.slice Au x.users.length cpu) ∧ w6.cell? ⟨w3.heap.size, 1, none⟩ = some (.slice Ak x.kinds.length cpk)) := hid ⟨(hb6.cell (p := ⟨w3.heap.size, 0, none⟩) hw5s).trans HC5.out.1, (hb6.cell (p := ⟨w3.heap.size, 1, none⟩) hw5s).trans HC5.out.2⟩
   have hrkd : Rd w5.drew Ak (x.kinds.length * 2) (kndL x.kinds) := HRK.out
   have HRK6 := hid (hrkd.below hb6)
   clear hrkd
   clear hb6 hHeld
   refine hK.out _ _ (.inr HC6.out) ?_
   clear hK K
   (try simp only [Act.put, List.getElem_toArray, List.getElem_cons_zero, List.getElem_cons_succ, List.setIfInBounds_toArray, List.set_cons_zero, List.set_cons_succ])
   have hHeld := HC6.out
   refine till_take (i := 6) (oi := _) (v := ?_) rfl (by kernel_rfl) (by kernel_rfl) (by kernel_rfl) (by kernel_rfl) (fun _ _ _ h => h) (Or.inl ⟨by rfl, ?_⟩) hHeld ?_
   rotate_left
   ·intro wq hSw
    go_simp
    (try with_reducible rfl)
   (try simp only [Act.put, List.getElem_toArray, List.getElem_cons_zero, List.getElem_cons_succ, List.setIfInBounds_toArray, List.set_cons_zero, List.set_cons_succ])
   clear hHeld
   refine till_ready (rs := [5]) (by kernel_rfl) (by simp) ?_
   refine ReadyT.cons (o := _) rfl (fun K hK => ?_) ReadyT.nil
   go_simp
   go_at_call 52
   refine (clonek_any ok Ak x.kinds.length cpk (kndL x.kinds) w6 HRK6.out one_knd hxl.2).mono ?_
   rintro e w7 ⟨⟨c7, rfl, hs7⟩, hb7⟩
   have HS7 := hid hs7
   have HB7 := hid hb7
   obtain ⟨A7, p7, rfl, -⟩ := hs7
   have hz7 : w3.heap.size < w7.heap.size := Nat.lt_of_lt_of_le hz6 hb7.size
   clear hb7
   refine hK.out _ _ (.inr ⟨(HB7.out.cell (p := ⟨w3.heap.size, 0, none⟩) hz6).trans HC6.out.1, (HB7.out.cell (p := ⟨w3.heap.size, 1, none⟩) hz6).trans HC6.out.2⟩) ?_
   clear hK K
   (try simp only [Act.put, List.getElem_toArray, List.getElem_cons_zero, List.getElem_cons_succ, List.setIfInBounds_toArray, List.set_cons_zero, List.set_cons_succ])
   have HB57 : Hid (Below w5.heap.size w5 w7) := hid ((Below.refl w5.heap.size w5).drew.trans (HB6.out.trans (HB7.out.mono HB6.out.size)))
   have HK7 := hid (HK6.out.below HB57.out hw5s)
   have hk70 := HK7.out.cell 0
   have hf70 := HK7.out.frozen 0
   have hk71 := HK7.out.cell 1
   have hf71 := HK7.out.frozen 1
   have HS6' : Hid (SlcOf (fun b => w5.heap.size ≤ b) w7 (.slice A6 x.users.length p6) x.users.length 2 (usrL x.users)) := hid (HS6.out.keep (by decide) (fun b hb hl => ⟨hb, HB7.out.block b hl⟩))
   have HS7' : Hid (SlcOf (fun b => w5.heap.size ≤ b) w7 (.slice A7 x.kinds.length p7) x.kinds.length 2 (kndL x.kinds)) := hid (HS7.out.keep (by decide) (fun b hb hl => ⟨Nat.le_trans HB6.out.size hb, rfl⟩))
   refine till_ready (rs := [7]) (by kernel_rfl) (by simp) ?_
   refine ReadyT.cons (o := _) rfl (fun K hK => ?_) ReadyT.nil
   go_simp
   refine hK.out _ _ (.inl (by kernel_rfl)) ?_
   clear hK K
   (try simp only [Act.put, List.getElem_toArray, List.getElem_cons_zero, List.getElem_cons_succ, List.setIfInBounds_toArray, List.set_cons_zero, List.set_cons_succ])
   refine till_ready (rs := [8]) (by kernel_rfl) (by simp) ?_
   refine ReadyT.cons (o := _) rfl (fun K hK => ?_) ReadyT.nil
   go_simp
   refine hK.out _ _ (.inl (by kernel_rfl)) ?_
   clear hK K
   (try simp only [Act.put, List.getElem_toArray, List.getElem_cons_zero, List.getElem_cons_succ, List.setIfInBounds_toArray, List.set_cons_zero, List.set_cons_succ])
   have hk8 : Blk (w7.setCell ⟨w3.heap.size, 0, none⟩ (.slice A6 x.users.length p6)) w3.heap.size 28 (lvC (Co.lvOf x) (.slice A6 x.users.length p6) (.slice Ak x.kinds.length cpk)).toArray := HK7.out.set_ 0 _
   have hk81 := hk8.cell 1
   have hf81 := hk8.frozen 1
   have HK8 := hid hk8
   clear hk8 hk70 hf70 hk71 hf71
   refine till_ready (rs := [9]) (by kernel_rfl) (by simp) ?_
   refine ReadyT.cons (o := _) rfl (fun K hK => ?_) ReadyT.nil
   go_simp
   refine hK.out _ _ (.inl (by kernel_rfl)) ?_
   clear hK K hk81 hf81
   (try simp only [Act.put, List.getElem_toArray, List.getElem_cons_zero, List.getElem_cons_succ, List.setIfInBounds_toArray, List.set_cons_zero, List.set_cons_succ])
   refine till_done (by kernel_rfl) ?_ _
   have HK9 : Hid (Blk ((w7.setCell ⟨w3.heap.size, 0, none⟩ (.slice A6 x.users.length p6)).setCell ⟨w3.heap.size, 1, none⟩ (.slice A7 x.kinds.length p7)) w3.heap.size 28 (lvC (Co.lvOf x) (.slice A6 x.users.length p6) (.slice A7 x.kinds.length p7)).toArray) := hid (HK8.out.set_ 1 _)
   have HKR7 := hid (HKR5.out.below HB57.out (by omega))
   have HKR9 : Hid (Blk ((w7.setCell ⟨w3.heap.size, 0, none⟩ (.slice A6 x.users.length p6)).setCell ⟨w3.heap.size, 1, none⟩ (.slice A7 x.kinds.length p7)) w.heap.size 28 zLv) := hid ((HKR7.out.far (by show w.heap.size ≠ w3.heap.size; omega) _).far (by show w.heap.size ≠ w3.heap.size; omega) _)
   have HB9 : Hid (Below w.heap.size w ((w7.setCell ⟨w3.heap.size, 0, none⟩ (.slice A6 x.users.length p6)).setCell ⟨w3.heap.size, 1, none⟩ (.slice A7 x.kinds.length p7))) := hid (((HB5.out.trans (HB57.out.mono HB5.out.size)).setCell (by show w.heap.size ≤ w3.heap.size; omega) _).setCell (by show w.heap.size ≤ w3.heap.size; omega) _)
   have HKP : Hid (∀ b, w5.heap.size ≤ b → b < w7.heap.size → w.heap.size ≤ b ∧ (((w7.setCell ⟨w3.heap.size, 0, none⟩ (.slice A6 x.users.length p6)).setCell ⟨w3.heap.size, 1, none⟩ (.slice A7 x.kinds.length p7)).setRow w.heap.size (lvC (Co.lvOf x) (.slice A6 x.users.length p6) (.slice A7 x.kinds.length p7)).toArray).heap[b]? = w7.heap[b]?) := hid (fun b hb hl => ⟨by omega, (setRow_other _ _ _ _ (by omega)).trans ((Below.heap_setCell _ ⟨w3.heap.size, 1, none⟩ _ b (by show b ≠ w3.heap.size; omega)).trans (Below.heap_setCell _ ⟨w3.heap.size, 0, none⟩ _ b (by show b ≠ w3.heap.size; omega)))⟩)
   have HSC : Hid ((Tryz.prog.info? 28).map (·.size) = some (lvC (Co.lvOf x) (.slice A6 x.users.length p6) (.slice A7 x.kinds.length p7)).toArray.size) := hid size_lvA
   have HOC : Hid ((lvC (Co.lvOf x) (.slice A6 x.users.length p6) (.slice A7 x.kinds.length p7)).toArray.all (·.oneCell') = true) := hid (by unfold lvC; simp [Value.oneCell'])
   generalize ((w7.setCell ⟨w3.heap.size, 0, none⟩ (.slice A6 x.users.length p6)).setCell ⟨w3.heap.size, 1, none⟩ (.slice A7 x.kinds.length p7)) = wf at *
   go_wp2_with (first
    | (refine wpList_load_row rfl 28 _ rfl w3.heap.size rfl 28 (lvC (Co.lvOf x) (.slice A6 x.users.length p6) (.slice A7 x.kinds.length p7)).toArray (0, 0) _ HK9.out Tryz.underlying28 rfl HSC.out ?_)
    | ((with_reducible refine store_rowe rfl 28 _ _ rfl w.heap.size (lvC (Co.lvOf x) (.slice A6 x.users.length p6) (.slice A7 x.kinds.length p7)).toArray ?_ ?_ 28 zLv HKR9.out HSC.out ?_ HOC.out ?_); rfl; rfl; rfl))
   exact bodyPost_ret (results_row_tmp rfl _ _ w.heap.size _ _ _ rfl (setRow_heap _ _ _ _ _ _ HKR9.out) Tryz.underlying28 rfl HSC.out) rfl ⟨⟨(lvC (Co.lvOf x) (.slice A6 x.users.length p6) (.slice A7 x.kinds.length p7)), by rw [HCRS.out]; rfl, by rw [HLO.out]; exact ⟨_, _, rfl, HS6'.out.keep (by decide) HKP.out, HS7'.out.keep (by decide) HKP.out⟩⟩, below_setRow HB9.out (Nat.le_refl _) _⟩
end Go.Proofs.YtacjhbbieeliaaaGreatDoor
/- The text Kh. -/
namespace Co
def allowedRest (e : Ev) (l : List Ev) : Int :=
 if (createOf l).isSome = false then 17
 else if e.kind = 2 then memberE e l
 else if memOf l e.sender ≠ 3 then 18
 else levelE e l
theorem allowed_rest {e : Ev} {l : List Ev} (h : e.kind ≠ 1) : allowedE e l = allowedRest e l := by
 unfold allowedE allowedRest
 rw [if_neg h]
 cases createOf l <;> simp
end Co
namespace Go.Proofs.YtacjhbbieeliaaaGreatDoor
open Go.RowKit Go.Lib
set_option linter.unusedVariables false
set_option linter.unusedSimpArgs false
def Codes (F : FuncId) (ok : Nat → Prop) (e : Co.Ev) (l : List Co.Ev) (A : Option Addr) (cap : Nat) (c : Int) (w : World) : Prop :=
 ∀ (X : List Value) (W : World), EvV ok W X e → EvRow ok W A l → Below w.heap.size w W → Calls Tryz.prog F #[.agg X.toArray, .slice A l.length cap] W fun r w' => r = .returned (.int .i64 c) ∧ Below W.heap.size W w'
theorem allowed1_any (ok : Nat → Prop) (e : Co.Ev) (l : List Co.Ev) (A : Option Addr) (cap LB EB : Nat) (X : List Value) (w : World) (hLB : Blk w LB 35 #[.slice A l.length cap]) (hEB : Blk w EB 34 X.toArray) (hX : EvV ok w X e) (h : EvRow ok w A l) (hl : l.length ≤ 1000000) (hk1 : e.kind ≠ 1)
  (hM : (Co.createOf l).isSome = true → e.kind = 2 → Codes 40 ok e l A cap (Co.memberE e l) w) (hL : (Co.createOf l).isSome = true → e.kind ≠ 2 → Co.memOf l e.sender = 3 → Codes 42 ok e l A cap (Co.levelE e l) w) :
  Calls Tryz.prog 36 #[.pointer (some ⟨LB, 0, none⟩), .pointer (some ⟨EB, 0, none⟩)] w fun r w' => DecA (Co.allowedE e l) r ∧ Below w.heap.size w w' := by
 rw [Co.allowed_rest hk1]
 have HX := hid hX
 have HROW := hid h
 have HCR := hid (show Calls Tryz.prog 37 #[.slice A l.length cap] w fun e w' => FoundA ok (Co.createOf l) e w' ∧ Below w.heap.size w w' from create_any ok l A cap w h hl)
 have hclb := hLB.cell 0
 have HLB := hid hLB
 have HEB := hid hEB
 have HM := hid hM
 have HL := hid hL
 have HK1 := hid hk1
 have hkb1 : (e.kind == 1) = false := by rw [beq_eq_false_iff_ne]; exact hk1
 clear hLB hEB hX h hM hL hk1
 go_enter Tryz.func36, Tryz.ntmps36
 go_wp2_with fail
 refine HCR.out.mono ?_
 rintro r w2 ⟨⟨V, rfl, hv⟩, hb2⟩
 have hvl := hv.len
 rw [Array.length_toList] at hvl
 have HSX : Hid ((Tryz.prog.info? 34).map (·.size) = some V.size) := hid (by rw [size_ev, hvl])
 have HSZ : Hid (zEv.size = V.size) := hid hvl.symm
 have HOV : Hid (V.all (·.oneCell') = true) := hid (by have := EvS.all hv; rwa [Array.toArray_toList] at this)
 have HN := hid (Blk.new w2 34 zEv)
 have hb3 := below_setRow (g := w2.heap.size) (hb2.alloc hb2.size (.cells zEv 34)) hb2.size V
 have HB3 := hid hb3
 have HLB3 := hid (HLB.out.below hb3 HLB.out.lt)
 have HEB3 := hid (HEB.out.below hb3 HEB.out.lt)
 have HX3 := hid (HX.out.bel hb3)
 have HROW3 := hid (HROW.out.bel hb3)
 have hc3 : ((w2.alloc (.cells zEv 34)).setRow w2.heap.size V).cell? ⟨EB, 3, none⟩ = some (.int .i64 e.kind) := (HEB3.out.cell 3).trans (by rw [List.getElem?_toArray]; exact HX.out.c3)
 have hc2 : ((w2.alloc (.cells zEv 34)).setRow w2.heap.size V).cell? ⟨EB, 2, none⟩ = some (.string (bstr e.sender)) := (HEB3.out.cell 2).trans (by rw [List.getElem?_toArray]; exact HX.out.c2)
 have hcl : ((w2.alloc (.cells zEv 34)).setRow w2.heap.size V).cell? ⟨LB, 0, none⟩ = some (.slice A l.length cap) := HLB3.out.cell 0
 have hxl := HX.out.len
 have HSE : Hid ((Tryz.prog.info? 34).map (·.size) = some X.toArray.size) := hid (by rw [size_ev, List.size_toArray, hxl])
 clear hv hvl hb2 hb3 hclb hxl
 go_upto_region 1 with (((with_reducible refine store_rowe rfl 34 _ _ rfl w2.heap.size V ?_ ?_ 34 zEv HN.out HSX.out HSZ.out HOV.out ?_); rfl; rfl))
 generalize (w2.alloc (.cells zEv 34)).setRow w2.heap.size V = w3 at *
 cases hmade : (Co.createOf l).isSome with
 | false =>
  have HRES : Hid (Co.allowedRest e l = 17) := hid (by unfold Co.allowedRest; rw [hmade]; rfl)
  clear hmade
  go_wp2_with fail
  refine (need_no 17 _).mono ?_
  rintro r w4 ⟨rfl, rfl⟩
  exact ⟨rfl, .inl (by rw [HRES.out]), HB3.out⟩
 | true =>
  have HMA := hid hmade
  clear hmade
  by_cases hk2 : e.kind = 2
  ·have hkb2 : (e.kind == 2) = true := by rw [beq_iff_eq]; exact hk2
   have HRES : Hid (Co.allowedRest e l = Co.memberE e l) := hid (by unfold Co.allowedRest; rw [HMA.out]; simp [hk2])
   have HCM := hid (HM.out HMA.out hk2 X w3 HX3.out HROW3.out HB3.out)
   generalize Co.memberE e l = ME at *
   clear hk2
   go_wp2_with fail
   refine (need_yes 17 _).mono ?_
   rintro r w4 ⟨rfl, rfl⟩
   go_wp2_with (refine wpList_load_row rfl 34 _ rfl EB rfl 34 X.toArray (0, 0) _ HEB3.out Tryz.underlying34 rfl HSE.out ?_)
   refine HCM.out.mono ?_
   rintro r w5 ⟨rfl, hb5⟩
   have HB5 := hid (HB3.out.trans (hb5.mono HB3.out.size))
   clear hb5
   go_wp2_with fail
   refine (decide_pan ME _).mono ?_
   rintro r w6 ⟨rfl, rfl⟩
   exact ⟨rfl, .inl (by rw [HRES.out]), HB5.out⟩
  ·have hkb2 : (e.kind == 2) = false := by rw [beq_eq_false_iff_ne]; exact hk2
   have HMO := hid (memof_any ok l A cap e.sender w3 HROW3.out hl)
   by_cases hm3 : Co.memOf l e.sender = 3
   ·have HRES : Hid (Co.allowedRest e l = Co.levelE e l) := hid (by unfold Co.allowedRest; rw [HMA.out]; simp [hk2, hm3])
    have HCL := hid (HL.out HMA.out hk2 hm3 X w3 HX3.out HROW3.out HB3.out)
    generalize Co.levelE e l = LE at *
    have hmb : (Co.memOf l e.sender == 3) = true := by rw [beq_iff_eq]; exact hm3
    clear hk2 hm3
    generalize Co.memOf l e.sender = mo at *
    go_wp2_with fail
    refine (need_yes 17 _).mono ?_
    rintro r w4 ⟨rfl, rfl⟩
    go_wp2_with fail
    refine HMO.out.mono ?_
    rintro r w5 ⟨rfl, rfl⟩
    go_wp2_with fail
    refine (need_yes 18 _).mono ?_
    rintro r w6 ⟨rfl, rfl⟩
    go_wp2_with (refine wpList_load_row rfl 34 _ rfl EB rfl 34 X.toArray (0, 0) _ HEB3.out Tryz.underlying34 rfl HSE.out ?_)
    refine HCL.out.mono ?_
    rintro r w7 ⟨rfl, hb7⟩
    have HB7 := hid (HB3.out.trans (hb7.mono HB3.out.size))
    clear hb7
    go_wp2_with fail
    refine (decide_pan LE _).mono ?_
    rintro r w8 ⟨rfl, rfl⟩
    exact ⟨rfl, .inl (by rw [HRES.out]), HB7.out⟩
   ·have HRES : Hid (Co.allowedRest e l = 18) := hid (by unfold Co.allowedRest; rw [HMA.out]; simp [hk2, hm3])
    have hmb : (Co.memOf l e.sender == 3) = false := by rw [beq_eq_false_iff_ne]; exact hm3
    clear hk2 hm3
    generalize Co.memOf l e.sender = mo at *
    go_wp2_with fail
    refine (need_yes 17 _).mono ?_
    rintro r w4 ⟨rfl, rfl⟩
    go_wp2_with fail
    refine HMO.out.mono ?_
    rintro r w5 ⟨rfl, rfl⟩
    go_wp2_with fail
    refine (need_no 18 _).mono ?_
    rintro r w6 ⟨rfl, rfl⟩
    exact ⟨rfl, .inl (by rw [HRES.out]), HB3.out⟩
theorem pallowed_any (ok : Nat → Prop) (e : Co.Ev) (l : List Co.Ev) (A : Option Addr) (cap : Nat) (X : List Value) (w : World) (hX : EvV ok w X e) (h : EvRow ok w A l) (hl : l.length ≤ 1000000) (hk1 : e.kind ≠ 1)
  (hM : (Co.createOf l).isSome = true → e.kind = 2 → Codes 40 ok e l A cap (Co.memberE e l) w) (hL : (Co.createOf l).isSome = true → e.kind ≠ 2 → Co.memOf l e.sender = 3 → Codes 42 ok e l A cap (Co.levelE e l) w) :
  Calls Tryz.prog 11 #[.agg X.toArray, .slice A l.length cap] w fun r w' => r = .returned (.int .i64 (Co.allowedE e l)) ∧ Below w.heap.size w w' := by
 have hb1 := (Below.refl w.heap.size w).alloc (Nat.le_refl _) (.cells X.toArray 34)
 have hk1' := (Blk.new w 34 X.toArray).alloc (.cells #[.slice A l.length cap] 35)
 have hk2' := Blk.new (w.alloc (.cells X.toArray 34)) 35 #[.slice A l.length cap]
 have hb2 := hb1.alloc (by rw [World.size_alloc]; omega) (.cells #[.slice A l.length cap] 35)
 rw [World.size_alloc] at hk2'
 have hlow : ∀ W, Below ((w.alloc (.cells X.toArray 34)).alloc (.cells #[.slice A l.length cap] 35)).heap.size ((w.alloc (.cells X.toArray 34)).alloc (.cells #[.slice A l.length cap] 35)) W → Below w.heap.size w W := fun W hW => hb2.trans (hW.mono hb2.size)
 have HD := hid (decided_any 36 #[.pointer (some ⟨w.heap.size + 1, 0, none⟩), .pointer (some ⟨w.heap.size, 0, none⟩)] (Co.allowedE e l) _ (enters_of Tryz.func36 (by kernel_rfl) rfl) (fun W hW _ =>
  allowed1_any ok e l A cap (w.heap.size + 1) w.heap.size X W (hk2'.below hW hk2'.lt) (hk1'.below hW hk1'.lt) (hX.bel (hlow W hW)) (h.bel (hlow W hW)) hl hk1
   (fun a b Y V hY hV hbV => hM a b Y V hY hV ((hlow W hW).trans (hbV.mono (hlow W hW).size)))
   (fun a b c Y V hY hV hbV => hL a b c Y V hY hV ((hlow W hW).trans (hbV.mono (hlow W hW).size)))))
 have HB2 := hid hb2
 clear hM hL hb1 hb2 hk1' hk2' hlow hX h hk1
 generalize Co.allowedE e l = R at *
 go_enter Tryz.func11, Tryz.ntmps11
 go_wp2_with fail
 refine HD.out.mono ?_
 rintro r w2 ⟨rfl, hb3⟩
 have HB3 := hid (HB2.out.trans (hb3.mono HB2.out.size))
 clear hb3
 go_wp2_with fail
 go_ret
 exact ⟨rfl, HB3.out⟩
end Go.Proofs.YtacjhbbieeliaaaGreatDoor
/- The text Ki. -/
namespace Go.Proofs.YtacjhbbieeliaaaGreatDoor
open Go.RowKit Go.Lib
set_option linter.unusedVariables false
set_option linter.unusedSimpArgs false
theorem AskA.low {g : Nat} {q : Option Nat} {rule : ByteArray} {id err : Int} {ks : List Rn.Tr} {done : Bool} {t : Rn.Tr} {w w1 w' : World} {r : Ending} (h : AskA g q rule id err ks done t w1 r w') (hb : Below w.heap.size w w1) : AskA g q rule id err ks done t w r w' := by
 obtain ⟨h1, q', h2, h3⟩ := h
 exact ⟨h1, q', h2, (PrK.of_bel hb).tr h3⟩
theorem sender_any (ok : Nat → Prop) (g : Nat) (q : Option Nat) (rule : ByteArray) (id err : Int) (ks : List Rn.Tr) (done : Bool) (e : Co.Ev) (X : List Value) (l : List Co.Ev) (A : Option Addr) (cap : Nat) (w : World) (ht : TrS w g q rule id err ks done) (hn : ks.length ≤ 1000) (hX : EvV ok w X e) (h : EvRow ok w A l) (hl : l.length ≤ 1000000) :
  Calls Tryz.prog 18 #[.pointer (some ⟨g, 0, none⟩), .agg X.toArray, .slice A l.length cap] w (AskA g q rule id err ks done (Co.ask [115, 101, 110, 100, 101, 114, 45, 106, 111, 105, 110, 101, 100] (Co.idM l e.sender) (!(Co.memOf l e.sender == 3)) 18) w) := by
 have hb1 := (Below.refl w.heap.size w).alloc (Nat.le_refl _) (.cells X.toArray 34)
 have hc2 : (w.alloc (.cells X.toArray 34)).drew.cell? ⟨w.heap.size, 2, none⟩ = some (.string (bstr e.sender)) := ((Blk.new w 34 X.toArray).cell 2).trans (by rw [List.getElem?_toArray]; exact hX.c2)
 have HT := hid ht
 have HROW := hid h
 have HB1 := hid hb1
 have hs1 : w.heap.size < (w.alloc (.cells X.toArray 34)).heap.size := by simp
 clear ht hX h hb1
 generalize hw1 : w.alloc (.cells X.toArray 34) = w1 at *
 go_enter Tryz.func18, Tryz.ntmps18
 go_wp2_with fail
 refine wp_region_noPanic ?_
 refine wp_region_held_drew (S := fun W => W.cell? ⟨w.heap.size, 2, none⟩ = some (.string (bstr e.sender))) (by kernel_rfl) (hc2) (fun hHeld => ?_)
 refine wpAnyH_take (i := 0) (oi := _) (v := ?_) rfl (by kernel_rfl) (by kernel_rfl) (by kernel_rfl) (fun _ _ _ h => h) (Or.inl ⟨by kernel_rfl, ?_⟩) hHeld ?_
 rotate_left
 ·intro wq hSw
  go_simp
  (try with_reducible rfl)
 (try simp only [Act.put, List.getElem_toArray, List.getElem_cons_zero, List.getElem_cons_succ, List.setIfInBounds_toArray, List.set_cons_zero, List.set_cons_succ])
 refine wpAnyH_take (i := 1) (oi := _) (v := ?_) rfl (by kernel_rfl) (by kernel_rfl) (by kernel_rfl) (fun _ _ _ h => h) (Or.inl ⟨by kernel_rfl, ?_⟩) hHeld ?_
 rotate_left
 ·intro wq hSw
  go_simp
  (try with_reducible rfl)
 (try simp only [Act.put, List.getElem_toArray, List.getElem_cons_zero, List.getElem_cons_succ, List.setIfInBounds_toArray, List.set_cons_zero, List.set_cons_succ])
 refine wpAnyH_take (i := 2) (oi := _) (v := ?_) rfl (by kernel_rfl) (by kernel_rfl) (by kernel_rfl) (fun _ _ _ h => h) (Or.inl ⟨by kernel_rfl, ?_⟩) hHeld ?_
 rotate_left
 ·intro wq hSw
  go_simp
  (try with_reducible rfl)
 (try simp only [Act.put, List.getElem_toArray, List.getElem_cons_zero, List.getElem_cons_succ, List.setIfInBounds_toArray, List.set_cons_zero, List.set_cons_succ])
 refine wpAnyH_take (i := 3) (oi := _) (v := ?_) rfl (by kernel_rfl) (by kernel_rfl) (by kernel_rfl) (fun _ _ _ h => h) (Or.inl ⟨by kernel_rfl, ?_⟩) hHeld ?_
 rotate_left
 ·intro wq hSw
  go_simp
  (try with_reducible rfl)
 (try simp only [Act.put, List.getElem_toArray, List.getElem_cons_zero, List.getElem_cons_succ, List.setIfInBounds_toArray, List.set_cons_zero, List.set_cons_succ])
 refine wpAnyH_take (i := 6) (oi := _) (v := ?_) rfl (by kernel_rfl) (by kernel_rfl) (by kernel_rfl) (fun _ _ _ h => h) (Or.inl ⟨by kernel_rfl, ?_⟩) hHeld ?_
 rotate_left
 ·intro wq hSw
  go_simp
  (try with_reducible rfl)
 (try simp only [Act.put, List.getElem_toArray, List.getElem_cons_zero, List.getElem_cons_succ, List.setIfInBounds_toArray, List.set_cons_zero, List.set_cons_succ])
 refine wpAnyH_take (i := 7) (oi := _) (v := ?_) rfl (by kernel_rfl) (by kernel_rfl) (by kernel_rfl) (fun _ _ _ h => h) (Or.inl ⟨by kernel_rfl, ?_⟩) hHeld ?_
 rotate_left
 ·intro wq hSw
  go_simp
  (try with_reducible rfl)
 (try simp only [Act.put, List.getElem_toArray, List.getElem_cons_zero, List.getElem_cons_succ, List.setIfInBounds_toArray, List.set_cons_zero, List.set_cons_succ])
 refine wpAnyH_take (i := 8) (oi := _) (v := ?_) rfl (by kernel_rfl) (by kernel_rfl) (by kernel_rfl) (fun _ _ _ h => h) (Or.inl ⟨by kernel_rfl, ?_⟩) hHeld ?_
 rotate_left
 ·intro wq hSw
  go_simp
  (try with_reducible rfl)
 (try simp only [Act.put, List.getElem_toArray, List.getElem_cons_zero, List.getElem_cons_succ, List.setIfInBounds_toArray, List.set_cons_zero, List.set_cons_succ])
 refine wpAnyH_ready (rs := [4]) (by kernel_rfl) (by simp) ?_
 refine AllReadyH.cons (o := _) rfl (fun K hK => ?_) AllReadyH.nil
 go_simp
 have hz2 := (Below.refl w1.heap.size w1).drew.alloc (Nat.le_refl _) (.cells #[.string (bstr e.sender)] 9)
 have hks : (w1.drew.alloc (.cells #[.string (bstr e.sender)] 9)).cell? ⟨w1.heap.size, 0, none⟩ = some (.string (bstr e.sender)) := (Blk.new w1.drew 9 #[.string (bstr e.sender)]).cell 0
 have HC2 := hid ((hz2.cell (p := ⟨w.heap.size, 2, none⟩) hs1).trans hc2)
 have HB2 := hid (HB1.out.trans (hz2.mono HB1.out.size))
 have HI := hid (idofk_any ok l A cap e.sender w1.heap.size 0 1 _ (HROW.out.bel HB2.out) hl hks)
 have hs2 : w.heap.size < (w1.drew.alloc (.cells #[.string (bstr e.sender)] 9)).heap.size := by rw [World.size_alloc]; show w.heap.size < w1.heap.size + 1; omega
 clear hz2 hks
 refine hK.out _ _ (HC2.out) (fun hHeld2 => ?_)
 clear hK K hHeld
 have hHeld := hHeld2
 clear hHeld2
 (try simp only [Act.put, List.getElem_toArray, List.getElem_cons_zero, List.getElem_cons_succ, List.setIfInBounds_toArray, List.set_cons_zero, List.set_cons_succ])
 refine wpAnyH_ready (rs := [5]) (by kernel_rfl) (by simp) ?_
 refine AllReadyH.cons (o := _) rfl (fun K hK => ?_) AllReadyH.nil
 go_simp
 go_at_call 15
 refine HI.out.mono ?_
 rintro r w3 ⟨rfl, hb3⟩
 have HB3 := hid (HB2.out.trans (hb3.mono HB2.out.size))
 have HC3 := hid ((hb3.cell (p := ⟨w.heap.size, 2, none⟩) hs2).trans HC2.out)
 have hs3 : w.heap.size < w3.heap.size := Nat.lt_of_lt_of_le hs2 hb3.size
 clear hb3
 refine hK.out _ _ (HC3.out) (fun hHeld2 => ?_)
 clear hK K hHeld
 have hHeld := hHeld2
 clear hHeld2
 (try simp only [Act.put, List.getElem_toArray, List.getElem_cons_zero, List.getElem_cons_succ, List.setIfInBounds_toArray, List.set_cons_zero, List.set_cons_succ])
 refine wpAnyH_ready (rs := [9]) (by kernel_rfl) (by simp) ?_
 refine AllReadyH.cons (o := _) rfl (fun K hK => ?_) AllReadyH.nil
 go_simp
 go_at_call 41
 refine (memof_any ok l A cap e.sender w3 (HROW.out.bel HB3.out) hl).mono ?_
 rintro r w4 ⟨rfl, rfl⟩
 refine hK.out _ _ (HC3.out) (fun hHeld2 => ?_)
 clear hK K hHeld
 have hHeld := hHeld2
 clear hHeld2
 (try simp only [Act.put, List.getElem_toArray, List.getElem_cons_zero, List.getElem_cons_succ, List.setIfInBounds_toArray, List.set_cons_zero, List.set_cons_succ])
 refine wpAnyH_take (i := 10) (oi := _) (v := ?_) rfl (by kernel_rfl) (by kernel_rfl) (by kernel_rfl) (fun _ _ _ h => h) (Or.inl ⟨by kernel_rfl, ?_⟩) hHeld ?_
 rotate_left
 ·intro wq hSw
  go_simp
  (try with_reducible rfl)
 (try simp only [Act.put, List.getElem_toArray, List.getElem_cons_zero, List.getElem_cons_succ, List.setIfInBounds_toArray, List.set_cons_zero, List.set_cons_succ])
 have HM := hid (must_any g q rule id err ks done [115, 101, 110, 100, 101, 114, 45, 106, 111, 105, 110, 101, 100] (Co.idM l e.sender) (Co.memOf l e.sender == 3) 18 w3 (HT.out.bel HB3.out) hn)
 refine wpAnyH_ready (rs := [11]) (by kernel_rfl) (by simp) ?_
 refine AllReadyH.cons (o := _) rfl (fun K hK => ?_) AllReadyH.nil
 go_simp
 go_at_call 14
 refine HM.out.mono ?_
 rintro r w5 hask
 have HA := hid (hask.low HB3.out)
 obtain ⟨rfl, q5, -, hpk⟩ := hask
 have HC5 : Hid (w5.cell? ⟨w.heap.size, 2, none⟩ = some (.string (bstr e.sender))) := hid ((World.cell?_of_block (hpk.block w.heap.size hs3 (by have := HT.out.lt; omega) (fun e => by have := (HT.out.own _ e.symm).2; omega))).trans HC3.out)
 clear hpk
 refine hK.out _ _ (HC5.out) (fun hHeld2 => ?_)
 clear hK K hHeld
 have hHeld := hHeld2
 clear hHeld2
 (try simp only [Act.put, List.getElem_toArray, List.getElem_cons_zero, List.getElem_cons_succ, List.setIfInBounds_toArray, List.set_cons_zero, List.set_cons_succ])
 refine wpAnyH_done (by kernel_rfl) ?_ _
 refine NoPanic.normal ?_
 go_wp2_with fail
 go_end0
 exact HA.out
end Go.Proofs.YtacjhbbieeliaaaGreatDoor
/- The text Kj. -/
namespace Go.Proofs.YtacjhbbieeliaaaGreatDoor
open Go.RowKit Go.Lib
set_option linter.unusedVariables false
set_option linter.unusedSimpArgs false
theorem ask_fold : ∀ (l ks : List Rn.Tr) (d : Bool), (l.foldl (fun (p : List Rn.Tr × Bool) t => (askL p.1 p.2 t, askD p.2 t)) (ks, d)).1 = if d then ks else ks ++ Co.upTo l
 | [], ks, d => by cases d <;> simp [Co.upTo]
 | t :: r, ks, d => by
  rw [List.foldl_cons, ask_fold r]
  cases d with
  | true => simp [askL, askD]
  | false =>
   rw [show Co.upTo (t :: r) = if t.err = 0 then t :: Co.upTo r else [t] from rfl]
   by_cases h : t.err = 0
   ·simp [askL, askD, h]
   ·simp [askL, askD, h]
structure ExS (w : World) (EB RB : Nat) (X : List Value) (W : World) (g : Nat) (q : Option Nat) (rule : ByteArray) (id err : Int) (ks : List Rn.Tr) (done : Bool) : Prop where
 t : TrS W g q rule id err ks done
 b : Below w.heap.size w W
 e : W.rangeAt EB 0 X
 r : Blk W RB 42 zRn
 lt : EB < g ∧ RB < g ∧ w.heap.size ≤ g
section
variable {w W W' : World} {EB RB g : Nat} {X : List Value} {q : Option Nat} {rule : ByteArray} {id err : Int} {ks : List Rn.Tr} {done : Bool} {t : Rn.Tr} {r : Ending}
theorem ExS.bel (h : ExS w EB RB X W g q rule id err ks done) (hb : Below W.heap.size W W') : ExS w EB RB X W' g q rule id err ks done := by
 have h1 := h.t.lt
 have h2 := h.lt
 exact ⟨h.t.bel hb, h.b.trans (hb.mono h.b.size), range_keep h.e (hb.block _ (by omega)), h.r.below hb h.r.lt, h.lt⟩
theorem ExS.ask (h : ExS w EB RB X W g q rule id err ks done) (ha : AskA g q rule id err ks done t W r W') : ∃ q', ExS w EB RB X W' g q' rule id err (askL ks done t) (askD done t) := by
 obtain ⟨-, q', h1, h2⟩ := ha
 have h3 := h.t.lt
 have h4 := h.lt
 have h5 := h.t.own
 refine ⟨q', h1, h.b.trans ((h2.below (by omega) (fun k hk => by have := h5 k hk; omega)).mono h4.2.2), range_keep h.e (h2.block _ (by omega) (by omega) (fun e => by have := h5 _ e.symm; omega)), (h2.block _ h.r.lt (by omega) (fun e => by have := h5 _ e.symm; omega)).trans h.r, h4⟩
end
theorem lv_small {l : List Co.Ev} (h : ∀ x ∈ l, x.users.length ≤ 1000000 ∧ x.kinds.length ≤ 1000000) : (Co.levelsOf l).users.length ≤ 1000000 ∧ (Co.levelsOf l).kinds.length ≤ 1000000 := by
 unfold Co.levelsOf
 cases hf : l.find? (Co.isKind 3) with
 | some x => exact h x (List.mem_of_find?_eq_some hf)
 | none =>
  by_cases hc : Co.creatorOf l = []
  ·simp [Co.lvDefault, hc]
  ·simp [Co.lvDefault, hc]
def AllowA (e : Co.Ev) (l : List Co.Ev) (base : Nat) (r : Ending) (w' : World) : Prop := ∃ V, r = .returned (.agg V) ∧ RnV w' (fun b => base ≤ b) V (Co.allowedR e l)
theorem pexp_other (ok : Nat → Prop) (e : Co.Ev) (X : List Value) (l : List Co.Ev) (A : Option Addr) (cap : Nat) (w : World) (hX : EvV ok w X e) (h : EvRow ok w A l) (hl : l.length ≤ 1000000) (hls : ∀ x ∈ l, x.users.length ≤ 1000000 ∧ x.kinds.length ≤ 1000000) (hk1 : e.kind ≠ 1) (hk2 : e.kind ≠ 2) (hk3 : e.kind ≠ 3)
  (hA : ∀ W, Below w.heap.size w W → Calls Tryz.prog 11 #[.agg X.toArray, .slice A l.length cap] W fun r w' => r = .returned (.int .i64 (Co.allowedE e l)) ∧ Below W.heap.size W w') :
  Calls Tryz.prog 8 #[.agg X.toArray, .slice A l.length cap] w fun r w' => AllowA e l w.heap.size r w' ∧ Below w.heap.size w w' := by
 have hkb1 : (e.kind == 1) = false := by rw [beq_eq_false_iff_ne]; exact hk1
 have hkb2 : (e.kind == 2) = false := by rw [beq_eq_false_iff_ne]; exact hk2
 have hkb3 : (e.kind == 3) = false := by rw [beq_eq_false_iff_ne]; exact hk3
 have HRU : Hid (Co.allowedR e l = .mk [97, 108, 108, 111, 119, 101, 100] e.id (Co.allowedE e l) (Co.upTo [Co.ask [99, 114, 101, 97, 116, 105, 111, 110] (Co.idK l 1) (Co.createOf l).isNone 17, Co.ask [115, 101, 110, 100, 101, 114, 45, 106, 111, 105, 110, 101, 100] (Co.idM l e.sender) (!(Co.memOf l e.sender == 3)) 18, Co.ask [108, 101, 118, 101, 108] (Co.idK l 3) (!(decide (Co.needs (Co.levelsOf l) e.kind ≤ Co.userLv (Co.levelsOf l) e.sender))) 20])) := hid (by
  unfold Co.allowedR Co.rulesR
  rw [if_neg hk1, if_neg hk2, if_neg hk3]
  have hd : decide (Co.userLv (Co.levelsOf l) e.sender < Co.needs (Co.levelsOf l) e.kind) = !(decide (Co.needs (Co.levelsOf l) e.kind ≤ Co.userLv (Co.levelsOf l) e.sender)) := by
   rw [Bool.eq_iff_iff]
   simp
  rw [hd]
  rfl)
 obtain ⟨AE, hAE⟩ : ∃ AE, AE = Co.allowedE e l := ⟨_, rfl⟩
 rw [← hAE] at hA HRU
 have HX := hid hX
 have HROW := hid h
 have HA := hid hA
 have HLS := hid hls
 have hxl := hX.len
 have HLE : Hid ((Tryz.prog.info? 34).map (·.size) = some X.length) := hid (by rw [size_ev, hxl])
 have hk0 := (Blk.new w 34 X.toArray).alloc (.cells zRn 42)
 have hr0 := Blk.new (w.alloc (.cells X.toArray 34)) 42 zRn
 rw [World.size_alloc] at hr0
 have hb1 := ((Below.refl w.heap.size w).alloc (Nat.le_refl _) (.cells X.toArray 34)).alloc (by rw [World.size_alloc]; omega) (.cells zRn 42)
 have HC1 : Hid (((w.alloc (.cells X.toArray 34)).alloc (.cells zRn 42)).drew.cell? ⟨w.heap.size, 0, none⟩ = some (.int .i64 e.id) ∧ ((w.alloc (.cells X.toArray 34)).alloc (.cells zRn 42)).drew.rangeAt w.heap.size 0 X) := hid ⟨(hk0.cell 0).trans (by rw [List.getElem?_toArray]; exact hX.c0), range_of_blk hk0⟩
 have HB1d : Hid (Below w.heap.size w ((w.alloc (.cells X.toArray 34)).alloc (.cells zRn 42)).drew) := hid hb1.drew
 have HRB := hid hr0
 have hs1 : w.heap.size < ((w.alloc (.cells X.toArray 34)).alloc (.cells zRn 42)).heap.size := by rw [World.size_alloc, World.size_alloc]; omega
 clear hX h hA hls hxl hk0 hr0 hb1 hk1 hk2 hk3 hAE
 generalize hw1 : (w.alloc (.cells X.toArray 34)).alloc (.cells zRn 42) = w1 at *
 go_enter Tryz.func8, Tryz.ntmps8
 go_wp2_with fail
 refine wp_region_noPanic ?_
 refine wp_region_held_drew (S := fun W => W.cell? ⟨w.heap.size, 0, none⟩ = some (.int .i64 e.id) ∧ W.rangeAt w.heap.size 0 X) (by kernel_rfl) (HC1.out) (fun hHeld => ?_)
 refine wpAnyH_take (i := 0) (oi := _) (v := ?_) rfl (by kernel_rfl) (by kernel_rfl) (by kernel_rfl) (fun _ _ _ h => h) (Or.inl ⟨by kernel_rfl, ?_⟩) hHeld ?_
 rotate_left
 ·intro wq hSw
  go_simp
  (try with_reducible rfl)
 (try simp only [Act.put, List.getElem_toArray, List.getElem_cons_zero, List.getElem_cons_succ, List.setIfInBounds_toArray, List.set_cons_zero, List.set_cons_succ])
 refine wpAnyH_take (i := 1) (oi := _) (v := ?_) rfl (by kernel_rfl) (by kernel_rfl) (by kernel_rfl) (fun _ _ _ h => h) (Or.inl ⟨by kernel_rfl, ?_⟩) hHeld ?_
 rotate_left
 ·intro wq hSw
  have hSw1 := hSw.1
  go_simp
  (try with_reducible rfl)
 (try simp only [Act.put, List.getElem_toArray, List.getElem_cons_zero, List.getElem_cons_succ, List.setIfInBounds_toArray, List.set_cons_zero, List.set_cons_succ])
 refine wpAnyH_take (i := 2) (oi := _) (v := _) rfl (by kernel_rfl) (by kernel_rfl) (by kernel_rfl) (fun _ _ _ h => h) (mid_yields rfl Tryz.underlying34 HLE.out (fun W h => by exact h.2) (by kernel_rfl) _ rfl rfl) hHeld ?_
 (try simp only [Act.put, List.getElem_toArray, List.getElem_cons_zero, List.getElem_cons_succ, List.setIfInBounds_toArray, List.set_cons_zero, List.set_cons_succ])
 refine wpAnyH_take (i := 3) (oi := _) (v := ?_) rfl (by kernel_rfl) (by kernel_rfl) (by kernel_rfl) (fun _ _ _ h => h) (Or.inl ⟨by kernel_rfl, ?_⟩) hHeld ?_
 rotate_left
 ·intro wq hSw
  go_simp
  (try with_reducible rfl)
 (try simp only [Act.put, List.getElem_toArray, List.getElem_cons_zero, List.getElem_cons_succ, List.setIfInBounds_toArray, List.set_cons_zero, List.set_cons_succ])
 refine wpAnyH_ready (rs := [4]) (by kernel_rfl) (by simp) ?_
 refine AllReadyH.cons (o := _) rfl (fun K hK => ?_) AllReadyH.nil
 go_simp
 go_at_call 11
 refine (HA.out w1.drew HB1d.out).mono ?_
 rintro r w2 ⟨rfl, hb2⟩
 have HB2 := hid (HB1d.out.trans (hb2.mono HB1d.out.size))
 have HC2 : Hid (w2.cell? ⟨w.heap.size, 0, none⟩ = some (.int .i64 e.id) ∧ w2.rangeAt w.heap.size 0 X) := hid ⟨(hb2.cell (p := ⟨w.heap.size, 0, none⟩) hs1).trans HC1.out.1, range_keep HC1.out.2 (hb2.block _ hs1)⟩
 have HRB2 := hid (HRB.out.below (show Below w1.heap.size w1 w2 from (Below.refl w1.heap.size w1).drew.trans hb2) HRB.out.lt)
 have hs2 : w.heap.size + 1 < w2.heap.size := HRB2.out.lt
 clear hb2
 refine hK.out _ _ (HC2.out) (fun hHeld2 => ?_)
 clear hK K hHeld
 have hHeld := hHeld2
 clear hHeld2
 (try simp only [Act.put, List.getElem_toArray, List.getElem_cons_zero, List.getElem_cons_succ, List.setIfInBounds_toArray, List.set_cons_zero, List.set_cons_succ])
 refine wpAnyH_take (i := 5) (oi := _) (v := ?_) rfl (by kernel_rfl) (by kernel_rfl) (by kernel_rfl) (fun _ _ _ h => h) (Or.inl ⟨by kernel_rfl, ?_⟩) hHeld ?_
 rotate_left
 ·intro wq hSw
  go_simp
  (try with_reducible rfl)
 (try simp only [Act.put, List.getElem_toArray, List.getElem_cons_zero, List.getElem_cons_succ, List.setIfInBounds_toArray, List.set_cons_zero, List.set_cons_succ])
 refine wpAnyH_take (i := 6) (oi := _) (v := ?_) rfl (by kernel_rfl) (by kernel_rfl) (by kernel_rfl) (fun _ _ _ h => h) (Or.inl ⟨by kernel_rfl, ?_⟩) hHeld ?_
 rotate_left
 ·intro wq hSw
  go_simp
  (try with_reducible rfl)
 (try simp only [Act.put, List.getElem_toArray, List.getElem_cons_zero, List.getElem_cons_succ, List.setIfInBounds_toArray, List.set_cons_zero, List.set_cons_succ])
 refine wpAnyH_ready (rs := [7]) (by kernel_rfl) (by simp) ?_
 refine AllReadyH.cons (o := _) rfl (fun K hK => ?_) AllReadyH.nil
 go_simp
 have HT3 : Hid (TrS (w2.alloc (.cells #[.string ⟨#[97, 108, 108, 111, 119, 101, 100]⟩, .int .i64 e.id, .int .i64 AE, .slice none 0 0, .bool false] 52)) w2.heap.size none ⟨#[97, 108, 108, 111, 119, 101, 100]⟩ e.id AE [] false) := hid ⟨_, Blk.new w2 52 _, Shp.Own.nil, rfl⟩
 have hz3 := (Below.refl w2.heap.size w2).alloc (Nat.le_refl _) (.cells #[.string ⟨#[97, 108, 108, 111, 119, 101, 100]⟩, .int .i64 e.id, .int .i64 AE, .slice none 0 0, .bool false] 52)
 have HB3 := hid (HB2.out.trans (hz3.mono HB2.out.size))
 have HC3 : Hid ((w2.alloc (.cells #[.string ⟨#[97, 108, 108, 111, 119, 101, 100]⟩, .int .i64 e.id, .int .i64 AE, .slice none 0 0, .bool false] 52)).cell? ⟨w.heap.size, 0, none⟩ = some (.int .i64 e.id) ∧ (w2.alloc (.cells #[.string ⟨#[97, 108, 108, 111, 119, 101, 100]⟩, .int .i64 e.id, .int .i64 AE, .slice none 0 0, .bool false] 52)).rangeAt w.heap.size 0 X) := hid ⟨(hz3.cell (p := ⟨w.heap.size, 0, none⟩) (by show w.heap.size < w2.heap.size; omega)).trans HC2.out.1, range_keep HC2.out.2 (hz3.block _ (by omega))⟩
 have HRB3 := hid (HRB2.out.below hz3 HRB2.out.lt)
 clear hz3
 refine hK.out _ _ (HC3.out) (fun hHeld2 => ?_)
 clear hK K hHeld
 have hHeld := hHeld2
 clear hHeld2
 (try simp only [Act.put, List.getElem_toArray, List.getElem_cons_zero, List.getElem_cons_succ, List.setIfInBounds_toArray, List.set_cons_zero, List.set_cons_succ])
 refine wpAnyH_take (i := 8) (oi := _) (v := ?_) rfl (by kernel_rfl) (by kernel_rfl) (by kernel_rfl) (fun _ _ _ h => h) (Or.inl ⟨by kernel_rfl, ?_⟩) hHeld ?_
 rotate_left
 ·intro wq hSw
  go_simp
  (try with_reducible rfl)
 (try simp only [Act.put, List.getElem_toArray, List.getElem_cons_zero, List.getElem_cons_succ, List.setIfInBounds_toArray, List.set_cons_zero, List.set_cons_succ])
 refine wpAnyH_done (by kernel_rfl) ?_ _
 refine NoPanic.normal ?_
 have HS4 : Hid (ExS w w.heap.size (w.heap.size + 1) X (w2.alloc (.cells #[.string ⟨#[97, 108, 108, 111, 119, 101, 100]⟩, .int .i64 e.id, .int .i64 AE, .slice none 0 0, .bool false] 52)) w2.heap.size none ⟨#[97, 108, 108, 111, 119, 101, 100]⟩ e.id AE [] false) := hid ⟨HT3.out, HB3.out, HC3.out.2, HRB3.out, by omega⟩
 clear hHeld
 generalize w2.alloc (.cells #[.string ⟨#[97, 108, 108, 111, 119, 101, 100]⟩, .int .i64 e.id, .int .i64 AE, .slice none 0 0, .bool false] 52) = w4 at *
 generalize w2.heap.size = g at *
 clear HT3 HB3 HC3 HRB3 HC2 HRB2 HB2 hs2
 have HX0 : Hid (X[3]? = some (.int .i64 e.kind) ∧ X[2]? = some (.string (bstr e.sender))) := hid ⟨HX.out.c3, HX.out.c2⟩
 go_wp2_with fail
 refine (show Calls Tryz.prog 13 #[.slice A l.length cap, .int .i64 1, .slice none 0 0] w4 fun r w' => FoundA ok (Co.createOf l) r w' ∧ Below w4.heap.size w4 w' from first_any ok l A cap 1 w4 (HROW.out.bel HS4.out.b) hl).mono ?_
 rintro r w5 ⟨⟨V, rfl, hv⟩, hb5⟩
 have hvl := hv.len
 rw [Array.length_toList] at hvl
 have HSX : Hid ((Tryz.prog.info? 34).map (·.size) = some V.size) := hid (by rw [size_ev, hvl])
 have HSZ : Hid (zEv.size = V.size) := hid hvl.symm
 have HOV : Hid (V.all (·.oneCell') = true) := hid (by have := EvS.all hv; rwa [Array.toArray_toList] at this)
 have HN := hid (Blk.new w5 34 zEv)
 have HS6 := hid (HS4.out.bel (below_setRow (g := w5.heap.size) (hb5.alloc hb5.size (.cells zEv 34)) hb5.size V))
 clear hv hvl hb5
 go_upto_region 3 with (((with_reducible refine store_rowe rfl 34 _ _ rfl w5.heap.size V ?_ ?_ 34 zEv HN.out HSX.out HSZ.out HOV.out ?_); rfl; rfl))
 generalize (w5.alloc (.cells zEv 34)).setRow w5.heap.size V = w6 at *
 have hc3 : w6.cell? ⟨w.heap.size, 3, none⟩ = some (.int .i64 e.kind) := by have := HS6.out.e 3 _ HX0.out.1; rwa [Nat.zero_add] at this
 generalize hmade : (Co.createOf l).isSome = made at *
 have HMD := hid hmade
 clear hmade
 go_wp2_with fail
 refine (idof_any ok l A cap 1 w6 (HROW.out.bel HS6.out.b) hl).mono ?_
 rintro r w7 ⟨rfl, hb7⟩
 have HS7 := hid (HS6.out.bel hb7)
 clear hb7 hc3
 go_wp2_with fail
 refine (must_any g none ⟨#[97, 108, 108, 111, 119, 101, 100]⟩ e.id AE [] false [99, 114, 101, 97, 116, 105, 111, 110] (Co.idK l 1) made 17 w7 HS7.out.t (by simp)).mono ?_
 rintro r w8 hask
 obtain ⟨q8, hs8⟩ := HS7.out.ask hask
 obtain ⟨rfl, -⟩ := hask
 have HS8 := hid hs8
 clear hs8
 obtain ⟨ks1, hks1⟩ : ∃ k, k = askL [] false (Co.ask [99, 114, 101, 97, 116, 105, 111, 110] (Co.idK l 1) (!made) 17) := ⟨_, rfl⟩
 obtain ⟨d1, hd1⟩ : ∃ k, k = askD false (Co.ask [99, 114, 101, 97, 116, 105, 111, 110] (Co.idK l 1) (!made) 17) := ⟨_, rfl⟩
 rw [← hks1, ← hd1] at HS8
 have HK1 := hid (And.intro hks1 hd1)
 have hn1 : ks1.length ≤ 1 := by rw [hks1]; simp [askL]
 clear hks1 hd1
 have hc3 : w8.cell? ⟨w.heap.size, 3, none⟩ = some (.int .i64 e.kind) := by have := HS8.out.e 3 _ HX0.out.1; rwa [Nat.zero_add] at this
 go_wp2_with ((with_reducible refine wpList_load_mid rfl 34 _ rfl w.heap.size 0 ?_ X _ HS8.out.e Tryz.underlying34 ?_ HLE.out ?_); rfl; rfl)
 refine (sender_any ok g q8 ⟨#[97, 108, 108, 111, 119, 101, 100]⟩ e.id AE ks1 d1 e X l A cap w8 HS8.out.t (by omega) (HX.out.bel HS8.out.b) (HROW.out.bel HS8.out.b) hl).mono ?_
 rintro r w9 hask
 obtain ⟨q9, hs9⟩ := HS8.out.ask hask
 obtain ⟨rfl, -⟩ := hask
 have HS9 := hid hs9
 clear hs9 hc3
 obtain ⟨ks2, hks2⟩ : ∃ k, k = askL ks1 d1 (Co.ask [115, 101, 110, 100, 101, 114, 45, 106, 111, 105, 110, 101, 100] (Co.idM l e.sender) (!(Co.memOf l e.sender == 3)) 18) := ⟨_, rfl⟩
 obtain ⟨d2, hd2⟩ : ∃ k, k = askD d1 (Co.ask [115, 101, 110, 100, 101, 114, 45, 106, 111, 105, 110, 101, 100] (Co.idM l e.sender) (!(Co.memOf l e.sender == 3)) 18) := ⟨_, rfl⟩
 rw [← hks2, ← hd2] at HS9
 have HK2 := hid (And.intro hks2 hd2)
 have hn2 : ks2.length ≤ 2 := by rw [hks2]; unfold askL; split; omega; simp; omega
 clear hks2 hd2
 go_wp2_with fail
 refine (lvof_any ok l A cap w9 (HROW.out.bel HS9.out.b) hl HLS.out).mono ?_
 rintro r w10 ⟨⟨Y, rfl, hy⟩, hb10⟩
 have HY := hid hy
 have HSY : Hid ((Tryz.prog.info? 28).map (·.size) = some Y.toArray.size) := hid (by rw [size_lv, List.size_toArray, hy.len])
 have HLY : Hid ((Tryz.prog.info? 28).map (·.size) = some Y.length) := hid (by rw [size_lv, hy.len])
 have HZY : Hid (zLv.size = Y.toArray.size) := hid (by show 9 = Y.toArray.size; rw [List.size_toArray, hy.len])
 have HOY : Hid (Y.toArray.all (·.oneCell') = true) := hid (all_oneCell_toArray hy.one)
 have HNY := hid (Blk.new w10 28 zLv)
 have hb11 := below_setRow (g := w10.heap.size) ((Below.refl w10.heap.size w10).alloc (Nat.le_refl _) (.cells zLv 28)) (Nat.le_refl _) Y.toArray
 have HS11 := hid ((HS9.out.bel hb10).bel hb11)
 have HY11 := hid (hy.bel hb11)
 have HVB : Hid (Blk ((w10.alloc (.cells zLv 28)).setRow w10.heap.size Y.toArray) w10.heap.size 28 Y.toArray) := hid (setRow_heap _ _ _ _ _ _ HNY.out)
 have hvg : g < w10.heap.size := Nat.lt_of_lt_of_le HS9.out.t.lt hb10.size
 have hvq : some w10.heap.size ≠ q9 := fun e => by have := HS9.out.t.own _ e.symm; have h9 := hb10.size; omega
 clear hy hb10 hb11
 go_upto_region 13 with (((with_reducible refine store_rowe rfl 28 _ _ rfl w10.heap.size Y.toArray ?_ ?_ 28 zLv HNY.out HSY.out HZY.out HOY.out ?_); rfl; rfl))
 generalize (w10.alloc (.cells zLv 28)).setRow w10.heap.size Y.toArray = w11 at *
 generalize w10.heap.size = vb at *
 have HCI : ∀ W g q ks d, ExS w w.heap.size (w.heap.size + 1) X W g q ⟨#[97, 108, 108, 111, 119, 101, 100]⟩ e.id AE ks d → W.cell? ⟨w.heap.size, 2, none⟩ = some (.string (bstr e.sender)) ∧ W.cell? ⟨w.heap.size, 3, none⟩ = some (.int .i64 e.kind) := fun W g q ks d h => ⟨by have := h.e 2 _ HX0.out.2; rwa [Nat.zero_add] at this, by have := h.e 3 _ HX0.out.1; rwa [Nat.zero_add] at this⟩
 have HCJ := hid HCI
 clear HCI
 have hC0 : w11.drew.rangeAt vb 0 Y ∧ w11.drew.cell? ⟨w.heap.size, 2, none⟩ = some (.string (bstr e.sender)) ∧ w11.drew.cell? ⟨w.heap.size, 3, none⟩ = some (.int .i64 e.kind) := ⟨range_of_blk HVB.out, (HCJ.out w11 _ _ _ _ HS11.out).1, (HCJ.out w11 _ _ _ _ HS11.out).2⟩
 have hbd := (Below.refl w11.heap.size w11).drew
 have HS11d := hid (HS11.out.bel hbd)
 have HVB11d := hid (HVB.out.below hbd HVB.out.lt)
 have HY11d := hid (HY11.out.bel hbd)
 clear hbd
 refine wp_region_noPanic ?_
 refine wp_region_held_drew (S := fun W => W.rangeAt vb 0 Y ∧ W.cell? ⟨w.heap.size, 2, none⟩ = some (.string (bstr e.sender)) ∧ W.cell? ⟨w.heap.size, 3, none⟩ = some (.int .i64 e.kind)) (by kernel_rfl) (hC0) (fun hHeld => ?_)
 refine wpAnyH_take (i := 0) (oi := _) (v := ?_) rfl (by kernel_rfl) (by kernel_rfl) (by kernel_rfl) (fun _ _ _ h => h) (Or.inl ⟨by kernel_rfl, ?_⟩) hHeld ?_
 rotate_left
 ·intro wq hSw
  go_simp
  (try with_reducible rfl)
 (try simp only [Act.put, List.getElem_toArray, List.getElem_cons_zero, List.getElem_cons_succ, List.setIfInBounds_toArray, List.set_cons_zero, List.set_cons_succ])
 refine wpAnyH_take (i := 1) (oi := _) (v := ?_) rfl (by kernel_rfl) (by kernel_rfl) (by kernel_rfl) (fun _ _ _ h => h) (Or.inl ⟨by kernel_rfl, ?_⟩) hHeld ?_
 rotate_left
 ·intro wq hSw
  go_simp
  (try with_reducible rfl)
 (try simp only [Act.put, List.getElem_toArray, List.getElem_cons_zero, List.getElem_cons_succ, List.setIfInBounds_toArray, List.set_cons_zero, List.set_cons_succ])
 refine wpAnyH_take (i := 3) (oi := _) (v := _) rfl (by kernel_rfl) (by kernel_rfl) (by kernel_rfl) (fun _ _ _ h => h) (mid_yields rfl Tryz.underlying28 HLY.out (fun W h => by exact h.1) (by kernel_rfl) _ rfl rfl) hHeld ?_
 (try simp only [Act.put, List.getElem_toArray, List.getElem_cons_zero, List.getElem_cons_succ, List.setIfInBounds_toArray, List.set_cons_zero, List.set_cons_succ])
 refine wpAnyH_take (i := 4) (oi := _) (v := ?_) rfl (by kernel_rfl) (by kernel_rfl) (by kernel_rfl) (fun _ _ _ h => h) (Or.inl ⟨by kernel_rfl, ?_⟩) hHeld ?_
 rotate_left
 ·intro wq hSw
  go_simp
  (try with_reducible rfl)
 (try simp only [Act.put, List.getElem_toArray, List.getElem_cons_zero, List.getElem_cons_succ, List.setIfInBounds_toArray, List.set_cons_zero, List.set_cons_succ])
 refine wpAnyH_take (i := 5) (oi := _) (v := ?_) rfl (by kernel_rfl) (by kernel_rfl) (by kernel_rfl) (fun _ _ _ h => h) (Or.inl ⟨by kernel_rfl, ?_⟩) hHeld ?_
 rotate_left
 ·intro wq hSw
  have hSw1 := hSw.2.1
  have hSw2 := hSw.2.2
  clear hSw
  go_simp
  (try with_reducible rfl)
 (try simp only [Act.put, List.getElem_toArray, List.getElem_cons_zero, List.getElem_cons_succ, List.setIfInBounds_toArray, List.set_cons_zero, List.set_cons_succ])
 refine wpAnyH_take (i := 7) (oi := _) (v := _) rfl (by kernel_rfl) (by kernel_rfl) (by kernel_rfl) (fun _ _ _ h => h) (mid_yields rfl Tryz.underlying28 HLY.out (fun W h => by exact h.1) (by kernel_rfl) _ rfl rfl) hHeld ?_
 (try simp only [Act.put, List.getElem_toArray, List.getElem_cons_zero, List.getElem_cons_succ, List.setIfInBounds_toArray, List.set_cons_zero, List.set_cons_succ])
 refine wpAnyH_take (i := 8) (oi := _) (v := ?_) rfl (by kernel_rfl) (by kernel_rfl) (by kernel_rfl) (fun _ _ _ h => h) (Or.inl ⟨by kernel_rfl, ?_⟩) hHeld ?_
 rotate_left
 ·intro wq hSw
  go_simp
  (try with_reducible rfl)
 (try simp only [Act.put, List.getElem_toArray, List.getElem_cons_zero, List.getElem_cons_succ, List.setIfInBounds_toArray, List.set_cons_zero, List.set_cons_succ])
 refine wpAnyH_take (i := 9) (oi := _) (v := ?_) rfl (by kernel_rfl) (by kernel_rfl) (by kernel_rfl) (fun _ _ _ h => h) (Or.inl ⟨by kernel_rfl, ?_⟩) hHeld ?_
 rotate_left
 ·intro wq hSw
  have hSw1 := hSw.2.1
  have hSw2 := hSw.2.2
  clear hSw
  go_simp
  (try with_reducible rfl)
 (try simp only [Act.put, List.getElem_toArray, List.getElem_cons_zero, List.getElem_cons_succ, List.setIfInBounds_toArray, List.set_cons_zero, List.set_cons_succ])
 refine wpAnyH_ready (rs := [2]) (by kernel_rfl) (by simp) ?_
 refine AllReadyH.cons (o := _) rfl (fun K hK => ?_) AllReadyH.nil
 go_simp
 go_at_call 15
 refine (idof_any ok l A cap 3 w11.drew (HROW.out.bel HS11d.out.b) hl).mono ?_
 rintro r w12 ⟨rfl, hb⟩
 have HS12 := hid (HS11d.out.bel hb)
 have HVB12 := hid (HVB11d.out.below hb HVB11d.out.lt)
 have HY12 := hid (HY11d.out.bel hb)
 clear hb
 refine hK.out _ _ (⟨range_of_blk HVB12.out, HCJ.out _ _ _ _ _ HS12.out⟩) (fun hHeld2 => ?_)
 clear hK K hHeld
 have hHeld := hHeld2
 clear hHeld2
 (try simp only [Act.put, List.getElem_toArray, List.getElem_cons_zero, List.getElem_cons_succ, List.setIfInBounds_toArray, List.set_cons_zero, List.set_cons_succ])
 refine wpAnyH_ready (rs := [6]) (by kernel_rfl) (by simp) ?_
 refine AllReadyH.cons (o := _) rfl (fun K hK => ?_) AllReadyH.nil
 go_simp
 go_at_call 20
 refine (lvuser_any _ (Co.levelsOf l) Y e.sender w12 HY12.out (lv_small HLS.out).1).mono ?_
 rintro r w13 ⟨rfl, hb⟩
 have HS13 := hid (HS12.out.bel hb)
 have HVB13 := hid (HVB12.out.below hb HVB12.out.lt)
 have HY13 := hid (HY12.out.bel hb)
 clear hb
 refine hK.out _ _ (⟨range_of_blk HVB13.out, HCJ.out _ _ _ _ _ HS13.out⟩) (fun hHeld2 => ?_)
 clear hK K hHeld
 have hHeld := hHeld2
 clear hHeld2
 (try simp only [Act.put, List.getElem_toArray, List.getElem_cons_zero, List.getElem_cons_succ, List.setIfInBounds_toArray, List.set_cons_zero, List.set_cons_succ])
 refine wpAnyH_ready (rs := [10]) (by kernel_rfl) (by simp) ?_
 refine AllReadyH.cons (o := _) rfl (fun K hK => ?_) AllReadyH.nil
 go_simp
 go_at_call 21
 refine (needs_any _ (Co.levelsOf l) Y e.kind w13 HY13.out (lv_small HLS.out).2).mono ?_
 rintro r w14 ⟨rfl, hb⟩
 have HS14 := hid (HS13.out.bel hb)
 have HVB14 := hid (HVB13.out.below hb HVB13.out.lt)
 have HY14 := hid (HY13.out.bel hb)
 clear hb
 refine hK.out _ _ (⟨range_of_blk HVB14.out, HCJ.out _ _ _ _ _ HS14.out⟩) (fun hHeld2 => ?_)
 clear hK K hHeld
 have hHeld := hHeld2
 clear hHeld2
 (try simp only [Act.put, List.getElem_toArray, List.getElem_cons_zero, List.getElem_cons_succ, List.setIfInBounds_toArray, List.set_cons_zero, List.set_cons_succ])
 refine wpAnyH_take (i := 11) (oi := _) (v := ?_) rfl (by kernel_rfl) (by kernel_rfl) (by kernel_rfl) (fun _ _ _ h => h) (Or.inl ⟨by kernel_rfl, ?_⟩) hHeld ?_
 rotate_left
 ·intro wq hSw
  go_simp
  (try with_reducible rfl)
 (try simp only [Act.put, List.getElem_toArray, List.getElem_cons_zero, List.getElem_cons_succ, List.setIfInBounds_toArray, List.set_cons_zero, List.set_cons_succ])
 have HM := hid (must_any g q9 ⟨#[97, 108, 108, 111, 119, 101, 100]⟩ e.id AE ks2 d2 [108, 101, 118, 101, 108] (Co.idK l 3) (decide (Co.needs (Co.levelsOf l) e.kind ≤ Co.userLv (Co.levelsOf l) e.sender)) 20 w14 HS14.out.t (by omega))
 refine wpAnyH_ready (rs := [12]) (by kernel_rfl) (by simp) ?_
 refine AllReadyH.cons (o := _) rfl (fun K hK => ?_) AllReadyH.nil
 go_simp
 go_at_call 14
 refine HM.out.mono ?_
 rintro r w15 hask
 obtain ⟨q15, hs15⟩ := HS14.out.ask hask
 obtain ⟨rfl, q16, -, hpk⟩ := hask
 have HS15 := hid hs15
 obtain ⟨ks3, hks3⟩ : ∃ k, k = askL ks2 d2 (Co.ask [108, 101, 118, 101, 108] (Co.idK l 3) (!(decide (Co.needs (Co.levelsOf l) e.kind ≤ Co.userLv (Co.levelsOf l) e.sender))) 20) := ⟨_, rfl⟩
 rw [← hks3] at HS15
 have HK3 := hid hks3
 have HVB15 := hid ((hpk.block vb HVB14.out.lt (by omega) hvq).trans HVB14.out)
 clear hks3 hs15 hpk
 refine hK.out _ _ (⟨range_of_blk HVB15.out, HCJ.out _ _ _ _ _ HS15.out⟩) (fun hHeld2 => ?_)
 clear hK K hHeld
 have hHeld := hHeld2
 clear hHeld2
 (try simp only [Act.put, List.getElem_toArray, List.getElem_cons_zero, List.getElem_cons_succ, List.setIfInBounds_toArray, List.set_cons_zero, List.set_cons_succ])
 refine wpAnyH_done (by kernel_rfl) ?_ _
 refine NoPanic.normal ?_
 have HKV := hid True.intro
 have hc3 : w15.cell? ⟨w.heap.size, 3, none⟩ = some (.int .i64 e.kind) := (HCJ.out _ _ _ _ _ HS15.out).2
 obtain ⟨kv, htb, hto, htq⟩ := HS15.out.t
 obtain ⟨A5, c5, rfl, -⟩ := hto.len
 have hrt : w15.rangeAt g 0 [.string ⟨#[97, 108, 108, 111, 119, 101, 100]⟩, .int .i64 e.id, .int .i64 AE, .slice A5 ks3.length c5] := fun j v hj => by
  have hj4 : j < 4 := (List.getElem?_eq_some_iff.1 hj).1
  rw [Nat.zero_add, htb.cell]
  match j, hj4, hj with
  | 0, _, hj => exact hj
  | 1, _, hj => exact hj
  | 2, _, hj => exact hj
  | 3, _, hj => exact hj
 have HL4 : Hid ((Tryz.prog.info? 42).map (·.size) = some ([.string ⟨#[97, 108, 108, 111, 119, 101, 100]⟩, .int .i64 e.id, .int .i64 AE, .slice A5 ks3.length c5] : List Value).length) := hid size_rea
 have HRT := hid hrt
 obtain ⟨A6, c6, e6, -, hrow6⟩ := hto.row (ok' := fun b => g + 1 ≤ b) (fun b h => h) (fun k hk => by
  obtain ⟨xs, h1, -⟩ := hto
  exact (h1.lt k hk).1)
 injection e6 with e6 _ e7
 subst e6 e7
 have hltr := HS15.out.lt
 have hrow7 := hrow6.keep (w' := w15.setRow (w.heap.size + 1) #[.string ⟨#[97, 108, 108, 111, 119, 101, 100]⟩, .int .i64 e.id, .int .i64 AE, .slice A5 ks3.length c5]) (ok' := fun b => w.heap.size ≤ b) (fun b hb _ => ⟨by omega, setRow_other _ _ _ _ (by omega)⟩)
 have HRW7 := hid hrow7
 have HRB15 := hid HS15.out.r
 clear hrt htb hto htq hrow6 hrow7
 go_wp2_with (first
  | ((with_reducible refine wpList_load_mid rfl 42 _ rfl g 0 ?_ [.string ⟨#[97, 108, 108, 111, 119, 101, 100]⟩, .int .i64 e.id, .int .i64 AE, .slice A5 ks3.length c5] _ HRT.out Tryz.underlying42 ?_ HL4.out ?_); rfl; rfl)
  | ((with_reducible refine store_rowb rfl 42 _ _ rfl (w.heap.size + 1) #[.string ⟨#[97, 108, 108, 111, 119, 101, 100]⟩, .int .i64 e.id, .int .i64 AE, .slice A5 ks3.length c5] ?_ ?_ 42 zRn HRB15.out size_rn ?_ (by simp [Value.oneCell']) ?_); rfl; rfl; rfl))
 have hks3 : ks3 = Co.upTo [Co.ask [99, 114, 101, 97, 116, 105, 111, 110] (Co.idK l 1) (Co.createOf l).isNone 17, Co.ask [115, 101, 110, 100, 101, 114, 45, 106, 111, 105, 110, 101, 100] (Co.idM l e.sender) (!(Co.memOf l e.sender == 3)) 18, Co.ask [108, 101, 118, 101, 108] (Co.idK l 3) (!(decide (Co.needs (Co.levelsOf l) e.kind ≤ Co.userLv (Co.levelsOf l) e.sender))) 20] := by
  have h0 := ask_fold [Co.ask [99, 114, 101, 97, 116, 105, 111, 110] (Co.idK l 1) (Co.createOf l).isNone 17, Co.ask [115, 101, 110, 100, 101, 114, 45, 106, 111, 105, 110, 101, 100] (Co.idM l e.sender) (!(Co.memOf l e.sender == 3)) 18, Co.ask [108, 101, 118, 101, 108] (Co.idK l 3) (!(decide (Co.needs (Co.levelsOf l) e.kind ≤ Co.userLv (Co.levelsOf l) e.sender))) 20] [] false
  simp only [List.foldl_cons, List.foldl_nil, Bool.false_eq_true, if_false, List.nil_append] at h0
  have hmn : (Co.createOf l).isNone = !made := by rw [← HMD.out]; cases Co.createOf l <;> rfl
  rw [hmn, ← HK1.out.1, ← HK1.out.2, ← HK2.out.1, ← HK2.out.2, ← HK3.out] at h0
  rw [h0, hmn]
 exact bodyPost_ret (results_cell_row rfl _ _ (w.heap.size + 1) 42 _ (0, 0) _ rfl (setRow_heap _ _ _ _ _ _ HRB15.out) Tryz.underlying42 rfl size_rn) rfl ⟨⟨_, rfl, by rw [HRU.out, ← hks3]; exact RnV.make HRW7.out.rn⟩, below_setRow HS15.out.b (Nat.le_succ _) _⟩
end Go.Proofs.YtacjhbbieeliaaaGreatDoor
