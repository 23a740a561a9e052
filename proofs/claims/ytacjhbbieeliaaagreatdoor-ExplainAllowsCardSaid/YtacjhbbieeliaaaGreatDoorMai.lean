/- The text Ew. -/
import Derived.Deep.CutRange
import Derived.Test.YtacjhbbieeliaaaGreatDoorMag
import Derived.Test.YtacjhbbieeliaaaGreatDoorMah
set_option linter.unusedSimpArgs false
set_option maxHeartbeats 16000000
set_option maxRecDepth 100000
namespace Go.Proofs.YtacjhbbieeliaaaGreatDoor
open Go.RowKit Go.Lib
set_option linter.unusedVariables false
set_option linter.unusedSimpArgs false
def rwC (x : Rn.Rw) : List Value := [.string (bstr x.rule), .int .i64 x.id, .int .i64 x.err, .slice none 0 0, .int .i64 (x.lv : Int)]
def RwS : Shp Rn.Rw where
 sz := 5
 V := fun _ _ X x => X = rwC x
 pos := by decide
 len := fun h => by rw [h]; rfl
 one := fun h u hu => by
  rw [h] at hu
  unfold rwC at hu
  simp only [List.mem_cons, List.not_mem_nil, or_false] at hu
  rcases hu with rfl | rfl | rfl | rfl | rfl <;> rfl
 keep := fun h _ => h
theorem info_rea : (Tryz.prog.info? 42).map (fun i => (i.zero, i.size, i.bytes)) = some (some (.agg zRn), 4, 56) := by kernel_rfl
theorem rowRn : RowU 40 42 4 56 := ⟨Tryz.underlying40, ⟨_, info_rea, rfl⟩, by decide, by decide⟩
theorem range_pre {w : World} {b o : Nat} {x : Rn.Rw} (h : w.rangeAt b o (rwC x)) : w.rangeAt b o [Value.string (bstr x.rule), .int .i64 x.id, .int .i64 x.err, .slice none 0 0] := fun j v hj => h j v (by
 match j, hj with
 | 0, hj => exact hj
 | 1, hj => exact hj
 | 2, hj => exact hj
 | 3, hj => exact hj
 | _ + 4, hj => simp at hj)
theorem results_row_tmp {P : Program} {fn : Func} {p u : Tmp} {ty : TypeId} (h : fn.results = #[.cell p ty, .tmp u]) (tmps : Array Value) (w : World) (g : Nat) (t : TypeId) (cs : Array Value) (d : TypeDesc)
  (hp : tmps.getD p undef = .pointer (some ⟨g, 0, none⟩)) (hg : Blk w g t cs)
  (hu : P.underlying ty = some d) (hd : (match d with | .struct _ | .array _ _ => true | _ => false) = true) (hi : (P.info? ty).map (·.size) = some cs.size) :
  (results fn tmps).run P w = .ok (.tuple #[.agg cs, tmps.getD u undef]) w := by
 have hl := run_loadVar_row w g t ty cs (0, 0) d hg hu hd hi
 have e : (results fn tmps).run P w = ((asAddr (tmps.getD p undef)).run P w).andThen fun a w₁ => ((loadVar ty a).run P w₁).andThen fun x w₂ => .ok (.tuple #[x, tmps.getD u undef]) w₂ := by
  simp only [results, h]
  simp [Sem.run_bind, Result.andThen]
 rw [e]
 simp only [hp, asAddr, Sem.run_pure, Result.andThen_ok]
 rw [hl]
 rfl
theorem Shp.Own.far {α : Type} {S : Shp α} {e : TypeId} {ok : Nat → Prop} {w w' : World} {base : Nat} {v : Value} {L : List α} (h : S.Own e ok w base v L) (hok : ∀ b, ok b → base ≤ b) (hk : ∀ b, base ≤ b → b < w.heap.size → w'.heap[b]? = w.heap[b]?) : S.Own e ok w' base v L := by
 obtain ⟨xs, ⟨h1, h2⟩, h3⟩ := h
 refine ⟨xs, ⟨h1, ?_⟩, h3.keep fun b hb hlt => ⟨hb, hk b (hok b hb.1) hlt⟩⟩
 rcases h2 with h2 | ⟨k, cap, cur, rfl, hkb, hh, hn, hcap, hsz, ht⟩
 ·exact .inl h2
 ·exact .inr ⟨k, cap, cur, rfl, hkb, (hk k hkb (Array.getElem?_eq_some_iff.1 hh).1).trans hh, hn, hcap, hsz, ht⟩
theorem store_rowb {ops : Array Oper} {rest : List Oper} {o : Oper} {a : Act} {w : World} {Q : Exit → Act → World → Prop} (hgd : o.guard = none) (ty : TypeId) (x y : Operand) (ho : o.op = .store ty x y)
  (g : Nat) (cells : Array Value) (hx : a.eval x = .pointer (some ⟨g, 0, none⟩)) (hy : a.eval y = .agg cells)
  (t : TypeId) (old : Array Value) (hg : Blk w g t old) (hi : (Tryz.prog.info? ty).map (·.size) = some cells.size)
  (hold : old.size = cells.size) (h1 : cells.all (·.oneCell') = true)
  (h : wpList Tryz.prog ops Q rest (a.put o.dst undef) (w.setRow g cells)) : wpList Tryz.prog ops Q (o :: rest) a w := wpList_store_row hgd ty x y ho g cells hx hy t old hg hi hold h1 h
theorem size_rn {x y z v : Value} : (Tryz.prog.info? 42).map (·.size) = some (#[x, y, z, v] : Array Value).size := size_rea
def GrowA (ok : Nat → Prop) (base : Nat) (t : Rn.Tr) (rest : List Rn.Rw) (e : Ending) (w' : World) : Prop := ∃ V A n cap, e = .returned (.tuple #[.agg V, .slice A n cap]) ∧ n = rest.length ∧ n ≤ cap ∧ RnV w' (fun b => base ≤ b) V t ∧ RwS.Row ok w' A rest
theorem grow_any : ∀ (N : Nat) (ok : Nat → Prop) (x : Rn.Rw) (l : List Rn.Rw) (b off cap nL : Nat) (w : World), l.length < N → N ≤ 1000000 → l.length + 1 ≤ cap → nL = l.length + 1 → RwS.Row ok w (some ⟨b, off, none⟩) (x :: l) →
  Calls Tryz.prog 70 #[.slice (some ⟨b, off, none⟩) nL cap] w fun e w' => GrowA ok w.heap.size (.mk x.rule x.id x.err (Rn.kidsA x.lv l).1) (Rn.kidsA x.lv l).2 e w' ∧ Below w.heap.size w w'
 | 0, _, _, _, _, _, _, _, _, h, _, _, _, _ => absurd h (Nat.not_lt_zero _)
 | N + 1, ok, x, l, b, off, cap, nL, w, hN, hN6, hcap, hnL, hrow => by
  have hb0 := (Below.refl w.heap.size w).alloc (Nat.le_refl _) (.cells zRn 42)
  have HROW := hid ((hrow.keep (w' := w) (ok' := fun b => ok b ∧ b < w.heap.size) (fun b h hl => ⟨⟨h, hl⟩, rfl⟩)).bel hb0)
  have HB0 := hid hb0
  have IH := hid (fun y r b o c W h1 h2 h3 => grow_any N (fun b => ok b ∧ b < w.heap.size) y r b o c (r.length + 1) W h1 (by omega) h2 rfl h3)
  have HKR0 := hid (Blk.new w 42 zRn)
  obtain ⟨b1, o1, X1, e1, hok, hr1, rfl⟩ := HROW.out 0 x rfl
  injection e1 with e1
  injection e1 with e1 e2 e3
  subst e1 e2
  rw [Nat.zero_mul, Nat.add_zero] at hr1
  have HRX : Hid ((w.alloc (.cells zRn 42)).drew.rangeAt b off (rwC x)) := hid hr1
  have HLX : Hid ((Tryz.prog.info? 42).map (·.size) = some [Value.string (bstr x.rule), .int .i64 x.id, .int .i64 x.err, .slice none 0 0].length) := hid size_rea
  have hbw : b < (w.alloc (.cells zRn 42)).heap.size := range_lt hr1 (by unfold rwC; simp)
  have hs1 : w.heap.size + 1 ≤ (w.alloc (.cells zRn 42)).heap.size := by simp
  have hcell4 : (w.alloc (.cells zRn 42)).cell? ⟨b, off + 4, none⟩ = some (.int .i64 (x.lv : Int)) := hr1 4 _ rfl
  have HC4 := hid hcell4
  clear hb0 hrow hr1 hcell4
  generalize hw1 : w.alloc (.cells zRn 42) = w1 at *
  have hL0 : (0 : Int) < (nL : Int) := by omega
  have hL1 : (1 : Int) ≤ (nL : Int) := by omega
  have hL2 : 1 ≤ nL := by omega
  have hL3 : (nL : Int) ≤ (cap : Int) := by omega
  have hL4 : (1 : Int) ≤ (cap : Int) := by omega
  have hL5 : 0 < nL := by omega
  have hlen6 : l.length ≤ 1000000 := by omega
  have HNL := hid hnL
  clear hnL
  have HRX2 : Hid ((w1.alloc (.cells zRn 42)).rangeAt b off (rwC x)) := hid (range_keep HRX.out (((Below.refl w1.heap.size w1).alloc (Nat.le_refl _) (.cells zRn 42)).block b hbw))
  have HNEW := hid (Blk.new w1 42 zRn)
  go_enter Tryz.func70, Tryz.ntmps70
  go_wp2_with fail
  go_cut [4, 5] from 7 to 13 (fun px sx wx => ∃ (A' : Option Addr) (c' : Nat), px = .pointer (some ⟨w1.heap.size, 0, none⟩) ∧ sx = .slice A' l.length c' ∧ l.length ≤ c' ∧ RwS.Row (fun b => ok b ∧ b < w.heap.size) wx A' l ∧ Blk wx w1.heap.size 42 #[.string (bstr x.rule), .int .i64 x.id, .int .i64 x.err, .slice none 0 0] ∧ Below w1.heap.size w1 wx)
  case first =>
   by_cases hc1 : cap = 1
   ·have hn1 : nL = 1 := by have := HNL.out; omega
    have hl0 : l = [] := List.eq_nil_of_length_eq_zero (by have := HNL.out; omega)
    subst hc1 hn1 hl0
    refine wp_region_noPanic ?_
    refine wp_region_held_drew (S := fun W => W.rangeAt b off (rwC x)) (by kernel_rfl) (HRX.out) (fun hHeld => ?_)
    refine wpAnyH_take (i := 0) (oi := _) (v := ?_) rfl (by kernel_rfl) (by kernel_rfl) (by kernel_rfl) (fun _ _ _ h => h) (Or.inl ⟨by kernel_rfl, ?_⟩) hHeld ?_
    rotate_left
    ·intro wq hSw
     go_simp
     (try with_reducible rfl)
    (try simp only [Act.put, List.getElem_toArray, List.getElem_cons_zero, List.getElem_cons_succ, List.setIfInBounds_toArray, List.set_cons_zero, List.set_cons_succ])
    refine wpAnyH_take (i := 1) (oi := _) (v := ?_) rfl (by kernel_rfl) (by kernel_rfl) (by kernel_rfl) (fun _ _ _ h => h) (Or.inl ⟨by kernel_rfl, ?_⟩) hHeld ?_
    rotate_left
    ·intro wq hSw
     go_simp
     (try with_reducible rfl)
    (try simp only [Act.put, List.getElem_toArray, List.getElem_cons_zero, List.getElem_cons_succ, List.setIfInBounds_toArray, List.set_cons_zero, List.set_cons_succ])
    refine wpAnyH_take (i := 2) (oi := _) (v := ?_) rfl (by kernel_rfl) (by kernel_rfl) (by kernel_rfl) (fun _ _ _ h => h) (Or.inl ⟨by kernel_rfl, ?_⟩) hHeld ?_
    rotate_left
    ·intro wq hSw
     go_simp
     (try with_reducible rfl)
    (try simp only [Act.put, List.getElem_toArray, List.getElem_cons_zero, List.getElem_cons_succ, List.setIfInBounds_toArray, List.set_cons_zero, List.set_cons_succ])
    refine wpAnyH_take (i := 3) (oi := _) (v := _) rfl (by kernel_rfl) (by kernel_rfl) (by kernel_rfl) (fun _ _ _ h => h) (mid_yields rfl Tryz.underlying42 HLX.out (fun W h => by exact range_pre h) (by kernel_rfl) _ rfl rfl) hHeld ?_
    (try simp only [Act.put, List.getElem_toArray, List.getElem_cons_zero, List.getElem_cons_succ, List.setIfInBounds_toArray, List.set_cons_zero, List.set_cons_succ])
    refine wpAnyH_take (i := 4) (oi := _) (v := ?_) rfl (by kernel_rfl) (by kernel_rfl) (by kernel_rfl) (fun _ _ _ h => h) (Or.inl ⟨by kernel_rfl, ?_⟩) hHeld ?_
    rotate_left
    ·intro wq hSw
     go_simp
     (try with_reducible rfl)
    (try simp only [Act.put, List.getElem_toArray, List.getElem_cons_zero, List.getElem_cons_succ, List.setIfInBounds_toArray, List.set_cons_zero, List.set_cons_succ])
    refine wpAnyH_take (i := 5) (oi := _) (v := ?_) rfl (by kernel_rfl) (by kernel_rfl) (by kernel_rfl) (fun _ _ _ h => h) (Or.inl ⟨by kernel_rfl, ?_⟩) hHeld ?_
    rotate_left
    ·intro wq hSw
     go_simp
     (try with_reducible rfl)
    (try simp only [Act.put, List.getElem_toArray, List.getElem_cons_zero, List.getElem_cons_succ, List.setIfInBounds_toArray, List.set_cons_zero, List.set_cons_succ])
    refine wpAnyH_ready (rs := [6]) (by kernel_rfl) (by simp) ?_
    refine AllReadyH.cons (o := _) rfl (fun K hK => ?_) AllReadyH.nil
    go_simp
    refine hK.out _ _ (by intro j v hj; exact HRX2.out j v hj) (fun hHeld2 => ?_)
    clear hK K hHeld
    have hHeld := hHeld2
    clear hHeld2
    (try simp only [Act.put, List.getElem_toArray, List.getElem_cons_zero, List.getElem_cons_succ, List.setIfInBounds_toArray, List.set_cons_zero, List.set_cons_succ])
    refine wpAnyH_ready (rs := [7]) (by kernel_rfl) (by simp) ?_
    refine AllReadyH.cons (o := _) rfl (fun K hK => ?_) AllReadyH.nil
    rw [if_pos (by kernel_rfl)]
    refine wp_store_row 42 _ _ rfl w1.heap.size #[.string (bstr x.rule), .int .i64 x.id, .int .i64 x.err, .slice none 0 0] rfl rfl 42 zRn HNEW.out (by kernel_rfl) rfl (by simp [Value.oneCell']) ?_
    have hk3 := setRow_heap (w1.alloc (.cells zRn 42)).drew w1.heap.size zRn #[.string (bstr x.rule), .int .i64 x.id, .int .i64 x.err, .slice none 0 0] 42 (0, 0) HNEW.out
    have hb3 := below_setRow (Below.refl w1.heap.size (w1.alloc (.cells zRn 42)).drew) (Nat.le_refl _) #[.string (bstr x.rule), .int .i64 x.id, .int .i64 x.err, .slice none 0 0]
    have HRX3 := hid (range_keep HRX2.out (hb3.block b hbw))
    refine hK.out _ _ (HRX3.out) (fun hHeld2 => ?_)
    have HK3 := hid hk3
    have HB3 := hid (((Below.refl w1.heap.size w1).alloc (Nat.le_refl _) (.cells zRn 42)).drew.trans hb3)
    clear hK K hHeld
    have hHeld := hHeld2
    clear hHeld2
    (try simp only [Act.put, List.getElem_toArray, List.getElem_cons_zero, List.getElem_cons_succ, List.setIfInBounds_toArray, List.set_cons_zero, List.set_cons_succ])
    refine wpAnyH_ready (rs := [8]) (by kernel_rfl) (by simp) ?_
    refine AllReadyH.cons (o := _) rfl (fun K hK => ?_) AllReadyH.nil
    go_simp
    refine hK.out _ _ (hHeld) (fun hHeld2 => ?_)
    clear hK K hHeld
    have hHeld := hHeld2
    clear hHeld2
    (try simp only [Act.put, List.getElem_toArray, List.getElem_cons_zero, List.getElem_cons_succ, List.setIfInBounds_toArray, List.set_cons_zero, List.set_cons_succ])
    refine wpAnyH_done (by kernel_rfl) ?_ _
    refine NoPanic.normal ?_
    go_wp2_with fail
    go_meet
    exact ⟨_, _, rfl, rfl, Nat.zero_le _, Shp.Row.nil, HK3.out, HB3.out⟩
   ·have hL6 : (cap == 1) = false := by simp; omega
    refine wp_region_noPanic ?_
    refine wp_region_held_drew (S := fun W => W.rangeAt b off (rwC x)) (by kernel_rfl) (HRX.out) (fun hHeld => ?_)
    refine wpAnyH_take (i := 0) (oi := _) (v := ?_) rfl (by kernel_rfl) (by kernel_rfl) (by kernel_rfl) (fun _ _ _ h => h) (Or.inl ⟨by kernel_rfl, ?_⟩) hHeld ?_
    rotate_left
    ·intro wq hSw
     go_simp
     (try with_reducible rfl)
    (try simp only [Act.put, List.getElem_toArray, List.getElem_cons_zero, List.getElem_cons_succ, List.setIfInBounds_toArray, List.set_cons_zero, List.set_cons_succ])
    refine wpAnyH_take (i := 1) (oi := _) (v := ?_) rfl (by kernel_rfl) (by kernel_rfl) (by kernel_rfl) (fun _ _ _ h => h) (Or.inl ⟨by kernel_rfl, ?_⟩) hHeld ?_
    rotate_left
    ·intro wq hSw
     go_simp
     (try with_reducible rfl)
    (try simp only [Act.put, List.getElem_toArray, List.getElem_cons_zero, List.getElem_cons_succ, List.setIfInBounds_toArray, List.set_cons_zero, List.set_cons_succ])
    refine wpAnyH_take (i := 2) (oi := _) (v := ?_) rfl (by kernel_rfl) (by kernel_rfl) (by kernel_rfl) (fun _ _ _ h => h) (Or.inl ⟨by kernel_rfl, ?_⟩) hHeld ?_
    rotate_left
    ·intro wq hSw
     go_simp
     (try with_reducible rfl)
    (try simp only [Act.put, List.getElem_toArray, List.getElem_cons_zero, List.getElem_cons_succ, List.setIfInBounds_toArray, List.set_cons_zero, List.set_cons_succ])
    refine wpAnyH_take (i := 3) (oi := _) (v := _) rfl (by kernel_rfl) (by kernel_rfl) (by kernel_rfl) (fun _ _ _ h => h) (mid_yields rfl Tryz.underlying42 HLX.out (fun W h => by exact range_pre h) (by kernel_rfl) _ rfl rfl) hHeld ?_
    (try simp only [Act.put, List.getElem_toArray, List.getElem_cons_zero, List.getElem_cons_succ, List.setIfInBounds_toArray, List.set_cons_zero, List.set_cons_succ])
    refine wpAnyH_take (i := 4) (oi := _) (v := ?_) rfl (by kernel_rfl) (by kernel_rfl) (by kernel_rfl) (fun _ _ _ h => h) (Or.inl ⟨by kernel_rfl, ?_⟩) hHeld ?_
    rotate_left
    ·intro wq hSw
     go_simp
     (try with_reducible rfl)
    (try simp only [Act.put, List.getElem_toArray, List.getElem_cons_zero, List.getElem_cons_succ, List.setIfInBounds_toArray, List.set_cons_zero, List.set_cons_succ])
    refine wpAnyH_take (i := 5) (oi := _) (v := ?_) rfl (by kernel_rfl) (by kernel_rfl) (by kernel_rfl) (fun _ _ _ h => h) (Or.inl ⟨by kernel_rfl, ?_⟩) hHeld ?_
    rotate_left
    ·intro wq hSw
     go_simp
     (try with_reducible rfl)
    (try simp only [Act.put, List.getElem_toArray, List.getElem_cons_zero, List.getElem_cons_succ, List.setIfInBounds_toArray, List.set_cons_zero, List.set_cons_succ])
    refine wpAnyH_ready (rs := [6]) (by kernel_rfl) (by simp) ?_
    refine AllReadyH.cons (o := _) rfl (fun K hK => ?_) AllReadyH.nil
    go_simp
    refine hK.out _ _ (by intro j v hj; exact HRX2.out j v hj) (fun hHeld2 => ?_)
    clear hK K hHeld
    have hHeld := hHeld2
    clear hHeld2
    (try simp only [Act.put, List.getElem_toArray, List.getElem_cons_zero, List.getElem_cons_succ, List.setIfInBounds_toArray, List.set_cons_zero, List.set_cons_succ])
    refine wpAnyH_ready (rs := [7]) (by kernel_rfl) (by simp) ?_
    refine AllReadyH.cons (o := _) rfl (fun K hK => ?_) AllReadyH.nil
    rw [if_pos (by kernel_rfl)]
    refine wp_store_row 42 _ _ rfl w1.heap.size #[.string (bstr x.rule), .int .i64 x.id, .int .i64 x.err, .slice none 0 0] rfl rfl 42 zRn HNEW.out (by kernel_rfl) rfl (by simp [Value.oneCell']) ?_
    have hk3 := setRow_heap (w1.alloc (.cells zRn 42)).drew w1.heap.size zRn #[.string (bstr x.rule), .int .i64 x.id, .int .i64 x.err, .slice none 0 0] 42 (0, 0) HNEW.out
    have hb3 := below_setRow (Below.refl w1.heap.size (w1.alloc (.cells zRn 42)).drew) (Nat.le_refl _) #[.string (bstr x.rule), .int .i64 x.id, .int .i64 x.err, .slice none 0 0]
    have HRX3 := hid (range_keep HRX2.out (hb3.block b hbw))
    refine hK.out _ _ (HRX3.out) (fun hHeld2 => ?_)
    have HK3 := hid hk3
    have HB3 := hid (((Below.refl w1.heap.size w1).alloc (Nat.le_refl _) (.cells zRn 42)).drew.trans hb3)
    clear hK K hHeld
    have hHeld := hHeld2
    clear hHeld2
    (try simp only [Act.put, List.getElem_toArray, List.getElem_cons_zero, List.getElem_cons_succ, List.setIfInBounds_toArray, List.set_cons_zero, List.set_cons_succ])
    refine wpAnyH_ready (rs := [8]) (by kernel_rfl) (by simp) ?_
    refine AllReadyH.cons (o := _) rfl (fun K hK => ?_) AllReadyH.nil
    go_simp
    refine hK.out _ _ (hHeld) (fun hHeld2 => ?_)
    clear hK K hHeld
    have hHeld := hHeld2
    clear hHeld2
    (try simp only [Act.put, List.getElem_toArray, List.getElem_cons_zero, List.getElem_cons_succ, List.setIfInBounds_toArray, List.set_cons_zero, List.set_cons_succ])
    refine wpAnyH_done (by kernel_rfl) ?_ _
    refine NoPanic.normal ?_
    go_wp2_with fail
    go_meet
    have hnl := HNL.out
    refine ⟨_, _, rfl, congrArg (fun n => Value.slice _ n _) (show nL - 1 = l.length by omega), by omega, ?_, HK3.out, HB3.out⟩
    have h1 := (HROW.out.bel HB3.out).drop 1
    exact h1
  case rest =>
   obtain ⟨A0, c0, rfl, rfl, hlc, hrw, hk, hb⟩ := hcut
   have HB1 := hid hb
   have HK1 := hid hk
   have HRW := hid hrw
   have HLC := hid hlc
   have hs2 : w1.heap.size + 1 ≤ wc.heap.size := hk.lt
   clear hb hk hrw hlc
   have HC4c : Hid (wc.cell? ⟨b, off + 4, none⟩ = some (.int .i64 (x.lv : Int))) := hid ((HB1.out.cell (p := ⟨b, off + 4, none⟩) hbw).trans HC4.out)
   go_wp2_with fail
   go_loopw [5] (fun sx wr => ∃ (r : List Rn.Rw) (acc : List Rn.Tr) (A : Option Addr) (c : Nat) (kv : Value), sx = .slice A r.length c ∧ Hid (r.length ≤ c) ∧ RwS.Row (fun b => ok b ∧ b < w.heap.size) wr A r ∧ Hid (Rn.kidsA x.lv l = (acc ++ (Rn.kidsA x.lv r).1, (Rn.kidsA x.lv r).2)) ∧ acc.length + r.length ≤ l.length ∧ Blk wr w1.heap.size 42 #[.string (bstr x.rule), .int .i64 x.id, .int .i64 x.err, kv] ∧ RnS.Own 42 (fun b => w1.heap.size + 1 ≤ b) wr (w1.heap.size + 1) kv acc ∧ Below w1.heap.size w1 wr) (fun sx _ => match sx with | .slice _ n _ => n | _ => 0)
   case atStart => exact ⟨l, [], A0, c0, _, rfl, HLC, HRW.out, hid rfl, by simp, HK1.out, Shp.Own.nil, HB1.out⟩
   case round =>
    obtain ⟨r, acc, A, c, kv, rfl, HRC, hrow, HKA, hlen, hkr, hown, hb⟩ := hrel
    have HB := hid hb
    have HKR := hid hkr
    have HRO := hid hrow
    have HOW := hid hown
    have hsr : w1.heap.size + 1 ≤ wr.heap.size := hkr.lt
    have HCX : Hid (wr.cell? ⟨b, off + 4, none⟩ = some (.int .i64 (x.lv : Int))) := hid ((hb.cell (p := ⟨b, off + 4, none⟩) hbw).trans HC4.out)
    clear hb hkr hrow hown
    cases r with
    | nil =>
     go_wp2_with fail
     go_quiet (fail)
     obtain ⟨A5, c5, rfl, hc5⟩ := HOW.out.len
     have HK0r : Hid (Blk (wr.drewN nq) w.heap.size 42 zRn) := hid ((HKR0.out.below HB.out (by omega)).drewN nq)
     have HKRr := hid (HKR.out.drewN nq)
     go_wp2_with (first
      | (refine wpList_load_row rfl 42 _ rfl w1.heap.size rfl 42 #[.string (bstr x.rule), .int .i64 x.id, .int .i64 x.err, .slice A5 acc.length c5] (0, 0) _ HKRr.out Tryz.underlying42 rfl size_rn ?_)
      | ((with_reducible refine store_rowb rfl 42 _ _ rfl w.heap.size #[.string (bstr x.rule), .int .i64 x.id, .int .i64 x.err, .slice A5 acc.length c5] ?_ ?_ 42 zRn HK0r.out size_rn ?_ (by simp [Value.oneCell']) ?_); rfl; rfl; rfl))
     have HB0w : w.heap.size < wr.heap.size := by omega
     have hk5 : Blk ((wr.drewN nq).setRow w.heap.size #[.string (bstr x.rule), .int .i64 x.id, .int .i64 x.err, .slice A5 acc.length c5]) w.heap.size 42 #[.string (bstr x.rule), .int .i64 x.id, .int .i64 x.err, .slice A5 acc.length c5] := setRow_heap (wr.drewN nq) _ _ _ _ _ HK0r.out
     obtain ⟨A6, c6, e6, -, hrow6⟩ := HOW.out.row (ok' := fun b => w1.heap.size + 1 ≤ b) (fun b h => h) (fun k hk => by
      obtain ⟨xs, h1, -⟩ := HOW.out
      exact (h1.lt k hk).1)
     injection e6 with e6 _ e7
     subst e6 e7
     have hrow7 := hrow6.keep (w' := (wr.drewN nq).setRow w.heap.size #[.string (bstr x.rule), .int .i64 x.id, .int .i64 x.err, .slice A5 acc.length c5]) (ok' := fun b => w.heap.size ≤ b) (fun b hb _ => ⟨by omega, setRow_other _ _ _ _ (by omega)⟩)
     have hbf := below_setRow (g := w.heap.size) (w := wr.drewN nq) (below_drewN (HB0.out.trans (HB.out.mono HB0.out.size)) nq) (Nat.le_refl _) #[.string (bstr x.rule), .int .i64 x.id, .int .i64 x.err, .slice A5 acc.length c5]
     have hkf : Rn.kidsA x.lv l = (acc, []) := by rw [HKA.out]; have h0 : Rn.kidsA x.lv ([]) = ([], []) := rfl; rw [h0]; simp
     refine bodyPost_ret (results_row_tmp rfl _ _ w.heap.size _ _ _ rfl hk5 Tryz.underlying42 rfl size_rn) rfl ?_
     refine ⟨⟨_, A, ([]).length, c, rfl, ?_, HRC.out, ?_, ?_⟩, hbf⟩
     ·rw [hkf]
     ·rw [hkf]; exact RnV.make hrow7.rn
     ·rw [hkf]; exact HRO.out.keep fun b hb _ => ⟨hb.1, setRow_other (wr.drewN nq) _ _ _ (Nat.ne_of_lt hb.2)⟩
    | cons y r =>
     have hc4y := (HRO.out.at_ (i := 0) (by simp))
     obtain ⟨y', b2, o2, X2, hy, rfl, hok2, hbl2, hr2, rfl⟩ := hc4y
     obtain rfl : y = y' := by simpa using hy
     rw [Nat.zero_mul, Nat.add_zero] at hr2
     have hcy : wr.cell? ⟨b2, o2 + 4, none⟩ = some (.int .i64 (y.lv : Int)) := hr2 4 _ rfl
     have hcx := HCX.out
     rw [List.length_cons] at hlen HRC
     clear hr2 hy
     have hL8 : (0 : Int) < ((r.length + 1 : Nat) : Int) := by omega
     by_cases hlt : x.lv < y.lv
     ·have hd1 : decide ((x.lv : Int) < (y.lv : Int)) = true := by simpa using hlt
      have hd2 : decide (x.lv < y.lv) = true := by simpa using hlt
      have hstep := Rn.kidsA_step (l := r) hlt
      have hle := Rn.kidsA_len y.lv r
      have HKA2 : Hid (Rn.kidsA x.lv l = ((acc ++ [.mk y.rule y.id y.err (Rn.kidsA y.lv r).1]) ++ (Rn.kidsA x.lv (Rn.kidsA y.lv r).2).1, (Rn.kidsA x.lv (Rn.kidsA y.lv r).2).2)) := hid (by rw [HKA.out, hstep]; simp)
      clear hstep HKA
      have HG := hid (fun W h => IH.out y r b2 o2 c W (by omega) HRC.out h)
      generalize Rn.Tr.mk y.rule y.id y.err (Rn.kidsA y.lv r).1 = t at *
      generalize (Rn.kidsA y.lv r).2 = r2 at *
      go_wp2_with fail
      go_quiet (fail)
      go_wp2_with fail
      have hz1 := (below_drewN (Below.refl wr.heap.size wr) nq).alloc (Nat.le_refl _) (.cells zRn 42)
      have HZ1 : Hid (Below wr.heap.size wr ((wr.drewN nq).alloc (.cells zRn 42))) := hid hz1
      have hsz1 : ((wr.drewN nq).alloc (.cells zRn 42)).heap.size = wr.heap.size + 1 := World.size_alloc ..
      have HK6 := hid (Blk.new (wr.drewN nq) 42 zRn)
      refine (HG.out _ (HRO.out.bel HZ1.out)).mono ?_
      rintro e w3 ⟨⟨V, A3, n3, c3, rfl, rfl, hn3, hV, hrow3⟩, hb3⟩
      rw [hsz1] at hb3 hV
      have HB3 : Hid (Below wr.heap.size wr w3) := hid (HZ1.out.trans (hb3.mono (Nat.le_succ _)))
      have HK63 : Hid (Blk w3 wr.heap.size 42 zRn) := hid (HK6.out.below hb3 (Nat.lt_succ_self _))
      have HV3 := hid hV
      have HRW3 := hid hrow3
      have HN3 := hid hn3
      obtain ⟨B, bc, rfl, -⟩ := hV.open
      clear hz1 hsz1 hb3 hV hrow3 hn3 hcy hcx hL8 hd1 hd2
      go_upto_region 5 with (((with_reducible refine store_rowb rfl 42 _ _ rfl wr.heap.size #[.string (bstr t.rule), .int .i64 t.id, .int .i64 t.err, .slice B t.kids.length bc] ?_ ?_ 42 zRn HK63.out size_rn ?_ (by simp [Value.oneCell']) ?_); rfl; rfl; rfl))
      obtain ⟨A5, c5, rfl, hc5⟩ := HOW.out.len
      have HB5 : Hid (Below wr.heap.size wr (w3.setRow wr.heap.size #[.string (bstr t.rule), .int .i64 t.id, .int .i64 t.err, .slice B t.kids.length bc])) := hid (below_setRow HB3.out (Nat.le_refl _) #[.string (bstr t.rule), .int .i64 t.id, .int .i64 t.err, .slice B t.kids.length bc])
      have HK65 : Hid (Blk (w3.setRow wr.heap.size #[.string (bstr t.rule), .int .i64 t.id, .int .i64 t.err, .slice B t.kids.length bc]) wr.heap.size 42 #[.string (bstr t.rule), .int .i64 t.id, .int .i64 t.err, .slice B t.kids.length bc]) := hid (setRow_heap _ _ _ _ _ _ HK63.out)
      have HV5 := hid (HV3.out.keep (w' := w3.setRow wr.heap.size #[.string (bstr t.rule), .int .i64 t.id, .int .i64 t.err, .slice B t.kids.length bc]) (ok' := fun b => wr.heap.size + 1 ≤ b) (fun b hb _ => ⟨hb, setRow_other _ _ _ _ (by omega)⟩))
      have hs5 : wr.heap.size + 1 ≤ (w3.setRow wr.heap.size #[.string (bstr t.rule), .int .i64 t.id, .int .i64 t.err, .slice B t.kids.length bc]).heap.size := HK65.out.lt
      have HRW5 : Hid (RwS.Row (fun b => ok b ∧ b < w.heap.size) (w3.setRow wr.heap.size #[.string (bstr t.rule), .int .i64 t.id, .int .i64 t.err, .slice B t.kids.length bc]) A3 r2) := hid (HRW3.out.keep fun b hb _ => ⟨hb, setRow_other _ _ _ _ (by have := hb.2; omega)⟩)
      generalize w3.setRow wr.heap.size #[.string (bstr t.rule), .int .i64 t.id, .int .i64 t.err, .slice B t.kids.length bc] = w5 at *
      have HKR5 := hid (HKR.out.below HB5.out hsr)
      have hc35 : w5.cell? ⟨w1.heap.size, 3, none⟩ = some (.slice A5 acc.length c5) := HKR5.out.cell 3
      have hz8 := (Below.refl w5.heap.size w5).alloc (Nat.le_refl _) (.cells #[.string (bstr t.rule), .int .i64 t.id, .int .i64 t.err, .slice B t.kids.length bc] 42)
      have HB8 := hid (HB5.out.trans (hz8.mono HB5.out.size))
      have HKR8 := hid (HKR5.out.below hz8 HKR5.out.lt)
      have HOW8 := hid ((HOW.out.bel HB5.out).bel hz8)
      have HV8 := hid (HV5.out.bel hz8)
      have HRW8 := hid (HRW5.out.bel hz8)
      have hs8 : (w5.alloc (.cells #[.string (bstr t.rule), .int .i64 t.id, .int .i64 t.err, .slice B t.kids.length bc] 42)).heap.size = w5.heap.size + 1 := World.size_alloc ..
      have HRD8 : Hid (Rd (w5.alloc (.cells #[.string (bstr t.rule), .int .i64 t.id, .int .i64 t.err, .slice B t.kids.length bc] 42)) (some ⟨w5.heap.size, 0, none⟩) (1 * 4) [.string (bstr t.rule), .int .i64 t.id, .int .i64 t.err, .slice B t.kids.length bc]) := hid (Rd.of_blk (vs := [.string (bstr t.rule), .int .i64 t.id, .int .i64 t.err, .slice B t.kids.length bc]) (Blk.new w5 42 _))
      have hs8b : w1.heap.size + 1 ≤ (w5.alloc (.cells #[.string (bstr t.rule), .int .i64 t.id, .int .i64 t.err, .slice B t.kids.length bc] 42)).heap.size := by omega
      have HO1 : Hid (∀ u ∈ ([.string (bstr t.rule), .int .i64 t.id, .int .i64 t.err, .slice B t.kids.length bc] : List Value), u.oneCell' = true) := hid (by intro u hu; simp at hu; rcases hu with rfl | rfl | rfl | rfl <;> rfl)
      have HOL : Hid (∀ k, (Value.slice A5 acc.length c5).ownBlock = some k → w1.heap.size + 1 ≤ k ∧ k < wr.heap.size) := hid (fun k hk => by
       obtain ⟨xs0, h0, -⟩ := HOW.out
       exact h0.lt k hk)
      have HVK : Hid (RnS.V (fun b => (w1.heap.size + 1 ≤ b) ∧ some b ≠ (Value.slice A5 acc.length c5).ownBlock) (w5.alloc (.cells #[.string (bstr t.rule), .int .i64 t.id, .int .i64 t.err, .slice B t.kids.length bc] 42)) [.string (bstr t.rule), .int .i64 t.id, .int .i64 t.err, .slice B t.kids.length bc] t) := hid (RnV.keep (V := #[.string (bstr t.rule), .int .i64 t.id, .int .i64 t.err, .slice B t.kids.length bc]) HV8.out fun b hb _ => ⟨⟨by omega, fun e => by have := (HOL.out b e.symm).2; omega⟩, rfl⟩)
      obtain ⟨xs, hown8, hcs8⟩ := HOW8.out
      have HOX := hid hown8
      have HCS := hid hcs8
      clear hown8 hcs8 hz8 hs8
      go_wp2_with (first
       | (refine wpList_load_row rfl 42 _ rfl wr.heap.size rfl 42 #[.string (bstr t.rule), .int .i64 t.id, .int .i64 t.err, .slice B t.kids.length bc] (0, 0) _ HK65.out Tryz.underlying42 rfl size_rn ?_)
       | (at_builtin; refine app_row rowRn rfl _ _ rfl _ (.slice A5 acc.length c5) acc.length xs _ (w1.heap.size + 1) rfl HOX.out _ 1 1 rfl HRD8.out HO1.out hs8b (by omega) ?_; intro v9 w9 ho9 hg9 hb9 hw9; have HOW9 := hid (Shp.Own.app (M := [t]) HOX.out HCS.out (Shp.Cells.one HVK.out) ho9 hg9 hw9); have HKR9 := hid (HKR8.out.grown hg9 (fun e => by have := (HOL.out _ e.symm).1; omega)); have hcl9 := HKR9.out.cell 3; have hfr9 := HKR9.out.frozen 3; obtain ⟨A9, c9, rfl, hc9⟩ := HOW9.out.len; clear ho9 hw9))
      have hl9 : (acc ++ [t]).length = acc.length + 1 := by rw [List.length_append]; rfl
      have how := HOW9.out.far (w' := w9.setCell ⟨w1.heap.size, 3, none⟩ (.slice A9 (acc.length + 1) c9)) (fun b h => h) (fun b hb _ => Below.heap_setCell _ _ _ _ (by show b ≠ w1.heap.size; omega))
      rw [hl9] at how
      refine ⟨⟨r2, acc ++ [t], A3, c3, _, rfl, HN3, HRW8.out.keep (fun b hb hl => ⟨hb, (Below.heap_setCell _ _ _ _ (by show b ≠ w1.heap.size; have := hb.2; omega)).trans (hg9.block b hl (fun e => by have := (HOL.out _ e.symm).1; have := hb.2; omega))⟩), HKA2, by rw [hl9]; omega, HKR9.out.set_ 3 _, how, ?_⟩, ?_⟩
      ·exact ((HB.out.trans (HB8.out.mono (by omega))).trans ((Below.refl w1.heap.size _).grown hg9 (by omega) (fun k e => by have := (HOL.out k e).1; omega))).setCell (by simp) _
      ·show r2.length < (y :: r).length
       rw [List.length_cons]; omega
     ·have hd1 : decide ((x.lv : Int) < (y.lv : Int)) = false := by simpa using hlt
      have hd2 : decide (x.lv < y.lv) = false := by simpa using hlt
      go_wp2_with fail
      go_quiet (fail)
      obtain ⟨A5, c5, rfl, hc5⟩ := HOW.out.len
      have HK0r : Hid (Blk (wr.drewN nq) w.heap.size 42 zRn) := hid ((HKR0.out.below HB.out (by omega)).drewN nq)
      have HKRr := hid (HKR.out.drewN nq)
      go_wp2_with (first
       | (refine wpList_load_row rfl 42 _ rfl w1.heap.size rfl 42 #[.string (bstr x.rule), .int .i64 x.id, .int .i64 x.err, .slice A5 acc.length c5] (0, 0) _ HKRr.out Tryz.underlying42 rfl size_rn ?_)
       | ((with_reducible refine store_rowb rfl 42 _ _ rfl w.heap.size #[.string (bstr x.rule), .int .i64 x.id, .int .i64 x.err, .slice A5 acc.length c5] ?_ ?_ 42 zRn HK0r.out size_rn ?_ (by simp [Value.oneCell']) ?_); rfl; rfl; rfl))
      have HB0w : w.heap.size < wr.heap.size := by omega
      have hk5 : Blk ((wr.drewN nq).setRow w.heap.size #[.string (bstr x.rule), .int .i64 x.id, .int .i64 x.err, .slice A5 acc.length c5]) w.heap.size 42 #[.string (bstr x.rule), .int .i64 x.id, .int .i64 x.err, .slice A5 acc.length c5] := setRow_heap (wr.drewN nq) _ _ _ _ _ HK0r.out
      obtain ⟨A6, c6, e6, -, hrow6⟩ := HOW.out.row (ok' := fun b => w1.heap.size + 1 ≤ b) (fun b h => h) (fun k hk => by
       obtain ⟨xs, h1, -⟩ := HOW.out
       exact (h1.lt k hk).1)
      injection e6 with e6 _ e7
      subst e6 e7
      have hrow7 := hrow6.keep (w' := (wr.drewN nq).setRow w.heap.size #[.string (bstr x.rule), .int .i64 x.id, .int .i64 x.err, .slice A5 acc.length c5]) (ok' := fun b => w.heap.size ≤ b) (fun b hb _ => ⟨by omega, setRow_other _ _ _ _ (by omega)⟩)
      have hbf := below_setRow (g := w.heap.size) (w := wr.drewN nq) (below_drewN (HB0.out.trans (HB.out.mono HB0.out.size)) nq) (Nat.le_refl _) #[.string (bstr x.rule), .int .i64 x.id, .int .i64 x.err, .slice A5 acc.length c5]
      have hkf : Rn.kidsA x.lv l = (acc, y :: r) := by rw [HKA.out]; have h0 : Rn.kidsA x.lv (y :: r) = ([], y :: r) := Rn.kidsA_stop hlt; rw [h0]; simp
      refine bodyPost_ret (results_row_tmp rfl _ _ w.heap.size _ _ _ rfl hk5 Tryz.underlying42 rfl size_rn) rfl ?_
      refine ⟨⟨_, some ⟨b2, o2, none⟩, (y :: r).length, c, rfl, ?_, HRC.out, ?_, ?_⟩, hbf⟩
      ·rw [hkf]
      ·rw [hkf]; exact RnV.make hrow7.rn
      ·rw [hkf]; exact HRO.out.keep fun b hb _ => ⟨hb.1, setRow_other (wr.drewN nq) _ _ _ (Nat.ne_of_lt hb.2)⟩
end Go.Proofs.YtacjhbbieeliaaaGreatDoor
