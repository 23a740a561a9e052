/- The text Ed. -/
import Derived.Test.YtacjhbbieeliaaaGreatDoorMaf
import Derived.Deep.RegionHeld3
set_option linter.unusedSimpArgs false
set_option maxHeartbeats 16000000
set_option maxRecDepth 100000
namespace Go.Proofs.YtacjhbbieeliaaaGreatDoor
open Go.RowKit Go.Lib
set_option linter.unusedVariables false
set_option linter.unusedSimpArgs false
theorem mid_yields {T : TypeId} {d : TypeDesc} {C : World → Prop} {b q : Nat} {cs : List Value} {ops : Array Oper} {op : Oper} {a : Act} (hd : (match d with | .struct _ | .array _ _ => true | _ => false) = true) (hu : Tryz.prog.underlying T = some d) (hi : (Tryz.prog.info? T).map (·.size) = some cs.length) (hC : ∀ W, C W → W.rangeAt b q cs)
  (hw : Region.wanted op (yielded ops a.tmps) = true) (x : Operand) (ho : op.op = .load T x) (hx : a.eval x = .pointer (some ⟨b, q, none⟩)) : YieldsIf Tryz.prog ops C op (.agg cs.toArray) a :=
 .inl ⟨hw, fun w hw' => by
  unfold execOp
  simp only [ho, hx, Instr.loadAt, Instr.sureAddr, Sem.run_bind, Sem.run_pure, Result.andThen_ok, run_loadVar_mid w b q T cs d (hC w hw') hu (by cases d <;> first | rfl | cases hd) hi]⟩
theorem str_beq (x y : List UInt8) : ((bstr x).toList == (bstr y).toList) = (x == y) := by rw [Lib.toList_data, Lib.toList_data]; rfl
theorem psame_any : ∀ (m : Nat) (ok ok' : Nat → Prop) (a b : Rn.Tr) (V V' : Array Value) (w : World), Rn.nodes a ≤ m → m ≤ 1000000 → RnV w ok V a → RnV w ok' V' b → Calls Tryz.prog 28 #[.agg V, .agg V'] w fun e w' => e = .returned (.bool (Rn.same a b)) ∧ Below w.heap.size w w'
 | 0, ok, ok', a, b, V, V', w, hm, _, h, h' => absurd hm (by have := Rn.nodes_pos a; omega)
 | m + 1, ok, ok', a, b, V, V', w, hm, hm6, h, h' => by
  have hb2 := ((Below.refl w.heap.size w).alloc (Nat.le_refl _) (.cells V 42)).alloc (by rw [World.size_alloc]; exact Nat.le_succ _) (.cells V' 42)
  have hV := h.bel hb2
  have hV' := h'.bel hb2
  have hne := Rn.nodes_eq a
  have hkl := Rn.kids_nodes a.kids
  obtain ⟨A, ca, rfl, hrow⟩ := hV.open
  obtain ⟨B, cb, rfl, hrow'⟩ := hV'.open
  have hk1 : Blk ((w.alloc (.cells #[.string (bstr a.rule), .int .i64 a.id, .int .i64 a.err, .slice A a.kids.length ca] 42)).alloc (.cells #[.string (bstr b.rule), .int .i64 b.id, .int .i64 b.err, .slice B b.kids.length cb] 42)) w.heap.size 42 #[.string (bstr a.rule), .int .i64 a.id, .int .i64 a.err, .slice A a.kids.length ca] := (Blk.new w 42 _).alloc _
  have hk2 : Blk ((w.alloc (.cells #[.string (bstr a.rule), .int .i64 a.id, .int .i64 a.err, .slice A a.kids.length ca] 42)).alloc (.cells #[.string (bstr b.rule), .int .i64 b.id, .int .i64 b.err, .slice B b.kids.length cb] 42)) (w.heap.size + 1) 42 #[.string (bstr b.rule), .int .i64 b.id, .int .i64 b.err, .slice B b.kids.length cb] := by have := Blk.new (w.alloc (.cells #[.string (bstr a.rule), .int .i64 a.id, .int .i64 a.err, .slice A a.kids.length ca] 42)) 42 #[.string (bstr b.rule), .int .i64 b.id, .int .i64 b.err, .slice B b.kids.length cb]; rwa [World.size_alloc] at this
  have hso := Rn.same_open a b
  have HB1 := hid hb2
  have HR1 := hid hrow
  have HR2 := hid hrow'
  have hx0 := hk1.cell 0
  have hx1 := hk1.cell 1
  have hx2 := hk1.cell 2
  have hx3 := hk1.cell 3
  have hy0 := hk2.cell 0
  have hy1 := hk2.cell 1
  have hy2 := hk2.cell 2
  have hy3 := hk2.cell 3
  simp only [List.getElem?_toArray, List.getElem?_cons_zero, List.getElem?_cons_succ] at hx0 hx1 hx2 hx3 hy0 hy1 hy2 hy3
  generalize hw1 : (w.alloc (.cells #[.string (bstr a.rule), .int .i64 a.id, .int .i64 a.err, .slice A a.kids.length ca] 42)).alloc (.cells #[.string (bstr b.rule), .int .i64 b.id, .int .i64 b.err, .slice B b.kids.length cb] 42) = w1 at *
  have hkm : Rn.nodesL a.kids ≤ m := by omega
  have hk6 : a.kids.length ≤ 1000000 := by omega
  have IH := hid (fun x y X Y W (hx : Rn.nodes x ≤ m) (hX : RnV W ok X x) (hY : RnV W ok' Y y) => psame_any m ok ok' x y X Y W hx (by omega) hX hY)
  have hst := str_beq a.rule b.rule
  clear hV hV' h h' hrow hrow' hb2 hne hkl hk1 hk2
  rw [hso]
  clear hso
  generalize a.kids = ks at *
  generalize b.kids = ls at *
  generalize a.id = ao at *
  generalize b.id = bo at *
  generalize a.err = an at *
  generalize b.err = bn at *
  generalize bstr a.rule = at_ at *
  generalize bstr b.rule = bt at *
  generalize (a.rule == b.rule) = tt at *
  cases tt with
  | false =>
   go_enter Tryz.func28, Tryz.ntmps28
   go_wp2_with fail
   go_ret
   exact ⟨rfl, HB1.out⟩
  | true =>
   cases h1 : (ao == bo) with
   | false =>
    have g1 : (ao != bo) = true := by rw [bne, h1]; rfl
    go_enter Tryz.func28, Tryz.ntmps28
    go_wp2_with fail
    go_ret
    exact ⟨rfl, HB1.out⟩
   | true =>
    have g1 : (ao != bo) = false := by rw [bne, h1]; rfl
    cases h3 : (an == bn) with
    | false =>
     have g3 : (an != bn) = true := by rw [bne, h3]; rfl
     go_enter Tryz.func28, Tryz.ntmps28
     go_wp2_with fail
     go_ret
     exact ⟨rfl, HB1.out⟩
    | true =>
     have g3 : (an != bn) = false := by rw [bne, h3]; rfl
     by_cases hlen : ks.length = ls.length
     ·have HLEN := hid hlen
      obtain ⟨S, hS⟩ : ∃ S, Rn.sameL ks ls = S := ⟨_, rfl⟩
      rw [hS]
      have HS := hid hS
      rw [← hlen] at hy3 ⊢
      rw [← hlen] at hw1
      clear hS hlen
      go_enter Tryz.func28, Tryz.ntmps28
      go_wp2_with fail
      go_loopw [5, 37] (fun _ ix wr => ∃ k : Nat, k ≤ ks.length ∧ ix = .int .i64 (k : Int) ∧ Rn.sameL (ks.drop k) (ls.drop k) = S ∧ Below w1.heap.size w1 wr) (fun _ ix _ => ks.length - (RowKit.intOf ix).toNat)
      case atStart => exact ⟨0, Nat.zero_le _, rfl, HS.out, Below.refl _ _⟩
      case round =>
       obtain ⟨k, hk, rfl, hs, hb⟩ := hrel
       have HSS := hid hs
       have HB := hid hb
       have hws := hb.size
       have hx3w := (Below.cell hb (block_lt hx3)).trans hx3
       have hy3w := (Below.cell hb (block_lt hy3)).trans hy3
       clear hs hb
       by_cases hlt : k < ks.length
       ·have hlt2 : k < ls.length := by have := HLEN.out; omega
        obtain ⟨x, hx⟩ : ∃ x, ks[k]? = some x := ⟨_, List.getElem?_eq_getElem hlt⟩
        obtain ⟨y, hy⟩ : ∃ y, ls[k]? = some y := ⟨_, List.getElem?_eq_getElem hlt2⟩
        obtain ⟨b', off, cs, rfl, hok, hr, hcl, hcv⟩ := (HR1.out.below HB.out) k x hx
        obtain ⟨b'', off', ds, rfl, hok', hr', hcl', hcv'⟩ := (HR2.out.below HB.out) k y hy
        have HD := hid (Rn.sameL_drop hx hy)
        have hnk := Rn.nodes_kid hx
        have HCV := hid hcv
        have HCV' := hid hcv'
        have HRR := hid hr
        have HRR' := hid hr'
        have hl1 := range_lt hr (by omega)
        have hl2 := range_lt hr' (by omega)
        have HL2 : Hid ((Tryz.prog.info? 42).map (·.size) = some cs.length) := hid (by rw [size_rea, hcl])
        have HL2' : Hid ((Tryz.prog.info? 42).map (·.size) = some ds.length) := hid (by rw [size_rea, hcl'])
        have hk0 : (0 : Int) ≤ (k : Int) := by omega
        have hk1 : (k : Int) < (ks.length : Int) := by omega
        have hbx := block_lt hx3w
        have hby := block_lt hy3w
        clear hx hy hcv hcv' hr hr'
        go_wp2_with fail
        refine wp_region_noPanic ?_
        refine wp_region_held_drew (S := fun W => W.cell? ⟨w.heap.size, 3, none⟩ = some (.slice (some ⟨b', off, none⟩) ks.length ca) ∧ W.cell? ⟨w.heap.size + 1, 3, none⟩ = some (.slice (some ⟨b'', off', none⟩) ks.length cb) ∧ W.rangeAt b' (off + k * 4) cs ∧ W.rangeAt b'' (off' + k * 4) ds) (by kernel_rfl) ⟨hx3w, hy3w, HRR.out, HRR'.out⟩ (fun hHeld => ?_)
        refine wpAnyH_take (i := 0) (oi := _) (v := ?_) rfl (by kernel_rfl) (by kernel_rfl) (by kernel_rfl) (fun _ _ _ h => h) (Or.inl ⟨by rfl, ?_⟩) hHeld ?_
        rotate_left
        ·intro wq hSw
         obtain ⟨hSw1, hSw2, -, -⟩ := hSw
         go_simp
         (try with_reducible rfl)
        (try simp only [Act.put, List.getElem_toArray, List.getElem_cons_zero, List.getElem_cons_succ, List.setIfInBounds_toArray, List.set_cons_zero, List.set_cons_succ])
        refine wpAnyH_take (i := 1) (oi := _) (v := ?_) rfl (by kernel_rfl) (by kernel_rfl) (by kernel_rfl) (fun _ _ _ h => h) (Or.inl ⟨by rfl, ?_⟩) hHeld ?_
        rotate_left
        ·intro wq hSw
         obtain ⟨hSw1, hSw2, -, -⟩ := hSw
         go_simp
         (try with_reducible rfl)
        (try simp only [Act.put, List.getElem_toArray, List.getElem_cons_zero, List.getElem_cons_succ, List.setIfInBounds_toArray, List.set_cons_zero, List.set_cons_succ])
        refine wpAnyH_take (i := 2) (oi := _) (v := ?_) rfl (by kernel_rfl) (by kernel_rfl) (by kernel_rfl) (fun _ _ _ h => h) (Or.inl ⟨by rfl, ?_⟩) hHeld ?_
        rotate_left
        ·intro wq hSw
         obtain ⟨hSw1, hSw2, -, -⟩ := hSw
         go_simp
         (try with_reducible rfl)
        (try simp only [Act.put, List.getElem_toArray, List.getElem_cons_zero, List.getElem_cons_succ, List.setIfInBounds_toArray, List.set_cons_zero, List.set_cons_succ])
        refine wpAnyH_take (i := 3) (oi := _) (v := ?_) rfl (by kernel_rfl) (by kernel_rfl) (by kernel_rfl) (fun _ _ _ h => h) (Or.inl ⟨by rfl, ?_⟩) hHeld ?_
        rotate_left
        ·intro wq hSw
         obtain ⟨hSw1, hSw2, -, -⟩ := hSw
         go_simp
         (try with_reducible rfl)
        (try simp only [Act.put, List.getElem_toArray, List.getElem_cons_zero, List.getElem_cons_succ, List.setIfInBounds_toArray, List.set_cons_zero, List.set_cons_succ])
        refine wpAnyH_take (i := 4) (oi := _) (v := _) rfl (by kernel_rfl) (by kernel_rfl) (by kernel_rfl) (fun _ _ _ h => h) (mid_yields rfl Tryz.underlying42 HL2.out (fun W h => h.2.2.1) (by rfl) _ rfl rfl) hHeld ?_
        (try simp only [Act.put, List.getElem_toArray, List.getElem_cons_zero, List.getElem_cons_succ, List.setIfInBounds_toArray, List.set_cons_zero, List.set_cons_succ])
        refine wpAnyH_take (i := 5) (oi := _) (v := ?_) rfl (by kernel_rfl) (by kernel_rfl) (by kernel_rfl) (fun _ _ _ h => h) (Or.inl ⟨by rfl, ?_⟩) hHeld ?_
        rotate_left
        ·intro wq hSw
         obtain ⟨hSw1, hSw2, -, -⟩ := hSw
         go_simp
         (try with_reducible rfl)
        (try simp only [Act.put, List.getElem_toArray, List.getElem_cons_zero, List.getElem_cons_succ, List.setIfInBounds_toArray, List.set_cons_zero, List.set_cons_succ])
        refine wpAnyH_take (i := 6) (oi := _) (v := ?_) rfl (by kernel_rfl) (by kernel_rfl) (by kernel_rfl) (fun _ _ _ h => h) (Or.inl ⟨by rfl, ?_⟩) hHeld ?_
        rotate_left
        ·intro wq hSw
         obtain ⟨hSw1, hSw2, -, -⟩ := hSw
         go_simp
         (try with_reducible rfl)
        (try simp only [Act.put, List.getElem_toArray, List.getElem_cons_zero, List.getElem_cons_succ, List.setIfInBounds_toArray, List.set_cons_zero, List.set_cons_succ])
        refine wpAnyH_take (i := 7) (oi := _) (v := ?_) rfl (by kernel_rfl) (by kernel_rfl) (by kernel_rfl) (fun _ _ _ h => h) (Or.inl ⟨by rfl, ?_⟩) hHeld ?_
        rotate_left
        ·intro wq hSw
         obtain ⟨hSw1, hSw2, -, -⟩ := hSw
         go_simp
         (try with_reducible rfl)
        (try simp only [Act.put, List.getElem_toArray, List.getElem_cons_zero, List.getElem_cons_succ, List.setIfInBounds_toArray, List.set_cons_zero, List.set_cons_succ])
        refine wpAnyH_take (i := 8) (oi := _) (v := ?_) rfl (by kernel_rfl) (by kernel_rfl) (by kernel_rfl) (fun _ _ _ h => h) (Or.inl ⟨by rfl, ?_⟩) hHeld ?_
        rotate_left
        ·intro wq hSw
         obtain ⟨hSw1, hSw2, -, -⟩ := hSw
         go_simp
         (try with_reducible rfl)
        (try simp only [Act.put, List.getElem_toArray, List.getElem_cons_zero, List.getElem_cons_succ, List.setIfInBounds_toArray, List.set_cons_zero, List.set_cons_succ])
        refine wpAnyH_take (i := 9) (oi := _) (v := _) rfl (by kernel_rfl) (by kernel_rfl) (by kernel_rfl) (fun _ _ _ h => h) (mid_yields rfl Tryz.underlying42 HL2'.out (fun W h => h.2.2.2) (by rfl) _ rfl rfl) hHeld ?_
        (try simp only [Act.put, List.getElem_toArray, List.getElem_cons_zero, List.getElem_cons_succ, List.setIfInBounds_toArray, List.set_cons_zero, List.set_cons_succ])
        refine wpAnyH_ready (rs := [10]) (by kernel_rfl) (by simp) ?_
        refine AllReadyH.cons (o := _) rfl (fun K hK => ?_) AllReadyH.nil
        go_simp
        go_at_call 28
        refine (IH.out x y cs.toArray ds.toArray wr.drew (by omega) (HCV.out.bel ((Below.refl _ _).drew)) (HCV'.out.bel ((Below.refl _ _).drew))).mono ?_
        rintro e w4 ⟨rfl, hb4⟩
        have hn4 : Below wr.heap.size wr w4 := (Below.refl wr.heap.size wr).drew.trans hb4
        have HB4 := hid (HB.out.trans (hn4.mono hws))
        refine hK.out _ _ ⟨(Below.cell hn4 hbx).trans hx3w, (Below.cell hn4 hby).trans hy3w, range_keep HRR.out (hn4.block _ hl1), range_keep HRR'.out (hn4.block _ hl2)⟩ (fun hHeld2 => ?_)
        clear hK K hb4 hn4 hHeld
        have hHeld := hHeld2
        clear hHeld2
        (try simp only [Act.put, List.getElem_toArray, List.getElem_cons_zero, List.getElem_cons_succ, List.setIfInBounds_toArray, List.set_cons_zero, List.set_cons_succ])
        refine wpAnyH_take (i := 11) (oi := _) (v := ?_) rfl (by kernel_rfl) (by kernel_rfl) (by kernel_rfl) (fun _ _ _ h => h) (Or.inl ⟨by rfl, ?_⟩) hHeld ?_
        rotate_left
        ·intro wq hSw
         obtain ⟨hSw1, hSw2, -, -⟩ := hSw
         go_simp
         (try with_reducible rfl)
        (try simp only [Act.put, List.getElem_toArray, List.getElem_cons_zero, List.getElem_cons_succ, List.setIfInBounds_toArray, List.set_cons_zero, List.set_cons_succ])
        refine wpAnyH_done (by kernel_rfl) ?_ _
        refine NoPanic.normal ?_
        cases hxy : Rn.same x y with
        | true =>
         have HS4 : Hid (Rn.sameL (ks.drop (k + 1)) (ls.drop (k + 1)) = S) := hid (by rw [← HSS.out, HD.out, hxy]; rfl)
         go_wp2_with fail
         go_roundw
         case rel => exact ⟨k + 1, hlt, by go_num, HS4.out, HB4.out⟩
         case measure => simp [RowKit.intOf]; omega
        | false =>
         have HS4 : Hid (S = false) := hid (by rw [← HSS.out, HD.out, hxy]; rfl)
         go_wp2_with fail
         go_ret
         exact ⟨congrArg (fun b => Ending.returned (.bool b)) (HS4.out.symm), HB1.out.trans (HB4.out.mono HB1.out.size)⟩
       ·obtain rfl : k = ks.length := by omega
        have HS4 : Hid (S = true) := hid (by rw [← HSS.out, List.drop_length, HLEN.out, List.drop_length]; rfl)
        go_wp2_with fail
        go_ret
        exact ⟨congrArg (fun b => Ending.returned (.bool b)) (HS4.out.symm), HB1.out.trans (HB.out.mono HB1.out.size)⟩
     ·have HS := hid (Rn.sameL_len hlen)
      have hlq : ((ks.length : Int) == (ls.length : Int)) = false := beq_eq_false_iff_ne.2 (by omega)
      have hlq2 : (ks.length == ls.length) = false := beq_eq_false_iff_ne.2 hlen
      have hlq3 : ((ks.length : Int) != (ls.length : Int)) = true := by rw [bne, hlq]; rfl
      have hlq4 : (ks.length != ls.length) = true := by rw [bne, hlq2]; rfl
      clear hlen
      rw [HS.out]
      go_enter Tryz.func28, Tryz.ntmps28
      go_wp2_with fail
      go_ret
      exact ⟨rfl, HB1.out⟩
theorem rsame_any : ∀ (m : Nat) (ok ok' : Nat → Prop) (a b : Rn.Tr) (V V' : Array Value) (w : World), Rn.nodes a ≤ m → m ≤ 1000000 → RnV w ok V a → RnV w ok' V' b → Calls Tryz.prog 7 #[.agg V, .agg V'] w fun e w' => e = .returned (.bool (Rn.same a b)) ∧ Below w.heap.size w w'
 | 0, ok, ok', a, b, V, V', w, hm, _, h, h' => absurd hm (by have := Rn.nodes_pos a; omega)
 | m + 1, ok, ok', a, b, V, V', w, hm, hm6, h, h' => by
  have hb2 := ((Below.refl w.heap.size w).alloc (Nat.le_refl _) (.cells V 42)).alloc (by rw [World.size_alloc]; exact Nat.le_succ _) (.cells V' 42)
  have hV := h.bel hb2
  have hV' := h'.bel hb2
  have hne := Rn.nodes_eq a
  have hkl := Rn.kids_nodes a.kids
  obtain ⟨A, ca, rfl, hrow⟩ := hV.open
  obtain ⟨B, cb, rfl, hrow'⟩ := hV'.open
  have hk1 : Blk ((w.alloc (.cells #[.string (bstr a.rule), .int .i64 a.id, .int .i64 a.err, .slice A a.kids.length ca] 42)).alloc (.cells #[.string (bstr b.rule), .int .i64 b.id, .int .i64 b.err, .slice B b.kids.length cb] 42)) w.heap.size 42 #[.string (bstr a.rule), .int .i64 a.id, .int .i64 a.err, .slice A a.kids.length ca] := (Blk.new w 42 _).alloc _
  have hk2 : Blk ((w.alloc (.cells #[.string (bstr a.rule), .int .i64 a.id, .int .i64 a.err, .slice A a.kids.length ca] 42)).alloc (.cells #[.string (bstr b.rule), .int .i64 b.id, .int .i64 b.err, .slice B b.kids.length cb] 42)) (w.heap.size + 1) 42 #[.string (bstr b.rule), .int .i64 b.id, .int .i64 b.err, .slice B b.kids.length cb] := by have := Blk.new (w.alloc (.cells #[.string (bstr a.rule), .int .i64 a.id, .int .i64 a.err, .slice A a.kids.length ca] 42)) 42 #[.string (bstr b.rule), .int .i64 b.id, .int .i64 b.err, .slice B b.kids.length cb]; rwa [World.size_alloc] at this
  have hso := Rn.same_open a b
  have HB1 := hid hb2
  have HR1 := hid hrow
  have HR2 := hid hrow'
  have hx0 := hk1.cell 0
  have hx1 := hk1.cell 1
  have hx2 := hk1.cell 2
  have hx3 := hk1.cell 3
  have hy0 := hk2.cell 0
  have hy1 := hk2.cell 1
  have hy2 := hk2.cell 2
  have hy3 := hk2.cell 3
  simp only [List.getElem?_toArray, List.getElem?_cons_zero, List.getElem?_cons_succ] at hx0 hx1 hx2 hx3 hy0 hy1 hy2 hy3
  generalize hw1 : (w.alloc (.cells #[.string (bstr a.rule), .int .i64 a.id, .int .i64 a.err, .slice A a.kids.length ca] 42)).alloc (.cells #[.string (bstr b.rule), .int .i64 b.id, .int .i64 b.err, .slice B b.kids.length cb] 42) = w1 at *
  have hkm : Rn.nodesL a.kids ≤ m := by omega
  have hk6 : a.kids.length ≤ 1000000 := by omega
  have IH := hid (fun x y X Y W (hx : Rn.nodes x ≤ m) (hX : RnV W ok X x) (hY : RnV W ok' Y y) => rsame_any m ok ok' x y X Y W hx (by omega) hX hY)
  have hst := str_beq a.rule b.rule
  clear hV hV' h h' hrow hrow' hb2 hne hkl hk1 hk2
  rw [hso]
  clear hso
  generalize a.kids = ks at *
  generalize b.kids = ls at *
  generalize a.id = ao at *
  generalize b.id = bo at *
  generalize a.err = an at *
  generalize b.err = bn at *
  generalize bstr a.rule = at_ at *
  generalize bstr b.rule = bt at *
  generalize (a.rule == b.rule) = tt at *
  cases tt with
  | false =>
   go_enter Tryz.func7, Tryz.ntmps7
   go_wp2_with fail
   go_ret
   exact ⟨rfl, HB1.out⟩
  | true =>
   cases h1 : (ao == bo) with
   | false =>
    have g1 : (ao != bo) = true := by rw [bne, h1]; rfl
    go_enter Tryz.func7, Tryz.ntmps7
    go_wp2_with fail
    go_ret
    exact ⟨rfl, HB1.out⟩
   | true =>
    have g1 : (ao != bo) = false := by rw [bne, h1]; rfl
    cases h3 : (an == bn) with
    | false =>
     have g3 : (an != bn) = true := by rw [bne, h3]; rfl
     go_enter Tryz.func7, Tryz.ntmps7
     go_wp2_with fail
     go_ret
     exact ⟨rfl, HB1.out⟩
    | true =>
     have g3 : (an != bn) = false := by rw [bne, h3]; rfl
     by_cases hlen : ks.length = ls.length
     ·have HLEN := hid hlen
      obtain ⟨S, hS⟩ : ∃ S, Rn.sameL ks ls = S := ⟨_, rfl⟩
      rw [hS]
      have HS := hid hS
      rw [← hlen] at hy3 ⊢
      rw [← hlen] at hw1
      clear hS hlen
      go_enter Tryz.func7, Tryz.ntmps7
      go_wp2_with fail
      go_loopw [5] (fun ix wr => ∃ k : Nat, k ≤ ks.length ∧ ix = .int .i64 (k : Int) ∧ Rn.sameL (ks.drop k) (ls.drop k) = S ∧ Below w1.heap.size w1 wr) (fun ix _ => ks.length - (RowKit.intOf ix).toNat)
      case atStart => exact ⟨0, Nat.zero_le _, rfl, HS.out, Below.refl _ _⟩
      case round =>
       obtain ⟨k, hk, rfl, hs, hb⟩ := hrel
       have HSS := hid hs
       have HB := hid hb
       have hws := hb.size
       have hx3w := (Below.cell hb (block_lt hx3)).trans hx3
       have hy3w := (Below.cell hb (block_lt hy3)).trans hy3
       clear hs hb
       by_cases hlt : k < ks.length
       ·have hlt2 : k < ls.length := by have := HLEN.out; omega
        obtain ⟨x, hx⟩ : ∃ x, ks[k]? = some x := ⟨_, List.getElem?_eq_getElem hlt⟩
        obtain ⟨y, hy⟩ : ∃ y, ls[k]? = some y := ⟨_, List.getElem?_eq_getElem hlt2⟩
        obtain ⟨b', off, cs, rfl, hok, hr, hcl, hcv⟩ := (HR1.out.below HB.out) k x hx
        obtain ⟨b'', off', ds, rfl, hok', hr', hcl', hcv'⟩ := (HR2.out.below HB.out) k y hy
        have HD := hid (Rn.sameL_drop hx hy)
        have hnk := Rn.nodes_kid hx
        have HCV := hid hcv
        have HCV' := hid hcv'
        have HRR := hid hr
        have HRR' := hid hr'
        have hl1 := range_lt hr (by omega)
        have hl2 := range_lt hr' (by omega)
        have HL2 : Hid ((Tryz.prog.info? 42).map (·.size) = some cs.length) := hid (by rw [size_rea, hcl])
        have HL2' : Hid ((Tryz.prog.info? 42).map (·.size) = some ds.length) := hid (by rw [size_rea, hcl'])
        have hk0 : (0 : Int) ≤ (k : Int) := by omega
        have hk1 : (k : Int) < (ks.length : Int) := by omega
        have hbx := block_lt hx3w
        have hby := block_lt hy3w
        clear hx hy hcv hcv' hr hr'
        go_wp2_with fail
        refine wp_region_noPanic ?_
        refine wp_region_held_drew (S := fun W => W.cell? ⟨w.heap.size, 3, none⟩ = some (.slice (some ⟨b', off, none⟩) ks.length ca) ∧ W.cell? ⟨w.heap.size + 1, 3, none⟩ = some (.slice (some ⟨b'', off', none⟩) ks.length cb) ∧ W.rangeAt b' (off + k * 4) cs ∧ W.rangeAt b'' (off' + k * 4) ds) (by kernel_rfl) ⟨hx3w, hy3w, HRR.out, HRR'.out⟩ (fun hHeld => ?_)
        refine wpAnyH_take (i := 0) (oi := _) (v := ?_) rfl (by kernel_rfl) (by kernel_rfl) (by kernel_rfl) (fun _ _ _ h => h) (Or.inl ⟨by rfl, ?_⟩) hHeld ?_
        rotate_left
        ·intro wq hSw
         obtain ⟨hSw1, hSw2, -, -⟩ := hSw
         go_simp
         (try with_reducible rfl)
        (try simp only [Act.put, List.getElem_toArray, List.getElem_cons_zero, List.getElem_cons_succ, List.setIfInBounds_toArray, List.set_cons_zero, List.set_cons_succ])
        refine wpAnyH_take (i := 1) (oi := _) (v := ?_) rfl (by kernel_rfl) (by kernel_rfl) (by kernel_rfl) (fun _ _ _ h => h) (Or.inl ⟨by rfl, ?_⟩) hHeld ?_
        rotate_left
        ·intro wq hSw
         obtain ⟨hSw1, hSw2, -, -⟩ := hSw
         go_simp
         (try with_reducible rfl)
        (try simp only [Act.put, List.getElem_toArray, List.getElem_cons_zero, List.getElem_cons_succ, List.setIfInBounds_toArray, List.set_cons_zero, List.set_cons_succ])
        refine wpAnyH_take (i := 2) (oi := _) (v := ?_) rfl (by kernel_rfl) (by kernel_rfl) (by kernel_rfl) (fun _ _ _ h => h) (Or.inl ⟨by rfl, ?_⟩) hHeld ?_
        rotate_left
        ·intro wq hSw
         obtain ⟨hSw1, hSw2, -, -⟩ := hSw
         go_simp
         (try with_reducible rfl)
        (try simp only [Act.put, List.getElem_toArray, List.getElem_cons_zero, List.getElem_cons_succ, List.setIfInBounds_toArray, List.set_cons_zero, List.set_cons_succ])
        refine wpAnyH_take (i := 3) (oi := _) (v := ?_) rfl (by kernel_rfl) (by kernel_rfl) (by kernel_rfl) (fun _ _ _ h => h) (Or.inl ⟨by rfl, ?_⟩) hHeld ?_
        rotate_left
        ·intro wq hSw
         obtain ⟨hSw1, hSw2, -, -⟩ := hSw
         go_simp
         (try with_reducible rfl)
        (try simp only [Act.put, List.getElem_toArray, List.getElem_cons_zero, List.getElem_cons_succ, List.setIfInBounds_toArray, List.set_cons_zero, List.set_cons_succ])
        refine wpAnyH_take (i := 4) (oi := _) (v := _) rfl (by kernel_rfl) (by kernel_rfl) (by kernel_rfl) (fun _ _ _ h => h) (mid_yields rfl Tryz.underlying42 HL2.out (fun W h => h.2.2.1) (by rfl) _ rfl rfl) hHeld ?_
        (try simp only [Act.put, List.getElem_toArray, List.getElem_cons_zero, List.getElem_cons_succ, List.setIfInBounds_toArray, List.set_cons_zero, List.set_cons_succ])
        refine wpAnyH_take (i := 5) (oi := _) (v := ?_) rfl (by kernel_rfl) (by kernel_rfl) (by kernel_rfl) (fun _ _ _ h => h) (Or.inl ⟨by rfl, ?_⟩) hHeld ?_
        rotate_left
        ·intro wq hSw
         obtain ⟨hSw1, hSw2, -, -⟩ := hSw
         go_simp
         (try with_reducible rfl)
        (try simp only [Act.put, List.getElem_toArray, List.getElem_cons_zero, List.getElem_cons_succ, List.setIfInBounds_toArray, List.set_cons_zero, List.set_cons_succ])
        refine wpAnyH_take (i := 6) (oi := _) (v := ?_) rfl (by kernel_rfl) (by kernel_rfl) (by kernel_rfl) (fun _ _ _ h => h) (Or.inl ⟨by rfl, ?_⟩) hHeld ?_
        rotate_left
        ·intro wq hSw
         obtain ⟨hSw1, hSw2, -, -⟩ := hSw
         go_simp
         (try with_reducible rfl)
        (try simp only [Act.put, List.getElem_toArray, List.getElem_cons_zero, List.getElem_cons_succ, List.setIfInBounds_toArray, List.set_cons_zero, List.set_cons_succ])
        refine wpAnyH_take (i := 7) (oi := _) (v := ?_) rfl (by kernel_rfl) (by kernel_rfl) (by kernel_rfl) (fun _ _ _ h => h) (Or.inl ⟨by rfl, ?_⟩) hHeld ?_
        rotate_left
        ·intro wq hSw
         obtain ⟨hSw1, hSw2, -, -⟩ := hSw
         go_simp
         (try with_reducible rfl)
        (try simp only [Act.put, List.getElem_toArray, List.getElem_cons_zero, List.getElem_cons_succ, List.setIfInBounds_toArray, List.set_cons_zero, List.set_cons_succ])
        refine wpAnyH_take (i := 8) (oi := _) (v := ?_) rfl (by kernel_rfl) (by kernel_rfl) (by kernel_rfl) (fun _ _ _ h => h) (Or.inl ⟨by rfl, ?_⟩) hHeld ?_
        rotate_left
        ·intro wq hSw
         obtain ⟨hSw1, hSw2, -, -⟩ := hSw
         go_simp
         (try with_reducible rfl)
        (try simp only [Act.put, List.getElem_toArray, List.getElem_cons_zero, List.getElem_cons_succ, List.setIfInBounds_toArray, List.set_cons_zero, List.set_cons_succ])
        refine wpAnyH_take (i := 9) (oi := _) (v := _) rfl (by kernel_rfl) (by kernel_rfl) (by kernel_rfl) (fun _ _ _ h => h) (mid_yields rfl Tryz.underlying42 HL2'.out (fun W h => h.2.2.2) (by rfl) _ rfl rfl) hHeld ?_
        (try simp only [Act.put, List.getElem_toArray, List.getElem_cons_zero, List.getElem_cons_succ, List.setIfInBounds_toArray, List.set_cons_zero, List.set_cons_succ])
        refine wpAnyH_ready (rs := [10]) (by kernel_rfl) (by simp) ?_
        refine AllReadyH.cons (o := _) rfl (fun K hK => ?_) AllReadyH.nil
        go_simp
        go_at_call 7
        refine (IH.out x y cs.toArray ds.toArray wr.drew (by omega) (HCV.out.bel ((Below.refl _ _).drew)) (HCV'.out.bel ((Below.refl _ _).drew))).mono ?_
        rintro e w4 ⟨rfl, hb4⟩
        have hn4 : Below wr.heap.size wr w4 := (Below.refl wr.heap.size wr).drew.trans hb4
        have HB4 := hid (HB.out.trans (hn4.mono hws))
        refine hK.out _ _ ⟨(Below.cell hn4 hbx).trans hx3w, (Below.cell hn4 hby).trans hy3w, range_keep HRR.out (hn4.block _ hl1), range_keep HRR'.out (hn4.block _ hl2)⟩ (fun hHeld2 => ?_)
        clear hK K hb4 hn4 hHeld
        have hHeld := hHeld2
        clear hHeld2
        (try simp only [Act.put, List.getElem_toArray, List.getElem_cons_zero, List.getElem_cons_succ, List.setIfInBounds_toArray, List.set_cons_zero, List.set_cons_succ])
        refine wpAnyH_take (i := 11) (oi := _) (v := ?_) rfl (by kernel_rfl) (by kernel_rfl) (by kernel_rfl) (fun _ _ _ h => h) (Or.inl ⟨by rfl, ?_⟩) hHeld ?_
        rotate_left
        ·intro wq hSw
         obtain ⟨hSw1, hSw2, -, -⟩ := hSw
         go_simp
         (try with_reducible rfl)
        (try simp only [Act.put, List.getElem_toArray, List.getElem_cons_zero, List.getElem_cons_succ, List.setIfInBounds_toArray, List.set_cons_zero, List.set_cons_succ])
        refine wpAnyH_done (by kernel_rfl) ?_ _
        refine NoPanic.normal ?_
        cases hxy : Rn.same x y with
        | true =>
         have HS4 : Hid (Rn.sameL (ks.drop (k + 1)) (ls.drop (k + 1)) = S) := hid (by rw [← HSS.out, HD.out, hxy]; rfl)
         go_wp2_with fail
         go_roundw
         case rel => exact ⟨k + 1, hlt, by go_num, HS4.out, HB4.out⟩
         case measure => simp [RowKit.intOf]; omega
        | false =>
         have HS4 : Hid (S = false) := hid (by rw [← HSS.out, HD.out, hxy]; rfl)
         go_wp2_with fail
         go_ret
         exact ⟨congrArg (fun b => Ending.returned (.bool b)) (HS4.out.symm), HB1.out.trans (HB4.out.mono HB1.out.size)⟩
       ·obtain rfl : k = ks.length := by omega
        have HS4 : Hid (S = true) := hid (by rw [← HSS.out, List.drop_length, HLEN.out, List.drop_length]; rfl)
        go_wp2_with fail
        go_ret
        exact ⟨congrArg (fun b => Ending.returned (.bool b)) (HS4.out.symm), HB1.out.trans (HB.out.mono HB1.out.size)⟩
     ·have HS := hid (Rn.sameL_len hlen)
      have hlq : ((ks.length : Int) == (ls.length : Int)) = false := beq_eq_false_iff_ne.2 (by omega)
      have hlq2 : (ks.length == ls.length) = false := beq_eq_false_iff_ne.2 hlen
      have hlq3 : ((ks.length : Int) != (ls.length : Int)) = true := by rw [bne, hlq]; rfl
      have hlq4 : (ks.length != ls.length) = true := by rw [bne, hlq2]; rfl
      clear hlen
      rw [HS.out]
      go_enter Tryz.func7, Tryz.ntmps7
      go_wp2_with fail
      go_ret
      exact ⟨rfl, HB1.out⟩
end Go.Proofs.YtacjhbbieeliaaaGreatDoor
