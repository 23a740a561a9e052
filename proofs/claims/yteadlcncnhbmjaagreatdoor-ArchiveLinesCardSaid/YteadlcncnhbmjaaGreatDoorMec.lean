/- The texts Cxa, Cxb of this proof, one behind the other. -/
import Derived.Test.YteadlcncnhbmjaaGreatDoorMeb
import Derived.Test.YteadlcncnhbmjaaGreatDoorMea
import Derived.Test.YteadlcncnhbmjaaGreatDoorHBw2
set_option linter.unusedSimpArgs false
set_option linter.unusedVariables false
/- The walk of the reference's ReadEvent. Written by gencxa.py. -/
namespace Go.Proofs.YteadlcncnhbmjaaGreatDoor
open Go.RowKit Go.Lib
set_option linter.unusedVariables false
set_option linter.unusedSimpArgs false
/-- the loop over the words of a line: W0 the world when it begins (the result's block and the event's are its next two) -/
structure RJ (W0 : World) (n : Nat) (x : World) (e : List Ar.FV) (cells : Array Value) : Prop where
  bel : Below W0.heap.size W0 x
  res : Blk x W0.heap.size 40 zeroEv
  blk : Blk x (W0.heap.size + 1) 40 cells
  ev : EvOf (fun b => W0.heap.size + 1 < b) x cells e
  fine : ∀ v ∈ e, v.Fine n
theorem RJ.start {W0 : World} {n : Nat} : RJ W0 n ((W0.alloc (.cells zeroEv 40)).alloc (.cells zeroEv 40)) (Ar.zeros Ar.NK) zeroEv where
  bel := ((Below.refl _ _).alloc (Nat.le_refl _) _).alloc (by simp) _
  res := (Blk.new W0 40 zeroEv).alloc _
  blk := blk_n1 W0 _ 40 zeroEv
  ev := zero_ev _ _
  fine v hv := by
    unfold Ar.zeros at hv
    obtain ⟨p, _, rfl⟩ := List.mem_map.1 hv
    exact Ar.zero_fine _ _
theorem RJ.big {W0 x : World} {n : Nat} {e : List Ar.FV} {cells : Array Value} (h : RJ W0 n x e cells) : W0.heap.size + 2 ≤ x.heap.size := by have := h.blk.lt; omega
theorem RJ.below {W0 x x' : World} {n : Nat} {e : List Ar.FV} {cells : Array Value} (h : RJ W0 n x e cells) (hb : Below x.heap.size x x') : RJ W0 n x' e cells :=
  ⟨h.bel.trans (hb.mono h.bel.size), h.res.below hb h.res.lt, h.blk.below hb h.blk.lt, h.ev.below hb, h.fine⟩
theorem RJ.next {W0 x w5 w6 w7 : World} {n i : Nat} {e : List Ar.FV} {v : Ar.FV} {cells cells' : Array Value} (h : RJ W0 n x e cells) (hb5 : Below x.heap.size x w5) (he : EvOf (okN (fun b => W0.heap.size + 1 < b) x.heap.size) w5 cells' (e.set i v)) (hf : v.Fine n)
    (h6 : Below w5.heap.size w5 w6) (hk : Blk w7 (W0.heap.size + 1) 40 cells') (ho : ∀ k, k ≠ W0.heap.size + 1 → w7.heap[k]? = w6.heap[k]?) (hb : ∀ B, B ≤ W0.heap.size + 1 → Below B w6 w7) : RJ W0 n w7 (e.set i v) cells' := by
  have hbig := h.big
  have h5 := hb5.size
  refine ⟨((h.bel.trans (hb5.mono h.bel.size)).trans (h6.mono (by omega))).trans (hb _ (Nat.le_succ _)), ?_, hk, ?_, fun u hu => ?_⟩
  · exact (ho _ (by omega)).trans (((h.res.below hb5 h.res.lt).below h6 (by omega)))
  · refine he.keep fun b hb' hlt => ?_
    have hb2 : W0.heap.size + 1 < b := by rcases hb' with h | h <;> omega
    exact ⟨hb2, (ho b (by omega)).trans (h6.block b hlt)⟩
  · rcases List.mem_or_eq_of_mem_set hu with hu | rfl
    · exact h.fine u hu
    · exact hf
theorem res_done {W0 w3 w4 : World} {n : Nat} {e : List Ar.FV} {cells : Array Value} (h : EvOf (fun b => W0.heap.size + 1 < b) w3 cells e) (ho : ∀ k, k ≠ W0.heap.size → w4.heap[k]? = w3.heap[k]?) : EvOf (fun b => W0.heap.size ≤ b) w4 cells e :=
  h.keep fun b hb _ => ⟨by omega, ho b (by omega)⟩
theorem emp_some {q : List UInt8} {R : ByteArray} (h : R.toList.isEmpty = (bstr q).toList.isEmpty) (hq : q ≠ []) : R.toList.isEmpty = false := h.trans (some_ne hq)
theorem emp_none {q : List UInt8} {R : ByteArray} (h : R.toList.isEmpty = (bstr q).toList.isEmpty) (hq : q = []) : R.toList.isEmpty = true := h.trans (none_eq hq)
theorem xparse_none {s : List UInt8} (h : Ar.xloopF (s.length + 1) (Ar.zeros Ar.NK) s = none) : Ar.parse s = none := by
  rw [← Ar.xparse_eq]; unfold Ar.xparse; rw [h]
theorem xparse_bad {s : List UInt8} {e : List Ar.FV} (h : Ar.xloopF (s.length + 1) (Ar.zeros Ar.NK) s = some e) (hn : Ar.line e ≠ s) : Ar.parse s = none := by
  rw [← Ar.xparse_eq]; unfold Ar.xparse; rw [h]; exact if_neg hn
theorem xparse_good {s : List UInt8} {e : List Ar.FV} (h : Ar.xloopF (s.length + 1) (Ar.zeros Ar.NK) s = some e) (hn : Ar.line e = s) : Ar.parse s = some e := by
  rw [← Ar.xparse_eq]; unfold Ar.xparse; rw [h]; exact if_pos hn
set_option maxHeartbeats 8000000 in
set_option maxRecDepth 100000 in
theorem rreadevent_any (s : List UInt8) (w : World) (hs : s.length ≤ 100000) : Calls Tryz.prog 24 #[.string (bstr s)] w fun r w' => REv s w.heap.size r w' ∧ Below w.heap.size w w' := by
  have HSZ := bstr_size s
  generalize hSS : bstr s = S at *
  go_enter Tryz.func24, Tryz.ntmps24
  go_wp2_with fail
  go_loopw [5] (fun sx wr => ∃ (m : Nat) (t : List UInt8) (e : List Ar.FV) (cells : Array Value), sx = .string (bstr t) ∧ RJ w s.length wr e cells ∧ t.length < m ∧ t.length ≤ s.length ∧ Hid (Ar.xloopF (s.length + 1) (Ar.zeros Ar.NK) s = Ar.xloopF m e t)) (fun sx _ => vlen sx)
  case atStart => exact ⟨s.length + 1, s, Ar.zeros Ar.NK, zeroEv, by rw [hSS], RJ.start, Nat.lt_succ_self _, Nat.le_refl _, Lib.hid rfl⟩
  case round =>
    obtain ⟨m, t, e, cells, rfl, hrj, hm, hlt, heq⟩ := hrel
    cases m with
    | zero => exact absurd hm (Nat.not_lt_zero _)
    | succ m =>
      have HRJ := Lib.hid hrj
      have hbs := hrj.big
      have HEQ : Hid (Ar.xloopF (s.length + 1) (Ar.zeros Ar.NK) s = Ar.xloopF (m + 1) e t) := heq
      have hbt := bstr_size t
      clear hrj heq
      by_cases ht : t = []
      · have hem := none_eq ht
        have HEND : Hid (Ar.xloopF (s.length + 1) (Ar.zeros Ar.NK) s = some e) := Lib.hid (by rw [HEQ.out, ht]; exact Ar.xloopF_end)
        clear ht
        generalize hTB : bstr t = TB at *
        have HKE := Lib.hid HRJ.out.blk
        have HSE : Hid ((Tryz.prog.info? 40).map (·.size) = some cells.size) := Lib.hid (by rw [size_event, HRJ.out.ev.size])
        go_wp2_with (first
          | (refine load_row_w (by rfl) 40 _ rfl (w.heap.size + 1) rfl 40 cells (0, 0) _ (by rfl) HKE.out Tryz.underlying40 HSE.out ?_)
          | (refine wpList_load_row rfl 40 _ rfl (w.heap.size + 1) rfl 40 cells (0, 0) _ HKE.out Tryz.underlying40 rfl HSE.out ?_))
        refine (revent_any _ cells (e) wr HRJ.out.ev (fun v hv => (HRJ.out.fine v hv).1) (Ar.line_le (e) s.length hs HRJ.out.fine)).mono ?_
        rintro r w3 ⟨rfl, hb3⟩
        have HR3 := Lib.hid (HRJ.out.below hb3)
        have HK3 := Lib.hid HR3.out.blk
        have H1C := Lib.hid HR3.out.ev.one
        have hcmp := str_beq (Ar.line (e)) s
        rw [hSS] at hcmp
        clear hb3
        by_cases heq : Ar.line (e) = s
        · have HP := Lib.hid (xparse_good HEND.out heq)
          have hq : ((bstr (Ar.line (e))).toList == S.toList) = true := by rw [hcmp, heq]; exact beq_self_eq_true _
          clear hcmp heq
          generalize bstr (Ar.line (e)) = Y at *
          go_wp2_with (first
            | (refine wpList_load_row rfl 40 _ rfl (w.heap.size + 1) rfl 40 cells (0, 0) _ HK3.out Tryz.underlying40 rfl HSE.out ?_)
            | ((with_reducible refine wpList_store_rowk rfl 40 _ _ rfl w.heap.size cells ?_ ?_ 40 zeroEv HR3.out.res HSE.out ?_ H1C.out ?_); rfl; rfl; exact (HR3.out.ev.size).symm; intro w4 hk4 hs4 hbl4 hot4))
          refine bodyPost_ret (results_row_tmp rfl _ _ w.heap.size _ cells _ rfl hk4 Tryz.underlying40 rfl HSE.out) rfl ?_
          exact ⟨.inl ⟨e, cells, HP.out, rfl, res_done (n := 0) HR3.out.ev hot4⟩, HR3.out.bel.trans (hbl4 _ (Nat.le_refl _))⟩
        · have HP := Lib.hid (xparse_bad HEND.out heq)
          have hq : ((bstr (Ar.line (e))).toList == S.toList) = false := by rw [hcmp]; exact beq_eq_false_iff_ne.2 heq
          clear hcmp heq
          generalize bstr (Ar.line (e)) = Y at *
          go_wp2_with ((with_reducible refine wpList_store_rowk rfl 40 _ _ rfl w.heap.size zeroEv ?_ ?_ 40 zeroEv HR3.out.res ?_ rfl zero_one ?_); rfl; rfl; exact size_event; intro wz hkz hsz hblz hotz)
          refine bodyPost_ret (results_row_tmp rfl _ _ w.heap.size _ zeroEv _ rfl hkz Tryz.underlying40 rfl size_event) rfl ?_
          exact ⟨.inr ⟨HP.out, rfl⟩, HR3.out.bel.trans (hblz _ (Nat.le_refl _))⟩
      · have hem := some_ne ht
        have HNT := Lib.hid ht
        have HC1 := Lib.hid (fun W => name_any t W (by omega))
        clear ht
        generalize hTB : bstr t = TB at *
        go_wp2_with fail
        refine (HC1.out _).mono ?_
        rintro r w2 ⟨hna, hb2⟩
        have HR2 := Lib.hid (HRJ.out.below hb2)
        clear hb2
        rcases hna with ⟨i, t2, hn, rfl⟩ | ⟨hn, rfl⟩
        · obtain ⟨hi29, hl2⟩ := Ar.xname_some hn
          have HN := Lib.hid hn
          have HK2 := Lib.hid HR2.out.blk
          have HS2 : Hid ((Tryz.prog.info? 40).map (·.size) = some cells.size) := Lib.hid (by rw [size_event, HR2.out.ev.size])
          have HF2 := Lib.hid (field_any i hi29 _ cells e t2 w2 HR2.out.ev (by omega))
          clear hn
          generalize hT2 : bstr t2 = T2 at *
          go_wp2_with (first
            | (refine wpList_load_row rfl 40 _ rfl (w.heap.size + 1) rfl 40 cells (0, 0) _ HK2.out Tryz.underlying40 rfl HS2.out ?_))
          refine HF2.out.mono ?_
          rintro r w5 ⟨hfd, hb5⟩
          have HB5 := Lib.hid hb5
          clear hb5
          rcases hfd with ⟨v, q, cells', hf, rfl, he5⟩ | ⟨hf, cells', X, rfl, hsz, hone⟩
          · have HF := Lib.hid hf
            have HE5 := Lib.hid he5
            have hql := Ar.xfield_rest hf
            have HV : Hid (v.Fine s.length) := Lib.hid (Ar.xfield_fine s.length (by omega) hs hf)
            have H15 := Lib.hid he5.one
            have HS5 : Hid ((Tryz.prog.info? 40).map (·.size) = some cells'.size) := Lib.hid (by rw [size_event, HE5.out.size])
            have HZ5 : Hid (zeroEv.size = cells'.size) := Lib.hid (by rw [HE5.out.size]; rfl)
            have HC5 : Hid (cells.size = cells'.size) := Lib.hid (by rw [HE5.out.size, HR2.out.ev.size])
            have HL5 := Lib.hid (Nat.le_trans HR2.out.big HB5.out.size)
            have HB2 := Lib.hid (HR2.out.blk.below HB5.out HR2.out.blk.lt)
            have hbq := bstr_size q
            clear hf he5
            have HSG := Lib.hid (fun W => sign_any q 32 W (by omega))
            rw [show (((32 : UInt8).toNat : Nat) : Int) = 32 from rfl] at HSG
            by_cases hq : q = []
            · have hemq' := none_eq hq
              have HEND : Hid (Ar.xloopF (s.length + 1) (Ar.zeros Ar.NK) s = some (e.set i v)) := Lib.hid (by rw [HEQ.out]; exact Ar.xloopF_b HNT.out HN.out (by rw [← hq]; exact HF.out))
              clear hq
              generalize hRQ : bstr q = RQ at *
              go_wp2_with (first
                | ((with_reducible refine wpList_store_rowk rfl 40 _ _ rfl w5.heap.size cells' ?_ ?_ 40 _ (Blk.new w5 40 _) HS5.out ?_ H15.out ?_); rfl; rfl; exact HZ5.out; intro w6 hk6 hs6 hbl6 hot6
                   have HB6 : Hid (Below w5.heap.size w5 w6) := Lib.hid (((Below.refl w5.heap.size w5).alloc (Nat.le_refl _) _).trans (hbl6 w5.heap.size (Nat.le_refl _)))
                   have HK6 := Lib.hid hk6
                   have HB26 := Lib.hid (HB2.out.below HB6.out (by have := HL5.out; omega))
                   clear hk6 hot6 hbl6)
                | (refine wpList_load_row rfl 40 _ rfl w5.heap.size rfl 40 cells' (0, 0) _ HK6.out Tryz.underlying40 rfl HS5.out ?_)
                | ((with_reducible refine wpList_store_rowk rfl 40 _ _ rfl (w.heap.size + 1) cells' ?_ ?_ 40 cells HB26.out HS5.out ?_ H15.out ?_); rfl; rfl; exact HC5.out; intro w7 hk7 hs7 hbl7 hot7
                   have HK7 := Lib.hid hk7)
                | (refine wpList_load_row rfl 40 _ rfl (w.heap.size + 1) rfl 40 cells' (0, 0) _ HK7.out Tryz.underlying40 rfl HS5.out ?_))
              have HR7 := Lib.hid (HR2.out.next HB5.out HE5.out HV.out HB6.out hk7 hot7 hbl7)
              clear hk7 hot7 hbl7
              have HSE := HS5
              refine (revent_any _ cells' (e.set i v) w7 HR7.out.ev (fun v hv => (HR7.out.fine v hv).1) (Ar.line_le (e.set i v) s.length hs HR7.out.fine)).mono ?_
              rintro r w3 ⟨rfl, hb3⟩
              have HR3 := Lib.hid (HR7.out.below hb3)
              have HK3 := Lib.hid HR3.out.blk
              have H1C := Lib.hid HR3.out.ev.one
              have hcmp := str_beq (Ar.line (e.set i v)) s
              rw [hSS] at hcmp
              clear hb3
              by_cases heq : Ar.line (e.set i v) = s
              · have HP := Lib.hid (xparse_good HEND.out heq)
                have hq : ((bstr (Ar.line (e.set i v))).toList == S.toList) = true := by rw [hcmp, heq]; exact beq_self_eq_true _
                clear hcmp heq
                generalize bstr (Ar.line (e.set i v)) = Y at *
                go_wp2_with (first
                  | (refine wpList_load_row rfl 40 _ rfl (w.heap.size + 1) rfl 40 cells' (0, 0) _ HK3.out Tryz.underlying40 rfl HSE.out ?_)
                  | ((with_reducible refine wpList_store_rowk rfl 40 _ _ rfl w.heap.size cells' ?_ ?_ 40 zeroEv HR3.out.res HSE.out ?_ H1C.out ?_); rfl; rfl; exact (HR3.out.ev.size).symm; intro w4 hk4 hs4 hbl4 hot4))
                refine bodyPost_ret (results_row_tmp rfl _ _ w.heap.size _ cells' _ rfl hk4 Tryz.underlying40 rfl HSE.out) rfl ?_
                exact ⟨.inl ⟨e.set i v, cells', HP.out, rfl, res_done (n := 0) HR3.out.ev hot4⟩, HR3.out.bel.trans (hbl4 _ (Nat.le_refl _))⟩
              · have HP := Lib.hid (xparse_bad HEND.out heq)
                have hq : ((bstr (Ar.line (e.set i v))).toList == S.toList) = false := by rw [hcmp]; exact beq_eq_false_iff_ne.2 heq
                clear hcmp heq
                generalize bstr (Ar.line (e.set i v)) = Y at *
                go_wp2_with ((with_reducible refine wpList_store_rowk rfl 40 _ _ rfl w.heap.size zeroEv ?_ ?_ 40 zeroEv HR3.out.res ?_ rfl zero_one ?_); rfl; rfl; exact size_event; intro wz hkz hsz hblz hotz)
                refine bodyPost_ret (results_row_tmp rfl _ _ w.heap.size _ zeroEv _ rfl hkz Tryz.underlying40 rfl size_event) rfl ?_
                exact ⟨.inr ⟨HP.out, rfl⟩, HR3.out.bel.trans (hblz _ (Nat.le_refl _))⟩
            · have hemq' := some_ne hq
              have HNQ := Lib.hid hq
              clear hq
              generalize hRQ : bstr q = RQ at *
              go_wp2_with (first
                | ((with_reducible refine wpList_store_rowk rfl 40 _ _ rfl w5.heap.size cells' ?_ ?_ 40 _ (Blk.new w5 40 _) HS5.out ?_ H15.out ?_); rfl; rfl; exact HZ5.out; intro w6 hk6 hs6 hbl6 hot6
                   have HB6 : Hid (Below w5.heap.size w5 w6) := Lib.hid (((Below.refl w5.heap.size w5).alloc (Nat.le_refl _) _).trans (hbl6 w5.heap.size (Nat.le_refl _)))
                   have HK6 := Lib.hid hk6
                   have HB26 := Lib.hid (HB2.out.below HB6.out (by have := HL5.out; omega))
                   clear hk6 hot6 hbl6)
                | (refine wpList_load_row rfl 40 _ rfl w5.heap.size rfl 40 cells' (0, 0) _ HK6.out Tryz.underlying40 rfl HS5.out ?_)
                | ((with_reducible refine wpList_store_rowk rfl 40 _ _ rfl (w.heap.size + 1) cells' ?_ ?_ 40 cells HB26.out HS5.out ?_ H15.out ?_); rfl; rfl; exact HC5.out; intro w7 hk7 hs7 hbl7 hot7))
              have HR7 := Lib.hid (HR2.out.next HB5.out HE5.out HV.out HB6.out hk7 hot7 hbl7)
              clear hk7 hot7 hbl7
              refine (HSG.out _).mono ?_
              rintro r wS ⟨hsg, rfl⟩
              rcases hsg with ⟨u, hu, rfl⟩ | ⟨hu, rfl⟩
              · have hul := Ar.xsign_len hu
                have HEN : Hid (Ar.xloopF (s.length + 1) (Ar.zeros Ar.NK) s = Ar.xloopF m (e.set i v) u) := Lib.hid (by rw [HEQ.out]; exact Ar.xloopF_m HNT.out HN.out HF.out HNQ.out hu)
                have hbu := bstr_size u
                clear hu
                go_wp2_with fail
                go_roundw
                case rel => exact ⟨m, u, e.set i v, cells', rfl, HR7.out, by omega, by omega, HEN⟩
                case measure => show (bstr u).size < TB.size; omega
              · have HP : Hid (Ar.parse s = none) := Lib.hid (xparse_none (by rw [HEQ.out]; exact Ar.xloopF_s HNT.out HN.out HF.out HNQ.out hu))
                clear hu
                go_wp2_with ((with_reducible refine wpList_store_rowk rfl 40 _ _ rfl w.heap.size zeroEv ?_ ?_ 40 zeroEv HR7.out.res ?_ rfl zero_one ?_); rfl; rfl; exact size_event; intro wz hkz hsz hblz hotz)
                refine bodyPost_ret (results_row_tmp rfl _ _ w.heap.size _ zeroEv _ rfl hkz Tryz.underlying40 rfl size_event) rfl ?_
                exact ⟨.inr ⟨HP.out, rfl⟩, HR7.out.bel.trans (hblz _ (Nat.le_refl _))⟩
          · have HP : Hid (Ar.parse s = none) := Lib.hid (xparse_none (by rw [HEQ.out]; exact Ar.xloopF_f HNT.out HN.out hf))
            have HS5 : Hid ((Tryz.prog.info? 40).map (·.size) = some cells'.size) := Lib.hid (by rw [size_event, hsz])
            have HZ5 : Hid (zeroEv.size = cells'.size) := Lib.hid (by rw [hsz]; rfl)
            have H15 := Lib.hid hone
            have HR5 := Lib.hid (HR2.out.below HB5.out)
            clear hf hsz hone
            go_wp2_with (first
              | ((with_reducible refine wpList_store_rowk rfl 40 _ _ rfl w5.heap.size cells' ?_ ?_ 40 _ (Blk.new w5 40 _) HS5.out ?_ H15.out ?_); rfl; rfl; exact HZ5.out; intro w6 hk6 hs6 hbl6 hot6
                 have HR6 := Lib.hid (HR5.out.below (((Below.refl w5.heap.size w5).alloc (Nat.le_refl _) _).trans (hbl6 w5.heap.size (Nat.le_refl _))))
                 clear hk6 hot6 hbl6)
              | ((with_reducible refine wpList_store_rowk rfl 40 _ _ rfl w.heap.size zeroEv ?_ ?_ 40 zeroEv HR6.out.res ?_ rfl zero_one ?_); rfl; rfl; exact size_event; intro wz hkz hsz hblz hotz))
            refine bodyPost_ret (results_row_tmp rfl _ _ w.heap.size _ zeroEv _ rfl hkz Tryz.underlying40 rfl size_event) rfl ?_
            exact ⟨.inr ⟨HP.out, rfl⟩, HR6.out.bel.trans (hblz _ (Nat.le_refl _))⟩
        · have HP : Hid (Ar.parse s = none) := Lib.hid (xparse_none (by rw [HEQ.out]; exact Ar.xloopF_n HNT.out hn))
          clear hn
          go_wp2_with ((with_reducible refine wpList_store_rowk rfl 40 _ _ rfl w.heap.size zeroEv ?_ ?_ 40 zeroEv HR2.out.res ?_ rfl zero_one ?_); rfl; rfl; exact size_event; intro wz hkz hsz hblz hotz)
          refine bodyPost_ret (results_row_tmp rfl _ _ w.heap.size _ zeroEv _ rfl hkz Tryz.underlying40 rfl size_event) rfl ?_
          exact ⟨.inr ⟨HP.out, rfl⟩, HR2.out.bel.trans (hblz _ (Nat.le_refl _))⟩
end Go.Proofs.YteadlcncnhbmjaaGreatDoor
/- What ReadEvent reads is small. Plain lists. -/
namespace Ar
theorem xloopF_fine (N : Nat) (hN : N ≤ 100000) : ∀ (m : Nat) (e : List FV) (s : Str) (r : List FV), xloopF m e s = some r → s.length ≤ N → (∀ v ∈ e, v.Fine N) → ∀ v ∈ r, v.Fine N
  | 0, e, s, r, h, _, _ => by cases h
  | m + 1, e, s, r, h, hs, he => by
    unfold xloopF at h
    split at h
    · injection h with h; subst h; exact he
    · split at h
      · cases h
      · rename_i p hp
        split at h
        · cases h
        · rename_i q hq
          have h1 := xname_some (i := p.1) (t := p.2) hp
          have h2 := xfield_fine (v := q.1) (t := q.2) N (by omega) hN hq
          have h3 := xfield_rest (v := q.1) (t := q.2) hq
          have hset : ∀ v ∈ e.set p.1 q.1, v.Fine N := fun u hu => by
            rcases List.mem_or_eq_of_mem_set hu with hu | rfl
            · exact he u hu
            · exact h2
          split at h
          · injection h with h; subst h; exact hset
          · split at h
            · cases h
            · rename_i r' hr
              have h4 := xsign_len hr
              exact xloopF_fine N hN m _ r' r h (by omega) hset
theorem parse_fine {s : Str} {e : List FV} (h : parse s = some e) (hs : s.length ≤ 100000) : ∀ v ∈ e, v.Fine s.length := by
  rw [← xparse_eq] at h
  unfold xparse at h
  split at h
  · cases h
  · rename_i e' he
    split at h
    · injection h with h
      subst h
      refine xloopF_fine s.length hs _ _ _ _ he (Nat.le_refl _) fun v hv => ?_
      unfold zeros at hv
      obtain ⟨p, _, rfl⟩ := List.mem_map.1 hv
      exact zero_fine _ _
    · cases h
theorem parse_wok {s : Str} {e : List FV} (h : parse s = some e) (hs : s.length ≤ 100000) : ∀ v ∈ e, v.WOk := fun v hv => (parse_fine h hs v hv).1
end Ar
