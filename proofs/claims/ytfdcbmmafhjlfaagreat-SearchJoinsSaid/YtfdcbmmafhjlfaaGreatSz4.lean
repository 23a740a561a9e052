/- The walk of the law that joins: without the reference. -/
import Derived.Test.YtfdcbmmafhjlfaaGreatSz2
import Derived.Test.YtfdcbmmafhjlfaaGreatSz3
namespace Go.Proofs.YtfdcbmmafhjlfaaGreat
open Go.RowKit Go.Lib
set_option linter.unusedVariables false

/-- two texts with a blank between them -/
theorem join_list (s q : ByteArray) : (s ++ (⟨#[32]⟩ : ByteArray) ++ q).data.toList = s.data.toList ++ 32 :: q.data.toList := by
  simp
theorem small_blank : Sr.small 32 = 0 := by decide
theorem words_join (s q : ByteArray) : Sr.words (s ++ (⟨#[32]⟩ : ByteArray) ++ q).data.toList = Sr.names (Sr.words s.data.toList ++ Sr.words q.data.toList) := by
  rw [join_list, Sr.words_sep _ _ _ small_blank]
theorem words_join2 (s q : ByteArray) : Sr.words (q ++ (⟨#[32]⟩ : ByteArray) ++ s).data.toList = Sr.names (Sr.words s.data.toList ++ Sr.words q.data.toList) := by
  rw [join_list, ← Sr.words_comm _ _ _ small_blank, Sr.words_sep _ _ _ small_blank]
theorem join_size (s q : ByteArray) : (s ++ (⟨#[32]⟩ : ByteArray) ++ q).size = s.size + 1 + q.size := by
  rw [str_size, join_list, List.length_append, List.length_cons, ← str_size, ← str_size]
  omega

theorem keep_below {w w' : World} {a : Addr} {v : Value} (h : w.cell? a = some v) (hb : Below w.heap.size w w') : w'.cell? a = some v := (hb.cell (block_lt h)).trans h
theorem keep_alloc {w : World} {a : Addr} {v : Value} (h : w.cell? a = some v) (o : Obj) : (w.alloc o).cell? a = some v := keep_below h ((Below.refl _ _).alloc (Nat.le_refl _) _)
theorem keep_drewN {w : World} {a : Addr} {v : Value} (h : w.cell? a = some v) (q : Nat) : (w.drewN q).cell? a = some v := h
theorem keep_drew {w : World} {a : Addr} {v : Value} (h : w.cell? a = some v) : w.drew.cell? a = some v := h
set_option maxHeartbeats 4000000 in
set_option maxRecDepth 100000 in
theorem searchjoins_any (s q : ByteArray) (w : World) : Calls Tryz.prog 5 #[.string s, .string q] w fun e w' => e = .returned (.bool true) ∧ Below w.heap.size w w' := by
  by_cases hs : s.size ≤ 200
  · by_cases hq : q.size ≤ 200
    · obtain ⟨is, hi, zs0, zs1, zs2⟩ := info_parts info_str
      have HI := Lib.hid hi
      have ZS0 := Lib.hid zs0
      have ZS1 := Lib.hid zs1
      have ZS2 := Lib.hid zs2
      clear hi zs0 zs1 zs2
      go_enter Tryz.func5, Tryz.ntmps5
      go_wp2_with fail
      refine (words_any s _ (by omega)).mono ?_
      rintro e w1 ⟨⟨v1, rfl, A1, c1, rfl, ho1⟩, hb1⟩
      go_wp2_with fail
      refine (words_any q _ (by omega)).mono ?_
      rintro e w2 ⟨⟨v2, rfl, A2, c2, rfl, ho2⟩, hb2⟩
      have hr1 := (Rd.of_own ho1).below hb2
      have hr2 := Rd.of_own ho2
      have hB2 := hb1.trans (hb2.mono hb1.size)
      clear ho1 ho2 hb1 hb2
      have hl1 := words_len s.data.toList
      rw [← str_size] at hl1
      have hl2 := words_len q.data.toList
      rw [← str_size] at hl2
      have HJ := Lib.hid (words_join s q)
      have HJ2 := Lib.hid (words_join2 s q)
      have HFL := Lib.hid (Sr.words_flip s.data.toList)
      have HSC : Hid (Sr.score s.data.toList q.data.toList = cnt (Sr.words s.data.toList) (Sr.words q.data.toList) (Sr.words q.data.toList).length) := Lib.hid (cnt_all _ _).symm
      have HSC2 := Lib.hid (Sr.score_comm q.data.toList s.data.toList)
      have HSS := Lib.hid (Sr.score_self s.data.toList)
      have HW1 : Hid (∀ x ∈ Sr.words s.data.toList, x.length ≤ 200) := Lib.hid (fun x hx => Nat.le_trans (Sr.words_short _ _ hx) (by rw [← str_size]; exact hs))
      have HW2 : Hid (∀ x ∈ Sr.words q.data.toList, x.length ≤ 200) := Lib.hid (fun x hx => Nat.le_trans (Sr.words_short _ _ hx) (by rw [← str_size]; exact hq))
      have HOF : Hid (∀ x ∈ Sr.words q.data.toList, Sr.words x = [x]) := Lib.hid (fun x hx => Sr.words_of _ _ hx)
      generalize hws : Sr.words s.data.toList = ws at *
      generalize hwq : Sr.words q.data.toList = wq at *
      clear hws hwq
      have hk3 := World.ownsRow_lit (base := w2.heap.size) (e := 9) (size := 1) w2 #[] 0 (Nat.le_refl _) (by decide) rfl
      have hb3 : Below w2.heap.size w2 (w2.alloc (.cells #[] 9)) := (Below.refl _ _).alloc (Nat.le_refl _) _
      have hr13 := hr1.below hb3
      have hr23 := hr2.below hb3
      go_wp2_with (first
        | (at_builtin; refine wpList_append_rd rfl _ _ 24 9 rfl is _ 16 Tryz.underlying24 HI.out ZS0.out ZS1.out ZS2.out rfl w2.heap.size _ 0 [] rfl hk3 A1 ws.length c1 (strL ws) rfl hr13 (one_strs _) ws.length (by omega) (by unfold maxLen; omega) (by omega) (by simp) ?_; intro A4 cap4 w4 ho4 hg4; have hb4 := hb3.grown hg4 (by simp) (fun g hg => (hk3.lt g hg).1); have hr24 := hr2.below hb4; have hs4 := hb4.size)
        | (at_builtin; refine wpList_append_rd rfl _ _ 24 9 rfl is _ 16 Tryz.underlying24 HI.out ZS0.out ZS1.out ZS2.out rfl w2.heap.size _ ws.length ([] ++ strL ws) rfl ho4 A2 wq.length c2 (strL wq) rfl hr24 (one_strs _) (ws.length + wq.length) rfl (by unfold maxLen; omega) (by omega) hs4 ?_; intro A5 cap5 w5 ho5 hg5))
      have hb5 := hb4.grown hg5 hs4 (fun g hg => (ho4.lt g hg).1)
      have hr15 := hr1.below hb5
      have hr25 := hr2.below hb5
      have hr5 : Rd w5 A5 (ws.length + wq.length) (strL (ws ++ wq)) := by
        rw [strL_append]
        exact Rd.of_own ho5
      have hB5 := hB2.trans (hb5.mono hB2.size)
      clear hr1 hr2 hr13 hr23 hr24 hk3 hb3 hb4 hb5 ho4 ho5 hg4 hg5 hB2 hs4
      refine (inames_any A5 (ws.length + wq.length) cap5 (ws ++ wq) _ hr5 (by omega) (fun x hx => by
        rcases List.mem_append.1 hx with e | e
        · exact Nat.le_trans (HW1.out x e) (by omega)
        · exact Nat.le_trans (HW2.out x e) (by omega))).mono ?_
      rintro e w6 ⟨⟨v6, rfl, A6, c6, rfl, ho6⟩, hb6⟩
      have hr16 := hr15.below hb6
      have hr26 := hr25.below hb6
      have hr6 := Rd.of_own ho6
      have hB6 := hB5.trans (hb6.mono hB5.size)
      have hl6 : (Sr.names (ws ++ wq)).length ≤ 1000 := by
        have h := names_len (ws ++ wq)
        rw [List.length_append] at h
        omega
      clear hr5 hr15 hr25 ho6 hb6 hB5
      generalize Sr.names (ws ++ wq) = all at *
      go_wp2_with fail
      refine (words_any (s ++ (⟨#[32]⟩ : ByteArray) ++ q) _ (by rw [join_size]; omega)).mono ?_
      rintro e w7 ⟨⟨v7, rfl, A7, c7, rfl, ho7⟩, hb7⟩
      rw [HJ.out] at ho7 ⊢
      have hr67 := hr6.below hb7
      have hr17 := hr16.below hb7
      have hr27 := hr26.below hb7
      have hr7 := Rd.of_own ho7
      have hB7 := hB6.trans (hb7.mono hB6.size)
      clear hr6 hr16 hr26 ho7 hb7 hB6
      go_wp2_with fail
      refine (rsame_any _ _ _ _ _ _ all all _ hr7 hr67 (by omega) (by omega)).mono ?_
      rintro e w8 ⟨rfl, q8, rfl⟩
      rw [show decide (all = all) = true from decide_eq_true rfl]
      have hr68 := hr67.drewN q8
      have hr18 := hr17.drewN q8
      have hr28 := hr27.drewN q8
      have hB8 := below_drewN hB7 q8
      clear hr67 hr17 hr27 hr7 hB7
      generalize w7.drewN q8 = w8 at *
      go_wp2_with fail
      refine (words_any (q ++ (⟨#[32]⟩ : ByteArray) ++ s) _ (by rw [join_size]; omega)).mono ?_
      rintro e w9 ⟨⟨v9, rfl, A9, c9, rfl, ho9⟩, hb9⟩
      rw [HJ2.out] at ho9 ⊢
      have hr69 := hr68.below hb9
      have hr19 := hr18.below hb9
      have hr29 := hr28.below hb9
      have hr9 := Rd.of_own ho9
      have hB9 := hB8.trans (hb9.mono hB8.size)
      clear hr68 hr18 hr28 ho9 hb9 hB8
      go_wp2_with fail
      refine (rsame_any _ _ _ _ _ _ all all _ hr9 hr69 (by omega) (by omega)).mono ?_
      rintro e w10 ⟨rfl, q10, rfl⟩
      rw [show decide (all = all) = true from decide_eq_true rfl]
      have hr110 := hr19.drewN q10
      have hr210 := hr29.drewN q10
      have hB10 := below_drewN hB9 q10
      clear hr69 hr19 hr29 hr9 hB9
      generalize w9.drewN q10 = w10 at *
      go_wp2_with fail
      refine (turned_any s _ (by omega)).mono ?_
      rintro e w11 ⟨rfl, hb11⟩
      have hr111 := hr110.below hb11
      have hr211 := hr210.below hb11
      have hB11 := hB10.trans (hb11.mono hB10.size)
      clear hr110 hr210 hb11 hB10
      go_wp2_with fail
      refine (words_any (bstr (s.data.toList.map Sr.flip)) _ (by rw [bstr_size, List.length_map, ← str_size]; omega)).mono ?_
      rintro e w12 ⟨⟨v12, rfl, A12, c12, rfl, ho12⟩, hb12⟩
      rw [bstr_list, HFL.out] at ho12 ⊢
      have hr112 := hr111.below hb12
      have hr212 := hr211.below hb12
      have hr12 := Rd.of_own ho12
      have hB12 := hB11.trans (hb12.mono hB11.size)
      clear hr111 hr211 ho12 hb12 hB11
      go_wp2_with fail
      refine (rsame_any _ _ _ _ _ _ ws ws _ hr12 hr112 (by omega) (by omega)).mono ?_
      rintro e w13 ⟨rfl, q13, rfl⟩
      rw [show decide (ws = ws) = true from decide_eq_true rfl]
      have hr113 := hr112.drewN q13
      have hr213 := hr212.drewN q13
      have hB13 := below_drewN hB12 q13
      clear hr112 hr212 hr12 hB12
      generalize w12.drewN q13 = w13 at *
      have HR1 := Lib.hid hr113
      have HR2 := Lib.hid hr213
      have HB := Lib.hid hB13
      clear hr113 hr213 hB13
      go_wp2_with fail
      have hcz : cnt ws wq 0 = 0 := by simp [cnt]
      go_loopw [8, 9] (fun nn i wr => ∃ k : Nat, k ≤ wq.length ∧ i = .int .i64 k ∧ nn = .int .i64 (cnt ws wq k) ∧ Below w13.heap.size w13 wr) (fun _ i _ => wq.length - (intOf i).toNat)
      case atStart => exact ⟨0, by omega, rfl, by rw [hcz]; rfl, Below.refl _ _⟩
      case round =>
        obtain ⟨k, hk, rfl, rfl, hbr⟩ := hrel
        clear hcz
        have hcl := cnt_le ws wq k
        by_cases hlt : k < wq.length
        · have hr1k := HR1.out.below hbr
          have hr2k := HR2.out.below hbr
          obtain ⟨bb, ob, x, rfl, hx, hcx⟩ := hr2k.str hlt
          have hxm : x ∈ wq := List.mem_of_getElem? hx
          have HOX := Lib.hid (HOF.out x hxm)
          have hxs : x.length ≤ 200 := HW2.out x hxm
          by_cases hm : x ∈ ws
          · have HC := Lib.hid (cnt_yes hx hm)
            have HDM := Lib.hid (findI_mem.2 hm)
            have HR1K := Lib.hid hr1k
            have HBR := Lib.hid hbr
            clear hx hm hxm hr1k hr2k hbr
            have hdm : 0 ≤ findI ws x := HDM.out
            go_wp2_with fail
            refine (ifind_any _ _ _ ws x _ HR1K.out (by omega)).mono ?_
            rintro e w14 ⟨rfl, rfl⟩
            generalize findI ws x = fi at *
            go_wp2_with fail
            go_region_held3 (fun W => W.cell? ⟨bb, ob + k, none⟩ = some (.string (bstr x))) (first | with_reducible exact hcx | with_reducible exact keep_drew hcx | with_reducible exact keep_drew (keep_alloc hcx _) | with_reducible exact keep_below (keep_drew hcx) hbA | with_reducible exact keep_below (keep_drew (keep_alloc hcx _)) hbA | with_reducible exact keep_alloc (keep_below (keep_drew hcx) hbA) _ | with_reducible exact keep_drewN (keep_alloc (keep_below (keep_drew hcx) hbA) _) _ | with_reducible exact keep_drewN (keep_below (keep_drew (keep_alloc hcx _)) hbA) _) (first | (go_at_call 8; refine (words_any (bstr x) _ (by rw [bstr_size]; omega)).mono ?_; rintro e wA ⟨⟨vA, rfl, AA, cA, rfl, hoA⟩, hbA⟩; rw [bstr_list, HOX.out] at hoA ⊢; have hRA1 : Rd wA AA 1 (strL [x]) := Rd.of_own hoA; have hRA2 : Rd (wA.alloc (.cells #[.string (bstr x)] 9)) AA 1 (strL [x]) := hRA1.below ((Below.refl _ _).alloc (Nat.le_refl _) _); have hLT1 : Rd (wA.alloc (.cells #[.string (bstr x)] 9)) (some ⟨wA.heap.size, 0, none⟩) 1 (strL [x]) := Rd.of_blk (vs := strL [x]) (Blk.new wA 9 _); try have hLT2 : Rd wA (some ⟨wr.heap.size, 0, none⟩) 1 (strL [x]) := (((Rd.of_blk (vs := strL [x]) (Blk.new wr 9 _)).drew).below hbA)) | (go_at_call 7; ((with_reducible refine (rsame_any AA _ 1 1 cA 1 [x] [x] _ hRA2 hLT1 (by omega) (by omega)).mono ?_); rintro e wB ⟨rfl, qB, rfl⟩; rw [show decide ([x] = [x]) = true from decide_eq_true rfl]; have hbE := below_drewN (((Below.refl _ _).drew.trans hbA).alloc (Nat.le_trans (Nat.le_refl _) hbA.size) (.cells #[.string (bstr x)] 9)) qB)) | (go_at_call 7; ((with_reducible refine (rsame_any AA _ 1 1 cA 1 [x] [x] _ hRA1 hLT2 (by omega) (by omega)).mono ?_); rintro e wB ⟨rfl, qB, rfl⟩; rw [show decide ([x] = [x]) = true from decide_eq_true rfl]; have hbE := below_drewN (((((Below.refl _ wr).alloc (Nat.le_refl _) (.cells #[.string (bstr x)] 9)).drew).trans (hbA.mono (by simp)))) qB)))
            all_goals
              go_wp2_with fail
              go_roundw
              case rel => exact ⟨k + 1, by omega, by go_num, by rw [HC.out]; go_num, HBR.out.trans (hbE.mono HBR.out.size)⟩
              case measure => simp [intOf]; omega
          · have HC := Lib.hid (cnt_no hx hm)
            have HDM : Hid (findI ws x = -1) := Lib.hid (findI_none hm)
            have HR1K := Lib.hid hr1k
            have HBR := Lib.hid hbr
            clear hx hm hxm hr1k hr2k hbr
            go_wp2_with fail
            refine (ifind_any _ _ _ ws x _ HR1K.out (by omega)).mono ?_
            rintro e w14 ⟨rfl, rfl⟩
            rw [HDM.out]
            go_wp2_with fail
            go_region_held3 (fun W => W.cell? ⟨bb, ob + k, none⟩ = some (.string (bstr x))) (first | with_reducible exact hcx | with_reducible exact keep_drew hcx | with_reducible exact keep_drew (keep_alloc hcx _) | with_reducible exact keep_below (keep_drew hcx) hbA | with_reducible exact keep_below (keep_drew (keep_alloc hcx _)) hbA | with_reducible exact keep_alloc (keep_below (keep_drew hcx) hbA) _ | with_reducible exact keep_drewN (keep_alloc (keep_below (keep_drew hcx) hbA) _) _ | with_reducible exact keep_drewN (keep_below (keep_drew (keep_alloc hcx _)) hbA) _) (first | (go_at_call 8; refine (words_any (bstr x) _ (by rw [bstr_size]; omega)).mono ?_; rintro e wA ⟨⟨vA, rfl, AA, cA, rfl, hoA⟩, hbA⟩; rw [bstr_list, HOX.out] at hoA ⊢; have hRA1 : Rd wA AA 1 (strL [x]) := Rd.of_own hoA; have hRA2 : Rd (wA.alloc (.cells #[.string (bstr x)] 9)) AA 1 (strL [x]) := hRA1.below ((Below.refl _ _).alloc (Nat.le_refl _) _); have hLT1 : Rd (wA.alloc (.cells #[.string (bstr x)] 9)) (some ⟨wA.heap.size, 0, none⟩) 1 (strL [x]) := Rd.of_blk (vs := strL [x]) (Blk.new wA 9 _); try have hLT2 : Rd wA (some ⟨wr.heap.size, 0, none⟩) 1 (strL [x]) := (((Rd.of_blk (vs := strL [x]) (Blk.new wr 9 _)).drew).below hbA)) | (go_at_call 7; ((with_reducible refine (rsame_any AA _ 1 1 cA 1 [x] [x] _ hRA2 hLT1 (by omega) (by omega)).mono ?_); rintro e wB ⟨rfl, qB, rfl⟩; rw [show decide ([x] = [x]) = true from decide_eq_true rfl]; have hbE := below_drewN (((Below.refl _ _).drew.trans hbA).alloc (Nat.le_trans (Nat.le_refl _) hbA.size) (.cells #[.string (bstr x)] 9)) qB)) | (go_at_call 7; ((with_reducible refine (rsame_any AA _ 1 1 cA 1 [x] [x] _ hRA1 hLT2 (by omega) (by omega)).mono ?_); rintro e wB ⟨rfl, qB, rfl⟩; rw [show decide ([x] = [x]) = true from decide_eq_true rfl]; have hbE := below_drewN (((((Below.refl _ wr).alloc (Nat.le_refl _) (.cells #[.string (bstr x)] 9)).drew).trans (hbA.mono (by simp)))) qB)))
            all_goals
              go_wp2_with fail
              go_roundw
              case rel => exact ⟨k + 1, by omega, by go_num, by rw [HC.out], HBR.out.trans (hbE.mono HBR.out.size)⟩
              case measure => simp [intOf]; omega
        · obtain rfl : k = wq.length := by omega
          have HBE := Lib.hid (HB.out.trans (hbr.mono HB.out.size))
          clear hbr
          rw [← HSC.out]
          go_wp2_with fail
          refine (score_any s q _ (by omega) (by omega)).mono ?_
          rintro e w20 ⟨rfl, hb20⟩
          have HB20 := Lib.hid (HBE.out.trans (hb20.mono HBE.out.size))
          clear hb20
          go_wp2_with fail
          refine (score_any q s _ (by omega) (by omega)).mono ?_
          rintro e w21 ⟨rfl, hb21⟩
          have HB21 := Lib.hid (HB20.out.trans (hb21.mono HB20.out.size))
          clear hb21
          rw [HSC2.out]
          go_wp2_with fail
          refine (score_any s s _ (by omega) (by omega)).mono ?_
          rintro e w22 ⟨rfl, hb22⟩
          have HB22 := Lib.hid (HB21.out.trans (hb22.mono HB21.out.size))
          clear hb22
          rw [HSS.out]
          go_wp2_with fail
          refine (awake_any _).mono ?_
          rintro e w23 ⟨rfl, hb23⟩
          go_wp2_with fail
          go_ret
          exact ⟨rfl, HB22.out.trans (hb23.mono HB22.out.size)⟩
    · go_enter Tryz.func5, Tryz.ntmps5
      go_wp2_with (go_at_call 6; refine (awake_any _).mono ?_; rintro e w6 ⟨rfl, hb6⟩)
      go_ret
      exact ⟨rfl, hb6⟩
  · go_enter Tryz.func5, Tryz.ntmps5
    go_wp2_with (go_at_call 6; refine (awake_any _).mono ?_; rintro e w6 ⟨rfl, hb6⟩)
    go_ret
    exact ⟨rfl, hb6⟩
end Go.Proofs.YtfdcbmmafhjlfaaGreat
