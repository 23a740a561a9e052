/- The walk of search.Words. -/
import Derived.Test.YtfdcbmmafhjlfaaGreatSw7
namespace Go.Proofs.YtfdcbmmafhjlfaaGreat
open Go.RowKit Go.Lib
set_option linter.unusedVariables false

theorem small_zero (c : UInt8) (w : World) (h : c.toNat < 128) (hz : Sr.small c = 0) :
    Calls Tryz.prog 21 #[.int .i32 (c.toNat : Int)] w fun e w' => e = .returned (.int .u8 0) ∧ w = w' :=
  (small_low c w h).mono fun e w' ⟨h1, h2⟩ => ⟨h1.trans (by rw [hz]; rfl), h2⟩

/-- a separating rune: what the walk is told of it -/
theorem sep_step {w wr : World} {s : ByteArray} {pos : Nat} {ol : List (List UInt8)} {wl : List UInt8} {Ao Aw : Option Addr} {co cw : Nat} (hlt : pos < s.size) (hin : WIn w s w.heap.size pos ol wl Ao co Aw cw wr)
    (hrun : Sr.run ([], []) (s.data.toList.take pos) = (ol, wl)) (hsep : 128 ≤ (s[pos]'hlt).toNat ∨ Sr.small (s[pos]'hlt) = 0) :
    ∃ (r : Int) (pos' : Nat) (w1 : World), (∀ ty, (Instr.next (.pointer (some ⟨w.heap.size, 0, none⟩)) true ty).run Tryz.prog wr = .ok (.tuple #[.bool true, .int .i64 pos, .int .i32 r]) w1) ∧
      (∀ w', Calls Tryz.prog 21 #[.int .i32 r] w' fun e w'' => e = .returned (.int .u8 0) ∧ w' = w'') ∧ WIn w s w.heap.size pos' ol wl Ao co Aw cw w1 ∧ pos < pos' ∧ pos' ≤ s.size ∧
      Sr.run ([], []) (s.data.toList.take pos') = (Sr.fl ol wl, []) := by
  by_cases hc : (s[pos]'hlt).toNat < 128
  · have hz : Sr.small (s[pos]'hlt) = 0 := by rcases hsep with h | h; omega; exact h
    refine ⟨_, pos + 1, _, fun ty => run_next_ascii_at (P := Tryz.prog) wr w.heap.size s pos ty hin.iter hlt hc, fun w' => small_zero _ w' hc hz, hin.next (pos + 1), by omega, by omega, ?_⟩
    rw [take_snoc (at_str s pos hlt), Sr.run_snoc, hrun]
    unfold Sr.wstep
    rw [if_pos hz]
  · obtain ⟨h1, h2, h3⟩ := decode_skip s pos hlt (by omega)
    have h4 := decode_high s pos hlt (by omega)
    have h5 := decode_le s pos
    refine ⟨_, pos + (Utf8.decode s pos).2, _, fun ty => run_next_any_at (P := Tryz.prog) wr w.heap.size s pos ty hin.iter hlt, fun w' => small_high _ w' h4.1 h5, hin.next _, by omega, h2, ?_⟩
    rw [run_skip _ s pos _ h1 h2 h3, hrun]

set_option maxRecDepth 100000 in
theorem words_any (s : ByteArray) (w : World) (hs : s.size ≤ 2000) :
    Calls Tryz.prog 8 #[.string s] w fun e w' => (∃ v, e = .returned v ∧ OwnS w.heap.size w' v (Sr.words s.data.toList)) ∧ Below w.heap.size w w' := by
  obtain ⟨iu, hu, zu0, zu1, zu2⟩ := info_parts info_u8
  obtain ⟨is, hi, zs0, zs1, zs2⟩ := info_parts info_str
  have HU := Lib.hid hu
  have ZU0 := Lib.hid zu0
  have ZU1 := Lib.hid zu1
  have ZU2 := Lib.hid zu2
  have HI := Lib.hid hi
  have ZS0 := Lib.hid zs0
  have ZS1 := Lib.hid zs1
  have ZS2 := Lib.hid zs2
  clear hu zu0 zu1 zu2 hi zs0 zs1 zs2
  have HSZ := Lib.hid (str_size s)
  go_enter Tryz.func8, Tryz.ntmps8
  go_wp2_with fail
  go_loopw [3, 4] (fun o wd wr => WRel w s w.heap.size o wd wr) (fun _ _ wr => s.size - wr.iterPos w.heap.size)
  case atStart =>
    exact ⟨0, [], [], none, 0, none, 0, rfl, rfl, ⟨own_nil _ _ _, own_nil _ _ _, World.iter_heap w s 0, (Below.refl _ _).alloc (Nat.le_refl _) _⟩, by omega, by simp, by simp, rfl⟩
  case round =>
    obtain ⟨pos, ol, wl, Ao, co, Aw, cw, rfl, rfl, hin, hp, hol, hwl, hrun⟩ := hrel
    by_cases hlt : pos < s.size
    · have HM := Lib.hid (iterPos_of hin.iter)
      by_cases hsep : 128 ≤ (s[pos]'hlt).toNat ∨ Sr.small (s[pos]'hlt) = 0
      · obtain ⟨r, pos', w1, hnx, hsm, hin1, hpp, hps, hrun1⟩ := sep_step hlt hin hrun hsep
        have HR := Lib.hid hrun1
        have HSM := Lib.hid hsm
        clear hrun hrun1 hsm hsep hlt
        by_cases he : wl = []
        · subst he
          go_wp2_with (go_at_call 21; refine (HSM.out _).mono ?_; rintro e w' ⟨rfl, rfl⟩)
          go_roundw
          case rel => exact ⟨pos', ol, [], Ao, co, Aw, cw, rfl, rfl, hin1, hps, by omega, by simp, HR.out⟩
          case measure => rw [HM.out, iterPos_of hin1.iter]; omega
        · have hpos : 0 < wl.length := List.length_pos_iff.2 he
          have HE := Lib.hid he
          have hcv := run_conv_bs w1 62 9 5 Tryz.underlying62 Tryz.underlying5 Tryz.underlying9 Aw wl.length cw wl (Rd.of_own hin1.word)
          clear he
          go_wp2_with (first
            | (go_at_call 21; refine (HSM.out _).mono ?_; rintro e w' ⟨rfl, rfl⟩)
            | (at_builtin; refine wpList_append_rd rfl _ _ 24 9 rfl is _ 16 Tryz.underlying24 HI.out ZS0.out ZS1.out ZS2.out rfl (w.heap.size + 1) _ ol.length (strL ol) rfl (hin1.out.alloc _) (some ⟨w1.heap.size, 0, none⟩) 1 1 (strL [wl]) rfl (Rd.of_blk (Blk.new _ _ _)) (one_strs _) (ol.length + 1) rfl (by unfold maxLen; omega) (by omega) (by have := iter_lt hin1.iter; simp; omega) ?_; intro A2 cap2 w2 ho2 hg2))
          have hin2 := hin1.add (ol' := ol ++ [wl]) hg2 (by rw [List.length_append, strL_append]; exact ho2)
          go_roundw
          case rel => exact ⟨pos', ol ++ [wl], [], A2, cap2, none, 0, by rw [List.length_append]; rfl, rfl, hin2, hps, by rw [List.length_append]; simp; omega, by simp, by rw [HR.out]; unfold Sr.fl; rw [if_neg HE.out]⟩
          case measure => rw [HM.out, iterPos_of hin2.iter]; omega
      · have hc : (s[pos]'hlt).toNat < 128 := by omega
        have hz : Sr.small (s[pos]'hlt) ≠ 0 := fun h => hsep (.inr h)
        have hnx := fun ty => run_next_ascii_at (P := Tryz.prog) wr w.heap.size s pos ty hin.iter hlt hc
        have hin1 := hin.next (pos + 1)
        generalize wr.iterAt w.heap.size s (pos + 1) = w1 at hnx hin1
        have HR : Hid (Sr.run ([], []) (s.data.toList.take (pos + 1)) = (ol, wl ++ [Sr.small (s[pos]'hlt)])) := Lib.hid (by
          rw [take_snoc (at_str s pos hlt), Sr.run_snoc, hrun]
          unfold Sr.wstep
          rw [if_neg hz])
        generalize s[pos]'hlt = c at *
        have hz1 : ((Sr.small c).toNat : Int) ≠ 0 := by
          intro e
          exact hz (UInt8.toNat_inj.1 (by rw [show (0 : UInt8).toNat = 0 from rfl]; omega))
        have hz2 : (((Sr.small c).toNat : Int) != 0) = true := by rw [bne_iff_ne]; exact hz1
        clear hz hz1 hsep hrun
        go_wp2_with (first
          | (go_at_call 21; refine (small_low _ _ hc).mono ?_; rintro e w' ⟨rfl, rfl⟩)
          | (at_builtin; refine wpList_append_rd rfl _ _ 62 5 rfl iu _ 1 Tryz.underlying62 HU.out ZU0.out ZU1.out ZU2.out rfl (w.heap.size + 1) _ wl.length (bytesL wl) rfl (hin1.word.alloc _) (some ⟨w1.heap.size, 0, none⟩) 1 1 (bytesL [Sr.small c]) rfl (Rd.of_blk (Blk.new _ _ _)) (one_bytes _) (wl.length + 1) rfl (by unfold maxLen; omega) (by omega) (by have := iter_lt hin1.iter; simp; omega) ?_; intro A2 cap2 w2 ho2 hg2))
        have hin2 := hin1.put (wl' := wl ++ [Sr.small c]) hg2 (by rw [List.length_append, bytesL_append]; exact ho2)
        go_roundw
        case rel => exact ⟨pos + 1, ol, wl ++ [Sr.small c], Ao, co, A2, cap2, rfl, by rw [List.length_append]; rfl, hin2, by omega, by omega, by rw [List.length_append]; simp; omega, HR.out⟩
        case measure => rw [HM.out, iterPos_of hin2.iter]; omega
    · have hnx := fun ty => run_next_end_at (P := Tryz.prog) wr w.heap.size s pos ty hin.iter hlt
      have hraw : Sr.fl ol wl = Sr.raw s.data.toList := by
        rw [List.take_of_length_le (by rw [← str_size]; omega)] at hrun
        unfold Sr.raw
        rw [hrun]
      have HIN := Lib.hid hin
      have HRAW := Lib.hid hraw
      have hit := iter_lt hin.iter
      clear hrun hin hraw
      by_cases he : wl = []
      · have hfo : ol = Sr.raw s.data.toList := by
          rw [← HRAW.out]
          unfold Sr.fl
          rw [if_pos he]
        have HFO := Lib.hid hfo
        have HSL : Hid ((ol.mergeSort fun x y => decide (x ≤ y)).length = ol.length) := Lib.hid (List.length_mergeSort _)
        subst he
        clear hfo
        go_wp2_with (first
          | (go_at_call 22; refine (sort_own HIN.out.out (by omega)).mono ?_; rintro e w1 ⟨rfl, ho1, hg1⟩)
          | (go_at_call 23; refine (compact_own_n HSL.out ho1 (by omega)).mono ?_; rintro e w2 ⟨rfl, ho2, hg2⟩))
        go_ret
        have hb1 := HIN.out.below.grown hg1 (Nat.le_of_lt hit) (fun g hg => by have := (HIN.out.out.lt g hg).1; omega)
        have hb2 := hb1.grown hg2 (by have := hg1.size; omega) (fun g hg => by have := (HIN.out.out.lt g hg).1; omega)
        refine ⟨⟨_, rfl, ?_⟩, hb2⟩
        unfold Sr.words
        rw [← HFO.out]
        exact names_own ho2 _ (by omega)
      · have hfo : ol ++ [wl] = Sr.raw s.data.toList := by
          rw [← HRAW.out]
          unfold Sr.fl
          rw [if_neg he]
        have HFO := Lib.hid hfo
        have hpos : 0 < wl.length := List.length_pos_iff.2 he
        have HSL : Hid (((ol ++ [wl]).mergeSort fun x y => decide (x ≤ y)).length = ol.length + 1) := Lib.hid (by rw [List.length_mergeSort, List.length_append]; rfl)
        have HAL : Hid ((ol ++ [wl]).length = ol.length + 1) := Lib.hid (by rw [List.length_append]; rfl)
        have hcv := run_conv_bs wr 62 9 5 Tryz.underlying62 Tryz.underlying5 Tryz.underlying9 Aw wl.length cw wl (Rd.of_own HIN.out.word)
        clear hfo he
        go_wp2_with (first
          | (at_builtin; refine wpList_append_rd rfl _ _ 24 9 rfl is _ 16 Tryz.underlying24 HI.out ZS0.out ZS1.out ZS2.out rfl (w.heap.size + 1) _ ol.length (strL ol) rfl (HIN.out.out.alloc _) (some ⟨wr.heap.size, 0, none⟩) 1 1 (strL [wl]) rfl (Rd.of_blk (Blk.new _ _ _)) (one_strs _) (ol.length + 1) rfl (by unfold maxLen; omega) (by omega) (by simp; omega) ?_; intro A3 cap3 w3 ho3 hg3)
          | (go_at_call 22; refine (sort_own_n (ss := ol ++ [wl]) HAL.out (by rw [strL_append]; exact ho3) (by omega)).mono ?_; rintro e w1 ⟨rfl, ho1, hg1⟩)
          | (go_at_call 23; refine (compact_own_n HSL.out ho1 (by omega)).mono ?_; rintro e w2 ⟨rfl, ho2, hg2⟩))
        go_ret
        have hb3 := (HIN.out.below.alloc (Nat.le_of_lt hit) _).grown hg3 (by simp; omega) (fun g hg => by have := (HIN.out.out.lt g hg).1; omega)
        have s3 := hg3.size
        have hb1 := hb3.grown hg1 (by simp at s3; omega) (fun g hg => by have := (ho3.lt g hg).1; omega)
        have hb2 := hb1.grown hg2 (by have := hg1.size; simp at s3; omega) (fun g hg => by have := (ho3.lt g hg).1; omega)
        refine ⟨⟨_, rfl, ?_⟩, hb2⟩
        unfold Sr.words
        rw [← HFO.out]
        exact names_own ho2 _ (by omega)
end Go.Proofs.YtfdcbmmafhjlfaaGreat
