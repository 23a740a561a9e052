/- The walk of the reference's Words. -/
import Derived.Test.YtfdcbmmafhjlfaaGreatSw6
namespace Go.Proofs.YtfdcbmmafhjlfaaGreat
open Go.RowKit Go.Lib
set_option linter.unusedVariables false

theorem bstr_append (a b : List UInt8) : bstr a ++ bstr b = bstr (a ++ b) := by
  apply str_eq
  simp [bstr]
def rst (s : ByteArray) (i : Nat) : Sr.St := if i ≤ s.size then Sr.run ([], []) (s.data.toList.take i) else (Sr.raw s.data.toList, [])
theorem rst_letter (s : ByteArray) (i : Nat) (h : i < s.size) (hz : Sr.small (s[i]'h) ≠ 0) : rst s (i + 1) = ((rst s i).1, (rst s i).2 ++ [Sr.small (s[i]'h)]) := by
  unfold rst
  rw [if_pos (by omega), if_pos (by omega), take_snoc (at_str s i h), Sr.run_snoc]
  show Sr.wstep (Sr.run ([], []) (List.take i s.data.toList)) (s[i]'h) = _
  unfold Sr.wstep
  rw [if_neg hz]
theorem rst_sep (s : ByteArray) (i : Nat) (hi : i ≤ s.size) (hz : ∀ h : i < s.size, Sr.small (s[i]'h) = 0) : rst s (i + 1) = (Sr.fl (rst s i).1 (rst s i).2, []) := by
  unfold rst
  by_cases h : i < s.size
  · rw [if_pos (by omega), if_pos (by omega), take_snoc (at_str s i h), Sr.run_snoc]
    show Sr.wstep (Sr.run ([], []) (List.take i s.data.toList)) (s[i]'h) = _
    unfold Sr.wstep
    rw [if_pos (hz h)]
  · rw [if_neg (by omega), if_pos (by omega), List.take_of_length_le (by rw [← str_size]; omega)]
    rfl
theorem rst_len (s : ByteArray) : ∀ i, i ≤ s.size + 1 → (rst s i).1.length ≤ i ∧ (rst s i).2.length ≤ i
  | 0, _ => by simp [rst, Sr.run]
  | i + 1, hi => by
    obtain ⟨h1, h2⟩ := rst_len s i (by omega)
    by_cases h : i < s.size
    · by_cases hz : Sr.small (s[i]'h) = 0
      · rw [rst_sep s i (by omega) (fun _ => hz)]
        unfold Sr.fl
        split
        · exact ⟨Nat.le_succ_of_le h1, by simp⟩
        · exact ⟨by rw [List.length_append]; simp; omega, by simp⟩
      · rw [rst_letter s i h hz]
        exact ⟨Nat.le_succ_of_le h1, by rw [List.length_append]; simp; omega⟩
    · rw [rst_sep s i (by omega) (fun h' => absurd h' h)]
      unfold Sr.fl
      split
      · exact ⟨Nat.le_succ_of_le h1, by simp⟩
      · exact ⟨by rw [List.length_append]; simp; omega, by simp⟩
theorem rst_end (s : ByteArray) : rst s (s.size + 1) = (Sr.raw s.data.toList, []) := by unfold rst; rw [if_neg (by omega)]
theorem bstr_empty (l : List UInt8) : (bstr l).toList.isEmpty = l.isEmpty := by
  rw [Lib.toList_data]; rfl
def RRel (w : World) (s : ByteArray) (B : Nat) (o wd i : Value) (wr : World) : Prop :=
  ∃ (k : Nat) (A : Option Addr) (cap : Nat), k ≤ s.size + 1 ∧ i = .int .i64 k ∧ wd = .string (bstr (rst s k).2) ∧ o = .slice A (rst s k).1.length cap ∧ wr.ownsRow B 9 1 (.slice A (rst s k).1.length cap) (rst s k).1.length (strL (rst s k).1) ∧ Below B w wr

set_option maxRecDepth 100000 in
theorem rwords_any (s : ByteArray) (w : World) (hs : s.size ≤ 2000) :
    Calls Tryz.prog 9 #[.string s] w fun e w' => (∃ v, e = .returned v ∧ OwnS w.heap.size w' v (Sr.words s.data.toList)) ∧ Below w.heap.size w w' := by
  obtain ⟨is, hi, zs0, zs1, zs2⟩ := info_parts info_str
  have HI := Lib.hid hi
  have ZS0 := Lib.hid zs0
  have ZS1 := Lib.hid zs1
  have ZS2 := Lib.hid zs2
  clear hi zs0 zs1 zs2
  go_enter Tryz.func9, Tryz.ntmps9
  go_wp2_with fail
  go_loopw [3, 4, 5] (fun o wd i wr => RRel w s w.heap.size o wd i wr) (fun _ _ i _ => s.size + 1 - (intOf i).toNat)
  case atStart => exact ⟨0, none, 0, by omega, rfl, rfl, rfl, own_nil _ _ _, Below.refl _ _⟩
  case round =>
    obtain ⟨k, A, cap, hk, rfl, rfl, rfl, hown, hb⟩ := hrel
    have hlen := rst_len s k hk
    by_cases hke : k ≤ s.size
    · by_cases hlet : ∃ h : k < s.size, Sr.small (s[k]'h) ≠ 0
      · obtain ⟨hlt, hz⟩ := hlet
        have HS := Lib.hid (rst_letter s k hlt hz)
        have hck : ∃ c, s[k]'hlt = c := ⟨_, rfl⟩
        obtain ⟨c, hcd⟩ := hck
        rw [hcd] at hz HS
        have hz1 : ((Sr.small c).toNat : Int) ≠ 0 := by
          intro e
          exact hz (UInt8.toNat_inj.1 (by rw [show (0 : UInt8).toNat = 0 from rfl]; omega))
        have hz2 : (((Sr.small c).toNat : Int) != 0) = true := by rw [bne_iff_ne]; exact hz1
        generalize rst s k = st at *
        obtain ⟨ol, wl⟩ := st
        have hcv := run_conv_bs (wr.alloc (.cells (bytesV [Sr.small c]) 5)) 62 9 5 Tryz.underlying62 Tryz.underlying5 Tryz.underlying9 (some ⟨wr.heap.size, 0, none⟩) 1 1 [Sr.small c] (Rd.of_blk (Blk.new _ _ _))
        rw [show bytesV [Sr.small c] = #[.int .u8 ((Sr.small c).toNat : Int)] from rfl] at hcv
        have hb1 : (bstr [Sr.small c]).size = 1 := bstr_size _
        have hb2 : (bstr wl).size ≤ 2001 := by rw [bstr_size]; have := hlen.2; simp at this; omega
        have HB := Lib.hid hb
        have HL := Lib.hid hlen
        have HCA := Lib.hid (bstr_append wl [Sr.small c])
        clear hz hz1 hlen hb
        generalize bstr [Sr.small c] = bc at *
        go_wp2_with (go_at_call 24; refine (rsmall_any _ _).mono ?_; rintro e w' ⟨rfl, rfl⟩)
        go_roundw
        case rel =>
          have hsz := hown.1
          refine ⟨k + 1, A, cap, by omega, by go_num, ?_, by rw [HS.out], by rw [HS.out]; exact hown.alloc _, HB.out.alloc HB.out.size _⟩
          rw [HS.out]
          exact congrArg Value.string HCA.out
        case measure => simp [intOf]; omega
      · have HS := Lib.hid (rst_sep s k hke (fun h => Decidable.byContradiction fun h2 => hlet ⟨h, h2⟩))
        have HL := Lib.hid hlen
        have HB := Lib.hid hb
        have hcase : (∃ c : UInt8, ∃ hlt : k < s.size, s[k]'hlt = c ∧ (((Sr.small c).toNat : Int) != 0) = false) ∨ k = s.size := by
          by_cases hlt : k < s.size
          · have hz : Sr.small (s[k]'hlt) = 0 := Decidable.byContradiction fun h2 => hlet ⟨hlt, h2⟩
            exact .inl ⟨_, hlt, rfl, by rw [hz]; rfl⟩
          · exact .inr (by omega)
        clear hlet
        by_cases he : (rst s k).2 = []
        · have hem : (bstr (rst s k).2).toList.isEmpty = true := by rw [bstr_empty, he]; rfl
          have hem2 : (!(bstr (rst s k).2).toList.isEmpty) = false := by rw [hem]; rfl
          have HE := Lib.hid he
          clear hlen he hb
          generalize rst s k = st at *
          obtain ⟨ol, wl⟩ := st
          generalize bstr wl = bw at *
          have HF : Hid (Sr.fl ol wl = ol) := Lib.hid (by unfold Sr.fl; rw [if_pos HE.out])
          rcases hcase with ⟨c, hlt, hcd, hz2⟩ | hke2
          · go_wp2_with (go_at_call 24; refine (rsmall_any _ _).mono ?_; rintro e w' ⟨rfl, rfl⟩)
            go_roundw
            case rel => exact ⟨k + 1, A, cap, by omega, by go_num, by rw [HS.out]; rfl, by rw [HS.out]; show _ = Value.slice A (Sr.fl ol wl).length cap; rw [HF.out], by rw [HS.out]; show World.ownsRow _ _ _ _ (.slice A (Sr.fl ol wl).length cap) (Sr.fl ol wl).length (strL (Sr.fl ol wl)); rw [HF.out]; exact hown, HB.out⟩
            case measure => simp [intOf]; omega
          · have d1 : decide ((k : Int) < (s.size : Int)) = false := decide_eq_false (by omega)
            have hke3 : s.size ≤ k := by omega
            have hke4 : (k : Int) ≤ (s.size : Int) := by omega
            clear hke2
            go_wp2_with fail
            go_roundw
            case rel => exact ⟨k + 1, A, cap, by omega, by go_num, by rw [HS.out]; rfl, by rw [HS.out]; show _ = Value.slice A (Sr.fl ol wl).length cap; rw [HF.out], by rw [HS.out]; show World.ownsRow _ _ _ _ (.slice A (Sr.fl ol wl).length cap) (Sr.fl ol wl).length (strL (Sr.fl ol wl)); rw [HF.out]; exact hown, HB.out⟩
            case measure => simp [intOf]; omega
        · have hem : (bstr (rst s k).2).toList.isEmpty = false := by
            rw [bstr_empty]
            cases hq : (rst s k).2 with
            | nil => exact absurd hq he
            | cons _ _ => rfl
          have hem2 : (!(bstr (rst s k).2).toList.isEmpty) = true := by rw [hem]; rfl
          have HE := Lib.hid he
          clear hlen he hb
          generalize rst s k = st at *
          obtain ⟨ol, wl⟩ := st
          have hlol : ol.length ≤ 2001 := by have := HL.out.1; simp at this; omega
          have HF : Hid (Sr.fl ol wl = ol ++ [wl]) := Lib.hid (by unfold Sr.fl; rw [if_neg HE.out])
          have hsr : ∀ (A2 : Option Addr) (cap2 : Nat) (w2 : World), w2.ownsRow w.heap.size 9 1 (.slice A2 (ol.length + 1) cap2) (ol.length + 1) (strL ol ++ strL [wl]) → w2.ownsRow w.heap.size 9 1 (.slice A2 (Sr.fl ol wl).length cap2) (Sr.fl ol wl).length (strL (Sr.fl ol wl)) := by
            intro A2 cap2 w2 h
            rw [HF.out, List.length_append, strL_append]
            exact h
          have HSR := Lib.hid hsr
          have HLF : Hid ((Sr.fl ol wl).length = ol.length + 1) := Lib.hid (by rw [HF.out, List.length_append]; rfl)
          clear hsr
          rcases hcase with ⟨c, hlt, hcd, hz2⟩ | hke2
          · go_wp2_with (first
              | (go_at_call 24; refine (rsmall_any _ _).mono ?_; rintro e w' ⟨rfl, rfl⟩)
              | (at_builtin; refine wpList_append_rd rfl _ _ 24 9 rfl is _ 16 Tryz.underlying24 HI.out ZS0.out ZS1.out ZS2.out rfl w.heap.size _ ol.length (strL ol) rfl (hown.alloc _) (some ⟨wr.heap.size, 0, none⟩) 1 1 (strL [wl]) rfl (Rd.of_blk (Blk.new _ _ _)) (one_strs _) (ol.length + 1) rfl (by unfold maxLen; omega) (by omega) (by have := HB.out.size; simp; omega) ?_; intro A2 cap2 w2 ho2 hg2))
            go_roundw
            case rel => exact ⟨k + 1, A2, cap2, by omega, by go_num, by rw [HS.out]; rfl, by rw [HS.out]; show _ = Value.slice A2 (Sr.fl ol wl).length cap2; rw [HLF.out], by rw [HS.out]; exact HSR.out _ _ _ ho2, (HB.out.alloc HB.out.size _).grown hg2 (by have := HB.out.size; simp; omega) (fun g hg => (hown.lt g hg).1)⟩
            case measure => simp [intOf]; omega
          · have d1 : decide ((k : Int) < (s.size : Int)) = false := decide_eq_false (by omega)
            have hke3 : s.size ≤ k := by omega
            have hke4 : (k : Int) ≤ (s.size : Int) := by omega
            clear hke2
            go_wp2_with (at_builtin; refine wpList_append_rd rfl _ _ 24 9 rfl is _ 16 Tryz.underlying24 HI.out ZS0.out ZS1.out ZS2.out rfl w.heap.size _ ol.length (strL ol) rfl (hown.alloc _) (some ⟨wr.heap.size, 0, none⟩) 1 1 (strL [wl]) rfl (Rd.of_blk (Blk.new _ _ _)) (one_strs _) (ol.length + 1) rfl (by unfold maxLen; omega) (by omega) (by have := HB.out.size; simp; omega) ?_; intro A2 cap2 w2 ho2 hg2)
            go_roundw
            case rel => exact ⟨k + 1, A2, cap2, by omega, by go_num, by rw [HS.out]; rfl, by rw [HS.out]; show _ = Value.slice A2 (Sr.fl ol wl).length cap2; rw [HLF.out], by rw [HS.out]; exact HSR.out _ _ _ ho2, (HB.out.alloc HB.out.size _).grown hg2 (by have := HB.out.size; simp; omega) (fun g hg => (hown.lt g hg).1)⟩
            case measure => simp [intOf]; omega
    · obtain rfl : k = s.size + 1 := by omega
      rw [rst_end] at *
      have HOWN := Lib.hid hown
      have HB := Lib.hid hb
      have hrl : (Sr.raw s.data.toList).length ≤ 2001 := Nat.le_trans hlen.1 (by omega)
      have hq : Hid (∀ v W, OwnS wr.heap.size W v (Sr.names (Sr.raw s.data.toList)) → OwnS w.heap.size W v (Sr.words s.data.toList)) := Lib.hid (by
        rintro v W ⟨A', cap', h1, h2⟩
        exact ⟨A', cap', h1, Joins.ownsRow_le h2 hb.size⟩)
      clear hown hb hlen
      go_wp2_with (go_at_call 25; refine (rnames_any _ _ _ (Sr.raw s.data.toList) _ (Rd.of_own HOWN.out) (by omega)).mono ?_; rintro e w1 ⟨⟨v, rfl, hv⟩, hb1⟩)
      go_ret
      exact ⟨⟨v, rfl, hq.out v w1 hv⟩, HB.out.trans (hb1.mono HB.out.size)⟩
end Go.Proofs.YtfdcbmmafhjlfaaGreat
