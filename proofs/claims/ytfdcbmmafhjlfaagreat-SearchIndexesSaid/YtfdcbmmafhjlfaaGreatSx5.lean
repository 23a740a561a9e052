/- The walk of the reference's Index. -/
import Derived.Test.YtfdcbmmafhjlfaaGreatSx2
namespace Go.Proofs.YtfdcbmmafhjlfaaGreat
open Go.RowKit Go.Lib
set_option linter.unusedVariables false

/-- the words seen so far, with their numbers -/
def upto (L : List (List UInt8)) (k : Nat) : List Sr.Cnt := ((Sr.names L).take k).map fun x => (x, L.count x)
theorem upto_step {L : List (List UInt8)} {k : Nat} {x : List UInt8} (h : (Sr.names L)[k]? = some x) : upto L (k + 1) = upto L k ++ [(x, L.count x)] := by
  unfold upto
  rw [take_snoc h, List.map_append]
  rfl
theorem upto_len (L : List (List UInt8)) (k : Nat) (h : k ≤ (Sr.names L).length) : (upto L k).length = k := by
  unfold upto
  rw [List.length_map, List.length_take]
  omega
theorem upto_all (L : List (List UInt8)) : upto L (Sr.names L).length = Sr.counts L := by
  unfold upto Sr.counts
  rw [List.take_of_length_le (Nat.le_refl _)]
theorem count_step {L : List (List UInt8)} {j : Nat} {x y : List UInt8} (h : L[j]? = some y) : (L.take (j + 1)).count x = (L.take j).count x + (if y = x then 1 else 0) := by
  rw [take_snoc h, List.count_append]
  by_cases e : y = x
  · subst e; simp
  · rw [if_neg e, List.count_singleton]; simp [e]
def DRel (base : Nat) (w : World) (L : List (List UInt8)) (A : Option Addr) (m c : Nat) (B : Option Addr) (mb cb : Nat) (out ix : Value) (wr : World) : Prop :=
  ∃ (k : Nat) (A2 : Option Addr) (c2 : Nat), out = .slice A2 k c2 ∧ ix = .int .i64 (k : Int) ∧ k ≤ mb ∧
    wr.ownsRow base 60 2 (.slice A2 k c2) k (cntL (upto L k)) ∧ wr.ownsRow base 9 1 (.slice A m c) m (strL L) ∧ wr.ownsRow base 9 1 (.slice B mb cb) mb (strL (Sr.names L)) ∧ Below base w wr

set_option maxRecDepth 100000 in
theorem rindex_any (A0 : Option Addr) (n c0 : Nat) (l : List (Int × ByteArray)) (w : World) (he : Evs w A0 l) (hl : l.length = n) (hn : n ≤ 20) (ht : ∀ p ∈ l, p.2.size ≤ 2000) :
    Calls Tryz.prog 15 #[.slice A0 n c0] w fun e w' => (∃ v, e = .returned v ∧ OwnC w.heap.size w' v (Sr.counts (allW l))) ∧ Below w.heap.size w w' := by
  obtain ⟨is, hi, zs0, zs1, zs2⟩ := info_parts info_str
  have HI := Lib.hid hi
  have ZS0 := Lib.hid zs0
  have ZS1 := Lib.hid zs1
  have ZS2 := Lib.hid zs2
  clear hi zs0 zs1 zs2
  have HE := Lib.hid he
  have HT := Lib.hid ht
  have HL := Lib.hid hl
  clear he ht hl
  go_enter Tryz.func15, Tryz.ntmps15
  go_wp2_with fail
  go_loopw [3, 4] (fun al ix wr => IRel w l n al ix wr) (fun _ ix _ => n - (intOf ix).toNat)
  case atStart =>
    exact ⟨0, none, 0, 0, rfl, rfl, Nat.zero_le _, rfl, own_nil _ _ _, Below.refl _ _⟩
  case round =>
    obtain ⟨i, A, c, m, rfl, rfl, hin, hm, ho, hb⟩ := hrel
    by_cases hlt : i < n
    · obtain ⟨p, hp⟩ : ∃ p, l[i]? = some p := ⟨_, List.getElem?_eq_getElem (by rw [HL.out]; exact hlt)⟩
      obtain ⟨b, off, cs, rfl, hev, hr⟩ := (HE.out.below hb) i p hp
      have hc3 := hr 3 _ hev.2.2.1
      have hc10 := hr 10 _ hev.2.2.2
      have hpt : p.2.size ≤ 2000 := HT.out p (List.mem_of_getElem? hp)
      have HSTEP := Lib.hid (allW_step hp)
      have hlen : m + (Sr.words p.2.data.toList).length ≤ 60000 := by
        have h1 := allW_len (l.take i) (fun q hq => HT.out q (List.mem_of_mem_take hq))
        have h2 := words_len p.2.data.toList
        rw [← str_size] at h2
        have h3 : (l.take i).length ≤ i := List.length_take_le _ _
        omega
      have HM := Lib.hid hm
      have HO := Lib.hid ho
      have HB := Lib.hid hb
      clear hev hr hp hm ho hb
      by_cases hk : p.1 = 11
      · have hk2 : (p.1 == 11) = true := by rw [beq_iff_eq]; exact hk
        have HW : Hid (allW (l.take (i + 1)) = allW (l.take i) ++ Sr.words p.2.data.toList) := Lib.hid (by rw [HSTEP.out]; unfold wordsOf; rw [if_pos hk])
        go_wp2_with fail
        refine (rwords_any p.2 _ hpt).mono ?_
        rintro e w3 ⟨⟨v3, rfl, A3, c3, rfl, ho3⟩, hb3⟩
        have ho4 := own_below HO.out hb3 (Nat.le_refl _)
        have hb5 := HB.out.trans (hb3.mono HB.out.size)
        have hs5 := hb5.size
        go_wp2_with (at_builtin; refine wpList_append_rd rfl _ _ 24 9 rfl is _ 16 Tryz.underlying24 HI.out ZS0.out ZS1.out ZS2.out rfl w.heap.size _ m (strL (allW (l.take i))) rfl ho4 A3 (Sr.words p.2.data.toList).length c3 (strL (Sr.words p.2.data.toList)) rfl (Rd.of_own ho3) (one_strs _) (m + (Sr.words p.2.data.toList).length) rfl (by unfold maxLen; omega) (by omega) hs5 ?_; intro A6 cap6 w6 ho6 hg6)
        go_roundw
        case rel =>
          refine ⟨i + 1, A6, cap6, m + (Sr.words p.2.data.toList).length, rfl, rfl, by omega, ?_, ?_, ?_⟩
          · rw [HW.out, List.length_append, HM.out]
          · rw [HW.out, strL_append]; exact ho6
          · exact hb5.grown hg6 hs5 (fun g hg => (ho4.lt g hg).1)
        case measure => simp only [intOf]; omega
      · have hk2 : (p.1 == 11) = false := by rw [beq_eq_false_iff_ne]; exact hk
        have HW : Hid (allW (l.take (i + 1)) = allW (l.take i)) := Lib.hid (by rw [HSTEP.out]; unfold wordsOf; rw [if_neg hk, List.append_nil])
        go_wp2_with fail
        go_roundw
        case rel =>
          refine ⟨i + 1, A, c, m, rfl, rfl, by omega, ?_, ?_, HB.out⟩
          · rw [HW.out, HM.out]
          · rw [HW.out]; exact HO.out
        case measure => simp only [intOf]; omega
    · obtain rfl : i = n := by omega
      have HM : Hid ((allW l).length = m) := Lib.hid (by rw [List.take_of_length_le (by rw [HL.out]; exact Nat.le_refl _)] at hm; exact hm)
      rw [List.take_of_length_le (by rw [HL.out]; exact Nat.le_refl _)] at ho
      have hm2 : m ≤ 60000 := by
        have h1 := allW_len l HT.out
        rw [HL.out, HM.out] at h1
        omega
      clear hm hlt HT HE
      generalize hLL : allW l = L at *
      have HLL := Lib.hid hLL
      clear hLL
      obtain ⟨ic, hic, zc0, zc1, zc2⟩ := info_parts info_cnt
      have HIC := Lib.hid hic
      have ZC0 := Lib.hid zc0
      have ZC1 := Lib.hid zc1
      have ZC2 := Lib.hid zc2
      clear hic zc0 zc1 zc2
      have hnl := names_len L
      rw [HM.out] at hnl
      have HO := Lib.hid ho
      clear ho
      go_wp2_with fail
      refine (rnames_any A m c L _ (Rd.of_own HO.out) (by omega)).mono ?_
      rintro e w1 ⟨⟨v1, rfl, B, cb, rfl, ho1⟩, hb1⟩
      have ho2 := own_below HO.out hb1 (Nat.le_refl _)
      have hb2 := hb.trans (hb1.mono hb.size)
      have ho3 : w1.ownsRow w.heap.size 9 1 (.slice B (Sr.names L).length cb) (Sr.names L).length (strL (Sr.names L)) := own_base ho1 hb.size
      have HS2 := Lib.hid ho2
      have HS3 := Lib.hid ho3
      clear hb hb1 ho1 ho2 ho3 HO
      have HALL := Lib.hid (upto_all L)
      have HUL : Hid (∀ k, k ≤ (Sr.names L).length → (upto L k).length = k) := Lib.hid (upto_len L)
      generalize hmb : (Sr.names L).length = mb at *
      have HMB := Lib.hid hmb
      clear hmb
      go_wp2_with fail
      go_loopw [6, 7] (fun out ix wr => DRel w.heap.size w L A m c B mb cb out ix wr) (fun _ ix _ => mb - (intOf ix).toNat)
      case atStart => exact ⟨0, none, 0, rfl, rfl, Nat.zero_le _, World.ownsRow_nil _ _ _ _, HS2.out, HS3.out, hb2⟩
      case round =>
        obtain ⟨k, A2, c2, rfl, rfl, hkm, hoc, hos, hon, hb3⟩ := hrel
        have hbs := hb3.size
        have HOC := Lib.hid hoc
        have HB := Lib.hid hb3
        have HOS := Lib.hid hos
        have HON := Lib.hid hon
        clear hoc hb3 hos hon
        by_cases hlt : k < mb
        · obtain ⟨bb, ob, x, rfl, hx, hcx⟩ := (Rd.of_own HON.out).str (by exact hlt)
          have HST := Lib.hid (upto_step hx)
          clear hx
          go_wp2_with fail
          go_loopw [8, 9] (fun nn ix wq => ∃ j q : Nat, j ≤ m ∧ ix = .int .i64 (j : Int) ∧ nn = .int .i64 (((L.take j).count x : Nat) : Int) ∧ wq = wr.drewN q) (fun _ ix _ => m - (intOf ix).toNat)
          case atStart => exact ⟨0, 0, Nat.zero_le _, rfl, rfl, rfl⟩
          case round =>
            obtain ⟨j, q, hjm, rfl, rfl, rfl⟩ := hrel
            by_cases hjl : j < m
            · obtain ⟨ba, oa, y, rfl, hy, hcy⟩ := (Rd.of_own HOS.out).str (by exact hjl)
              have HCS := Lib.hid (count_step (x := x) hy)
              have hcb : (L.take j).count x ≤ j := Nat.le_trans List.count_le_length (List.length_take_le _ _)
              clear hy
              by_cases hyx : y = x
              · have h1 : ((bstr y).toList == (bstr x).toList) = true := by rw [str_beq]; simpa using hyx
                have HYX := Lib.hid hyx
                clear hyx
                generalize bstr x = sx at *
                generalize bstr y = sy at *
                go_wp2_with fail
                go_quiet (fail)
                go_wp2_with fail
                go_roundw
                case rel => exact ⟨j + 1, _, by omega, by go_num, by rw [HCS.out, if_pos HYX.out]; go_num, rfl⟩
                case measure => simp [intOf]; omega
              · have h1 : ((bstr y).toList == (bstr x).toList) = false := by rw [str_beq]; simpa using hyx
                have HYX := Lib.hid hyx
                clear hyx
                generalize bstr x = sx at *
                generalize bstr y = sy at *
                go_wp2_with fail
                go_quiet (fail)
                go_wp2_with fail
                go_roundw
                case rel => exact ⟨j + 1, _, by omega, by go_num, by rw [HCS.out, if_neg HYX.out]; rfl, rfl⟩
                case measure => simp [intOf]; omega
            · obtain rfl : j = m := by omega
              rw [List.take_of_length_le (by rw [HM.out]; exact Nat.le_refl _)]
              have hcl : L.count x ≤ j := Nat.le_trans List.count_le_length (by rw [HM.out]; exact Nat.le_refl _)
              have HUP : Hid ((upto L k).length = k) := Lib.hid (HUL.out k (by omega))
              go_wp2_with (at_builtin; refine wpList_append_lies _ rfl _ _ 43 rfl w.heap.size 60 ic _ 2 24 Tryz.underlying43 HIC.out ZC0.out ZC1.out ZC2.out rfl (by decide) _ k (cntL (upto L k)) rfl (World.ownsRow.alloc (w := wr.drewN q) HOC.out _) ⟨wr.heap.size, 0, none⟩ 1 1 (cntL [(x, L.count x)]) rfl rfl (Rd.of_blk (Blk.new (wr.drewN q) _ _)).add (one_cnt _) (by decide) (by unfold maxLen; omega) (by omega) (by simp; omega) _ rfl ?_; intro g6 cap6 w6 ho6 hg6 _ _)
              have hB5 := below_drewN HB.out q
              have hg7 : ((wr.drewN q).alloc (.cells (cntL [(x, L.count x)]).toArray 60)).grownBy w6 (Value.slice A2 k c2).ownBlock := hg6
              go_roundw
              case rel =>
                refine ⟨k + 1, some ⟨g6, 0, none⟩, cap6, rfl, rfl, by omega, ?_, ?_, ?_, ?_⟩
                · rw [HST.out, cntL_append]; exact ho6
                · exact own_kept_alloc (w := wr.drewN q) HOS.out HOC.out (by decide) hg7
                · exact own_kept_alloc (w := wr.drewN q) HON.out HOC.out (by decide) hg7
                · exact (hB5.alloc hB5.size _).grown hg7 (by have := hB5.size; simp; omega) (fun g' hg => (HOC.out.lt g' hg).1)
              case measure => simp only [intOf]; omega
        · obtain rfl : k = mb := by omega
          go_wp2_with fail
          go_ret
          have hcl : (Sr.counts L).length = k := by rw [← HALL.out]; exact HUL.out k (by omega)
          refine ⟨⟨_, rfl, A2, c2, ?_, ?_⟩, HB.out⟩
          · show Value.slice A2 k c2 = _
            rw [HLL.out, hcl]
          · rw [HLL.out, hcl, ← HALL.out]; exact HOC.out
end Go.Proofs.YtfdcbmmafhjlfaaGreat
