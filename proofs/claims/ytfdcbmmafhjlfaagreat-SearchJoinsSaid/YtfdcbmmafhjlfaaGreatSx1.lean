/- The walk of search.Index. -/
import Derived.Deep.MidRow
import Derived.Deep.AppendLies
import Derived.Laws.OwnMore
import Derived.Test.YtfdcbmmafhjlfaaGreatCounts
import Derived.Test.YtfdcbmmafhjlfaaGreatSw8
namespace Go.Proofs.YtfdcbmmafhjlfaaGreat
open Go.RowKit Go.Lib
set_option linter.unusedVariables false

theorem size_ev : (Tryz.prog.info? 41).map (·.size) = some 29 := by kernel_rfl
/-- an event: a row of 29 cells; its kind and its text -/
def EvOk (cs : List Value) (p : Int × ByteArray) : Prop := cs.length = 29 ∧ (∀ v ∈ cs, v.oneCell' = true) ∧ cs[3]? = some (.int .i64 p.1) ∧ cs[10]? = some (.string p.2)
def Evs (w : World) (A : Option Addr) (l : List (Int × ByteArray)) : Prop := ∀ i p, l[i]? = some p → ∃ b off cs, A = some ⟨b, off, none⟩ ∧ EvOk cs p ∧ w.rangeAt b (off + i * 29) cs
theorem rangeAt_below {w w' : World} {B b o : Nat} {cs : List Value} (h : w.rangeAt b o cs) (hb : Below B w w') (hB : b < B) : w'.rangeAt b o cs := fun j v hv => (hb.cell (p := ⟨b, o + j, none⟩) hB).trans (h j v hv)
theorem rangeAt_lt {w : World} {b o : Nat} {cs : List Value} (h : w.rangeAt b o cs) (hl : cs ≠ []) : b < w.heap.size := by
  cases cs with
  | nil => exact absurd rfl hl
  | cons v r => exact block_lt (h 0 v rfl)
theorem Evs.below {w w' : World} {A : Option Addr} {l : List (Int × ByteArray)} (h : Evs w A l) (hb : Below w.heap.size w w') : Evs w' A l := by
  intro i p hp
  obtain ⟨b, off, cs, e, ho, hr⟩ := h i p hp
  exact ⟨b, off, cs, e, ho, rangeAt_below hr hb (rangeAt_lt hr (by intro e; have := ho.1; rw [e] at this; simp at this))⟩

theorem own_below {w w' : World} {base B size n : Nat} {e : TypeId} {v : Value} {xs : List Value} (h : w.ownsRow base e size v n xs) (hb : Below B w w') (hB : w.heap.size ≤ B) : w'.ownsRow base e size v n xs := by
  obtain ⟨h1, h2⟩ := h
  refine ⟨h1, ?_⟩
  rcases h2 with h2 | ⟨g, cap, cur, hv, hg, hh, hn, hcap, hsz, ht⟩
  · exact .inl h2
  · have hlt : g < w.heap.size := (Array.getElem?_eq_some_iff.1 hh).1
    exact .inr ⟨g, cap, cur, hv, hg, (hb.block g (by omega)).trans hh, hn, hcap, hsz, ht⟩
/-- the words of the messages -/
def wordsOf (p : Int × ByteArray) : List (List UInt8) := if p.1 = 11 then Sr.words p.2.data.toList else []
def allW (l : List (Int × ByteArray)) : List (List UInt8) := l.flatMap wordsOf
theorem allW_step {l : List (Int × ByteArray)} {i : Nat} {p : Int × ByteArray} (h : l[i]? = some p) : allW (l.take (i + 1)) = allW (l.take i) ++ wordsOf p := by
  unfold allW
  rw [take_snoc h, List.flatMap_append]
  simp
theorem allW_len : ∀ l : List (Int × ByteArray), (∀ p ∈ l, p.2.size ≤ 2000) → (allW l).length ≤ 2001 * l.length
  | [], _ => by simp [allW]
  | p :: r, h => by
    have h1 := allW_len r (fun q hq => h q (by simp [hq]))
    have h2 : (wordsOf p).length ≤ 2001 := by
      unfold wordsOf
      split
      · have := words_len p.2.data.toList
        rw [← str_size] at this
        have := h p (by simp)
        omega
      · simp
    show ((wordsOf p ++ allW r)).length ≤ _
    rw [List.length_append, List.length_cons]
    omega
/-- the cells of words with numbers -/
def cntL (cs : List Sr.Cnt) : List Value := cs.flatMap fun p => [.string (bstr p.1), .int .i64 (p.2 : Int)]
theorem cntL_append (a b : List Sr.Cnt) : cntL (a ++ b) = cntL a ++ cntL b := List.flatMap_append
theorem cntL_len : ∀ a : List Sr.Cnt, (cntL a).length = a.length * 2
  | [] => rfl
  | p :: r => by
    show ([Value.string (bstr p.1), Value.int .i64 (p.2 : Int)] ++ cntL r).length = _
    rw [List.length_append, cntL_len r, List.length_cons]
    simp
    omega
theorem one_cnt (cs : List Sr.Cnt) : ∀ u ∈ cntL cs, u.oneCell' = true := by
  intro u hu
  unfold cntL at hu
  rw [List.mem_flatMap] at hu
  obtain ⟨p, _, hp⟩ := hu
  simp only [List.mem_cons, List.not_mem_nil, or_false] at hp
  rcases hp with rfl | rfl <;> rfl
def OwnC (base : Nat) (w : World) (v : Value) (cs : List Sr.Cnt) : Prop := ∃ A cap, v = .slice A cs.length cap ∧ w.ownsRow base 60 2 (.slice A cs.length cap) cs.length (cntL cs)

theorem own_ne2 {w : World} {b b' n n' z z' : Nat} {e e' : TypeId} {v v' : Value} {xs xs' : List Value} (h : w.ownsRow b e z v n xs) (h' : w.ownsRow b' e' z' v' n' xs') (hne : e ≠ e') : v.ownBlock = none ∨ v.ownBlock ≠ v'.ownBlock := by
  rcases h.2 with ⟨rfl, _⟩ | ⟨g, cap, cur, rfl, _, hh, _⟩
  · left; simp [Value.ownBlock]
  · right
    rcases h'.2 with ⟨rfl, _⟩ | ⟨g', cap', cur', rfl, _, hh', _⟩
    · simp [Value.ownBlock]
    · intro he
      have : g = g' := by simpa [Value.ownBlock] using he
      subst this
      rw [hh] at hh'
      injection hh' with hh'
      injection hh' with _ ht
      exact hne ht
theorem own_kept_alloc {w w' : World} {o : Obj} {b b' n n' z z' : Nat} {e e' : TypeId} {v v' : Value} {xs xs' : List Value} (h : w.ownsRow b e z v n xs) (h' : w.ownsRow b' e' z' v' n' xs') (hne : e ≠ e') (hg : (w.alloc o).grownBy w' v'.ownBlock) : w'.ownsRow b e z v n xs :=
  (h.alloc o).kept hg (own_ne2 h h' hne)
theorem info_cnt : (Tryz.prog.info? 60).map (fun i => (i.zero, i.size, i.bytes)) = some (some (.agg #[.string ByteArray.empty, .int .i64 0]), 2, 24) := by kernel_rfl
theorem runs_step {L : List (List UInt8)} {k : Nat} {x : List UInt8} (h : L[k]? = some x) : Sr.runs (L.take (k + 1)) = Sr.cstep (Sr.runs (L.take k)) x := by
  unfold Sr.runs
  rw [take_snoc h, List.foldl_append]
  rfl
theorem cstep_len (o : List Sr.Cnt) (x : List UInt8) : (Sr.cstep o x).length ≤ o.length + 1 := by
  unfold Sr.cstep
  split
  · split
    · simp
    · simp
  · simp
theorem runs_len (L : List (List UInt8)) : ∀ k, (Sr.runs (L.take k)).length ≤ k
  | 0 => by simp [Sr.runs]
  | k + 1 => by
    have ih := runs_len L k
    cases h : L[k]? with
    | none =>
      have : L.take (k + 1) = L.take k := by
        have hk : L.length ≤ k := by simpa using h
        rw [List.take_of_length_le hk, List.take_of_length_le (by omega)]
      rw [this]
      omega
    | some x =>
      rw [runs_step h]
      have := cstep_len (Sr.runs (L.take k)) x
      omega
theorem cstep_same (I : List Sr.Cnt) (t : List UInt8) (c : Nat) : Sr.cstep (I ++ [(t, c)]) t = I ++ [(t, c + 1)] := by
  unfold Sr.cstep
  simp
theorem cstep_other (I : List Sr.Cnt) (t x : List UInt8) (c : Nat) (h : t ≠ x) : Sr.cstep (I ++ [(t, c)]) x = I ++ [(t, c)] ++ [(x, 1)] := by
  unfold Sr.cstep
  simp [h]
theorem cntL_at0 (I : List Sr.Cnt) (t : List UInt8) (c : Nat) : (cntL (I ++ [(t, c)]))[I.length * 2]? = some (.string (bstr t)) := by
  rw [cntL_append, List.getElem?_append_right (by rw [cntL_len]; exact Nat.le_refl _), cntL_len, Nat.sub_self]
  rfl
theorem cntL_at1 (I : List Sr.Cnt) (t : List UInt8) (c : Nat) : (cntL (I ++ [(t, c)]))[I.length * 2 + 1]? = some (.int .i64 (c : Int)) := by
  rw [cntL_append, List.getElem?_append_right (by rw [cntL_len]; omega), cntL_len, Nat.add_sub_cancel_left]
  rfl
theorem cntL_set (I : List Sr.Cnt) (t : List UInt8) (c d : Nat) : (cntL (I ++ [(t, c)])).set (I.length * 2 + 1) (.int .i64 (d : Int)) = cntL (I ++ [(t, d)]) := by
  rw [cntL_append, cntL_append, List.set_append_right _ _ (by rw [cntL_len]; omega), cntL_len, Nat.add_sub_cancel_left]
  rfl
theorem cstep_num (o : List Sr.Cnt) (x : List UInt8) (k : Nat) (h : ∀ p ∈ o, p.2 ≤ k) : ∀ p ∈ Sr.cstep o x, p.2 ≤ k + 1 := by
  intro p hp
  rcases List.eq_nil_or_concat o with rfl | ⟨I, ⟨t, c⟩, rfl⟩
  · have : p = (x, 1) := by simpa [Sr.cstep] using hp
    subst this
    simp
  · rw [List.concat_eq_append] at *
    have hc := h (t, c) (by simp)
    by_cases e : t = x
    · subst e
      rw [cstep_same] at hp
      rcases List.mem_append.1 hp with hp | hp
      · have := h p (by simp [hp]); omega
      · have : p = (t, c + 1) := by simpa using hp
        subst this
        simp at hc ⊢
        omega
    · rw [cstep_other _ _ _ _ e] at hp
      rcases List.mem_append.1 hp with hp | hp
      · have := h p hp; omega
      · have : p = (x, 1) := by simpa using hp
        subst this
        simp
theorem runs_num (L : List (List UInt8)) : ∀ k, ∀ p ∈ Sr.runs (L.take k), p.2 ≤ k
  | 0 => by simp [Sr.runs]
  | k + 1 => by
    have ih := runs_num L k
    cases h : L[k]? with
    | none =>
      have : L.take (k + 1) = L.take k := by
        have hk : L.length ≤ k := by simpa using h
        rw [List.take_of_length_le hk, List.take_of_length_le (by omega)]
      rw [this]
      intro p hp
      have := ih p hp
      omega
    | some x =>
      rw [runs_step h]
      exact cstep_num _ x k ih
def CRel (base : Nat) (w : World) (L : List (List UInt8)) (A : Option Addr) (m c : Nat) (out ix : Value) (wr : World) : Prop :=
  ∃ (k K : Nat) (A2 : Option Addr) (c2 : Nat), out = .slice A2 K c2 ∧ ix = .int .i64 (k : Int) ∧ k ≤ m ∧ (Sr.runs (L.take k)).length = K ∧
    wr.ownsRow base 60 2 (.slice A2 K c2) K (cntL (Sr.runs (L.take k))) ∧ wr.ownsRow base 9 1 (.slice A m c) m (strL L) ∧ Below base w wr

def IRel (w : World) (l : List (Int × ByteArray)) (n : Nat) (al ix : Value) (wr : World) : Prop :=
  ∃ (i : Nat) (A : Option Addr) (c m : Nat), al = .slice A m c ∧ ix = .int .i64 (i : Int) ∧ i ≤ n ∧ (allW (l.take i)).length = m ∧
    wr.ownsRow w.heap.size 9 1 (.slice A m c) m (strL (allW (l.take i))) ∧ Below w.heap.size w wr

set_option maxRecDepth 100000 in
theorem index_any (A0 : Option Addr) (n c0 : Nat) (l : List (Int × ByteArray)) (w : World) (he : Evs w A0 l) (hl : l.length = n) (hn : n ≤ 20) (ht : ∀ p ∈ l, p.2.size ≤ 2000) :
    Calls Tryz.prog 14 #[.slice A0 n c0] w fun e w' => (∃ v, e = .returned v ∧ OwnC w.heap.size w' v (Sr.counts (allW l))) ∧ Below w.heap.size w w' := by
  obtain ⟨is, hi, zs0, zs1, zs2⟩ := info_parts info_str
  have HI := Lib.hid hi
  have ZS0 := Lib.hid zs0
  have ZS1 := Lib.hid zs1
  have ZS2 := Lib.hid zs2
  clear hi zs0 zs1 zs2
  have HE := Lib.hid he
  have HT := Lib.hid ht
  have HL := Lib.hid hl
  clear he ht hl
  go_enter Tryz.func14, Tryz.ntmps14
  go_wp2_with fail
  go_loopw [3, 12] (fun al ix wr => IRel w l n al ix wr) (fun _ ix _ => n - (intOf ix).toNat)
  case atStart =>
    exact ⟨0, none, 0, 0, rfl, rfl, Nat.zero_le _, rfl, own_nil _ _ _, Below.refl _ _⟩
  case round =>
    obtain ⟨i, A, c, m, rfl, rfl, hin, hm, ho, hb⟩ := hrel
    by_cases hlt : i < n
    · obtain ⟨p, hp⟩ : ∃ p, l[i]? = some p := ⟨_, List.getElem?_eq_getElem (by rw [HL.out]; exact hlt)⟩
      obtain ⟨b, off, cs, rfl, hev, hr⟩ := (HE.out.below hb) i p hp
      have hl2 : (Tryz.prog.info? 41).map (·.size) = some cs.length := by rw [hev.1]; exact size_ev
      have hl3 : (Tryz.prog.info? 41).map (·.size) = some cs.toArray.size := by rw [List.size_toArray]; exact hl2
      have hone : cs.toArray.all (·.oneCell') = true := all_oneCell_toArray hev.2.1
      have hsz : 29 = cs.toArray.size := by rw [List.size_toArray, hev.1]
      have hg3 : cs.toArray[3]? = some (.int .i64 p.1) := by rw [List.getElem?_toArray]; exact hev.2.2.1
      have hg10 : cs.toArray[10]? = some (.string p.2) := by rw [List.getElem?_toArray]; exact hev.2.2.2
      have hpt : p.2.size ≤ 2000 := HT.out p (List.mem_of_getElem? hp)
      have HSTEP := Lib.hid (allW_step hp)
      have hlen : m + (Sr.words p.2.data.toList).length ≤ 60000 := by
        have h1 := allW_len (l.take i) (fun q hq => HT.out q (List.mem_of_mem_take hq))
        have h2 := words_len p.2.data.toList
        rw [← str_size] at h2
        have h3 : (l.take i).length ≤ i := List.length_take_le _ _
        omega
      have HLEN := Lib.hid (allW_len (l.take (i + 1)) (fun q hq => HT.out q (List.mem_of_mem_take hq)))
      have HL2 := Lib.hid hl2
      have HL3 := Lib.hid hl3
      have HSZ := Lib.hid hsz
      have HM := Lib.hid hm
      clear hl2 hl3 hsz hev hp hm
      by_cases hk : p.1 = 11
      · have hk2 : (p.1 == 11) = true := by rw [beq_iff_eq]; exact hk
        go_wp2_with (first
          | ((with_reducible refine wpList_load_mid rfl 41 _ rfl b (off + i * 29) ?_ cs _ hr Tryz.underlying41 ?_ HL2.out ?_); rfl; rfl)
          | ((with_reducible refine wpList_store_row' rfl 41 _ _ rfl wr.heap.size cs.toArray ?_ ?_ 41 _ (Blk.new wr 41 _) HL3.out ?_ hone ?_); rfl; rfl; exact HSZ.out; intro w2 hk2 hs2 hbl2; have hc3 := (hk2.cell 3).trans hg3; have hc10 := (hk2.cell 10).trans hg10)
          | (go_at_call 8; refine (words_any p.2 _ hpt).mono ?_; rintro e w3 ⟨⟨v3, rfl, A3, c3, rfl, ho3⟩, hb3⟩; have hb4 : Below wr.heap.size wr w3 := (((Below.refl _ wr).alloc (Nat.le_refl _) _).trans (hbl2 _ (Nat.le_refl _))).trans (hb3.mono (by simp at hs2; omega)); have ho4 := own_below ho hb4 (Nat.le_refl _); have hb5 := hb.trans (hb4.mono hb.size); have hs5 := hb5.size)
          | (at_builtin; refine wpList_append_rd rfl _ _ 24 9 rfl is _ 16 Tryz.underlying24 HI.out ZS0.out ZS1.out ZS2.out rfl w.heap.size _ m (strL (allW (l.take i))) rfl ho4 A3 (Sr.words p.2.data.toList).length c3 (strL (Sr.words p.2.data.toList)) rfl (Rd.of_own ho3) (one_strs _) (m + (Sr.words p.2.data.toList).length) rfl (by unfold maxLen; omega) (by omega) hs5 ?_; intro A6 cap6 w6 ho6 hg6))
        have HW : allW (l.take (i + 1)) = allW (l.take i) ++ Sr.words p.2.data.toList := by rw [HSTEP.out]; unfold wordsOf; rw [if_pos hk]
        go_roundw
        case rel =>
          refine ⟨i + 1, A6, cap6, m + (Sr.words p.2.data.toList).length, rfl, rfl, by omega, ?_, ?_, ?_⟩
          · rw [HW, List.length_append, HM.out]
          · rw [HW, strL_append]; exact ho6
          · exact hb5.grown hg6 hs5 (fun g hg => (ho4.lt g hg).1)
        case measure => simp only [intOf]; omega
      · have hk2 : (p.1 == 11) = false := by rw [beq_eq_false_iff_ne]; exact hk
        go_wp2_with (first
          | ((with_reducible refine wpList_load_mid rfl 41 _ rfl b (off + i * 29) ?_ cs _ hr Tryz.underlying41 ?_ HL2.out ?_); rfl; rfl)
          | ((with_reducible refine wpList_store_row' rfl 41 _ _ rfl wr.heap.size cs.toArray ?_ ?_ 41 _ (Blk.new wr 41 _) HL3.out ?_ hone ?_); rfl; rfl; exact HSZ.out; intro w2 hk2 hs2 hbl2; have hc3 := (hk2.cell 3).trans hg3; have hc10 := (hk2.cell 10).trans hg10; have hb4 : Below wr.heap.size wr w2 := ((Below.refl _ wr).alloc (Nat.le_refl _) _).trans (hbl2 _ (Nat.le_refl _)); have ho4 := own_below ho hb4 (Nat.le_refl _); have hb5 := hb.trans (hb4.mono hb.size)))
        have HW : allW (l.take (i + 1)) = allW (l.take i) := by rw [HSTEP.out]; unfold wordsOf; rw [if_neg hk, List.append_nil]
        go_roundw
        case rel =>
          refine ⟨i + 1, A, c, m, rfl, rfl, by omega, ?_, ?_, hb5⟩
          · rw [HW, HM.out]
          · rw [HW]; exact ho4
        case measure => simp only [intOf]; omega
    · obtain rfl : i = n := by omega
      have HM : Hid ((allW l).length = m) := Lib.hid (by rw [List.take_of_length_le (by rw [HL.out]; exact Nat.le_refl _)] at hm; exact hm)
      rw [List.take_of_length_le (by rw [HL.out]; exact Nat.le_refl _)] at ho
      have hm2 : m ≤ 60000 := by
        have h1 := allW_len l HT.out
        rw [HL.out, HM.out] at h1
        omega
      have HSL : Hid ((Sr.sorted (allW l)).length = m) := Lib.hid (by unfold Sr.sorted; rw [List.length_mergeSort, HM.out])
      have HRUN := Lib.hid (Sr.runs_eq (allW l))
      clear hm hlt
      obtain ⟨ic, hic, zc0, zc1, zc2⟩ := info_parts info_cnt
      have HIC := Lib.hid hic
      have ZC0 := Lib.hid zc0
      have ZC1 := Lib.hid zc1
      have ZC2 := Lib.hid zc2
      clear hic zc0 zc1 zc2
      go_wp2_with (go_at_call 22; refine (sort_own_n (ss := allW l) HM.out ho (by omega)).mono ?_; rintro e w1 ⟨rfl, ho1, hg1⟩)
      have hb1 := hb.grown hg1 hb.size (fun g hg => (ho.lt g hg).1)
      have hso : w1.ownsRow w.heap.size 9 1 (.slice A m c) m (strL (Sr.sorted (allW l))) := ho1
      have HSO := Lib.hid hso
      clear ho ho1 hg1 hb hso HT HE
      generalize Sr.sorted (allW l) = L at *
      go_loopw [6, 30] (fun out ix wr => CRel w.heap.size w L A m c out ix wr) (fun _ ix _ => m - (intOf ix).toNat)
      case atStart => exact ⟨0, 0, none, 0, rfl, rfl, Nat.zero_le _, rfl, World.ownsRow_nil _ _ _ _, HSO.out, hb1⟩
      case round =>
        obtain ⟨k, K, A2, c2, rfl, rfl, hkm, hK, hoc, hos, hb2⟩ := hrel
        by_cases hlt : k < m
        · obtain ⟨bb, ob, x, rfl, hx, hcx⟩ := (Rd.of_own hos).str (by exact hlt)
          have HSTEP := Lib.hid (runs_step hx)
          have hKk := runs_len L k
          rw [hK] at hKk
          have HB := Lib.hid hb2
          have hbs := hb2.size
          rcases List.eq_nil_or_concat (Sr.runs (L.take k)) with hnil | ⟨I, ⟨t, cc⟩, hcon⟩
          · rw [hnil] at hK hoc
            obtain rfl : K = 0 := by simpa using hK.symm
            have HOC := Lib.hid hoc
            have HN := Lib.hid hnil
            clear hK hoc hnil hx hb2
            go_wp2_with (at_builtin; refine wpList_append_lies _ rfl _ _ 43 rfl w.heap.size 60 ic _ 2 24 Tryz.underlying43 HIC.out ZC0.out ZC1.out ZC2.out rfl (by decide) _ 0 (cntL []) rfl (HOC.out.alloc _) ⟨wr.heap.size, 0, none⟩ 1 1 (cntL [(x, 1)]) rfl rfl (Rd.of_blk (Blk.new _ _ _)).add (one_cnt _) (by decide) (by unfold maxLen; omega) (by omega) (by simp; omega) _ rfl ?_; intro g6 cap6 w6 ho6 hg6 _ _)
            go_roundw
            case rel =>
              refine ⟨k + 1, 1, some ⟨g6, 0, none⟩, cap6, rfl, rfl, by omega, ?_, ?_, ?_, ?_⟩
              · rw [HSTEP.out, HN.out]; rfl
              · rw [HSTEP.out, HN.out]; exact ho6
              · exact own_kept_alloc hos HOC.out (by decide) hg6
              · exact (HB.out.alloc hbs _).grown hg6 (by simp; omega) (fun g hg => (HOC.out.lt g hg).1)
            case measure => simp only [intOf]; omega
          · have hnum : cc ≤ 60000 := Nat.le_trans (runs_num L k (t, cc) (by rw [hcon]; simp)) (by omega)
            rw [hcon] at hK hoc
            rw [List.concat_eq_append] at hK hoc hcon
            have hKJ : K = I.length + 1 := by rw [← hK]; simp
            subst hKJ
            obtain ⟨g, cap, hv, hgb, hglt⟩ := hoc.form (by omega)
            simp only [Value.slice.injEq, true_and] at hv
            obtain ⟨rfl, rfl⟩ := hv
            have hc1 := (hoc.cellAt (I.length * 2) (by omega)).trans (cntL_at0 I t cc)
            have hc2 := (hoc.cellAt (I.length * 2 + 1) (by omega)).trans (cntL_at1 I t cc)
            have hf2 := hoc.frozenAt (I.length * 2 + 1)
            have HOC := Lib.hid hoc
            have HCON := Lib.hid hcon
            clear hK hoc hx hb2 hcon
            have HJ : Hid (I.length = I.length) := Lib.hid rfl
            generalize hJ : I.length = J at HOC hc1 hc2 hf2 hKk
            replace HJ : Hid (J = I.length) := Lib.hid hJ.symm
            clear hJ
            by_cases htx : t = x
            · subst htx
              go_wp2_with fail
              have hst := HOC.out.stored (J * 2 + 1) (.int .i64 ((cc + 1 : Nat) : Int))
              rw [HJ.out, cntL_set, ← HJ.out] at hst
              obtain ⟨hst1, hst2⟩ := hst
              go_roundw
              case rel =>
                refine ⟨k + 1, J + 1, some ⟨g, 0, none⟩, c2, rfl, rfl, by omega, ?_, ?_, ?_, ?_⟩
                · rw [HSTEP.out, HCON.out, cstep_same, List.length_append, ← HJ.out]; rfl
                · rw [HSTEP.out, HCON.out, cstep_same]; exact hst1
                · exact hos.kept hst2 (own_ne2 hos HOC.out (by decide))
                · exact HB.out.grown hst2 hbs (fun g' hg => by cases hg; exact hgb)
              case measure => simp only [intOf]; omega
            · have hbe : ((bstr t).toList == (bstr x).toList) = false := by rw [str_beq]; simpa using htx
              go_wp2_with (at_builtin; refine wpList_append_lies _ rfl _ _ 43 rfl w.heap.size 60 ic _ 2 24 Tryz.underlying43 HIC.out ZC0.out ZC1.out ZC2.out rfl (by decide) _ (J + 1) (cntL (I ++ [(t, cc)])) rfl (HOC.out.alloc _) ⟨wr.heap.size, 0, none⟩ 1 1 (cntL [(x, 1)]) rfl rfl (Rd.of_blk (Blk.new _ _ _)).add (one_cnt _) (by decide) (by unfold maxLen; omega) (by omega) (by simp; omega) _ rfl ?_; intro g6 cap6 w6 ho6 hg6 _ _)
              go_roundw
              case rel =>
                refine ⟨k + 1, J + 1 + 1, some ⟨g6, 0, none⟩, cap6, rfl, rfl, by omega, ?_, ?_, ?_, ?_⟩
                · rw [HSTEP.out, HCON.out, cstep_other _ _ _ _ htx, List.length_append, List.length_append, ← HJ.out]; rfl
                · rw [HSTEP.out, HCON.out, cstep_other _ _ _ _ htx, cntL_append]; exact ho6
                · exact own_kept_alloc hos HOC.out (by decide) hg6
                · exact (HB.out.alloc hbs _).grown hg6 (by simp; omega) (fun g' hg => by cases hg; exact hgb)
              case measure => simp only [intOf]; omega
        · obtain rfl : k = m := by omega
          rw [List.take_of_length_le (by rw [HSL.out]; exact Nat.le_refl _), HRUN.out] at hK hoc
          have HOC := Lib.hid hoc
          have HK := Lib.hid hK
          clear hoc hK hos
          go_wp2_with fail
          go_ret
          refine ⟨⟨_, rfl, A2, c2, ?_, ?_⟩, hb2⟩
          · show Value.slice A2 K c2 = _
            rw [HK.out]
          · rw [HK.out]; exact HOC.out
end Go.Proofs.YtfdcbmmafhjlfaaGreat
