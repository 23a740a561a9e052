/- The walk of ids.Names: a map of what was seen. -/
import Derived.Test.YtfdcbmmafhjlfaaGreatSz1
namespace Go.Proofs.YtfdcbmmafhjlfaaGreat
open Go.RowKit Go.Lib
set_option linter.unusedVariables false

namespace Sr
/-- a list without doubles, sorted: its different elements in order -/
theorem sorted_nodup {l a : List (List UInt8)} (hn : l.Nodup) (hm : ∀ z, z ∈ l ↔ z ∈ a) : (l.mergeSort fun x y => decide (x ≤ y)) = names a := by
  have hp : (l.mergeSort fun x y => decide (x ≤ y)).Perm l := List.mergeSort_perm _ _
  have h1 : (l.mergeSort fun x y => decide (x ≤ y)).Pairwise (fun x y => ¬ y < x) := sorted_le l
  have h2 : (l.mergeSort fun x y => decide (x ≤ y)).Nodup := hp.nodup_iff.2 hn
  have h3 : Inc (l.mergeSort fun x y => decide (x ≤ y)) := (h1.and h2).imp fun {x y} h => by
    rcases blt_total x y with e | e | e
    · exact e
    · exact absurd e h.2
    · exact absurd e h.1
  rw [← names_inc h3]
  exact names_ext fun z => by rw [hp.mem_iff, hm]
theorem run_short (m : Nat) (s : List UInt8) : ∀ p : St, (∀ w ∈ p.1, w.length ≤ m) → p.2.length + s.length ≤ m → (∀ w ∈ (run p s).1, w.length ≤ m) ∧ (run p s).2.length ≤ m := by
  induction s with
  | nil => intro p h1 h2; exact ⟨h1, by simpa [run] using h2⟩
  | cons c s ih =>
    intro p h1 h2
    show (∀ w ∈ (run (wstep p c) s).1, w.length ≤ m) ∧ (run (wstep p c) s).2.length ≤ m
    rw [List.length_cons] at h2
    refine ih _ ?_ ?_
    · unfold wstep
      split
      · intro w hw
        unfold fl at hw
        split at hw
        · exact h1 w hw
        · rcases List.mem_append.1 hw with e | e
          · exact h1 w e
          · rw [List.mem_singleton.1 e]; omega
      · exact h1
    · unfold wstep
      split
      · simp; omega
      · simp; omega
theorem words_short (s w : List UInt8) (h : w ∈ words s) : w.length ≤ s.length := by
  have h1 := (mem_names _ _).1 h
  have h2 := run_short s.length s ([], []) (by simp) (by simp)
  unfold raw fl at h1
  split at h1
  · exact h2.1 w h1
  · rcases List.mem_append.1 h1 with e | e
    · exact h2.1 w e
    · rw [List.mem_singleton.1 e]; exact h2.2
end Sr

/-- what the map holds: the strings of a list -/
def SeenM (w : World) (b n : Nat) (l : List (List UInt8)) : Prop := ∃ D : DataW Unit, w.ownsMap Tryz.prog 9 (plainElem Tryz.prog 4) b n D ∧ ∀ z, D.atKey (.string z) (.lit (.bool false)) = .lit (.bool (decide (z ∈ l)))
theorem SeenM.mono {w : World} {b n n' : Nat} {l : List (List UInt8)} (h : SeenM w b n l) (hn : n ≤ n') : SeenM w b n' l := by
  obtain ⟨D, h1, h2⟩ := h
  exact ⟨D, h1.mono hn, h2⟩
theorem SeenM.made (w : World) : SeenM (w.alloc (.map #[] 0)) w.heap.size 0 [] := ⟨.map [], World.ownsMap_made _ _ _ _, fun z => by simp; rfl⟩
theorem SeenM.kept {w w' : World} {b n : Nat} {l : List (List UInt8)} {row : Option Nat} (h : SeenM w b n l) (hg : w.grownBy w' row) (hne : some b ≠ row) : SeenM w' b n l := by
  obtain ⟨D, h1, h2⟩ := h
  exact ⟨D, h1.kept hg hne, h2⟩
set_option maxRecDepth 100000 in
theorem SeenM.look {w : World} {b n : Nat} {l : List (List UInt8)} (h : SeenM w b n l) (hz : (zeroValue 4).run Tryz.prog w = .ok (.bool false) w) (s : ByteArray) (hs : s.size ≤ maxLen) :
    (Instr.lookup 69 (.map (some b)) (.string s) false).run Tryz.prog w = .ok (.bool (decide (s.data.toList ∈ l))) w := by
  obtain ⟨D, h1, h2⟩ := h
  obtain ⟨v, ps, hrun, hv⟩ := h1.lookup (Maps.string_keyed Tryz.underlying9) Tryz.underlying69 hz (plainElem_bool Tryz.underlying4 false) (WideMaps.keyOf_string_mk Tryz.underlying9 hs)
  rw [h2] at hv
  rw [hrun]
  have : v = .bool (decide (s.data.toList ∈ l)) := by
    unfold plainElem at hv
    rw [Tryz.underlying4] at hv
    cases v <;> simp_all
  rw [this]
set_option maxRecDepth 100000 in
theorem SeenM.put {w : World} {b n : Nat} {l : List (List UInt8)} (h : SeenM w b n l) (hn : n < maxLen) (s : ByteArray) (hs : s.size ≤ maxLen) :
    ∃ w', (Instr.mapUpdate 69 (.map (some b)) (.string s) (.bool true)).run Tryz.prog w = .ok () w' ∧ SeenM w' b (n + 1) (l ++ [s.data.toList]) ∧ w.grownBy w' (some b) := by
  obtain ⟨D, h1, h2⟩ := h
  obtain ⟨w', hrun, h3, h4⟩ := h1.update (Maps.string_keyed Tryz.underlying9) Tryz.underlying69 hn (WideMaps.keyOf_string_mk Tryz.underlying9 hs) (plainElem_bool Tryz.underlying4 true)
  refine ⟨w', hrun, ⟨_, h3, fun z => ?_⟩, h4⟩
  by_cases e : z = s.data.toList
  · subst e
    rw [Maps.atKey_put_same h1.isMap (by trivial)]
    simp
  · rw [Maps.atKey_put_other (by intro e2; injection e2 with e2; exact e e2), h2]
    simp [e]
theorem run_makeMapN (w : World) (n : Nat) : (Instr.makeMap 69 (some (.int .i64 (n : Int)))).run Tryz.prog w = .ok (.map (some w.heap.size)) (w.alloc (.map #[] 0)) := by
  simp [Instr.makeMap, run_underlying Tryz.underlying69, asInt, asIntOf]
def MRel (w : World) (a : List (List UInt8)) (n : Nat) (out ix : Value) (wr : World) : Prop :=
  ∃ (k m : Nat) (ol : List (List UInt8)) (A : Option Addr) (c : Nat), out = .slice A m c ∧ ix = .int .i64 (k : Int) ∧ k ≤ n ∧ m ≤ k ∧ ol.length = m ∧ ol.Nodup ∧ (∀ z, z ∈ ol ↔ z ∈ a.take k) ∧
    wr.ownsRow (w.heap.size + 1) 9 1 (.slice A m c) m (strL ol) ∧ SeenM wr w.heap.size k ol ∧ Below w.heap.size w wr ∧ w.heap.size < wr.heap.size

set_option maxRecDepth 100000 in
theorem inames_any (A : Option Addr) (n ca : Nat) (a : List (List UInt8)) (w : World) (ha : Rd w A n (strL a)) (hn : n ≤ 10000) (hs : ∀ x ∈ a, x.length ≤ 100000) :
    Calls Tryz.prog 16 #[.slice A n ca] w fun e w' => (∃ v, e = .returned v ∧ OwnS w.heap.size w' v (Sr.names a)) ∧ Below w.heap.size w w' := by
  obtain ⟨is, hi, zs0, zs1, zs2⟩ := info_parts info_str
  have HI := Lib.hid hi
  have ZS0 := Lib.hid zs0
  have ZS1 := Lib.hid zs1
  have ZS2 := Lib.hid zs2
  clear hi zs0 zs1 zs2
  have HLA := Lib.hid ha.strs
  have HA := Lib.hid ha
  have HS := Lib.hid hs
  clear ha hs
  have hmm := run_makeMapN w n
  go_enter Tryz.func16, Tryz.ntmps16
  go_wp2_with (at_make; refine wpList_make_own _ rfl _ _ 24 rfl (w.heap.size + 1) 9 is _ 1 Tryz.underlying24 HI.out ZS0.out ZS1.out _ _ _ n rfl rfl rfl (by rw [ZS2.out]; omega) (by unfold maxLen; omega) (by simp) ?_; intro w1 ho1 hg1)
  have hb1 : Below w.heap.size w w1 := ((Below.refl _ w).alloc (Nat.le_refl _) _).grown hg1 (by simp) (fun g hg => by cases hg)
  have hs1 : SeenM w1 w.heap.size 0 [] := (SeenM.made w).kept hg1 (by simp)
  have hlt1 : w.heap.size < w1.heap.size := by have := hg1.size; simp at this; omega
  rw [World.size_alloc] at ho1
  go_loopw [4, 15] (fun out ix wr => MRel w a n out ix wr) (fun _ ix _ => n - (intOf ix).toNat)
  case atStart => exact ⟨0, 0, [], _, _, rfl, rfl, Nat.zero_le _, Nat.le_refl _, rfl, by simp, by simp, ho1, hs1, hb1, hlt1⟩
  case round =>
    obtain ⟨k, m, ol, A2, c2, rfl, rfl, hk, hmk, hol, hnd, hmem, ho, hsn, hb, hsz⟩ := hrel
    have HM := Lib.hid hmem
    have HND := Lib.hid hnd
    have HOL := Lib.hid hol
    have HO := Lib.hid ho
    have HB := Lib.hid hb
    by_cases hlt : k < n
    · obtain ⟨bx, ox, x, rfl, hx, hcx⟩ := (HA.out.below hb).str hlt
      have hxs : (bstr x).size ≤ maxLen := by
        rw [bstr_size]
        have := HS.out x (List.mem_of_getElem? hx)
        unfold maxLen
        omega
      have hlk := hsn.look (by kernel_rfl) (bstr x) hxs
      rw [bstr_list] at hlk
      by_cases hin : x ∈ ol
      · rw [decide_eq_true hin] at hlk
        have HM2 : Hid (∀ z, z ∈ ol ↔ z ∈ a.take (k + 1)) := Lib.hid (fun z => by
          rw [take_snoc hx, List.mem_append, List.mem_singleton, HM.out]
          constructor
          · exact Or.inl
          · rintro (e | e)
            · exact e
            · subst e; exact (HM.out _).1 hin)
        have HSN := Lib.hid hsn
        clear hx hin hmem hnd hol ho hb hsn
        go_wp2_with fail
        go_roundw
        case rel => exact ⟨k + 1, m, ol, A2, c2, rfl, rfl, by omega, by omega, HOL.out, HND.out, HM2.out, HO.out, HSN.out.mono (by omega), HB.out, hsz⟩
        case measure => simp only [intOf]; omega
      · rw [decide_eq_false hin] at hlk
        obtain ⟨w2, hup, hs2, hg2⟩ := hsn.put (by unfold maxLen; omega) (bstr x) hxs
        rw [bstr_list] at hs2
        have ho2 := ho.kept hg2 (.inr (fun e => by have := (ho.lt _ e).1; omega))
        have hb2 := hb.grown hg2 hb.size (fun g hg => by cases hg; exact Nat.le_refl _)
        have hsz2 : w.heap.size < w2.heap.size := by have := hg2.size; omega
        have HM2 : Hid (∀ z, z ∈ ol ++ [x] ↔ z ∈ a.take (k + 1)) := Lib.hid (fun z => by
          rw [take_snoc hx, List.mem_append, List.mem_append, HM.out])
        have HND2 : Hid ((ol ++ [x]).Nodup) := Lib.hid (by
          rw [List.nodup_append]
          refine ⟨HND.out, by simp, fun y hy z hz => ?_⟩
          rw [List.mem_singleton.1 hz]
          intro e
          subst e
          exact hin hy)
        have HS2 := Lib.hid hs2
        have HO2 := Lib.hid ho2
        have HB2 := Lib.hid hb2
        clear hx hin hmem hnd hol ho hb hsn hs2 ho2 hb2 hg2
        go_wp2_with (at_builtin; refine wpList_append_rd rfl _ _ 24 9 rfl is _ 16 Tryz.underlying24 HI.out ZS0.out ZS1.out ZS2.out rfl (w.heap.size + 1) _ m (strL ol) rfl (HO2.out.alloc _) (some ⟨w2.heap.size, 0, none⟩) 1 1 (strL [x]) rfl (Rd.of_blk (Blk.new _ _ _)) (one_strs _) (m + 1) rfl (by unfold maxLen; omega) (by omega) (by simp; omega) ?_; intro A3 c3 w3 ho3 hg3)
        have hnrow : some w.heap.size ≠ (Value.slice A2 m c2).ownBlock := fun e => by have := (HO2.out.lt _ e.symm).1; omega
        go_roundw
        case rel =>
          refine ⟨k + 1, m + 1, ol ++ [x], A3, c3, rfl, rfl, by omega, by omega, ?_, HND2.out, HM2.out, ?_, ?_, ?_, ?_⟩
          · rw [List.length_append, HOL.out]; rfl
          · rw [strL_append]; exact ho3
          · exact (HS2.out.kept (World.grownBy_alloc w2 _ none) (by simp)).kept hg3 hnrow
          · exact (HB2.out.alloc HB2.out.size _).grown hg3 (by have := HB2.out.size; simp; omega) (fun g hg => by have := (HO2.out.lt g hg).1; omega)
          · have := hg3.size; simp at this; omega
        case measure => simp only [intOf]; omega
    · obtain rfl : k = n := by omega
      have HSO : Hid ((ol.mergeSort fun x y => decide (x ≤ y)) = Sr.names a) := Lib.hid (Sr.sorted_nodup HND.out (fun z => by
        rw [HM.out, List.take_of_length_le (by rw [HLA.out]; exact Nat.le_refl _)]))
      clear hmem hnd hol ho hb hsn
      go_wp2_with (go_at_call 22; refine (sort_own_n (ss := ol) HOL.out HO.out (by omega)).mono ?_; rintro e w4 ⟨rfl, ho4, hg4⟩)
      go_ret
      have hb4 := HB.out.grown hg4 HB.out.size (fun g hg => by have := (HO.out.lt g hg).1; omega)
      rw [HSO.out] at ho4
      have hml : m = (Sr.names a).length := by rw [← HSO.out, List.length_mergeSort, HOL.out]
      subst hml
      exact ⟨⟨_, rfl, A2, c2, rfl, own_base ho4 (by omega)⟩, hb4⟩
end Go.Proofs.YtfdcbmmafhjlfaaGreat
