/- The walk of the reference's Names. -/
import Derived.Test.YtfdcbmmafhjlfaaGreatSw5
import Derived.Test.YtfdcbmmafhjlfaaGreatNm
namespace Go.Proofs.YtfdcbmmafhjlfaaGreat
open Go.RowKit Go.Lib
set_option linter.unusedVariables false

theorem bless_eq : ∀ (x y : List UInt8), Op.bytesLess x y = decide (x < y)
  | [], [] => by simp [Op.bytesLess]
  | _ :: _, [] => by simp [Op.bytesLess]
  | [], _ :: _ => by simp [Op.bytesLess]
  | a :: x, b :: y => by
    rw [Op.bytesLess, bless_eq x y]
    simp only [List.cons_lt_cons_iff]
    by_cases h1 : a < b <;> by_cases h2 : a = b <;> by_cases h3 : x < y <;> simp [h1, h2, h3]
theorem blt_str (x y : List UInt8) : Op.bytesLess (bstr x).toList (bstr y).toList = decide (x < y) := by
  rw [Lib.toList_data, Lib.toList_data, bless_eq]; rfl
def NRel (w : World) (B n : Nat) (a : List (List UInt8)) (o i : Value) (wr : World) : Prop :=
  ∃ (k : Nat) (A : Option Addr) (cap : Nat), k ≤ n ∧ i = .int .i64 k ∧ o = .slice A (Sr.names (a.take k)).length cap ∧ wr.ownsRow B 9 1 (.slice A (Sr.names (a.take k)).length cap) (Sr.names (a.take k)).length (strL (Sr.names (a.take k))) ∧ Below B w wr
theorem names_len (l : List (List UInt8)) : (Sr.names l).length ≤ l.length := by
  suffices h : ∀ acc : List (List UInt8), (l.foldl (fun acc x => Sr.ins x acc) acc).length ≤ acc.length + l.length by
    have := h []
    simpa [Sr.names] using this
  have hi : ∀ (x : List UInt8) (l : List (List UInt8)), (Sr.ins x l).length ≤ l.length + 1 := by
    intro x l
    induction l with
    | nil => simp [Sr.ins]
    | cons y r ih =>
      unfold Sr.ins
      split
      · simp only [List.length_cons]; omega
      · split <;> simp
  induction l with
  | nil => intro acc; simp
  | cons x l ih =>
    intro acc
    have h1 := ih (Sr.ins x acc)
    have h2 := hi x acc
    simp only [List.foldl_cons, List.length_cons]
    omega
theorem names_at (a : List (List UInt8)) (k : Nat) (x : List UInt8) (h : a[k]? = some x) : Sr.names (a.take (k + 1)) = Sr.ins x (Sr.names (a.take k)) := by
  rw [take_snoc h, Sr.names_snoc]

set_option maxRecDepth 100000 in
theorem rnames_any (A : Option Addr) (n ca : Nat) (a : List (List UInt8)) (w : World) (ha : Rd w A n (strL a)) (hn : n ≤ 100000) :
    Calls Tryz.prog 25 #[.slice A n ca] w fun e w' => (∃ v, e = .returned v ∧ OwnS w.heap.size w' v (Sr.names a)) ∧ Below w.heap.size w w' := by
  obtain ⟨is, hi, zs0, zs1, zs2⟩ := info_parts info_str
  have HI := Lib.hid hi
  have ZS0 := Lib.hid zs0
  have ZS1 := Lib.hid zs1
  have ZS2 := Lib.hid zs2
  clear hi zs0 zs1 zs2
  have HLA := Lib.hid ha.strs
  have HA := Lib.hid ha
  clear ha
  go_enter Tryz.func25, Tryz.ntmps25
  go_wp2_with fail
  go_loopw [3, 4] (fun o i wr => NRel w w.heap.size n a o i wr) (fun _ i _ => n - (intOf i).toNat)
  case atStart => exact ⟨0, none, 0, by omega, rfl, rfl, own_nil _ _ _, Below.refl _ _⟩
  case round =>
    obtain ⟨k, A2, cap, hk, rfl, rfl, hown, hb⟩ := hrel
    obtain ⟨wo, hwo⟩ : ∃ wo : World, wr = wo := ⟨_, rfl⟩
    subst hwo
    by_cases hlt : k < n
    · obtain ⟨bx, ox, x, rfl, hx, hcx⟩ := (HA.out.below hb).str hlt
      have HNS := Lib.hid (names_at a k x hx)
      have hnl : (Sr.names (a.take k)).length ≤ k := Nat.le_trans (names_len _) (List.length_take_le _ _)
      generalize Sr.names (a.take k) = nm at *
      have HB := Lib.hid hb
      have HX := Lib.hid hx
      have HOWN := Lib.hid hown
      clear hb hx hown
      go_wp2_with fail
      go_loopw [5] (fun j w2 => ∃ (q i : Nat), w2 = wr.drewN q ∧ j = .int .i64 i ∧ i ≤ nm.length ∧ Hid (∀ y ∈ nm.take i, y < x)) (fun j _ => nm.length - (intOf j).toNat)
      case atStart => exact ⟨0, 0, rfl, rfl, by omega, Lib.hid (by simp)⟩
      case round =>
        obtain ⟨q, i, rfl, rfl, hi, hall⟩ := hrel
        have hcases : (∃ y, nm[i]? = some y ∧ i < nm.length ∧ y < x) ∨ (nm[i]? = some x ∧ i < nm.length) ∨ (i = nm.length) ∨ (∃ y, nm[i]? = some y ∧ i < nm.length ∧ ¬ y < x ∧ y ≠ x) := by
          by_cases h1 : i < nm.length
          · have e := List.getElem?_eq_getElem h1
            by_cases h2 : nm[i] < x
            · exact .inl ⟨_, e, h1, h2⟩
            · by_cases h3 : nm[i] = x
              · exact .inr (.inl ⟨by rw [e, h3], h1⟩)
              · exact .inr (.inr (.inr ⟨_, e, h1, h2, h3⟩))
          · exact .inr (.inr (.inl (by omega)))
        rcases hcases with ⟨y, hy, hil, hyx⟩ | ⟨hy, hil⟩ | hie | ⟨y, hy, hil, hyx, hne⟩
        · obtain ⟨bo, oo, y2, rfl, hy2, hcy⟩ := (Rd.of_own HOWN.out).str hil
          obtain rfl : y = y2 := by rw [hy] at hy2; injection hy2
          have hl1 : Op.bytesLess (bstr y).toList (bstr x).toList = true := by rw [blt_str]; exact decide_eq_true hyx
          have HN : Hid (∀ z ∈ nm.take (i + 1), z < x) := Lib.hid (by
            rw [take_snoc hy]
            intro z hz
            rcases List.mem_append.1 hz with e | e
            · exact hall.out z e
            · rw [List.mem_singleton.1 e]; exact hyx)
          clear hy hyx
          generalize bstr y = sy at *
          generalize bstr x = sx at *
          go_wp2_with fail
          go_quiet (fail)
          go_wp2_with fail
          go_roundw
          case rel => exact ⟨_, i + 1, rfl, by go_num, by omega, HN⟩
          case measure => simp [intOf]; omega
        · obtain ⟨bo, oo, y, rfl, hy2, hcy⟩ := (Rd.of_own HOWN.out).str hil
          obtain rfl : x = y := by rw [hy] at hy2; injection hy2
          have hl1 : Op.bytesLess (bstr x).toList (bstr x).toList = false := by rw [blt_str]; exact decide_eq_false (Sr.blt_irrefl x)
          have HE : Hid (Sr.ins x nm = nm) := Lib.hid (by rw [Sr.ins_split x nm i hi hall.out (fun z hz => by rw [hy] at hz; injection hz with hz; rw [← hz]; exact Sr.blt_irrefl x), if_pos hy])
          clear hy hy2
          generalize bstr x = sx at *
          go_wp2_with fail
          go_quiet (fail)
          go_wp2_with fail
          go_quiet (fail)
          go_wp2_with fail
          go_roundw
          case rel => exact ⟨k + 1, _, cap, by omega, by go_num, by rw [HNS.out, HE.out], by rw [HNS.out, HE.out]; exact HOWN.out, below_drewN HB.out _⟩
          case measure => simp [intOf]; omega
        all_goals
          have hins : Sr.ins x nm = Sr.gap nm i x := by
            have hno : nm[i]? ≠ some x := by first | (rw [hie, List.getElem?_eq_none (Nat.le_refl _)]; simp) | (rw [hy]; simpa using hne)
            rw [Sr.ins_split x nm i hi hall.out (by first | (intro z hz; rw [hie, List.getElem?_eq_none (Nat.le_refl _)] at hz; cases hz) | (intro z hz; rw [hy] at hz; injection hz with hz; rw [← hz]; exact hyx)), if_neg hno]
            rfl
          have HINS := Lib.hid hins
          clear hins
        case' inr.inr.inl =>
          have d1 : decide (i < nm.length) = false := decide_eq_false (by omega)
          clear hie
          go_wp2_with fail
          go_quiet (fail)
          go_wp2_with fail
          go_quiet (fail)
        case' inr.inr.inr =>
          obtain ⟨bo, oo, y2, rfl, hy2, hcy⟩ := (Rd.of_own HOWN.out).str hil
          obtain rfl : y = y2 := by rw [hy] at hy2; injection hy2
          have hl1 : Op.bytesLess (bstr y).toList (bstr x).toList = false := by rw [blt_str]; exact decide_eq_false hyx
          have hl2 : ((bstr y).toList == (bstr x).toList) = false := by rw [str_beq]; simpa using hne
          clear hy hyx hne
          obtain ⟨sx, hsx⟩ : ∃ sx, bstr x = sx := ⟨_, rfl⟩
          have HSX := Lib.hid hsx
          rw [hsx] at hcx hl1 hl2
          clear hsx
          generalize bstr y = sy at *
          go_wp2_with fail
          go_quiet (fail)
          go_wp2_with fail
          go_quiet (fail)
          clear hl1 hl2 hcy hil
        all_goals
          go_wp2_with (at_builtin; refine wpList_append_rd rfl _ _ 24 9 rfl is _ 16 Tryz.underlying24 HI.out ZS0.out ZS1.out ZS2.out rfl w.heap.size _ nm.length (strL nm) rfl (by exact HOWN.out.alloc _) (some ⟨wr.heap.size, 0, none⟩) 1 1 (strL [[]]) rfl (by exact Rd.of_blk (Blk.new _ _ _)) (one_strs _) (nm.length + 1) rfl (by unfold maxLen; omega) (by omega) (by have := HB.out.size; simp; omega) ?_; intro A3 cap3 w3 ho3 hg3)
          obtain ⟨g, rfl⟩ : ∃ g, A3 = some ⟨g, 0, none⟩ := by
            rcases ho3.2 with ⟨_, h0⟩ | ⟨g, cap', cur, hv, _⟩
            · omega
            · injection hv with e1; exact ⟨g, e1⟩
          have hb3 : Below w.heap.size w w3 := (below_drewN (HB.out.alloc HB.out.size _) _).grown hg3 (by have := HB.out.size; simp; omega) (fun g' hg' => (HOWN.out.lt g' hg').1)
          have hbg : w.heap.size ≤ g := (ho3.lt g (by simp [Value.ownBlock])).1
          have HSTART : Hid (w3.ownsRow w.heap.size 9 1 (.slice (some ⟨g, 0, none⟩) (nm.length + 1) cap3) (nm.length + 1) (strL (Sr.gap nm nm.length []))) := Lib.hid (by rw [Sr.gap_end, strL_append]; exact ho3)
          have HB3 := Lib.hid hb3
          clear ho3 hg3 hb3 hcx
          go_loopw [6] (fun jj wj => ∃ (j : Nat) (z : List UInt8), jj = .int .i64 j ∧ i ≤ j ∧ j ≤ nm.length ∧ wj.ownsRow w.heap.size 9 1 (.slice (some ⟨g, 0, none⟩) (nm.length + 1) cap3) (nm.length + 1) (strL (Sr.gap nm j z)) ∧ Below w.heap.size w wj) (fun jj _ => (intOf jj).toNat)
          case atStart => exact ⟨nm.length, [], rfl, hi, Nat.le_refl _, HSTART.out, HB3.out⟩
          case round =>
            obtain ⟨j, z, rfl, hij, hjn, hoj, hbj⟩ := hrel
            by_cases hgt : i < j
            · obtain ⟨j1, rfl⟩ : ∃ j1, j = j1 + 1 := ⟨j - 1, by omega⟩
              obtain ⟨y, hy⟩ : ∃ y, nm[j1]? = some y := ⟨_, List.getElem?_eq_getElem (show j1 < nm.length by omega)⟩
              have hc1 : wr.cell? ⟨g, j1, none⟩ = some (.string (bstr y)) := by
                rw [hoj.cellAt j1 (by omega), strL_get _ _ y (Sr.gap_at nm j1 z y hy)]
              have hc2 : ∃ v, wr.cell? ⟨g, j1 + 1, none⟩ = some v := by
                rw [hoj.cellAt (j1 + 1) (by omega)]
                exact ⟨_, List.getElem?_eq_getElem (by rw [strL_len, Sr.gap_len _ _ _ hjn]; omega)⟩
              obtain ⟨old, hc2⟩ := hc2
              have hf2 := hoj.frozenAt (j1 + 1)
              have HST := Lib.hid (hoj.stored (j1 + 1) (.string (bstr y)))
              have HMV : Hid ((strL (Sr.gap nm (j1 + 1) z)).set (j1 + 1) (.string (bstr y)) = strL (Sr.gap nm j1 y)) := Lib.hid (by rw [strL_set, Sr.gap_set nm (j1 + 1) z y hjn, Sr.gap_move nm j1 y hy])
              have HBJ := Lib.hid hbj
              clear hoj hbj hy
              obtain ⟨sy, hsy⟩ : ∃ sy, bstr y = sy := ⟨_, rfl⟩
              rw [hsy] at hc1 HST HMV
              clear hsy
              go_wp2_with fail
              go_roundw
              case rel => exact ⟨j1, y, by go_num, by omega, by omega, by rw [← HMV.out]; exact HST.out.1, HBJ.out.setCell hbg _⟩
              case measure => simp [intOf]
            · obtain rfl : j = i := by omega
              have hcx : wr.cell? ⟨bx, ox + k, none⟩ = some (.string (bstr x)) := by
                obtain ⟨b', o', x', e1, e2, e3⟩ := (HA.out.below hbj).str hlt
                injection e1 with e1
                injection e1 with e1 e4
                subst e1 e4
                rw [HX.out] at e2
                injection e2 with e2
                rw [e3, e2]
              have hc2 : ∃ v, wr.cell? ⟨g, j, none⟩ = some v := by
                rw [hoj.cellAt j (by omega)]
                exact ⟨_, List.getElem?_eq_getElem (by rw [strL_len, Sr.gap_len _ _ _ hjn]; omega)⟩
              obtain ⟨old, hc2⟩ := hc2
              have hf2 := hoj.frozenAt j
              have HST := Lib.hid (hoj.stored j (.string (bstr x)))
              have HMV : Hid ((strL (Sr.gap nm j z)).set j (.string (bstr x)) = strL (Sr.gap nm j x)) := Lib.hid (by rw [strL_set, Sr.gap_set nm j z x hjn])
              have HBJ := Lib.hid hbj
              have HGL := Lib.hid (Sr.gap_len nm j x hjn)
              clear hoj hbj
              obtain ⟨sx, hsx⟩ : ∃ sx, bstr x = sx := ⟨_, rfl⟩
              rw [hsx] at hcx HST HMV
              clear hsx
              go_wp2_with fail
              go_roundw
              case rel => exact ⟨k + 1, some ⟨g, 0, none⟩, cap3, by omega, by go_num, by rw [HNS.out, HINS.out, HGL.out], by rw [HNS.out, HINS.out, HGL.out, ← HMV.out]; exact HST.out.1, HBJ.out.setCell hbg _⟩
              case measure => simp [intOf]; omega
    · obtain rfl : k = n := by omega
      have ht : a.take k = a := List.take_of_length_le (by rw [HLA.out]; omega)
      rw [ht] at hown ⊢
      have HOWN := Lib.hid hown
      have HB := Lib.hid hb
      clear hown hb
      go_wp2_with fail
      go_ret
      exact ⟨⟨_, rfl, A2, cap, rfl, HOWN.out⟩, HB.out⟩
end Go.Proofs.YtfdcbmmafhjlfaaGreat
