/- The walk of the reference's Great, and the law of the index. -/
import Derived.Test.YtfdcbmmafhjlfaaGreatSy2
import Derived.Test.YtfdcbmmafhjlfaaGreatSx4
import Derived.Test.YtfdcbmmafhjlfaaGreatSx5
namespace Go.Proofs.YtfdcbmmafhjlfaaGreat
open Go.RowKit Go.Lib
set_option linter.unusedVariables false

/-- some truth value; false: not more than twenty -/
def FewB (n : Nat) (e : Ending) : Prop := ∃ b, e = .returned (.bool b) ∧ (b = false → n ≤ 20)
set_option maxRecDepth 100000 in
theorem great_any (A : Option Addr) (n c : Nat) (w : World) (h : Evf w A n) : Calls Tryz.prog 12 #[.slice A n c, .int .i64 20] w fun e w' => FewB n e ∧ Below w.heap.size w w' := by
  have HE := Lib.hid h
  clear h
  by_cases hn : n ≤ 20
  · go_enter Tryz.func12, Tryz.ntmps12
    go_wp2_with fail
    go_loopw [5] (fun i wr => ∃ k : Nat, k ≤ n ∧ i = .int .i64 (k : Int) ∧ Below w.heap.size w wr) (fun i _ => n - (intOf i).toNat)
    case atStart => exact ⟨0, Nat.zero_le _, rfl, Below.refl _ _⟩
    case round =>
      obtain ⟨k, hk, rfl, hb⟩ := hrel
      by_cases hlt : k < n
      · obtain ⟨b, off, cs, rfl, hev, hr⟩ := (HE.out.below hb) k hlt
        have HL2 : Hid ((Tryz.prog.info? 41).map (·.size) = some cs.length) := Lib.hid (by rw [hev.len]; exact size_ev)
        have HEV := Lib.hid hev
        clear hev
        go_wp2_with ((with_reducible refine wpList_load_mid rfl 41 _ rfl b (off + k * 29) ?_ cs _ hr Tryz.underlying41 ?_ HL2.out ?_); rfl; rfl)
        refine (long_any cs _ HEV.out).mono ?_
        rintro e w2 ⟨⟨bb, rfl⟩, hb2⟩
        have hb3 := hb.trans (hb2.mono hb.size)
        cases bb
        · go_wp2_with fail
          go_roundw
          case rel => exact ⟨k + 1, by omega, by go_num, hb3⟩
          case measure => simp [intOf]; omega
        · go_wp2_with fail
          go_ret
          exact ⟨⟨_, rfl, fun _ => hn⟩, hb3⟩
      · obtain rfl : k = n := by omega
        go_wp2_with fail
        go_ret
        exact ⟨⟨_, rfl, fun _ => hn⟩, hb⟩
  · go_enter Tryz.func12, Tryz.ntmps12
    go_wp2_with fail
    go_ret
    exact ⟨⟨_, rfl, fun h => by cases h⟩, Below.refl _ _⟩
/-- the kinds and texts of the events -/
theorem Evf.list {w : World} {A : Option Addr} {n : Nat} (h : Evf w A n) : ∃ l : List (Int × ByteArray), l.length = n ∧ Evs w A l := by
  have h2 : ∀ i, i < n → ∃ p : Int × ByteArray, ∃ b off cs, A = some ⟨b, off, none⟩ ∧ EvOk cs p ∧ w.rangeAt b (off + i * 29) cs := by
    intro i hi
    obtain ⟨b, off, cs, e, hf, hr⟩ := h i hi
    obtain ⟨p, hp⟩ := hf.ok
    exact ⟨p, b, off, cs, e, hp, hr⟩
  obtain ⟨f, hf⟩ := Go.Deep.choose_lt h2
  refine ⟨(List.range n).map f, by simp, ?_⟩
  intro i p hp
  rw [List.getElem?_map] at hp
  by_cases hi : i < n
  · rw [List.getElem?_range hi] at hp
    obtain rfl : f i = p := by simpa using hp
    exact hf i hi
  · rw [List.getElem?_eq_none (by simp; omega)] at hp
    cases hp
theorem counts_len (L : List (List UInt8)) : (Sr.counts L).length ≤ L.length := by
  unfold Sr.counts
  rw [List.length_map]
  exact names_len L

set_option maxRecDepth 100000 in
theorem searchindexes_any (A : Option Addr) (n c : Nat) (w : World) (h : Evf w A n) : Calls Tryz.prog 4 #[.slice A n c] w fun e w' => e = .returned (.bool true) ∧ Below w.heap.size w w' := by
  obtain ⟨l, hl, he⟩ := h.list
  have HF := Lib.hid h
  have HE := Lib.hid he
  have HL := Lib.hid hl
  clear h he hl
  go_enter Tryz.func4, Tryz.ntmps4
  go_wp2_with fail
  refine (great_any A n c _ HF.out).mono ?_
  rintro e w1 ⟨⟨b, rfl, hbn⟩, hb1⟩
  cases b
  · replace hbn := hbn rfl
    go_wp2_with fail
    go_loopw [3] (fun i wr => ∃ k : Nat, k ≤ n ∧ i = .int .i64 (k : Int) ∧ wr = w1 ∧ ∀ p ∈ l.take k, p.2.size ≤ 500) (fun i _ => n - (intOf i).toNat)
    case atStart => exact ⟨0, Nat.zero_le _, rfl, rfl, by simp⟩
    case round =>
      obtain ⟨k, hk, rfl, rfl, hall⟩ := hrel
      have HA := Lib.hid hall
      clear hall
      by_cases hlt : k < n
      · obtain ⟨p, hp⟩ : ∃ p, l[k]? = some p := ⟨_, List.getElem?_eq_getElem (by rw [HL.out]; exact hlt)⟩
        obtain ⟨b, off, cs, rfl, hev, hr⟩ := (HE.out.below hb1) k p hp
        have hc10 := hr 10 _ hev.2.2.2
        have HP := Lib.hid hp
        clear hev hr hp
        by_cases hsz : p.2.size ≤ 500
        · go_wp2_with fail
          go_roundw
          case rel =>
            refine ⟨k + 1, by omega, by go_num, by trivial, ?_⟩
            intro q hq
            rw [take_snoc HP.out] at hq
            rcases List.mem_append.1 hq with hq | hq
            · exact HA.out q hq
            · rw [List.mem_singleton.1 hq]; exact hsz
          case measure => simp [intOf]; omega
        · go_wp2_with fail
          refine (awake_any _).mono ?_
          rintro e w6 ⟨rfl, hb6⟩
          go_wp2_with fail
          go_ret
          exact ⟨rfl, hb1.trans (hb6.mono hb1.size)⟩
      · obtain rfl : k = n := by omega
        have HT : Hid (∀ p ∈ l, p.2.size ≤ 2000) := Lib.hid (fun p hp => Nat.le_trans (HA.out p (by rw [List.take_of_length_le (by rw [HL.out]; exact Nat.le_refl _)]; exact hp)) (by omega))
        clear HA
        go_wp2_with fail
        refine (index_any A k c l _ (HE.out.below hb1) HL.out hbn HT.out).mono ?_
        rintro e w2 ⟨⟨v2, rfl, A2, c2, rfl, ho2⟩, hb2⟩
        have hb3 := hb1.trans (hb2.mono hb1.size)
        go_wp2_with fail
        refine (rindex_any A k c l _ (HE.out.below hb3) HL.out hbn HT.out).mono ?_
        rintro e w3 ⟨⟨v3, rfl, A3, c3, rfl, ho3⟩, hb4⟩
        have hb5 := hb3.trans (hb4.mono hb3.size)
        have hcl : (Sr.counts (allW l)).length ≤ 60000 := by
          have h1 := counts_len (allW l)
          have h2 := allW_len l HT.out
          rw [HL.out] at h2
          omega
        have hr2 := (Rc.of_own ho2 rfl).below hb4
        have hr3 := Rc.of_own ho3 rfl
        clear ho2 ho3 hb1 hb2 hb3 hb4
        generalize Sr.counts (allW l) = cs at *
        go_wp2_with fail
        refine (samecounts_any A2 A3 cs.length c2 c3 cs _ hr2 hr3 rfl (by omega)).mono ?_
        rintro e w4 ⟨rfl, q, rfl⟩
        have hb6 := below_drewN hb5 q
        generalize w3.drewN q = w4 at *
        go_wp2_with fail
        refine (awake_any _).mono ?_
        rintro e w7 ⟨rfl, hb7⟩
        go_wp2_with fail
        go_ret
        exact ⟨rfl, hb6.trans (hb7.mono hb6.size)⟩
  · go_wp2_with fail
    refine (awake_any _).mono ?_
    rintro e w6 ⟨rfl, hb6⟩
    go_wp2_with fail
    go_ret
    exact ⟨rfl, hb1.trans (hb6.mono hb1.size)⟩
end Go.Proofs.YtfdcbmmafhjlfaaGreat
