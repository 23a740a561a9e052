/- The walks of both Scores. -/
import Derived.Test.YtfdcbmmafhjlfaaGreatSw3
import Derived.Test.YtfdcbmmafhjlfaaGreatSw4
namespace Go.Proofs.YtfdcbmmafhjlfaaGreat
open Go.RowKit Go.Lib
set_option linter.unusedVariables false

/-- where an element stands or would stand in an increasing list -/
theorem inc_place (x : List UInt8) : ∀ l : List (List UInt8), Sr.Inc l → ∃ k, k ≤ l.length ∧ (∀ t, t < k → (l[t]?.getD x) < x) ∧ (∀ t, k ≤ t → ¬ (l[t]?.getD x) < x) ∧ (x ∈ l ↔ l[k]? = some x)
  | [], _ => ⟨0, by simp, by intro t h; omega, by intro t _; simp, by simp⟩
  | y :: r, h => by
    rw [Sr.inc_cons] at h
    by_cases hy : y < x
    · obtain ⟨k, h1, h2, h3, h4⟩ := inc_place x r h.2
      refine ⟨k + 1, by simpa using h1, ?_, ?_, ?_⟩
      · intro t ht
        cases t with
        | zero => simpa using hy
        | succ t => simpa using h2 t (by omega)
      · intro t ht
        cases t with
        | zero => omega
        | succ t => simpa using h3 t (by omega)
      · rw [List.getElem?_cons_succ, ← h4, List.mem_cons]
        constructor
        · rintro (e | e)
          · subst e; exact absurd hy (Sr.blt_irrefl _)
          · exact e
        · exact Or.inr
    · refine ⟨0, Nat.zero_le _, by intro t ht; omega, ?_, ?_⟩
      · intro t _
        cases t with
        | zero => simpa using hy
        | succ t =>
          rw [List.getElem?_cons_succ]
          cases hq : r[t]? with
          | none => exact Sr.blt_irrefl x
          | some z =>
            intro hz
            exact hy (Sr.blt_trans (h.1 z (List.mem_of_getElem? hq)) hz)
      · simp only [List.mem_cons, List.getElem?_cons_zero, Option.some.injEq]
        constructor
        · rintro (e | e)
          · exact e.symm
          · exact absurd (h.1 x e) hy
        · intro e; exact .inl e.symm
theorem ret_found {k k' : Int} {b b' : Bool} (h : b = b') : Ending.returned (.tuple #[.int .i64 k, .bool b]) = .returned (.tuple #[.int .i64 k, .bool b']) := by rw [h]
theorem bsearch_any (A : Option Addr) (n c : Nat) (l : List (List UInt8)) (x : List UInt8) (w : World) (hr : Rd w A n (strL l)) (hinc : Sr.Inc l) (hn : n ≤ 100000) :
    Calls Tryz.prog 26 #[.slice A n c, .string (bstr x)] w fun e w' => (∃ k : Int, e = .returned (.tuple #[.int .i64 k, .bool (decide (x ∈ l))])) ∧ ∃ q, w' = w.drewN q := by
  have hl := hr.strs
  rcases Nat.eq_zero_or_pos n with rfl | hpos
  · obtain rfl := List.eq_nil_of_length_eq_zero hl
    refine (Any2.slices_BinarySearch_string_empty Tryz.lays2x26 A c (bstr x) w).mono ?_
    rintro e w' ⟨rfl, rfl⟩
    exact ⟨⟨_, ret_found (k' := 0) (by simp)⟩, 0, rfl⟩
  · obtain ⟨b, off, v, rfl, _, _⟩ := hr.at_ hpos
    have hc : ∀ j, j < n → w.cell? ⟨b, off + j, none⟩ = some (.string (bstr (l[j]?.getD x))) := by
      intro j hj
      obtain ⟨b', o', y, e1, e2, e3⟩ := hr.str hj
      injection e1 with e1
      injection e1 with e1 e4
      subst e1 e4
      rw [e3, e2]
      rfl
    refine (Any2.slices_BinarySearch_string Tryz.lays2x26 b off n c (fun j => bstr (l[j]?.getD x)) (bstr x) w (by omega) hc).mono ?_
    rintro e w' ⟨rfl, q, rfl⟩
    refine ⟨⟨_, ret_found (k' := 0) ?_⟩, q, rfl⟩
    obtain ⟨k, h1, h2, h3, h4⟩ := inc_place x l hinc
    have hk : Lib.bsGo (fun t => Op.bytesLess (bstr (l[t]?.getD x)).toList (bstr x).toList) n 0 n = k := by
      refine Lib.bsGo_spec _ k ?_ ?_ n 0 n (by omega) (by omega) (by omega)
      · intro t ht; show Op.bytesLess _ _ = true; rw [blt_str]; exact decide_eq_true (h2 t ht)
      · intro t ht; show Op.bytesLess _ _ = false; rw [blt_str]; exact decide_eq_false (h3 t ht)
    rw [hk]
    rw [Bool.eq_iff_iff, decide_eq_true_eq, decide_eq_true_eq, h4]
    constructor
    · rintro ⟨h5, h6⟩
      have e : l[k]? = some l[k] := List.getElem?_eq_getElem (by omega)
      rw [e] at h6 ⊢
      have h7 := congrArg (fun s : ByteArray => s.data.toList) h6
      simp only [bstr_list, Option.getD_some] at h7
      rw [h7]
    · intro h5
      obtain ⟨h6, h7⟩ := List.getElem?_eq_some_iff.1 h5
      exact ⟨by omega, by rw [h5]; rfl⟩
/-- the words of the second list, as far as they were looked at, that the first one has -/
def cnt (a b : List (List UInt8)) (k : Nat) : Nat := ((b.take k).filter fun w => a.contains w).length
theorem cnt_le (a b : List (List UInt8)) (k : Nat) : cnt a b k ≤ k := Nat.le_trans (List.length_filter_le _ _) (List.length_take_le _ _)
theorem cnt_yes {a b : List (List UInt8)} {k : Nat} {x : List UInt8} (h : b[k]? = some x) (hx : x ∈ a) : cnt a b (k + 1) = cnt a b k + 1 := by
  unfold cnt
  rw [take_snoc h, List.filter_append, List.length_append]
  simp [hx]
theorem cnt_no {a b : List (List UInt8)} {k : Nat} {x : List UInt8} (h : b[k]? = some x) (hx : x ∉ a) : cnt a b (k + 1) = cnt a b k := by
  unfold cnt
  rw [take_snoc h, List.filter_append, List.length_append]
  simp [hx]
theorem cnt_all (s q : List UInt8) : cnt (Sr.words s) (Sr.words q) (Sr.words q).length = Sr.score s q := by
  unfold cnt Sr.score
  rw [List.take_of_length_le (Nat.le_refl _)]
theorem words_len (s : List UInt8) : (Sr.words s).length ≤ s.length + 1 := by
  have h := names_len (Sr.raw s)
  have h2 := (rst_len ⟨s.toArray⟩ (s.length + 1) (by rw [show (ByteArray.mk s.toArray).size = s.length from bstr_size s]; exact Nat.le_refl _)).1
  have h3 := rst_end ⟨s.toArray⟩
  rw [show (ByteArray.mk s.toArray).size = s.length from bstr_size s] at h3
  rw [h3] at h2
  exact Nat.le_trans h h2

set_option maxRecDepth 100000 in
theorem score_any (s q : ByteArray) (w : World) (hs : s.size ≤ 2000) (hq : q.size ≤ 2000) :
    Calls Tryz.prog 10 #[.string s, .string q] w fun e w' => e = .returned (.int .i64 (Sr.score s.data.toList q.data.toList)) ∧ Below w.heap.size w w' := by
  have hwl := words_len q.data.toList
  rw [← str_size] at hwl
  have hwl2 := words_len s.data.toList
  rw [← str_size] at hwl2
  have HINC := Lib.hid (Sr.inc_names (Sr.raw s.data.toList))
  have HALL := Lib.hid (cnt_all s.data.toList q.data.toList)
  go_enter Tryz.func10, Tryz.ntmps10
  go_wp2_with fail
  refine (words_any s _ hs).mono ?_
  rintro e w1 ⟨⟨v1, rfl, A1, c1, rfl, ho1⟩, hb1⟩
  go_wp2_with fail
  refine (words_any q _ hq).mono ?_
  rintro e w2 ⟨⟨v2, rfl, A2, c2, rfl, ho2⟩, hb2⟩
  have hr1 := (Rd.of_own ho1).below hb2
  have hr2 := Rd.of_own ho2
  have hb := hb1.trans (hb2.mono hb1.size)
  have HR1 := Lib.hid hr1
  have HR2 := Lib.hid hr2
  have HB := Lib.hid hb
  clear ho1 ho2 hb1 hb2 hr1 hr2 hb
  generalize hws : Sr.words s.data.toList = ws at *
  generalize hwq : Sr.words q.data.toList = wq at *
  have HINC2 : Hid (Sr.Inc ws) := Lib.hid (by rw [← hws]; exact HINC.out)
  clear hws hwq HINC
  go_wp2_with fail
  go_loopw [6, 16] (fun nn i wr => ∃ k m : Nat, k ≤ wq.length ∧ i = .int .i64 k ∧ nn = .int .i64 (cnt ws wq k) ∧ wr = w2.drewN m) (fun _ i _ => wq.length - (intOf i).toNat)
  case atStart => exact ⟨0, 0, by omega, rfl, rfl, rfl⟩
  case round =>
    obtain ⟨k, m, hk, rfl, rfl, rfl⟩ := hrel
    have hcl := cnt_le ws wq k
    by_cases hlt : k < wq.length
    · obtain ⟨bb, ob, x, rfl, hx, hcx⟩ := HR2.out.str hlt
      by_cases hm : x ∈ ws
      · have HC := Lib.hid (cnt_yes hx hm)
        have hdm : decide (x ∈ ws) = true := decide_eq_true hm
        clear hx hm
        go_wp2_with fail
        refine (bsearch_any _ _ _ ws x _ (by exact HR1.out) HINC2.out (by omega)).mono ?_
        rintro e w3 ⟨⟨kk, rfl⟩, qq, rfl⟩
        go_wp2_with fail
        go_roundw
        case rel => exact ⟨k + 1, _, by omega, by go_num, by rw [HC.out]; go_num, rfl⟩
        case measure => simp [intOf]; omega
      · have HC := Lib.hid (cnt_no hx hm)
        have hdm : decide (x ∈ ws) = false := decide_eq_false hm
        clear hx hm
        go_wp2_with fail
        refine (bsearch_any _ _ _ ws x _ (by exact HR1.out) HINC2.out (by omega)).mono ?_
        rintro e w3 ⟨⟨kk, rfl⟩, qq, rfl⟩
        go_wp2_with fail
        go_roundw
        case rel => exact ⟨k + 1, _, by omega, by go_num, by rw [HC.out], rfl⟩
        case measure => simp [intOf]; omega
    · obtain rfl : k = wq.length := by omega
      go_wp2_with fail
      go_ret
      exact ⟨ret_int (by rw [HALL.out]), below_drewN HB.out _⟩

set_option maxRecDepth 100000 in
theorem rscore_any (s q : ByteArray) (w : World) (hs : s.size ≤ 2000) (hq : q.size ≤ 2000) :
    Calls Tryz.prog 11 #[.string s, .string q] w fun e w' => e = .returned (.int .i64 (Sr.score s.data.toList q.data.toList)) ∧ Below w.heap.size w w' := by
  have hwl := words_len q.data.toList
  rw [← str_size] at hwl
  have hwl2 := words_len s.data.toList
  rw [← str_size] at hwl2
  have HALL := Lib.hid (cnt_all s.data.toList q.data.toList)
  go_enter Tryz.func11, Tryz.ntmps11
  go_wp2_with fail
  refine (rwords_any s _ hs).mono ?_
  rintro e w1 ⟨⟨v1, rfl, A1, c1, rfl, ho1⟩, hb1⟩
  go_wp2_with fail
  refine (rwords_any q _ hq).mono ?_
  rintro e w2 ⟨⟨v2, rfl, A2, c2, rfl, ho2⟩, hb2⟩
  have hr1 := (Rd.of_own ho1).below hb2
  have hr2 := Rd.of_own ho2
  have hb := hb1.trans (hb2.mono hb1.size)
  have HR1 := Lib.hid hr1
  have HR2 := Lib.hid hr2
  have HB := Lib.hid hb
  clear ho1 ho2 hb1 hb2 hr1 hr2 hb
  generalize Sr.words s.data.toList = ws at *
  generalize Sr.words q.data.toList = wq at *
  go_wp2_with fail
  go_loop [7, 8] (fun nn i => ∃ k : Nat, k ≤ wq.length ∧ i = .int .i64 k ∧ nn = .int .i64 (cnt ws wq k)) (fun _ i => wq.length - (intOf i).toNat)
  case atStart => exact ⟨0, by omega, rfl, rfl⟩
  case round =>
    obtain ⟨k, hk, rfl, rfl⟩ := hrel
    have hcl := cnt_le ws wq k
    by_cases hlt : k < wq.length
    · obtain ⟨bb, ob, x, rfl, hx, hcx⟩ := HR2.out.str hlt
      by_cases hm : x ∈ ws
      · have HC := Lib.hid (cnt_yes hx hm)
        have hdm : 0 ≤ findI ws x := findI_mem.2 hm
        have HDM := Lib.hid hdm
        clear hx hm
        go_wp2_with fail
        refine (rfind_any _ _ _ ws x _ HR1.out (by omega)).mono ?_
        rintro e w3 ⟨rfl, rfl⟩
        generalize findI ws x = fi at *
        go_wp2_with fail
        go_round
        case rel => exact ⟨k + 1, by omega, by go_num, by rw [HC.out]; go_num⟩
        case measure => simp [intOf]; omega
      · have HC := Lib.hid (cnt_no hx hm)
        have HDM : Hid (findI ws x = -1) := Lib.hid (findI_none hm)
        clear hx hm
        go_wp2_with fail
        refine (rfind_any _ _ _ ws x _ HR1.out (by omega)).mono ?_
        rintro e w3 ⟨rfl, rfl⟩
        rw [HDM.out]
        go_wp2_with fail
        go_round
        case rel => exact ⟨k + 1, by omega, by go_num, by rw [HC.out]⟩
        case measure => simp [intOf]; omega
    · obtain rfl : k = wq.length := by omega
      go_wp2_with fail
      go_ret
      exact ⟨ret_int (by rw [HALL.out]), HB.out⟩
end Go.Proofs.YtfdcbmmafhjlfaaGreat
