/- The walks of the reference's Same and Find over texts. -/
import Derived.Test.YtfdcbmmafhjlfaaGreatSw2
import Derived.Deep.QuietTactic
import Derived.BigQuiet
namespace Go.Proofs.YtfdcbmmafhjlfaaGreat
open Go.RowKit Go.Lib
set_option linter.unusedVariables false

theorem strL_at {ss : List (List UInt8)} {k : Nat} {v : Value} (h : (strL ss)[k]? = some v) : ∃ x, ss[k]? = some x ∧ v = .string (bstr x) := by
  unfold strL at h
  rw [List.getElem?_map] at h
  cases hq : ss[k]? with
  | none => rw [hq] at h; cases h
  | some x => rw [hq] at h; injection h with h; exact ⟨x, rfl, h.symm⟩
theorem strL_len (ss : List (List UInt8)) : (strL ss).length = ss.length := List.length_map _
theorem Rd.strs {w : World} {A : Option Addr} {n : Nat} {ss : List (List UInt8)} (h : Rd w A n (strL ss)) : ss.length = n := by rw [← h.1, strL_len]
theorem Rd.str {w : World} {A : Option Addr} {n : Nat} {ss : List (List UInt8)} (h : Rd w A n (strL ss)) {k : Nat} (hk : k < n) : ∃ b off x, A = some ⟨b, off, none⟩ ∧ ss[k]? = some x ∧ w.cell? ⟨b, off + k, none⟩ = some (.string (bstr x)) := by
  obtain ⟨b, off, v, e1, e2, e3⟩ := h.at_ hk
  obtain ⟨x, e4, e5⟩ := strL_at e2
  exact ⟨b, off, x, e1, e4, by rw [e3, e5]⟩
theorem str_beq (x y : List UInt8) : ((bstr x).toList == (bstr y).toList) = (x == y) := by rw [Lib.toList_data, Lib.toList_data]; rfl

set_option maxRecDepth 100000 in
theorem rsame_any (A B : Option Addr) (n m ca cb : Nat) (a b : List (List UInt8)) (w : World) (ha : Rd w A n (strL a)) (hb : Rd w B m (strL b)) (hn : n ≤ 100000) (hm : m ≤ 100000) :
    Calls Tryz.prog 7 #[.slice A n ca, .slice B m cb] w fun e w' => e = .returned (.bool (decide (a = b))) ∧ ∃ q, w' = w.drewN q := by
  have hla := ha.strs
  have hlb := hb.strs
  by_cases hnm : n = m
  · subst hnm
    have HLA := Lib.hid hla
    have HLB := Lib.hid hlb
    have HA := Lib.hid ha
    have HB := Lib.hid hb
    clear hla hlb ha hb
    have hne : ((n : Int) != (n : Int)) = false := by rw [bne_eq_false_iff_eq]
    go_enter Tryz.func7, Tryz.ntmps7
    go_wp2_with fail
    go_loopw [5] (fun i wr => ∃ k q : Nat, k ≤ n ∧ i = .int .i64 k ∧ wr = w.drewN q ∧ Hid (a.take k = b.take k)) (fun i _ => n - (intOf i).toNat)
    case atStart => exact ⟨0, 0, by omega, rfl, rfl, Lib.hid rfl⟩
    case round =>
      obtain ⟨k, q, hk, rfl, rfl, heq⟩ := hrel
      by_cases hlt : k < n
      · obtain ⟨ba, oa, x, rfl, hx, hcx⟩ := HA.out.str hlt
        obtain ⟨bb, ob, y, rfl, hy, hcy⟩ := HB.out.str hlt
        have HX := Lib.hid hx
        have HY := Lib.hid hy
        have hsb := str_beq x y
        by_cases hxy : x = y
        · have h1 : (!((bstr x).toList == (bstr y).toList)) = false := by rw [hsb, hxy]; simp
          have HXY := Lib.hid hxy
          clear hx hy hxy hsb
          generalize bstr x = sx at *
          generalize bstr y = sy at *
          go_wp2_with fail
          go_quiet (fail)
          go_wp2_with fail
          go_roundw
          case rel => exact ⟨k + 1, _, by omega, by go_num, rfl, Lib.hid (by rw [take_snoc HX.out, take_snoc HY.out, heq.out, HXY.out])⟩
          case measure => simp [intOf]; omega
        · have h1 : (!((bstr x).toList == (bstr y).toList)) = true := by rw [hsb]; simpa using hxy
          have hd : decide (a = b) = false := decide_eq_false (by
            intro e
            rw [e, hy] at hx
            injection hx with hx
            exact hxy hx.symm)
          have HD := Lib.hid hd
          clear hx hy hxy hsb hd
          generalize bstr x = sx at *
          generalize bstr y = sy at *
          go_wp2_with fail
          go_quiet (fail)
          go_wp2_with fail
          go_ret
          exact ⟨ret_bool HD.out.symm, _, World.drewN_drewN _ _ _⟩
      · obtain rfl : k = n := by omega
        have hd : decide (a = b) = true := decide_eq_true (by
          have := heq.out
          rw [List.take_of_length_le (by rw [HLA.out]; omega), List.take_of_length_le (by rw [HLB.out]; omega)] at this
          exact this)
        have HD := Lib.hid hd
        clear hd
        go_wp2_with fail
        go_ret
        exact ⟨ret_bool HD.out.symm, q, rfl⟩
  · have hne : ((n : Int) != (m : Int)) = true := by rw [bne_iff_ne]; omega
    have hd : decide (a = b) = false := decide_eq_false (by intro e; apply hnm; rw [← hla, ← hlb, e])
    rw [hd]
    clear hd hla hlb ha hb
    go_enter Tryz.func7, Tryz.ntmps7
    go_wp2_with fail
    go_ret
    exact ⟨rfl, 0, rfl⟩

def findI (l : List (List UInt8)) (x : List UInt8) : Int := match l.findIdx? (· == x) with | some k => (k : Int) | none => -1
theorem findI_none {l : List (List UInt8)} {x : List UInt8} (h : x ∉ l) : findI l x = -1 := by
  unfold findI
  have : l.findIdx? (· == x) = none := by
    rw [List.findIdx?_eq_none_iff]
    intro y hy
    simp
    intro e; subst e; exact h hy
  rw [this]
theorem findI_some {l : List (List UInt8)} {x : List UInt8} {k : Nat} (h : l[k]? = some x) (h2 : x ∉ l.take k) : findI l x = k := by
  unfold findI
  obtain ⟨h3, h4⟩ := List.getElem?_eq_some_iff.1 h
  have : l.findIdx? (· == x) = some k := by
    rw [List.findIdx?_eq_some_iff_getElem]
    refine ⟨h3, by simp [h4], fun j hj => ?_⟩
    simp
    intro e
    apply h2
    rw [List.mem_take_iff_getElem]
    exact ⟨j, by omega, e⟩
  rw [this]
theorem findI_mem {l : List (List UInt8)} {x : List UInt8} : (0 ≤ findI l x) ↔ x ∈ l := by
  by_cases h : x ∈ l
  · refine ⟨fun _ => h, fun _ => ?_⟩
    unfold findI
    cases hq : l.findIdx? (· == x) with
    | none =>
      rw [List.findIdx?_eq_none_iff] at hq
      exact absurd (hq x h) (by simp)
    | some k => simp
  · rw [findI_none h]; simp [h]
set_option maxRecDepth 100000 in
theorem rfind_any (A : Option Addr) (n ca : Nat) (a : List (List UInt8)) (x : List UInt8) (w : World) (ha : Rd w A n (strL a)) (hn : n ≤ 100000) :
    Calls Tryz.prog 27 #[.slice A n ca, .string (bstr x)] w fun e w' => e = .returned (.int .i64 (findI a x)) ∧ w = w' := by
  have HLA := Lib.hid ha.strs
  have HA := Lib.hid ha
  clear ha
  obtain ⟨sx, hsx⟩ : ∃ sx, bstr x = sx := ⟨_, rfl⟩
  have HSX := Lib.hid hsx
  rw [hsx]
  clear hsx
  go_enter Tryz.func27, Tryz.ntmps27
  go_wp2_with fail
  go_loop [5] (fun i => ∃ k : Nat, k ≤ n ∧ i = .int .i64 k ∧ Hid (x ∉ a.take k)) (fun i => n - (intOf i).toNat)
  case atStart => exact ⟨0, by omega, rfl, Lib.hid (by simp)⟩
  case round =>
    obtain ⟨k, hk, rfl, hno⟩ := hrel
    by_cases hlt : k < n
    · obtain ⟨ba, oa, y, rfl, hy, hcy⟩ := HA.out.str hlt
      have hsb := str_beq y x
      rw [HSX.out] at hsb
      by_cases hyx : y = x
      · have h1 : ((bstr y).toList == sx.toList) = true := by rw [hsb, hyx]; simp
        have HF : Hid (findI a x = k) := Lib.hid (findI_some (by rw [hy, hyx]) hno.out)
        clear hy hyx hsb
        generalize bstr y = sy at *
        go_wp2_with fail
        go_ret
        exact ⟨ret_int HF.out.symm, rfl⟩
      · have h1 : ((bstr y).toList == sx.toList) = false := by rw [hsb]; simpa using hyx
        have HN : Hid (x ∉ a.take (k + 1)) := Lib.hid (by
          rw [take_snoc hy, List.mem_append, List.mem_singleton]
          rintro (e | e)
          · exact hno.out e
          · exact hyx e.symm)
        clear hy hyx hsb
        generalize bstr y = sy at *
        go_wp2_with fail
        go_round
        case rel => exact ⟨k + 1, by omega, by go_num, HN⟩
        case measure => simp [intOf]; omega
    · obtain rfl : k = n := by omega
      have HF : Hid (findI a x = -1) := Lib.hid (findI_none (by
        have := hno.out
        rwa [List.take_of_length_le (by rw [HLA.out]; omega)] at this))
      go_wp2_with fail
      go_ret
      exact ⟨ret_int HF.out.symm, rfl⟩
end Go.Proofs.YtfdcbmmafhjlfaaGreat
