/- The walk of ArchiveSums. -/
import Derived.Test.YteadlcncnhbmjaaGreatDoorMat
set_option linter.unusedSimpArgs false
namespace Go.Proofs.YteadlcncnhbmjaaGreatDoor
open Go.RowKit Go.Lib
set_option linter.unusedVariables false

theorem cat_lines (s : List UInt8) : (Ar.lines s).flatMap (fun l => l ++ [10]) = s ++ [10] := by
  have h : ∀ L : List (List UInt8), L ≠ [] → L.flatMap (fun l => l ++ [10]) = Ar.unlines L ++ [10] := by
    intro L
    induction L with
    | nil => intro h; exact absurd rfl h
    | cons l L ih =>
      intro _
      cases L with
      | nil => simp [Ar.unlines]
      | cons m r =>
        rw [List.flatMap_cons, ih (by simp)]
        show (l ++ [10]) ++ (Ar.unlines (m :: r) ++ [10]) = (l ++ 10 :: Ar.unlines (m :: r)) ++ [10]
        simp
  rw [h _ (Ar.lines_ne s), Ar.unlines_lines]
theorem flat_len (L : List (List UInt8)) : (L.reverse.flatMap (fun l => l ++ [10])).length = (L.flatMap (fun l => l ++ [10])).length := by
  induction L with
  | nil => rfl
  | cons l L ih => rw [List.reverse_cons, List.flatMap_append, List.length_append, ih, List.flatMap_cons, List.length_append]; simp; omega
/-- the lines from the last one to number j, each with a line feed -/
def backOf (L : List (List UInt8)) (j : Nat) : List UInt8 := (L.drop j).reverse.flatMap (fun l => l ++ [10])
theorem back_step (L : List (List UInt8)) (j : Nat) (x : List UInt8) (h : L[j]? = some x) : (bstr (backOf L (j + 1)) ++ bstr x) ++ (⟨#[10]⟩ : ByteArray) = bstr (backOf L j) := by
  have hlt := (List.getElem?_eq_some_iff.1 h).1
  have hx := (List.getElem?_eq_some_iff.1 h).2
  apply str_eq
  unfold backOf
  rw [List.drop_eq_getElem_cons hlt, hx, List.reverse_cons, List.flatMap_append]
  simp [bstr]
theorem back_len (s : List UInt8) (j : Nat) : (backOf (Ar.lines s) j).length ≤ s.length + 1 := by
  have h1 : (backOf (Ar.lines s) j).length = ((Ar.lines s).drop j |>.flatMap (fun l => l ++ [10])).length := flat_len _
  have h2 := congrArg List.length (cat_lines s)
  rw [← List.take_append_drop j (Ar.lines s), List.flatMap_append, List.length_append, List.length_append] at h2
  simp only [List.length_cons, List.length_nil] at h2
  omega
theorem back_sums (s : List UInt8) : sums (Ar.lines (backOf (Ar.lines s) 0)) = sums (Ar.lines s) := by
  unfold backOf
  rw [List.drop_zero, lines_cat _ (fun l h => Ar.lines_noLF s l (List.mem_reverse.1 h)), sums_back]
set_option maxHeartbeats 4000000 in
set_option maxRecDepth 100000 in
theorem sums_law (a : ByteArray) (w : World) (hR : Ready w) : Calls Tryz.prog 12 #[.string a] w fun e w' => e = .returned (.bool true) ∧ Below w.heap.size w w' := by
  have HRY := Lib.hid hR
  clear hR
  by_cases hbig : 1000 < a.size
  · have HLV := Lib.hid (lives_any w HRY.out)
    have h1' : (1000 : Int) < (a.size : Int) := by omega
    go_enter Tryz.func12, Tryz.ntmps12
    go_wp2_with fail
    refine HLV.out.mono ?_
    rintro e w2 ⟨rfl, hb2⟩
    go_wp2_with fail
    go_ret
    exact ⟨rfl, hb2⟩
  · have h1' : decide ((1000 : Int) < (a.size : Int)) = false := decide_eq_false (by omega)
    have hsz : a.data.toList.length = a.size := str_size a
    have HSUM := Lib.hid (fun W h => sums_any a W (by omega) h)
    have HRSUM := Lib.hid (fun W => rsums_any a W (by omega))
    have HBL : Hid (∀ j, (backOf (Ar.lines a.data.toList) j).length ≤ 1001) := Lib.hid (fun j => by have := back_len a.data.toList j; omega)
    have HBS : Hid (∀ W, Ready W → Calls Tryz.prog 39 #[.string (bstr (backOf (Ar.lines a.data.toList) 0))] W fun e w' => e = .returned (.int .i64 (sums (Ar.lines a.data.toList) : Nat)) ∧ Below W.heap.size W w') := Lib.hid (fun W h => by
      have h2 := sums_any (bstr (backOf (Ar.lines a.data.toList) 0)) W (by rw [bstr_size]; have := HBL.out 0; omega) h
      rw [show (bstr (backOf (Ar.lines a.data.toList) 0)).data.toList = backOf (Ar.lines a.data.toList) 0 from by simp [bstr], back_sums] at h2
      exact h2)
    have HLL := Lib.hid (Ar.lines_len a.data.toList)
    have HLN := Lib.hid (fun W h => lines_any a W (by omega) h)
    have hn := sums_lt (Ar.lines a.data.toList)
    have HLV := Lib.hid (fun W h => lives_any W h)
    have ha : a.size ≤ 1000 := by omega
    have HSH := Lib.hid (fun l h => Ar.lines_short a.data.toList l h)
    rw [hsz] at HSH
    have hL : (Ar.lines a.data.toList).length ≤ 1001 := by have := HLL.out; omega
    clear hbig HLL hsz
    generalize Ar.lines a.data.toList = L at *
    obtain ⟨n, hnn⟩ : ∃ n : Nat, sums L = n := ⟨_, rfl⟩
    rw [hnn] at HSUM HRSUM HBS hn
    clear hnn
    go_enter Tryz.func12, Tryz.ntmps12
    go_wp2_with fail
    refine (HLN.out _ HRY.out).mono ?_
    rintro e w2 ⟨rfl, rfl⟩
    have HRL := Lib.hid (Rd.litS w L)
    have HB2 := Lib.hid ((Below.refl w.heap.size w).alloc (Nat.le_refl _) (.cells (strL L).toArray 9))
    generalize hW2 : w.alloc (.cells (strL L).toArray 9) = w2 at *
    clear hW2
    go_wp2_with fail
    go_loopw [4, 5] (fun t ix wr => ∃ (j q : Nat), j ≤ L.length ∧ ix = .int .i64 ((j : Int) - 1) ∧ t = .string (bstr (backOf L j)) ∧ wr = w2.drewN q) (fun _ ix _ => (RowKit.intOf ix + 1).toNat)
    case atStart =>
      refine ⟨L.length, 0, Nat.le_refl _, by go_num, ?_, rfl⟩
      unfold backOf
      rw [List.drop_length]
      rfl
    case round =>
      obtain ⟨j, q, hj, rfl, rfl, rfl⟩ := hrel
      cases j with
      | succ m =>
        obtain ⟨ba, oa, x, e1, hx, hc0⟩ := (HRL.out.drewN q).str_at (show m < L.length by omega)
        injection e1 with e1
        injection e1 with e1 e2 e3
        subst e1 e2
        rw [Nat.zero_add] at hc0
        have HST := Lib.hid (back_step L m x hx)
        rw [show (((m + 1 : Nat) : Int) - 1) = (m : Int) from by omega]
        have hge : decide ((0 : Int) ≤ (m : Int)) = true := decide_eq_true (by omega)
        have hmx : m ≤ 1001 := by omega
        have hq0 : (bstr (backOf L (m + 1))).size ≤ 1001 := by rw [bstr_size]; exact HBL.out _
        have hq1 : ¬ 9223372036854775807 < (bstr (backOf L (m + 1))).size + (bstr x).size := by rw [bstr_size x]; have := HSH.out x (List.mem_of_getElem? hx); omega
        have hq2 : ¬ 9223372036854775807 < (bstr (backOf L (m + 1))).size + (bstr x).size + 1 := by rw [bstr_size x]; have := HSH.out x (List.mem_of_getElem? hx); omega
        clear hx hq0
        generalize bstr x = X at *
        generalize hBK : bstr (backOf L (m + 1)) = BK at *
        go_wp2_with fail
        go_roundw
        case rel => exact ⟨m, _, by omega, by go_num, by rw [HST.out], rfl⟩
        case measure => simp [RowKit.intOf]
      | zero =>
        rw [show (((0 : Nat) : Int) - 1) = -1 from by omega]
        have HBX := Lib.hid (below_drewN HB2.out q)
        have hge2 : decide ((0 : Int) ≤ (n : Int)) = true := decide_eq_true (by omega)
        have hlt2 : decide ((n : Int) < 4611686018427387904) = true := decide_eq_true (by omega)
        generalize bstr (backOf L 0) = BK at *
        go_wp2_with fail
        refine (HSUM.out _ (HRY.out.below HBX.out)).mono ?_
        rintro e w3 ⟨rfl, hb3⟩
        have HB3 := Lib.hid (HBX.out.trans (hb3.mono HBX.out.size))
        clear hb3
        go_wp2_with fail
        refine (HRSUM.out _).mono ?_
        rintro e w4 ⟨rfl, hb4⟩
        have HB4 := Lib.hid (HB3.out.trans (hb4.mono HB3.out.size))
        clear hb4
        go_wp2_with fail
        refine (HBS.out _ (HRY.out.below HB4.out)).mono ?_
        rintro e w5 ⟨rfl, hb5⟩
        have HB5 := Lib.hid (HB4.out.trans (hb5.mono HB4.out.size))
        clear hb5
        go_wp2_with fail
        refine (HLV.out _ (HRY.out.below HB5.out)).mono ?_
        rintro e w6 ⟨rfl, hb6⟩
        have HB6 := Lib.hid (HB5.out.trans (hb6.mono HB5.out.size))
        clear hb6
        go_wp2_with fail
        go_ret
        exact ⟨rfl, HB6.out⟩
end Go.Proofs.YteadlcncnhbmjaaGreatDoor
