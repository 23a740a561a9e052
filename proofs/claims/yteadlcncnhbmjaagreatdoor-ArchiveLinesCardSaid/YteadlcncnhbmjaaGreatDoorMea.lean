/- The texts Cx1, Cx3, Cx4, Cx2 of this proof, one behind the other. -/
import Derived.Test.YteadlcncnhbmjaaGreatDoorMbb
import Derived.Test.YteadlcncnhbmjaaGreatDoorMao
import Derived.Test.YteadlcncnhbmjaaGreatDoorMat
import Derived.Test.YteadlcncnhbmjaaGreatDoorHBw2
import Derived.Test.YteadlcncnhbmjaaGreatDoorMah
set_option linter.unusedSimpArgs false
set_option linter.unusedVariables false
/- The walks of the reference's Sign and Number. -/
namespace Ar
theorem numch_iff (c : UInt8) : numch c = true ↔ c.toNat = 45 ∨ (48 ≤ c.toNat ∧ c.toNat ≤ 57) := by
  unfold numch
  exact decide_eq_true_iff
theorem tw_stop {p : UInt8 → Bool} {s : Str} {k : Nat} (h : ∀ c ∈ s.take k, p c = true) (hs : ∀ c, s[k]? = some c → p c = false) : s.take k = s.takeWhile p ∧ s.drop k = s.dropWhile p := by
  have e := (List.take_append_drop k s).symm
  have hd : (s.drop k).takeWhile p = [] ∧ (s.drop k).dropWhile p = s.drop k := by
    cases hh : s.drop k with
    | nil => exact ⟨rfl, rfl⟩
    | cons c r =>
      have hc : s[k]? = some c := by
        have := congrArg (fun l : Str => l[0]?) hh
        rw [List.getElem?_drop] at this
        exact this
      have := hs c hc
      exact ⟨by rw [List.takeWhile_cons, this]; rfl, by rw [List.dropWhile_cons, this]; rfl⟩
  constructor
  · conv => rhs; rw [e]
    rw [List.takeWhile_append_of_pos h, hd.1, List.append_nil]
  · conv => rhs; rw [e]
    rw [List.dropWhile_append_of_pos h, hd.2]
end Ar
namespace Go.Proofs.YteadlcncnhbmjaaGreatDoor
open Go.RowKit Go.Lib
set_option linter.unusedVariables false
set_option linter.unusedSimpArgs false

def SgA (o : Option (List UInt8)) (e : Ending) : Prop := (∃ t, o = some t ∧ e = .returned (.tuple #[.string (bstr t), .bool true])) ∨ (o = none ∧ e = .returned (.tuple #[.string ⟨#[]⟩, .bool false]))
set_option maxHeartbeats 2000000 in
set_option maxRecDepth 100000 in
theorem sign_any (s : List UInt8) (c : UInt8) (w : World) (hs : s.length ≤ 1000000) : Calls Tryz.prog 58 #[.string (bstr s), .int .u8 (c.toNat : Int)] w fun e w' => SgA (Ar.xsign c s) e ∧ w' = w := by
  cases s with
  | nil =>
    have hz : (((bstr ([] : List UInt8)).size : Int) == 0) = true := rfl
    generalize bstr ([] : List UInt8) = S at *
    go_enter Tryz.func58, Tryz.ntmps58
    go_wp2_with fail
    go_ret2
    exact ⟨.inr ⟨rfl, rfl⟩, rfl⟩
  | cons d r =>
    have hi0 : 0 < (bstr (d :: r)).size := by rw [bstr_size]; simp
    have hz : (((bstr (d :: r)).size : Int) == 0) = false := by rw [beq_eq_false_iff_ne]; omega
    have e0 : (bstr (d :: r))[0]'hi0 = d := rfl
    have hex : (bstr (d :: r)).extract 1 (bstr (d :: r)).size = bstr r := extract_bstr (bstr (d :: r)) 1
    by_cases hd : d = c
    · have hy : ((((bstr (d :: r))[0]'hi0).toNat : Int) != (c.toNat : Int)) = false := by rw [e0, hd]; exact bne_self_eq_false _
      have HX : Hid (Ar.xsign c (d :: r) = some r) := Lib.hid (if_pos hd)
      clear e0 hd
      generalize bstr (d :: r) = S at *
      generalize hRr : bstr r = R at *
      go_enter Tryz.func58, Tryz.ntmps58
      go_wp2_with fail
      go_ret2
      exact ⟨.inl ⟨r, HX.out, by rw [hRr]; rfl⟩, rfl⟩
    · have hy : ((((bstr (d :: r))[0]'hi0).toNat : Int) != (c.toNat : Int)) = true := by rw [e0, bne_iff_ne]; exact fun h => hd (Ar.byte_ext (by omega))
      have HX : Hid (Ar.xsign c (d :: r) = none) := Lib.hid (if_neg hd)
      clear e0 hd
      generalize bstr (d :: r) = S at *
      go_enter Tryz.func58, Tryz.ntmps58
      go_wp2_with fail
      go_ret2
      exact ⟨.inr ⟨HX.out, rfl⟩, rfl⟩
def NmA (o : Option (Int × List UInt8)) (e : Ending) : Prop := (∃ n t, o = some (n, t) ∧ e = .returned (.tuple #[.int .i64 n, .string (bstr t), .bool true])) ∨ (o = none ∧ e = .returned (.tuple #[.int .i64 0, .string ⟨#[]⟩, .bool false]))
set_option maxHeartbeats 4000000 in
set_option maxRecDepth 100000 in
theorem rnumber_any (S : ByteArray) (w : World) (hs : S.size ≤ 1000000) : Calls Tryz.prog 130 #[.string S] w fun e w' => NmA (Ar.xnum S.data.toList) e ∧ Below w.heap.size w w' := by
  have HAT := Lib.hid (at_str S)
  have HSZ : Hid (S.data.toList.length = S.size) := Lib.hid (str_size S)
  have HEX := Lib.hid (extract_take S)
  have HEB := Lib.hid (extract_bstr S)
  generalize hLL : S.data.toList = L at *
  clear hLL
  go_enter Tryz.func130, Tryz.ntmps130
  go_wp2_with fail
  go_loopw [5] (fun ix wr => ∃ k : Nat, k ≤ S.size ∧ ix = .int .i64 k ∧ wr = w ∧ ∀ c ∈ L.take k, Ar.numch c = true) (fun ix _ => S.size - (RowKit.intOf ix).toNat)
  case atStart => exact ⟨0, Nat.zero_le _, rfl, rfl, fun c h => by simp at h⟩
  case round =>
    obtain ⟨k, hk, rfl, rfl, hall⟩ := hrel
    have HALL := Lib.hid hall
    clear hall
    have hend : Hid ((∀ c, L[k]? = some c → Ar.numch c = false) → (L.take k = L.takeWhile Ar.numch ∧ L.drop k = L.dropWhile Ar.numch)) := Lib.hid (Ar.tw_stop HALL.out)
    have hnx : Hid (∀ (h : k < S.size), Ar.numch (S[k]'h) = true → ∀ c ∈ L.take (k + 1), Ar.numch c = true) := Lib.hid (fun h hn c hc => by
      rw [take_snoc (HAT.out k h)] at hc
      rcases List.mem_append.1 hc with hc | hc
      · exact HALL.out c hc
      · rw [List.mem_singleton.1 hc]; exact hn)
    have HTK := Lib.hid (HEX.out k hk)
    have HDK := Lib.hid (HEB.out k)
    have HRI := Lib.hid (fun W => rint_any (bstr (L.take k)) W (by rw [bstr_size, List.length_take]; have := HSZ.out; omega))
    rw [show (bstr (L.take k)).data.toList = L.take k from rfl] at HRI
    by_cases hlt : k < S.size
    · have hci := Ar.numch_iff (S[k]'hlt)
      have HCI := Lib.hid hci
      clear hci
      by_cases h45 : (S[k]'hlt).toNat = 45
      · have d1 : (((S[k]'hlt).toNat : Int) == 45) = true := by rw [h45]; rfl
        have HN := Lib.hid (hnx.out hlt (HCI.out.2 (.inl h45)))
        clear h45
        go_wp2_with fail
        go_roundw
        case rel => exact ⟨k + 1, by omega, by go_num, by trivial, HN.out⟩
        case measure => simp [RowKit.intOf]; omega
      · have d1 : (((S[k]'hlt).toNat : Int) == 45) = false := by rw [beq_eq_false_iff_ne]; omega
        by_cases h48 : 48 ≤ (S[k]'hlt).toNat
        · have d2 : decide ((48 : Int) ≤ ((S[k]'hlt).toNat : Int)) = true := decide_eq_true (by omega)
          by_cases h57 : (S[k]'hlt).toNat ≤ 57
          · have d3 : decide (((S[k]'hlt).toNat : Int) ≤ 57) = true := decide_eq_true (by omega)
            have HN := Lib.hid (hnx.out hlt (HCI.out.2 (.inr ⟨h48, h57⟩)))
            clear h45 h48 h57
            go_wp2_with fail
            go_roundw
            case rel => exact ⟨k + 1, by omega, by go_num, by trivial, HN.out⟩
            case measure => simp [RowKit.intOf]; omega
          · have d3 : decide (((S[k]'hlt).toNat : Int) ≤ 57) = false := decide_eq_false (by omega)
            have HE := Lib.hid (hend.out (fun c hc => by
              have h1 := HAT.out k hlt
              rw [h1] at hc
              injection hc with hc
              rw [← hc]
              cases hn : Ar.numch (S[k]'hlt) with
              | false => rfl
              | true => have := HCI.out.1 hn; omega))
            clear h45 h48 h57
            have hx1 := HTK.out
            have hx2 := HDK.out
            generalize hT : L.take k = T at *
            generalize hD : L.drop k = D at *
            generalize hTB : bstr T = TB at *
            generalize hDB : bstr D = DB at *
            go_wp2_with fail
            refine (HRI.out _).mono ?_
            rintro e w2 ⟨hia, hb2⟩
            have HB2 := Lib.hid hb2
            clear hb2
            rcases hia with ⟨n, hn, rfl⟩ | ⟨hn, n0, rfl⟩
            · have HR : Hid (Ar.xnum L = some (n, D)) := Lib.hid (by unfold Ar.xnum; rw [← HE.out.1, ← HE.out.2, hn]; rfl)
              clear hn
              go_wp2_with fail
              go_quiet (fail)
              go_wp2_with fail
              go_ret3
              exact ⟨.inl ⟨n, D, HR.out, by rw [hDB]; rfl⟩, below_drewN HB2.out _⟩
            · have HR : Hid (Ar.xnum L = none) := Lib.hid (by unfold Ar.xnum; rw [← HE.out.1, hn]; rfl)
              clear hn
              go_wp2_with fail
              go_ret3
              exact ⟨.inr ⟨HR.out, rfl⟩, HB2.out⟩
        · have d2 : decide ((48 : Int) ≤ ((S[k]'hlt).toNat : Int)) = false := decide_eq_false (by omega)
          have HE := Lib.hid (hend.out (fun c hc => by
            have h1 := HAT.out k hlt
            rw [h1] at hc
            injection hc with hc
            rw [← hc]
            cases hn : Ar.numch (S[k]'hlt) with
            | false => rfl
            | true => have := HCI.out.1 hn; omega))
          clear h45 h48
          have hx1 := HTK.out
          have hx2 := HDK.out
          generalize hT : L.take k = T at *
          generalize hD : L.drop k = D at *
          generalize hTB : bstr T = TB at *
          generalize hDB : bstr D = DB at *
          go_wp2_with fail
          refine (HRI.out _).mono ?_
          rintro e w2 ⟨hia, hb2⟩
          have HB2 := Lib.hid hb2
          clear hb2
          rcases hia with ⟨n, hn, rfl⟩ | ⟨hn, n0, rfl⟩
          · have HR : Hid (Ar.xnum L = some (n, D)) := Lib.hid (by unfold Ar.xnum; rw [← HE.out.1, ← HE.out.2, hn]; rfl)
            clear hn
            go_wp2_with fail
            go_quiet (fail)
            go_wp2_with fail
            go_ret3
            exact ⟨.inl ⟨n, D, HR.out, by rw [hDB]; rfl⟩, below_drewN HB2.out _⟩
          · have HR : Hid (Ar.xnum L = none) := Lib.hid (by unfold Ar.xnum; rw [← HE.out.1, hn]; rfl)
            clear hn
            go_wp2_with fail
            go_ret3
            exact ⟨.inr ⟨HR.out, rfl⟩, HB2.out⟩
    · obtain rfl : k = S.size := by omega
      have HE := Lib.hid (hend.out (fun c hc => by
        have h1 := (List.getElem?_eq_some_iff.1 hc).1
        have := HSZ.out
        omega))
      have hx1 := HTK.out
      have hx2 := HDK.out
      generalize hT : L.take S.size = T at *
      generalize hD : L.drop S.size = D at *
      have hDn : Hid (D = []) := Lib.hid (by rw [← hD, List.drop_of_length_le (by have := HSZ.out; omega)])
      generalize hTB : bstr T = TB at *
      generalize hDB : bstr D = DB at *
      go_wp2_with fail
      refine (HRI.out _).mono ?_
      rintro e w2 ⟨hia, hb2⟩
      have HB2 := Lib.hid hb2
      clear hb2
      rcases hia with ⟨n, hn, rfl⟩ | ⟨hn, n0, rfl⟩
      · have HR : Hid (Ar.xnum L = some (n, D)) := Lib.hid (by unfold Ar.xnum; rw [← HE.out.1, ← HE.out.2, hn]; rfl)
        clear hn
        go_wp2_with fail
        go_quiet (fail)
        go_wp2_with fail
        go_ret3
        exact ⟨.inl ⟨n, D, HR.out, by rw [hDn.out]; rfl⟩, below_drewN HB2.out _⟩
      · have HR : Hid (Ar.xnum L = none) := Lib.hid (by unfold Ar.xnum; rw [← HE.out.1, hn]; rfl)
        clear hn
        go_wp2_with fail
        go_ret3
        exact ⟨.inr ⟨HR.out, rfl⟩, HB2.out⟩
end Go.Proofs.YteadlcncnhbmjaaGreatDoor
/- The walk of the reference's name. Written by gencx3.py. -/
namespace Ar
theorem find_first {α : Type} (p : α → Bool) : ∀ (l : List α) (i : Nat) (x : α), l[i]? = some x → p x = true → (∀ j y, j < i → l[j]? = some y → p y = false) → l.findIdx? p = some i
  | [], i, x, h, _, _ => by simp at h
  | a :: l, 0, x, h, hp, _ => by
    injection h with h
    subst h
    rw [List.findIdx?_cons, hp]
    rfl
  | a :: l, i + 1, x, h, hp, hn => by
    have ha := hn 0 a (by omega) rfl
    rw [List.findIdx?_cons, ha, find_first p l i x h hp (fun j y hj hy => hn (j + 1) y (by omega) hy)]
    rfl
theorem find_no {α : Type} (p : α → Bool) : ∀ (l : List α), (∀ (j : Nat) (y : α), l[j]? = some y → p y = false) → l.findIdx? p = none
  | [], _ => rfl
  | a :: l, hn => by
    rw [List.findIdx?_cons, hn 0 a rfl, find_no p l (fun j y hy => hn (j + 1) y hy)]
    rfl
theorem nmch_iff (c : UInt8) : nmch c = true ↔ c.toNat ≠ 61 ∧ c.toNat ≠ 32 := by
  unfold nmch
  constructor
  · intro h
    simp only [Bool.not_eq_true', Bool.or_eq_false_iff, beq_eq_false_iff_ne] at h
    exact ⟨fun e => h.1 (byte_ext (by rw [e]; rfl)), fun e => h.2 (byte_ext (by rw [e]; rfl))⟩
  · intro h
    simp only [Bool.not_eq_true', Bool.or_eq_false_iff, beq_eq_false_iff_ne]
    exact ⟨fun e => h.1 (by rw [e]; rfl), fun e => h.2 (by rw [e]; rfl)⟩
end Ar
namespace Go.Proofs.YteadlcncnhbmjaaGreatDoor
open Go.RowKit Go.Lib
set_option linter.unusedVariables false
set_option linter.unusedSimpArgs false

def NaA (o : Option (Nat × List UInt8)) (s : List UInt8) (e : Ending) : Prop := (∃ (i : Nat) (t : List UInt8), o = some (i, t) ∧ e = .returned (.tuple #[.int .i64 i, .string (bstr t)])) ∨ (o = none ∧ e = .returned (.tuple #[.int .i64 (-1), .string (bstr s)]))
set_option maxHeartbeats 4000000 in
set_option maxRecDepth 100000 in
theorem name_any (s : List UInt8) (w : World) (hs : s.length ≤ 1000000) : Calls Tryz.prog 56 #[.string (bstr s)] w fun e w' => NaA (Ar.xname s) s e ∧ Below w.heap.size w w' := by
  have HAT := Lib.hid (at_str (bstr s))
  have HSZ : Hid (s.length = (bstr s).size) := Lib.hid (bstr_size s).symm
  have HEX := Lib.hid (extract_take (bstr s))
  have HEB := Lib.hid (extract_bstr (bstr s))
  rw [show (bstr s).data.toList = s from rfl] at HAT HEX HEB
  have hsz : (bstr s).size ≤ 1000000 := by rw [bstr_size]; exact hs
  generalize hSS : bstr s = S at *
  go_enter Tryz.func56, Tryz.ntmps56
  go_wp2_with fail
  go_loopw [4] (fun ix wr => ∃ k : Nat, k ≤ S.size ∧ ix = .int .i64 k ∧ wr = w ∧ ∀ c ∈ s.take k, Ar.nmch c = true) (fun ix _ => S.size - (RowKit.intOf ix).toNat)
  case atStart => exact ⟨0, Nat.zero_le _, rfl, rfl, fun c h => by simp at h⟩
  case round =>
    obtain ⟨k, hk, rfl, rfl, hall⟩ := hrel
    have HALL := Lib.hid hall
    clear hall
    have hend : Hid ((∀ c, s[k]? = some c → Ar.nmch c = false) → (s.take k = s.takeWhile Ar.nmch ∧ s.drop k = s.dropWhile Ar.nmch)) := Lib.hid (Ar.tw_stop HALL.out)
    by_cases hlt : k < S.size
    · have HCI := Lib.hid (Ar.nmch_iff (S[k]'hlt))
      by_cases h61 : (S[k]'hlt).toNat = 61
      · have d1 : (((S[k]'hlt).toNat : Int) != 61) = false := by rw [h61]; rfl
        have HE := Lib.hid (hend.out (fun c hc => by
          have h1 := HAT.out k hlt
          rw [h1] at hc
          injection hc with hc
          rw [← hc]
          cases hn : Ar.nmch (S[k]'hlt) with
          | false => rfl
          | true => exact absurd h61 (HCI.out.1 hn).1))
        clear h61
        have hx1 := HEX.out k hk
        have hx2 := HEB.out k
        generalize hT : s.take k = T at *
        generalize hD : s.drop k = D at *
        generalize hTB : bstr T = TB at *
        generalize hDB : bstr D = DB at *
        have HX1 := Lib.hid hx1
        have HX2 := Lib.hid hx2
        go_wp2_with fail
        refine (names_any _).mono ?_
        rintro e w2 ⟨⟨g, rfl, hg, hrd⟩, hb2⟩
        have HR2 := Lib.hid hrd
        have HB2 := Lib.hid hb2
        have HN29 : Hid (Ar.nmL.length = 29) := Lib.hid rfl
        clear hrd hb2 hg
        go_wp2_with fail
        go_loopw [6] (fun ix wq => ∃ j q : Nat, j ≤ 29 ∧ ix = .int .i64 j ∧ wq = w2.drewN q ∧ ∀ i y, i < j → Ar.NK[i]? = some y → decide (y.1 = T) = false) (fun ix _ => 29 - (RowKit.intOf ix).toNat)
        case atStart => exact ⟨0, 0, by omega, rfl, rfl, fun i y h => absurd h (Nat.not_lt_zero _)⟩
        case round =>
          obtain ⟨j, q, hj, rfl, rfl, hno⟩ := hrel
          have HNO := Lib.hid hno
          clear hno
          by_cases hjl : j < 29
          · obtain ⟨nk, hnk⟩ : ∃ nk, Ar.NK[j]? = some nk := ⟨Ar.NK[j]'(by show j < 29; exact hjl), List.getElem?_eq_getElem _⟩
            obtain ⟨bn, on, nm, hA, hnm, hcn⟩ := HR2.out.str_at (k := j) (by rw [HN29.out]; exact hjl)
            injection hA with hA
            injection hA with hA1 hA2 hA3
            subst hA1 hA2
            rw [Nat.zero_add] at hcn
            obtain rfl : nm = nk.1 := Option.some.inj (hnm.symm.trans (Ar.nmL_at hnk))
            have hb0 : (0 : Int) ≤ (j : Int) := by omega
            have hb1 : (j : Int) < 29 := by omega
            have hb2 : (0 : Int) ≤ ((k : Nat) : Int) := by omega
            have hb3 : ((k : Nat) : Int) ≤ (S.size : Int) := by omega
            have hcm := str_beq nk.1 T
            rw [hTB] at hcm
            have HNK := Lib.hid hnk
            clear hnk hnm
            by_cases he : nk.1 = T
            · have hc1 : ((bstr nk.1).toList == TB.toList) = true := by rw [hcm, he]; exact beq_self_eq_true _
              have HR : Hid (Ar.xname s = some (j, D)) := Lib.hid (by
                unfold Ar.xname
                rw [← HE.out.1, ← HE.out.2, Ar.find_first _ Ar.NK j nk HNK.out (decide_eq_true he) HNO.out]
                rfl)
              have HBQ := Lib.hid (below_drewN HB2.out q)
              clear hcm he
              generalize bstr nk.1 = NB at *
              go_wp2_with fail
              go_quiet (fail)
              go_wp2_with fail
              go_quiet (fail)
              go_wp2_with fail
              go_ret2
              exact ⟨.inl ⟨j, D, HR.out, by rw [hDB]; rfl⟩, below_drewN (below_drewN HBQ.out _) _⟩
            · have hc1 : ((bstr nk.1).toList == TB.toList) = false := by rw [hcm]; exact beq_eq_false_iff_ne.2 he
              have HN2 : Hid (∀ i y, i < j + 1 → Ar.NK[i]? = some y → decide (y.1 = T) = false) := Lib.hid (fun i y hi hy => by
                by_cases hij : i < j
                · exact HNO.out i y hij hy
                · obtain rfl : i = j := by omega
                  rw [HNK.out] at hy
                  injection hy with hy
                  rw [← hy]
                  exact decide_eq_false he)
              clear hcm he
              generalize bstr nk.1 = NB at *
              go_wp2_with fail
              go_quiet (fail)
              go_wp2_with fail
              go_roundw
              case rel => exact ⟨j + 1, _, by omega, by go_num, rfl, HN2.out⟩
              case measure => simp [RowKit.intOf]; omega
          · obtain rfl : j = 29 := by omega
            have HR : Hid (Ar.xname s = none) := Lib.hid (by
              unfold Ar.xname
              rw [← HE.out.1, Ar.find_no _ Ar.NK (fun i y hy => HNO.out i y (by have := (List.getElem?_eq_some_iff.1 hy).1; exact this) hy)]
              rfl)
            have HBQ := Lib.hid (below_drewN HB2.out q)
            go_wp2_with fail
            go_ret2
            exact ⟨.inr ⟨HR.out, by rw [hSS]; rfl⟩, HBQ.out⟩
      · have d1 : (((S[k]'hlt).toNat : Int) != 61) = true := by rw [bne_iff_ne]; omega
        by_cases h32 : (S[k]'hlt).toNat = 32
        · have d2 : (((S[k]'hlt).toNat : Int) != 32) = false := by rw [h32]; rfl
          have HE := Lib.hid (hend.out (fun c hc => by
            have h1 := HAT.out k hlt
            rw [h1] at hc
            injection hc with hc
            rw [← hc]
            cases hn : Ar.nmch (S[k]'hlt) with
            | false => rfl
            | true => exact absurd h32 (HCI.out.1 hn).2))
          clear h61 h32
          have hx1 := HEX.out k hk
          have hx2 := HEB.out k
          generalize hT : s.take k = T at *
          generalize hD : s.drop k = D at *
          generalize hTB : bstr T = TB at *
          generalize hDB : bstr D = DB at *
          have HX1 := Lib.hid hx1
          have HX2 := Lib.hid hx2
          go_wp2_with fail
          refine (names_any _).mono ?_
          rintro e w2 ⟨⟨g, rfl, hg, hrd⟩, hb2⟩
          have HR2 := Lib.hid hrd
          have HB2 := Lib.hid hb2
          have HN29 : Hid (Ar.nmL.length = 29) := Lib.hid rfl
          clear hrd hb2 hg
          go_wp2_with fail
          go_loopw [6] (fun ix wq => ∃ j q : Nat, j ≤ 29 ∧ ix = .int .i64 j ∧ wq = w2.drewN q ∧ ∀ i y, i < j → Ar.NK[i]? = some y → decide (y.1 = T) = false) (fun ix _ => 29 - (RowKit.intOf ix).toNat)
          case atStart => exact ⟨0, 0, by omega, rfl, rfl, fun i y h => absurd h (Nat.not_lt_zero _)⟩
          case round =>
            obtain ⟨j, q, hj, rfl, rfl, hno⟩ := hrel
            have HNO := Lib.hid hno
            clear hno
            by_cases hjl : j < 29
            · obtain ⟨nk, hnk⟩ : ∃ nk, Ar.NK[j]? = some nk := ⟨Ar.NK[j]'(by show j < 29; exact hjl), List.getElem?_eq_getElem _⟩
              obtain ⟨bn, on, nm, hA, hnm, hcn⟩ := HR2.out.str_at (k := j) (by rw [HN29.out]; exact hjl)
              injection hA with hA
              injection hA with hA1 hA2 hA3
              subst hA1 hA2
              rw [Nat.zero_add] at hcn
              obtain rfl : nm = nk.1 := Option.some.inj (hnm.symm.trans (Ar.nmL_at hnk))
              have hb0 : (0 : Int) ≤ (j : Int) := by omega
              have hb1 : (j : Int) < 29 := by omega
              have hb2 : (0 : Int) ≤ ((k : Nat) : Int) := by omega
              have hb3 : ((k : Nat) : Int) ≤ (S.size : Int) := by omega
              have hcm := str_beq nk.1 T
              rw [hTB] at hcm
              have HNK := Lib.hid hnk
              clear hnk hnm
              by_cases he : nk.1 = T
              · have hc1 : ((bstr nk.1).toList == TB.toList) = true := by rw [hcm, he]; exact beq_self_eq_true _
                have HR : Hid (Ar.xname s = some (j, D)) := Lib.hid (by
                  unfold Ar.xname
                  rw [← HE.out.1, ← HE.out.2, Ar.find_first _ Ar.NK j nk HNK.out (decide_eq_true he) HNO.out]
                  rfl)
                have HBQ := Lib.hid (below_drewN HB2.out q)
                clear hcm he
                generalize bstr nk.1 = NB at *
                go_wp2_with fail
                go_quiet (fail)
                go_wp2_with fail
                go_quiet (fail)
                go_wp2_with fail
                go_ret2
                exact ⟨.inl ⟨j, D, HR.out, by rw [hDB]; rfl⟩, below_drewN (below_drewN HBQ.out _) _⟩
              · have hc1 : ((bstr nk.1).toList == TB.toList) = false := by rw [hcm]; exact beq_eq_false_iff_ne.2 he
                have HN2 : Hid (∀ i y, i < j + 1 → Ar.NK[i]? = some y → decide (y.1 = T) = false) := Lib.hid (fun i y hi hy => by
                  by_cases hij : i < j
                  · exact HNO.out i y hij hy
                  · obtain rfl : i = j := by omega
                    rw [HNK.out] at hy
                    injection hy with hy
                    rw [← hy]
                    exact decide_eq_false he)
                clear hcm he
                generalize bstr nk.1 = NB at *
                go_wp2_with fail
                go_quiet (fail)
                go_wp2_with fail
                go_roundw
                case rel => exact ⟨j + 1, _, by omega, by go_num, rfl, HN2.out⟩
                case measure => simp [RowKit.intOf]; omega
            · obtain rfl : j = 29 := by omega
              have HR : Hid (Ar.xname s = none) := Lib.hid (by
                unfold Ar.xname
                rw [← HE.out.1, Ar.find_no _ Ar.NK (fun i y hy => HNO.out i y (by have := (List.getElem?_eq_some_iff.1 hy).1; exact this) hy)]
                rfl)
              have HBQ := Lib.hid (below_drewN HB2.out q)
              go_wp2_with fail
              go_ret2
              exact ⟨.inr ⟨HR.out, by rw [hSS]; rfl⟩, HBQ.out⟩
        · have d2 : (((S[k]'hlt).toNat : Int) != 32) = true := by rw [bne_iff_ne]; omega
          have HN : Hid (∀ c ∈ s.take (k + 1), Ar.nmch c = true) := Lib.hid (fun c hc => by
            rw [take_snoc (HAT.out k hlt)] at hc
            rcases List.mem_append.1 hc with hc | hc
            · exact HALL.out c hc
            · rw [List.mem_singleton.1 hc]; exact HCI.out.2 ⟨h61, h32⟩)
          clear h61 h32
          go_wp2_with fail
          go_roundw
          case rel => exact ⟨k + 1, by omega, by go_num, by trivial, HN.out⟩
          case measure => simp [RowKit.intOf]; omega
    · obtain rfl : k = S.size := by omega
      have HE := Lib.hid (hend.out (fun c hc => by
        have h1 := (List.getElem?_eq_some_iff.1 hc).1
        have := HSZ.out
        omega))
      have hx1 := HEX.out S.size hk
      have hx2 := HEB.out S.size
      generalize hT : s.take S.size = T at *
      generalize hD : s.drop S.size = D at *
      generalize hTB : bstr T = TB at *
      generalize hDB : bstr D = DB at *
      have hDn : Hid (D = []) := Lib.hid (by rw [← hD, List.drop_of_length_le (by have := HSZ.out; omega)])
      have HX1 := Lib.hid hx1
      have HX2 := Lib.hid hx2
      go_wp2_with fail
      refine (names_any _).mono ?_
      rintro e w2 ⟨⟨g, rfl, hg, hrd⟩, hb2⟩
      have HR2 := Lib.hid hrd
      have HB2 := Lib.hid hb2
      have HN29 : Hid (Ar.nmL.length = 29) := Lib.hid rfl
      clear hrd hb2 hg
      go_wp2_with fail
      go_loopw [6] (fun ix wq => ∃ j q : Nat, j ≤ 29 ∧ ix = .int .i64 j ∧ wq = w2.drewN q ∧ ∀ i y, i < j → Ar.NK[i]? = some y → decide (y.1 = T) = false) (fun ix _ => 29 - (RowKit.intOf ix).toNat)
      case atStart => exact ⟨0, 0, by omega, rfl, rfl, fun i y h => absurd h (Nat.not_lt_zero _)⟩
      case round =>
        obtain ⟨j, q, hj, rfl, rfl, hno⟩ := hrel
        have HNO := Lib.hid hno
        clear hno
        by_cases hjl : j < 29
        · obtain ⟨nk, hnk⟩ : ∃ nk, Ar.NK[j]? = some nk := ⟨Ar.NK[j]'(by show j < 29; exact hjl), List.getElem?_eq_getElem _⟩
          obtain ⟨bn, on, nm, hA, hnm, hcn⟩ := HR2.out.str_at (k := j) (by rw [HN29.out]; exact hjl)
          injection hA with hA
          injection hA with hA1 hA2 hA3
          subst hA1 hA2
          rw [Nat.zero_add] at hcn
          obtain rfl : nm = nk.1 := Option.some.inj (hnm.symm.trans (Ar.nmL_at hnk))
          have hb0 : (0 : Int) ≤ (j : Int) := by omega
          have hb1 : (j : Int) < 29 := by omega
          have hb2 : (0 : Int) ≤ ((S.size : Nat) : Int) := by omega
          have hb3 : ((S.size : Nat) : Int) ≤ (S.size : Int) := by omega
          have hcm := str_beq nk.1 T
          rw [hTB] at hcm
          have HNK := Lib.hid hnk
          clear hnk hnm
          by_cases he : nk.1 = T
          · have hc1 : ((bstr nk.1).toList == TB.toList) = true := by rw [hcm, he]; exact beq_self_eq_true _
            have HR : Hid (Ar.xname s = some (j, D)) := Lib.hid (by
              unfold Ar.xname
              rw [← HE.out.1, ← HE.out.2, Ar.find_first _ Ar.NK j nk HNK.out (decide_eq_true he) HNO.out]
              rfl)
            have HBQ := Lib.hid (below_drewN HB2.out q)
            clear hcm he
            generalize bstr nk.1 = NB at *
            go_wp2_with fail
            go_quiet (fail)
            go_wp2_with fail
            go_quiet (fail)
            go_wp2_with fail
            go_ret2
            exact ⟨.inl ⟨j, D, HR.out, by rw [hDn.out]; rfl⟩, below_drewN (below_drewN HBQ.out _) _⟩
          · have hc1 : ((bstr nk.1).toList == TB.toList) = false := by rw [hcm]; exact beq_eq_false_iff_ne.2 he
            have HN2 : Hid (∀ i y, i < j + 1 → Ar.NK[i]? = some y → decide (y.1 = T) = false) := Lib.hid (fun i y hi hy => by
              by_cases hij : i < j
              · exact HNO.out i y hij hy
              · obtain rfl : i = j := by omega
                rw [HNK.out] at hy
                injection hy with hy
                rw [← hy]
                exact decide_eq_false he)
            clear hcm he
            generalize bstr nk.1 = NB at *
            go_wp2_with fail
            go_quiet (fail)
            go_wp2_with fail
            go_roundw
            case rel => exact ⟨j + 1, _, by omega, by go_num, rfl, HN2.out⟩
            case measure => simp [RowKit.intOf]; omega
        · obtain rfl : j = 29 := by omega
          have HR : Hid (Ar.xname s = none) := Lib.hid (by
            unfold Ar.xname
            rw [← HE.out.1, Ar.find_no _ Ar.NK (fun i y hy => HNO.out i y (by have := (List.getElem?_eq_some_iff.1 hy).1; exact this) hy)]
            rfl)
          have HBQ := Lib.hid (below_drewN HB2.out q)
          go_wp2_with fail
          go_ret2
          exact ⟨.inr ⟨HR.out, by rw [hSS]; rfl⟩, HBQ.out⟩
end Go.Proofs.YteadlcncnhbmjaaGreatDoor
/- The walk of the reference's figure. Written by gencx4.py. -/
namespace Go.Proofs.YteadlcncnhbmjaaGreatDoor
open Go.RowKit Go.Lib
set_option linter.unusedVariables false
set_option linter.unusedSimpArgs false
/-- an event with one cell anew -/
theorem EvOf.setv {ok : Nat → Prop} {w : World} {cells : Array Value} {e : List Ar.FV} (h : EvOf ok w cells e) {i : Nat} {v : Ar.FV} {c : Value} (hi : i < 29) (hv : v.kind = Ar.kindAt i ∧ v.Ok) (hc : CellOf ok w c v) : EvOf ok w (cells.setIfInBounds i c) (e.set i v) := by
  refine ⟨by rw [Array.size_setIfInBounds]; exact h.size, h.fits.set hv, fun j u hj => ?_⟩
  by_cases hji : j = i
  · subst hji
    rw [List.getElem?_set_self (by rw [h.len]; exact hi)] at hj
    injection hj with hj
    subst hj
    exact ⟨c, by rw [Array.getElem?_setIfInBounds, if_pos rfl, if_pos (by rw [h.size]; exact hi)], hc⟩
  · rw [List.getElem?_set_ne (Ne.symm hji)] at hj
    obtain ⟨c', h1, h2⟩ := h.cell j u hj
    exact ⟨c', by rw [Array.getElem?_setIfInBounds, if_neg (Ne.symm hji)]; exact h1, h2⟩
set_option maxHeartbeats 8000000 in
set_option maxRecDepth 100000 in
theorem figset_any (ok : Nat → Prop) (cells : Array Value) (e : List Ar.FV) (n : Int) (w : World) (i : Nat) (j : Int) (hij : (i = 0 ∧ j = 0) ∨ (i = 3 ∧ j = 3) ∨ (i = 6 ∧ j = 6) ∨ (i = 7 ∧ j = 7) ∨ (i = 11 ∧ j = 11) ∨ (i = 12 ∧ j = 12) ∨ (i = 19 ∧ j = 19) ∨ (i = 20 ∧ j = 20) ∨ (i = 21 ∧ j = 21) ∨ (i = 22 ∧ j = 22) ∨ (i = 23 ∧ j = 23) ∨ (i = 24 ∧ j = 24) ∨ (i = 25 ∧ j = 25) ∨ (i = 26 ∧ j = 26) ∨ (i = 28 ∧ j = 28)) (h : EvOf ok w cells e) (hn : Ar.inInt n) :
    Calls Tryz.prog 131 #[.agg cells, .int .i64 j, .int .i64 n] w fun r w' => (∃ cells', r = .returned (.agg cells') ∧ EvOf ok w' cells' (e.set i (.num n))) ∧ Below w.heap.size w w' := by
  have HS : Hid (∀ k c, (Tryz.prog.info? 40).map (·.size) = some (cells.setIfInBounds k c).size) := Lib.hid (fun k c => by rw [Array.size_setIfInBounds, size_event, h.size])
  have HZ : Hid (∀ k c, zeroEv.size = (cells.setIfInBounds k c).size) := Lib.hid (fun k c => by rw [Array.size_setIfInBounds, h.size]; rfl)
  have HX := Lib.hid h
  clear h
  rcases hij with ⟨rfl, rfl⟩ | ⟨rfl, rfl⟩ | ⟨rfl, rfl⟩ | ⟨rfl, rfl⟩ | ⟨rfl, rfl⟩ | ⟨rfl, rfl⟩ | ⟨rfl, rfl⟩ | ⟨rfl, rfl⟩ | ⟨rfl, rfl⟩ | ⟨rfl, rfl⟩ | ⟨rfl, rfl⟩ | ⟨rfl, rfl⟩ | ⟨rfl, rfl⟩ | ⟨rfl, rfl⟩ | ⟨rfl, rfl⟩
  · have HV : Hid (EvOf ok w (cells.setIfInBounds 0 (.int .i64 n)) (e.set 0 (.num n))) := Lib.hid (HX.out.setv (by omega) ⟨rfl, hn⟩ rfl)
    have HO := Lib.hid HV.out.one
    obtain ⟨ci, hci, _⟩ := HX.out.cell 0 _ (List.getElem?_eq_getElem (by rw [HX.out.len]; omega))
    go_enter Tryz.func131, Tryz.ntmps131
    go_wp2_with (first
      | (refine wpList_load_row rfl 40 _ rfl w.heap.size rfl 40 (cells.setIfInBounds 0 (.int .i64 n)) (0, 0) _ ((Blk.new w 40 (cells.setIfInBounds 0 (.int .i64 n))).alloc _) Tryz.underlying40 rfl (HS.out 0 (.int .i64 n)) ?_)
      | ((with_reducible refine wpList_store_row' rfl 40 _ _ rfl (w.heap.size + 1) (cells.setIfInBounds 0 (.int .i64 n)) ?_ ?_ 40 _ (blk_n1 w _ 40 _) (HS.out 0 (.int .i64 n)) ?_ HO.out ?_); rfl; rfl; exact HZ.out 0 (.int .i64 n); intro w4 hk4 hs4 hbl4))
    have HB : Hid (Below w.heap.size w w4) := Lib.hid ((((Below.refl w.heap.size w).alloc (Nat.le_refl _) _).alloc (by rw [World.size_alloc]; exact Nat.le_succ _) _).trans (hbl4 w.heap.size (Nat.le_succ _)))
    refine bodyPost_ret (v := .agg (cells.setIfInBounds 0 (.int .i64 n))) (results_cell_row rfl _ _ (w.heap.size + 1) _ _ (0, 0) _ rfl hk4 Tryz.underlying40 rfl (HS.out 0 (.int .i64 n))) rfl ?_
    exact ⟨⟨_, rfl, HV.out.below HB.out⟩, HB.out⟩
  · have HV : Hid (EvOf ok w (cells.setIfInBounds 3 (.int .i64 n)) (e.set 3 (.num n))) := Lib.hid (HX.out.setv (by omega) ⟨rfl, hn⟩ rfl)
    have HO := Lib.hid HV.out.one
    obtain ⟨ci, hci, _⟩ := HX.out.cell 3 _ (List.getElem?_eq_getElem (by rw [HX.out.len]; omega))
    go_enter Tryz.func131, Tryz.ntmps131
    go_wp2_with (first
      | (refine wpList_load_row rfl 40 _ rfl w.heap.size rfl 40 (cells.setIfInBounds 3 (.int .i64 n)) (0, 0) _ ((Blk.new w 40 (cells.setIfInBounds 3 (.int .i64 n))).alloc _) Tryz.underlying40 rfl (HS.out 3 (.int .i64 n)) ?_)
      | ((with_reducible refine wpList_store_row' rfl 40 _ _ rfl (w.heap.size + 1) (cells.setIfInBounds 3 (.int .i64 n)) ?_ ?_ 40 _ (blk_n1 w _ 40 _) (HS.out 3 (.int .i64 n)) ?_ HO.out ?_); rfl; rfl; exact HZ.out 3 (.int .i64 n); intro w4 hk4 hs4 hbl4))
    have HB : Hid (Below w.heap.size w w4) := Lib.hid ((((Below.refl w.heap.size w).alloc (Nat.le_refl _) _).alloc (by rw [World.size_alloc]; exact Nat.le_succ _) _).trans (hbl4 w.heap.size (Nat.le_succ _)))
    refine bodyPost_ret (v := .agg (cells.setIfInBounds 3 (.int .i64 n))) (results_cell_row rfl _ _ (w.heap.size + 1) _ _ (0, 0) _ rfl hk4 Tryz.underlying40 rfl (HS.out 3 (.int .i64 n))) rfl ?_
    exact ⟨⟨_, rfl, HV.out.below HB.out⟩, HB.out⟩
  · have HV : Hid (EvOf ok w (cells.setIfInBounds 6 (.int .i64 n)) (e.set 6 (.num n))) := Lib.hid (HX.out.setv (by omega) ⟨rfl, hn⟩ rfl)
    have HO := Lib.hid HV.out.one
    obtain ⟨ci, hci, _⟩ := HX.out.cell 6 _ (List.getElem?_eq_getElem (by rw [HX.out.len]; omega))
    go_enter Tryz.func131, Tryz.ntmps131
    go_wp2_with (first
      | (refine wpList_load_row rfl 40 _ rfl w.heap.size rfl 40 (cells.setIfInBounds 6 (.int .i64 n)) (0, 0) _ ((Blk.new w 40 (cells.setIfInBounds 6 (.int .i64 n))).alloc _) Tryz.underlying40 rfl (HS.out 6 (.int .i64 n)) ?_)
      | ((with_reducible refine wpList_store_row' rfl 40 _ _ rfl (w.heap.size + 1) (cells.setIfInBounds 6 (.int .i64 n)) ?_ ?_ 40 _ (blk_n1 w _ 40 _) (HS.out 6 (.int .i64 n)) ?_ HO.out ?_); rfl; rfl; exact HZ.out 6 (.int .i64 n); intro w4 hk4 hs4 hbl4))
    have HB : Hid (Below w.heap.size w w4) := Lib.hid ((((Below.refl w.heap.size w).alloc (Nat.le_refl _) _).alloc (by rw [World.size_alloc]; exact Nat.le_succ _) _).trans (hbl4 w.heap.size (Nat.le_succ _)))
    refine bodyPost_ret (v := .agg (cells.setIfInBounds 6 (.int .i64 n))) (results_cell_row rfl _ _ (w.heap.size + 1) _ _ (0, 0) _ rfl hk4 Tryz.underlying40 rfl (HS.out 6 (.int .i64 n))) rfl ?_
    exact ⟨⟨_, rfl, HV.out.below HB.out⟩, HB.out⟩
  · have HV : Hid (EvOf ok w (cells.setIfInBounds 7 (.int .i64 n)) (e.set 7 (.num n))) := Lib.hid (HX.out.setv (by omega) ⟨rfl, hn⟩ rfl)
    have HO := Lib.hid HV.out.one
    obtain ⟨ci, hci, _⟩ := HX.out.cell 7 _ (List.getElem?_eq_getElem (by rw [HX.out.len]; omega))
    go_enter Tryz.func131, Tryz.ntmps131
    go_wp2_with (first
      | (refine wpList_load_row rfl 40 _ rfl w.heap.size rfl 40 (cells.setIfInBounds 7 (.int .i64 n)) (0, 0) _ ((Blk.new w 40 (cells.setIfInBounds 7 (.int .i64 n))).alloc _) Tryz.underlying40 rfl (HS.out 7 (.int .i64 n)) ?_)
      | ((with_reducible refine wpList_store_row' rfl 40 _ _ rfl (w.heap.size + 1) (cells.setIfInBounds 7 (.int .i64 n)) ?_ ?_ 40 _ (blk_n1 w _ 40 _) (HS.out 7 (.int .i64 n)) ?_ HO.out ?_); rfl; rfl; exact HZ.out 7 (.int .i64 n); intro w4 hk4 hs4 hbl4))
    have HB : Hid (Below w.heap.size w w4) := Lib.hid ((((Below.refl w.heap.size w).alloc (Nat.le_refl _) _).alloc (by rw [World.size_alloc]; exact Nat.le_succ _) _).trans (hbl4 w.heap.size (Nat.le_succ _)))
    refine bodyPost_ret (v := .agg (cells.setIfInBounds 7 (.int .i64 n))) (results_cell_row rfl _ _ (w.heap.size + 1) _ _ (0, 0) _ rfl hk4 Tryz.underlying40 rfl (HS.out 7 (.int .i64 n))) rfl ?_
    exact ⟨⟨_, rfl, HV.out.below HB.out⟩, HB.out⟩
  · have HV : Hid (EvOf ok w (cells.setIfInBounds 11 (.int .i64 n)) (e.set 11 (.num n))) := Lib.hid (HX.out.setv (by omega) ⟨rfl, hn⟩ rfl)
    have HO := Lib.hid HV.out.one
    obtain ⟨ci, hci, _⟩ := HX.out.cell 11 _ (List.getElem?_eq_getElem (by rw [HX.out.len]; omega))
    go_enter Tryz.func131, Tryz.ntmps131
    go_wp2_with (first
      | (refine wpList_load_row rfl 40 _ rfl w.heap.size rfl 40 (cells.setIfInBounds 11 (.int .i64 n)) (0, 0) _ ((Blk.new w 40 (cells.setIfInBounds 11 (.int .i64 n))).alloc _) Tryz.underlying40 rfl (HS.out 11 (.int .i64 n)) ?_)
      | ((with_reducible refine wpList_store_row' rfl 40 _ _ rfl (w.heap.size + 1) (cells.setIfInBounds 11 (.int .i64 n)) ?_ ?_ 40 _ (blk_n1 w _ 40 _) (HS.out 11 (.int .i64 n)) ?_ HO.out ?_); rfl; rfl; exact HZ.out 11 (.int .i64 n); intro w4 hk4 hs4 hbl4))
    have HB : Hid (Below w.heap.size w w4) := Lib.hid ((((Below.refl w.heap.size w).alloc (Nat.le_refl _) _).alloc (by rw [World.size_alloc]; exact Nat.le_succ _) _).trans (hbl4 w.heap.size (Nat.le_succ _)))
    refine bodyPost_ret (v := .agg (cells.setIfInBounds 11 (.int .i64 n))) (results_cell_row rfl _ _ (w.heap.size + 1) _ _ (0, 0) _ rfl hk4 Tryz.underlying40 rfl (HS.out 11 (.int .i64 n))) rfl ?_
    exact ⟨⟨_, rfl, HV.out.below HB.out⟩, HB.out⟩
  · have HV : Hid (EvOf ok w (cells.setIfInBounds 12 (.int .i64 n)) (e.set 12 (.num n))) := Lib.hid (HX.out.setv (by omega) ⟨rfl, hn⟩ rfl)
    have HO := Lib.hid HV.out.one
    obtain ⟨ci, hci, _⟩ := HX.out.cell 12 _ (List.getElem?_eq_getElem (by rw [HX.out.len]; omega))
    go_enter Tryz.func131, Tryz.ntmps131
    go_wp2_with (first
      | (refine wpList_load_row rfl 40 _ rfl w.heap.size rfl 40 (cells.setIfInBounds 12 (.int .i64 n)) (0, 0) _ ((Blk.new w 40 (cells.setIfInBounds 12 (.int .i64 n))).alloc _) Tryz.underlying40 rfl (HS.out 12 (.int .i64 n)) ?_)
      | ((with_reducible refine wpList_store_row' rfl 40 _ _ rfl (w.heap.size + 1) (cells.setIfInBounds 12 (.int .i64 n)) ?_ ?_ 40 _ (blk_n1 w _ 40 _) (HS.out 12 (.int .i64 n)) ?_ HO.out ?_); rfl; rfl; exact HZ.out 12 (.int .i64 n); intro w4 hk4 hs4 hbl4))
    have HB : Hid (Below w.heap.size w w4) := Lib.hid ((((Below.refl w.heap.size w).alloc (Nat.le_refl _) _).alloc (by rw [World.size_alloc]; exact Nat.le_succ _) _).trans (hbl4 w.heap.size (Nat.le_succ _)))
    refine bodyPost_ret (v := .agg (cells.setIfInBounds 12 (.int .i64 n))) (results_cell_row rfl _ _ (w.heap.size + 1) _ _ (0, 0) _ rfl hk4 Tryz.underlying40 rfl (HS.out 12 (.int .i64 n))) rfl ?_
    exact ⟨⟨_, rfl, HV.out.below HB.out⟩, HB.out⟩
  · have HV : Hid (EvOf ok w (cells.setIfInBounds 19 (.int .i64 n)) (e.set 19 (.num n))) := Lib.hid (HX.out.setv (by omega) ⟨rfl, hn⟩ rfl)
    have HO := Lib.hid HV.out.one
    obtain ⟨ci, hci, _⟩ := HX.out.cell 19 _ (List.getElem?_eq_getElem (by rw [HX.out.len]; omega))
    go_enter Tryz.func131, Tryz.ntmps131
    go_wp2_with (first
      | (refine wpList_load_row rfl 40 _ rfl w.heap.size rfl 40 (cells.setIfInBounds 19 (.int .i64 n)) (0, 0) _ ((Blk.new w 40 (cells.setIfInBounds 19 (.int .i64 n))).alloc _) Tryz.underlying40 rfl (HS.out 19 (.int .i64 n)) ?_)
      | ((with_reducible refine wpList_store_row' rfl 40 _ _ rfl (w.heap.size + 1) (cells.setIfInBounds 19 (.int .i64 n)) ?_ ?_ 40 _ (blk_n1 w _ 40 _) (HS.out 19 (.int .i64 n)) ?_ HO.out ?_); rfl; rfl; exact HZ.out 19 (.int .i64 n); intro w4 hk4 hs4 hbl4))
    have HB : Hid (Below w.heap.size w w4) := Lib.hid ((((Below.refl w.heap.size w).alloc (Nat.le_refl _) _).alloc (by rw [World.size_alloc]; exact Nat.le_succ _) _).trans (hbl4 w.heap.size (Nat.le_succ _)))
    refine bodyPost_ret (v := .agg (cells.setIfInBounds 19 (.int .i64 n))) (results_cell_row rfl _ _ (w.heap.size + 1) _ _ (0, 0) _ rfl hk4 Tryz.underlying40 rfl (HS.out 19 (.int .i64 n))) rfl ?_
    exact ⟨⟨_, rfl, HV.out.below HB.out⟩, HB.out⟩
  · have HV : Hid (EvOf ok w (cells.setIfInBounds 20 (.int .i64 n)) (e.set 20 (.num n))) := Lib.hid (HX.out.setv (by omega) ⟨rfl, hn⟩ rfl)
    have HO := Lib.hid HV.out.one
    obtain ⟨ci, hci, _⟩ := HX.out.cell 20 _ (List.getElem?_eq_getElem (by rw [HX.out.len]; omega))
    go_enter Tryz.func131, Tryz.ntmps131
    go_wp2_with (first
      | (refine wpList_load_row rfl 40 _ rfl w.heap.size rfl 40 (cells.setIfInBounds 20 (.int .i64 n)) (0, 0) _ ((Blk.new w 40 (cells.setIfInBounds 20 (.int .i64 n))).alloc _) Tryz.underlying40 rfl (HS.out 20 (.int .i64 n)) ?_)
      | ((with_reducible refine wpList_store_row' rfl 40 _ _ rfl (w.heap.size + 1) (cells.setIfInBounds 20 (.int .i64 n)) ?_ ?_ 40 _ (blk_n1 w _ 40 _) (HS.out 20 (.int .i64 n)) ?_ HO.out ?_); rfl; rfl; exact HZ.out 20 (.int .i64 n); intro w4 hk4 hs4 hbl4))
    have HB : Hid (Below w.heap.size w w4) := Lib.hid ((((Below.refl w.heap.size w).alloc (Nat.le_refl _) _).alloc (by rw [World.size_alloc]; exact Nat.le_succ _) _).trans (hbl4 w.heap.size (Nat.le_succ _)))
    refine bodyPost_ret (v := .agg (cells.setIfInBounds 20 (.int .i64 n))) (results_cell_row rfl _ _ (w.heap.size + 1) _ _ (0, 0) _ rfl hk4 Tryz.underlying40 rfl (HS.out 20 (.int .i64 n))) rfl ?_
    exact ⟨⟨_, rfl, HV.out.below HB.out⟩, HB.out⟩
  · have HV : Hid (EvOf ok w (cells.setIfInBounds 21 (.int .i64 n)) (e.set 21 (.num n))) := Lib.hid (HX.out.setv (by omega) ⟨rfl, hn⟩ rfl)
    have HO := Lib.hid HV.out.one
    obtain ⟨ci, hci, _⟩ := HX.out.cell 21 _ (List.getElem?_eq_getElem (by rw [HX.out.len]; omega))
    go_enter Tryz.func131, Tryz.ntmps131
    go_wp2_with (first
      | (refine wpList_load_row rfl 40 _ rfl w.heap.size rfl 40 (cells.setIfInBounds 21 (.int .i64 n)) (0, 0) _ ((Blk.new w 40 (cells.setIfInBounds 21 (.int .i64 n))).alloc _) Tryz.underlying40 rfl (HS.out 21 (.int .i64 n)) ?_)
      | ((with_reducible refine wpList_store_row' rfl 40 _ _ rfl (w.heap.size + 1) (cells.setIfInBounds 21 (.int .i64 n)) ?_ ?_ 40 _ (blk_n1 w _ 40 _) (HS.out 21 (.int .i64 n)) ?_ HO.out ?_); rfl; rfl; exact HZ.out 21 (.int .i64 n); intro w4 hk4 hs4 hbl4))
    have HB : Hid (Below w.heap.size w w4) := Lib.hid ((((Below.refl w.heap.size w).alloc (Nat.le_refl _) _).alloc (by rw [World.size_alloc]; exact Nat.le_succ _) _).trans (hbl4 w.heap.size (Nat.le_succ _)))
    refine bodyPost_ret (v := .agg (cells.setIfInBounds 21 (.int .i64 n))) (results_cell_row rfl _ _ (w.heap.size + 1) _ _ (0, 0) _ rfl hk4 Tryz.underlying40 rfl (HS.out 21 (.int .i64 n))) rfl ?_
    exact ⟨⟨_, rfl, HV.out.below HB.out⟩, HB.out⟩
  · have HV : Hid (EvOf ok w (cells.setIfInBounds 22 (.int .i64 n)) (e.set 22 (.num n))) := Lib.hid (HX.out.setv (by omega) ⟨rfl, hn⟩ rfl)
    have HO := Lib.hid HV.out.one
    obtain ⟨ci, hci, _⟩ := HX.out.cell 22 _ (List.getElem?_eq_getElem (by rw [HX.out.len]; omega))
    go_enter Tryz.func131, Tryz.ntmps131
    go_wp2_with (first
      | (refine wpList_load_row rfl 40 _ rfl w.heap.size rfl 40 (cells.setIfInBounds 22 (.int .i64 n)) (0, 0) _ ((Blk.new w 40 (cells.setIfInBounds 22 (.int .i64 n))).alloc _) Tryz.underlying40 rfl (HS.out 22 (.int .i64 n)) ?_)
      | ((with_reducible refine wpList_store_row' rfl 40 _ _ rfl (w.heap.size + 1) (cells.setIfInBounds 22 (.int .i64 n)) ?_ ?_ 40 _ (blk_n1 w _ 40 _) (HS.out 22 (.int .i64 n)) ?_ HO.out ?_); rfl; rfl; exact HZ.out 22 (.int .i64 n); intro w4 hk4 hs4 hbl4))
    have HB : Hid (Below w.heap.size w w4) := Lib.hid ((((Below.refl w.heap.size w).alloc (Nat.le_refl _) _).alloc (by rw [World.size_alloc]; exact Nat.le_succ _) _).trans (hbl4 w.heap.size (Nat.le_succ _)))
    refine bodyPost_ret (v := .agg (cells.setIfInBounds 22 (.int .i64 n))) (results_cell_row rfl _ _ (w.heap.size + 1) _ _ (0, 0) _ rfl hk4 Tryz.underlying40 rfl (HS.out 22 (.int .i64 n))) rfl ?_
    exact ⟨⟨_, rfl, HV.out.below HB.out⟩, HB.out⟩
  · have HV : Hid (EvOf ok w (cells.setIfInBounds 23 (.int .i64 n)) (e.set 23 (.num n))) := Lib.hid (HX.out.setv (by omega) ⟨rfl, hn⟩ rfl)
    have HO := Lib.hid HV.out.one
    obtain ⟨ci, hci, _⟩ := HX.out.cell 23 _ (List.getElem?_eq_getElem (by rw [HX.out.len]; omega))
    go_enter Tryz.func131, Tryz.ntmps131
    go_wp2_with (first
      | (refine wpList_load_row rfl 40 _ rfl w.heap.size rfl 40 (cells.setIfInBounds 23 (.int .i64 n)) (0, 0) _ ((Blk.new w 40 (cells.setIfInBounds 23 (.int .i64 n))).alloc _) Tryz.underlying40 rfl (HS.out 23 (.int .i64 n)) ?_)
      | ((with_reducible refine wpList_store_row' rfl 40 _ _ rfl (w.heap.size + 1) (cells.setIfInBounds 23 (.int .i64 n)) ?_ ?_ 40 _ (blk_n1 w _ 40 _) (HS.out 23 (.int .i64 n)) ?_ HO.out ?_); rfl; rfl; exact HZ.out 23 (.int .i64 n); intro w4 hk4 hs4 hbl4))
    have HB : Hid (Below w.heap.size w w4) := Lib.hid ((((Below.refl w.heap.size w).alloc (Nat.le_refl _) _).alloc (by rw [World.size_alloc]; exact Nat.le_succ _) _).trans (hbl4 w.heap.size (Nat.le_succ _)))
    refine bodyPost_ret (v := .agg (cells.setIfInBounds 23 (.int .i64 n))) (results_cell_row rfl _ _ (w.heap.size + 1) _ _ (0, 0) _ rfl hk4 Tryz.underlying40 rfl (HS.out 23 (.int .i64 n))) rfl ?_
    exact ⟨⟨_, rfl, HV.out.below HB.out⟩, HB.out⟩
  · have HV : Hid (EvOf ok w (cells.setIfInBounds 24 (.int .i64 n)) (e.set 24 (.num n))) := Lib.hid (HX.out.setv (by omega) ⟨rfl, hn⟩ rfl)
    have HO := Lib.hid HV.out.one
    obtain ⟨ci, hci, _⟩ := HX.out.cell 24 _ (List.getElem?_eq_getElem (by rw [HX.out.len]; omega))
    go_enter Tryz.func131, Tryz.ntmps131
    go_wp2_with (first
      | (refine wpList_load_row rfl 40 _ rfl w.heap.size rfl 40 (cells.setIfInBounds 24 (.int .i64 n)) (0, 0) _ ((Blk.new w 40 (cells.setIfInBounds 24 (.int .i64 n))).alloc _) Tryz.underlying40 rfl (HS.out 24 (.int .i64 n)) ?_)
      | ((with_reducible refine wpList_store_row' rfl 40 _ _ rfl (w.heap.size + 1) (cells.setIfInBounds 24 (.int .i64 n)) ?_ ?_ 40 _ (blk_n1 w _ 40 _) (HS.out 24 (.int .i64 n)) ?_ HO.out ?_); rfl; rfl; exact HZ.out 24 (.int .i64 n); intro w4 hk4 hs4 hbl4))
    have HB : Hid (Below w.heap.size w w4) := Lib.hid ((((Below.refl w.heap.size w).alloc (Nat.le_refl _) _).alloc (by rw [World.size_alloc]; exact Nat.le_succ _) _).trans (hbl4 w.heap.size (Nat.le_succ _)))
    refine bodyPost_ret (v := .agg (cells.setIfInBounds 24 (.int .i64 n))) (results_cell_row rfl _ _ (w.heap.size + 1) _ _ (0, 0) _ rfl hk4 Tryz.underlying40 rfl (HS.out 24 (.int .i64 n))) rfl ?_
    exact ⟨⟨_, rfl, HV.out.below HB.out⟩, HB.out⟩
  · have HV : Hid (EvOf ok w (cells.setIfInBounds 25 (.int .i64 n)) (e.set 25 (.num n))) := Lib.hid (HX.out.setv (by omega) ⟨rfl, hn⟩ rfl)
    have HO := Lib.hid HV.out.one
    obtain ⟨ci, hci, _⟩ := HX.out.cell 25 _ (List.getElem?_eq_getElem (by rw [HX.out.len]; omega))
    go_enter Tryz.func131, Tryz.ntmps131
    go_wp2_with (first
      | (refine wpList_load_row rfl 40 _ rfl w.heap.size rfl 40 (cells.setIfInBounds 25 (.int .i64 n)) (0, 0) _ ((Blk.new w 40 (cells.setIfInBounds 25 (.int .i64 n))).alloc _) Tryz.underlying40 rfl (HS.out 25 (.int .i64 n)) ?_)
      | ((with_reducible refine wpList_store_row' rfl 40 _ _ rfl (w.heap.size + 1) (cells.setIfInBounds 25 (.int .i64 n)) ?_ ?_ 40 _ (blk_n1 w _ 40 _) (HS.out 25 (.int .i64 n)) ?_ HO.out ?_); rfl; rfl; exact HZ.out 25 (.int .i64 n); intro w4 hk4 hs4 hbl4))
    have HB : Hid (Below w.heap.size w w4) := Lib.hid ((((Below.refl w.heap.size w).alloc (Nat.le_refl _) _).alloc (by rw [World.size_alloc]; exact Nat.le_succ _) _).trans (hbl4 w.heap.size (Nat.le_succ _)))
    refine bodyPost_ret (v := .agg (cells.setIfInBounds 25 (.int .i64 n))) (results_cell_row rfl _ _ (w.heap.size + 1) _ _ (0, 0) _ rfl hk4 Tryz.underlying40 rfl (HS.out 25 (.int .i64 n))) rfl ?_
    exact ⟨⟨_, rfl, HV.out.below HB.out⟩, HB.out⟩
  · have HV : Hid (EvOf ok w (cells.setIfInBounds 26 (.int .i64 n)) (e.set 26 (.num n))) := Lib.hid (HX.out.setv (by omega) ⟨rfl, hn⟩ rfl)
    have HO := Lib.hid HV.out.one
    obtain ⟨ci, hci, _⟩ := HX.out.cell 26 _ (List.getElem?_eq_getElem (by rw [HX.out.len]; omega))
    go_enter Tryz.func131, Tryz.ntmps131
    go_wp2_with (first
      | (refine wpList_load_row rfl 40 _ rfl w.heap.size rfl 40 (cells.setIfInBounds 26 (.int .i64 n)) (0, 0) _ ((Blk.new w 40 (cells.setIfInBounds 26 (.int .i64 n))).alloc _) Tryz.underlying40 rfl (HS.out 26 (.int .i64 n)) ?_)
      | ((with_reducible refine wpList_store_row' rfl 40 _ _ rfl (w.heap.size + 1) (cells.setIfInBounds 26 (.int .i64 n)) ?_ ?_ 40 _ (blk_n1 w _ 40 _) (HS.out 26 (.int .i64 n)) ?_ HO.out ?_); rfl; rfl; exact HZ.out 26 (.int .i64 n); intro w4 hk4 hs4 hbl4))
    have HB : Hid (Below w.heap.size w w4) := Lib.hid ((((Below.refl w.heap.size w).alloc (Nat.le_refl _) _).alloc (by rw [World.size_alloc]; exact Nat.le_succ _) _).trans (hbl4 w.heap.size (Nat.le_succ _)))
    refine bodyPost_ret (v := .agg (cells.setIfInBounds 26 (.int .i64 n))) (results_cell_row rfl _ _ (w.heap.size + 1) _ _ (0, 0) _ rfl hk4 Tryz.underlying40 rfl (HS.out 26 (.int .i64 n))) rfl ?_
    exact ⟨⟨_, rfl, HV.out.below HB.out⟩, HB.out⟩
  · have HV : Hid (EvOf ok w (cells.setIfInBounds 28 (.int .i64 n)) (e.set 28 (.num n))) := Lib.hid (HX.out.setv (by omega) ⟨rfl, hn⟩ rfl)
    have HO := Lib.hid HV.out.one
    obtain ⟨ci, hci, _⟩ := HX.out.cell 28 _ (List.getElem?_eq_getElem (by rw [HX.out.len]; omega))
    go_enter Tryz.func131, Tryz.ntmps131
    go_wp2_with (first
      | (refine wpList_load_row rfl 40 _ rfl w.heap.size rfl 40 (cells.setIfInBounds 28 (.int .i64 n)) (0, 0) _ ((Blk.new w 40 (cells.setIfInBounds 28 (.int .i64 n))).alloc _) Tryz.underlying40 rfl (HS.out 28 (.int .i64 n)) ?_)
      | ((with_reducible refine wpList_store_row' rfl 40 _ _ rfl (w.heap.size + 1) (cells.setIfInBounds 28 (.int .i64 n)) ?_ ?_ 40 _ (blk_n1 w _ 40 _) (HS.out 28 (.int .i64 n)) ?_ HO.out ?_); rfl; rfl; exact HZ.out 28 (.int .i64 n); intro w4 hk4 hs4 hbl4))
    have HB : Hid (Below w.heap.size w w4) := Lib.hid ((((Below.refl w.heap.size w).alloc (Nat.le_refl _) _).alloc (by rw [World.size_alloc]; exact Nat.le_succ _) _).trans (hbl4 w.heap.size (Nat.le_succ _)))
    refine bodyPost_ret (v := .agg (cells.setIfInBounds 28 (.int .i64 n))) (results_cell_row rfl _ _ (w.heap.size + 1) _ _ (0, 0) _ rfl hk4 Tryz.underlying40 rfl (HS.out 28 (.int .i64 n))) rfl ?_
    exact ⟨⟨_, rfl, HV.out.below HB.out⟩, HB.out⟩
end Go.Proofs.YteadlcncnhbmjaaGreatDoor
/- The walks of the reference's readers of lists. Written by gencx2.py. -/
namespace Ar
theorem xnum_len {s t : Str} {n : Int} (h : xnum s = some (n, t)) : t.length ≤ s.length := by
  unfold xnum at h
  cases hr : rint (s.takeWhile numch) with
  | none => rw [hr] at h; cases h
  | some m =>
    rw [hr] at h
    injection h with h
    injection h with _ h
    rw [← h]
    exact (List.dropWhile_sublist _).length_le
theorem unquote_rest {s t x : Str} (h : unquote s = some (x, t)) : t.length ≤ s.length := by
  rw [unquote_inv h, List.length_append]
  omega
theorem xsign_len {c : UInt8} {s t : Str} (h : xsign c s = some t) : t.length + 1 = s.length := by
  cases s with
  | nil => cases h
  | cons d r =>
    change (if d = c then some r else none) = some t at h
    split at h
    · injection h with h; rw [h]; rfl
    · cases h
theorem xlist_none {α : Type} {one : Str → Option (α × Str)} {m : Nat} {t : Str} (h : one t = none) : xlistF one (m + 1) t = none := by
  unfold xlistF; rw [h]; rfl
theorem xlist_end {α : Type} {one : Str → Option (α × Str)} {m : Nat} {t r : Str} {x : α} (h : one t = some (x, r)) (h2 : xsign 44 r = none) : xlistF one (m + 1) t = some ([x], r) := by
  unfold xlistF; rw [h]; show (match xsign 44 r with | none => some ([x], r) | some q => _) = _; rw [h2]
theorem xlist_more {α : Type} {one : Str → Option (α × Str)} {m : Nat} {t r q : Str} {x : α} (h : one t = some (x, r)) (h2 : xsign 44 r = some q) : xlistF one (m + 1) t = (xlistF one m q).map fun p => (x :: p.1, p.2) := by
  rw [xlistF, h]; show (match xsign 44 r with | none => some ([x], r) | some q => _) = _; rw [h2]
end Ar
namespace Go.Proofs.YteadlcncnhbmjaaGreatDoor
open Go.RowKit Go.Lib
set_option linter.unusedVariables false
set_option linter.unusedSimpArgs false

def vlen : Value → Nat
  | .string s => s.size
  | _ => 0
def TxA (o : Option (List UInt8 × List UInt8)) (e : Ending) : Prop := (∃ x r, o = some (x, r) ∧ e = .returned (.tuple #[.string (bstr x), .string (bstr r), .bool true])) ∨ (o = none ∧ e = .returned (.tuple #[.string ⟨#[]⟩, .string ⟨#[]⟩, .bool false]))
theorem runq_any (t : List UInt8) (w : World) (ht : t.length ≤ 1000000) : Calls Tryz.prog 17 #[.string (bstr t)] w fun e w' => TxA (Ar.unquote t) e ∧ Below w.heap.size w w' := by
  refine (runquote_any (bstr t) w (by rw [bstr_size]; exact ht)).mono ?_
  rintro e w' ⟨rfl, hb⟩
  refine ⟨?_, hb⟩
  rw [show (bstr t).data.toList = t from rfl]
  cases h : Ar.unquote t with
  | none => exact .inr ⟨rfl, rfl⟩
  | some p => exact .inl ⟨p.1, p.2, rfl, rfl⟩
/-- what a reader of a list answers -/
def LsA {α : Type} (row : List α → List Value) (ty : TypeId) (sz base : Nat) (o : Option (List α × List UInt8)) (e : Ending) (w' : World) : Prop :=
  (∃ l t v, o = some (l, t) ∧ e = .returned (.tuple #[v, .string (bstr t), .bool true]) ∧ w'.ownsRow base ty sz v l.length (row l)) ∨ (o = none ∧ e = .returned (.tuple #[.slice none 0 0, .string ⟨#[]⟩, .bool false]))
set_option maxHeartbeats 4000000 in
set_option maxRecDepth 100000 in
theorem rreadints_any (s : List UInt8) (w : World) (hs : s.length ≤ 1000000) : Calls Tryz.prog 126 #[.string (bstr s)] w fun e w' => LsA intL 3 1 w.heap.size (Ar.xlist Ar.xnum s) e w' ∧ Below w.heap.size w w' := by
  have HO0 : Hid ((w.alloc (.cells #[] 3)).ownsRow w.heap.size 3 1 (.slice (some ⟨w.heap.size, 0, none⟩) 0 0) 0 []) := Lib.hid (World.ownsRow_lit (base := w.heap.size) (e := 3) (size := 1) w #[] 0 (Nat.le_refl _) (by decide) rfl)
  have HB0 := Lib.hid ((Below.refl w.heap.size w).alloc (Nat.le_refl _) (.cells #[] 3))
  go_enter Tryz.func126, Tryz.ntmps126
  go_wp2_with fail
  go_loopw [0, 5] (fun sx ox wr => ∃ (m : Nat) (l : List Int) (t : List UInt8), sx = .string (bstr t) ∧ wr.ownsRow w.heap.size 3 1 ox l.length (intL l) ∧ Below w.heap.size w wr ∧ t.length < m ∧ l.length + t.length ≤ s.length ∧ Hid (Ar.xlistF Ar.xnum (s.length + 1) s = (Ar.xlistF Ar.xnum m t).map (fun q => (l ++ q.1, q.2)))) (fun sx _ _ => vlen sx)
  case atStart => exact ⟨s.length + 1, [], s, rfl, HO0.out, HB0.out, Nat.lt_succ_self _, by simp, Lib.hid (by cases Ar.xlistF Ar.xnum (s.length + 1) s <;> rfl)⟩
  case round =>
    obtain ⟨m, l, t, rfl, ho, hb, hm, hlt, heq⟩ := hrel
    obtain ⟨AO, cO, rfl⟩ := own_any ho
    cases m with
    | zero => exact absurd hm (Nat.not_lt_zero _)
    | succ m =>
      have HO := Lib.hid ho
      have HB := Lib.hid hb
      have hbs := hb.size
      have HEQ : Hid (Ar.xlistF Ar.xnum (s.length + 1) s = (Ar.xlistF Ar.xnum (m + 1) t).map (fun q => (l ++ q.1, q.2))) := heq
      have hbt := bstr_size t
      clear ho hb heq
      have HC1 := Lib.hid (fun W => rnumber_any (bstr t) W (by omega))
      rw [show (bstr t).data.toList = t from rfl] at HC1
      generalize hTB : bstr t = TB at *
      go_wp2_with fail
      refine (HC1.out _).mono ?_
      rintro e w2 ⟨hone, hb2⟩
      have HB2 := Lib.hid (HB.out.trans (hb2.mono hbs))
      have HO2 := Lib.hid (own_below HO.out hb2 (Nat.le_refl _))
      have HZ2 := Lib.hid HB2.out.size
      clear hb2
      rcases hone with ⟨x, r, hone, rfl⟩ | ⟨hone, rfl⟩
      · have HRL := Lib.hid (Ar.xnum_len hone)
        have hrl := HRL.out
        have HSG := Lib.hid (fun W => sign_any r 44 W (by omega))
        rw [show (((44 : UInt8).toNat : Nat) : Int) = 44 from rfl] at HSG
        have HOK := Lib.hid hone
        clear hone
        generalize hRB : bstr r = RB at *
        go_wp2_with (at_builtin; refine app_lit rowInt rfl _ _ rfl w2 (intL [x]) 1 rfl (one_int _) (.slice AO l.length cO) l.length (intL l) w.heap.size rfl HO2.out rfl HZ2.out (by omega) ?_; intro v9 w9 ho9 hg9 hb9; obtain ⟨A9, c9, rfl⟩ := own_any ho9)
        have HO9 := Lib.hid ho9
        have HB9 := Lib.hid (hb9 _ HB2.out)
        clear ho9 hg9 hb9
        refine (HSG.out _).mono ?_
        rintro e wS ⟨hsg, rfl⟩
        rcases hsg with ⟨q, hq, rfl⟩ | ⟨hq, rfl⟩
        · have HQL := Lib.hid (Ar.xsign_len hq)
          have HEN : Hid (Ar.xlistF Ar.xnum (s.length + 1) s = (Ar.xlistF Ar.xnum m q).map (fun p => ((l ++ [x]) ++ p.1, p.2))) := Lib.hid (by
            rw [HEQ.out, Ar.xlist_more HOK.out hq]
            cases Ar.xlistF Ar.xnum m q with
            | none => rfl
            | some p => show some (l ++ x :: p.1, p.2) = some ((l ++ [x]) ++ p.1, p.2); rw [List.append_assoc]; rfl)
          clear hq
          have hql := HQL.out
          have hbq := bstr_size q
          go_wp2_with fail
          go_roundw
          case rel =>
            refine ⟨m, l ++ [x], q, rfl, ?_, HB9.out, by omega, by rw [List.length_append, List.length_singleton]; omega, HEN⟩
            rw [List.length_append, intL_append]
            exact HO9.out
          case measure => show (bstr q).size < TB.size; rw [← hTB, bstr_size, bstr_size]; omega
        · have HEN : Hid (Ar.xlistF Ar.xnum (s.length + 1) s = some (l ++ [x], r)) := Lib.hid (by rw [HEQ.out, Ar.xlist_end HOK.out hq]; rfl)
          clear hq
          go_wp2_with fail
          go_ret3
          exact ⟨.inl ⟨l ++ [x], r, .slice A9 (l.length + 1) c9, HEN.out, by rw [hRB]; rfl, by rw [List.length_append, intL_append]; exact HO9.out⟩, HB9.out⟩
      · go_wp2_with fail
        go_ret3
        exact ⟨.inr ⟨by show Ar.xlistF Ar.xnum (s.length + 1) s = none; rw [HEQ.out, Ar.xlist_none hone]; rfl, rfl⟩, HB2.out⟩
set_option maxHeartbeats 4000000 in
set_option maxRecDepth 100000 in
theorem rreadtexts_any (s : List UInt8) (w : World) (hs : s.length ≤ 1000000) : Calls Tryz.prog 127 #[.string (bstr s)] w fun e w' => LsA strL 9 1 w.heap.size (Ar.xlist Ar.unquote s) e w' ∧ Below w.heap.size w w' := by
  have HO0 : Hid ((w.alloc (.cells #[] 9)).ownsRow w.heap.size 9 1 (.slice (some ⟨w.heap.size, 0, none⟩) 0 0) 0 []) := Lib.hid (World.ownsRow_lit (base := w.heap.size) (e := 9) (size := 1) w #[] 0 (Nat.le_refl _) (by decide) rfl)
  have HB0 := Lib.hid ((Below.refl w.heap.size w).alloc (Nat.le_refl _) (.cells #[] 9))
  go_enter Tryz.func127, Tryz.ntmps127
  go_wp2_with fail
  go_loopw [0, 5] (fun sx ox wr => ∃ (m : Nat) (l : List (List UInt8)) (t : List UInt8), sx = .string (bstr t) ∧ wr.ownsRow w.heap.size 9 1 ox l.length (strL l) ∧ Below w.heap.size w wr ∧ t.length < m ∧ l.length + t.length ≤ s.length ∧ Hid (Ar.xlistF Ar.unquote (s.length + 1) s = (Ar.xlistF Ar.unquote m t).map (fun q => (l ++ q.1, q.2)))) (fun sx _ _ => vlen sx)
  case atStart => exact ⟨s.length + 1, [], s, rfl, HO0.out, HB0.out, Nat.lt_succ_self _, by simp, Lib.hid (by cases Ar.xlistF Ar.unquote (s.length + 1) s <;> rfl)⟩
  case round =>
    obtain ⟨m, l, t, rfl, ho, hb, hm, hlt, heq⟩ := hrel
    obtain ⟨AO, cO, rfl⟩ := own_any ho
    cases m with
    | zero => exact absurd hm (Nat.not_lt_zero _)
    | succ m =>
      have HO := Lib.hid ho
      have HB := Lib.hid hb
      have hbs := hb.size
      have HEQ : Hid (Ar.xlistF Ar.unquote (s.length + 1) s = (Ar.xlistF Ar.unquote (m + 1) t).map (fun q => (l ++ q.1, q.2))) := heq
      have hbt := bstr_size t
      clear ho hb heq
      have HC1 := Lib.hid (fun W => runq_any t W (by omega))
      generalize hTB : bstr t = TB at *
      go_wp2_with fail
      refine (HC1.out _).mono ?_
      rintro e w2 ⟨hone, hb2⟩
      have HB2 := Lib.hid (HB.out.trans (hb2.mono hbs))
      have HO2 := Lib.hid (own_below HO.out hb2 (Nat.le_refl _))
      have HZ2 := Lib.hid HB2.out.size
      clear hb2
      rcases hone with ⟨x, r, hone, rfl⟩ | ⟨hone, rfl⟩
      · have HRL := Lib.hid (Ar.unquote_rest hone)
        have hrl := HRL.out
        have HSG := Lib.hid (fun W => sign_any r 44 W (by omega))
        rw [show (((44 : UInt8).toNat : Nat) : Int) = 44 from rfl] at HSG
        have HOK := Lib.hid hone
        clear hone
        generalize hRB : bstr r = RB at *
        go_wp2_with (at_builtin; refine app_lit rowStr rfl _ _ rfl w2 (strL [x]) 1 rfl (one_strs _) (.slice AO l.length cO) l.length (strL l) w.heap.size rfl HO2.out rfl HZ2.out (by omega) ?_; intro v9 w9 ho9 hg9 hb9; obtain ⟨A9, c9, rfl⟩ := own_any ho9)
        have HO9 := Lib.hid ho9
        have HB9 := Lib.hid (hb9 _ HB2.out)
        clear ho9 hg9 hb9
        refine (HSG.out _).mono ?_
        rintro e wS ⟨hsg, rfl⟩
        rcases hsg with ⟨q, hq, rfl⟩ | ⟨hq, rfl⟩
        · have HQL := Lib.hid (Ar.xsign_len hq)
          have HEN : Hid (Ar.xlistF Ar.unquote (s.length + 1) s = (Ar.xlistF Ar.unquote m q).map (fun p => ((l ++ [x]) ++ p.1, p.2))) := Lib.hid (by
            rw [HEQ.out, Ar.xlist_more HOK.out hq]
            cases Ar.xlistF Ar.unquote m q with
            | none => rfl
            | some p => show some (l ++ x :: p.1, p.2) = some ((l ++ [x]) ++ p.1, p.2); rw [List.append_assoc]; rfl)
          clear hq
          have hql := HQL.out
          have hbq := bstr_size q
          go_wp2_with fail
          go_roundw
          case rel =>
            refine ⟨m, l ++ [x], q, rfl, ?_, HB9.out, by omega, by rw [List.length_append, List.length_singleton]; omega, HEN⟩
            rw [List.length_append, strL_append]
            exact HO9.out
          case measure => show (bstr q).size < TB.size; rw [← hTB, bstr_size, bstr_size]; omega
        · have HEN : Hid (Ar.xlistF Ar.unquote (s.length + 1) s = some (l ++ [x], r)) := Lib.hid (by rw [HEQ.out, Ar.xlist_end HOK.out hq]; rfl)
          clear hq
          go_wp2_with fail
          go_ret3
          exact ⟨.inl ⟨l ++ [x], r, .slice A9 (l.length + 1) c9, HEN.out, by rw [hRB]; rfl, by rw [List.length_append, strL_append]; exact HO9.out⟩, HB9.out⟩
      · go_wp2_with fail
        go_ret3
        exact ⟨.inr ⟨by show Ar.xlistF Ar.unquote (s.length + 1) s = none; rw [HEQ.out, Ar.xlist_none hone]; rfl, rfl⟩, HB2.out⟩
end Go.Proofs.YteadlcncnhbmjaaGreatDoor
namespace Ar
theorem xnum_nil : xnum [] = none := rfl
theorem xusr_n1 {t : Str} (h : unquote t = none) : xusr t = none := by unfold xusr; rw [h]; rfl
theorem xusr_n2 {t x r1 : Str} (h : unquote t = some (x, r1)) (h2 : xsign 58 r1 = none) : xusr t = none := by
  unfold xusr; rw [h]; show (xsign 58 r1).bind _ = none; rw [h2]; rfl
theorem xusr_n3 {t x r1 r2 : Str} (h : unquote t = some (x, r1)) (h2 : xsign 58 r1 = some r2) (h3 : xnum r2 = none) : xusr t = none := by
  unfold xusr; rw [h]; show (xsign 58 r1).bind _ = none; rw [h2]; show (xnum r2).map _ = none; rw [h3]; rfl
theorem xusr_s {t x r1 r2 r3 : Str} {n : Int} (h : unquote t = some (x, r1)) (h2 : xsign 58 r1 = some r2) (h3 : xnum r2 = some (n, r3)) : xusr t = some ((x, n), r3) := by
  unfold xusr; rw [h]; show (xsign 58 r1).bind _ = _; rw [h2]; show (xnum r2).map _ = _; rw [h3]; rfl
theorem xknd_n1 {t : Str} (h : xnum t = none) : xknd t = none := by unfold xknd; rw [h]; rfl
theorem xknd_n2 {t r1 : Str} {x : Int} (h : xnum t = some (x, r1)) (h2 : xsign 58 r1 = none) : xknd t = none := by
  unfold xknd; rw [h]; show (xsign 58 r1).bind _ = none; rw [h2]; rfl
theorem xknd_n3 {t r1 r2 : Str} {x : Int} (h : xnum t = some (x, r1)) (h2 : xsign 58 r1 = some r2) (h3 : xnum r2 = none) : xknd t = none := by
  unfold xknd; rw [h]; show (xsign 58 r1).bind _ = none; rw [h2]; show (xnum r2).map _ = none; rw [h3]; rfl
theorem xknd_s {t r1 r2 r3 : Str} {x n : Int} (h : xnum t = some (x, r1)) (h2 : xsign 58 r1 = some r2) (h3 : xnum r2 = some (n, r3)) : xknd t = some ((x, n), r3) := by
  unfold xknd; rw [h]; show (xsign 58 r1).bind _ = _; rw [h2]; show (xnum r2).map _ = _; rw [h3]; rfl
end Ar
namespace Go.Proofs.YteadlcncnhbmjaaGreatDoor
open Go.RowKit Go.Lib
set_option maxHeartbeats 4000000 in
set_option maxRecDepth 100000 in
theorem rreadusers_any (s : List UInt8) (w : World) (hs : s.length ≤ 1000000) : Calls Tryz.prog 128 #[.string (bstr s)] w fun e w' => LsA usrL 77 2 w.heap.size (Ar.xlist Ar.xusr s) e w' ∧ Below w.heap.size w w' := by
  have HO0 : Hid ((w.alloc (.cells #[] 77)).ownsRow w.heap.size 77 2 (.slice (some ⟨w.heap.size, 0, none⟩) 0 0) 0 []) := Lib.hid (World.ownsRow_lit (base := w.heap.size) (e := 77) (size := 2) w #[] 0 (Nat.le_refl _) (by decide) rfl)
  have HB0 := Lib.hid ((Below.refl w.heap.size w).alloc (Nat.le_refl _) (.cells #[] 77))
  go_enter Tryz.func128, Tryz.ntmps128
  go_wp2_with fail
  go_loopw [0, 5] (fun sx ox wr => ∃ (m : Nat) (l : List (List UInt8 × Int)) (t : List UInt8), sx = .string (bstr t) ∧ wr.ownsRow w.heap.size 77 2 ox l.length (usrL l) ∧ Below w.heap.size w wr ∧ t.length < m ∧ l.length + t.length ≤ s.length ∧ Hid (Ar.xlistF Ar.xusr (s.length + 1) s = (Ar.xlistF Ar.xusr m t).map (fun q => (l ++ q.1, q.2)))) (fun sx _ _ => vlen sx)
  case atStart => exact ⟨s.length + 1, [], s, rfl, HO0.out, HB0.out, Nat.lt_succ_self _, by simp, Lib.hid (by cases Ar.xlistF Ar.xusr (s.length + 1) s <;> rfl)⟩
  case round =>
    obtain ⟨m, l, t, rfl, ho, hb, hm, hlt, heq⟩ := hrel
    obtain ⟨AO, cO, rfl⟩ := own_any ho
    cases m with
    | zero => exact absurd hm (Nat.not_lt_zero _)
    | succ m =>
      have HO := Lib.hid ho
      have HB := Lib.hid hb
      have hbs := hb.size
      have HEQ : Hid (Ar.xlistF Ar.xusr (s.length + 1) s = (Ar.xlistF Ar.xusr (m + 1) t).map (fun q => (l ++ q.1, q.2))) := heq
      have hbt := bstr_size t
      clear ho hb heq
      have HC1 := Lib.hid (fun W => runq_any t W (by omega))
      generalize hTB : bstr t = TB at *
      go_wp2_with fail
      refine (HC1.out _).mono ?_
      rintro e w2 ⟨hone, hb2⟩
      have HB2 := Lib.hid (HB.out.trans (hb2.mono hbs))
      have HO2 := Lib.hid (own_below HO.out hb2 (Nat.le_refl _))
      clear hb2
      rcases hone with ⟨x, r1, h1, rfl⟩ | ⟨h1, rfl⟩
      · have HSG1 := Lib.hid (fun W => sign_any r1 58 W (by have := Ar.unquote_rest h1; omega))
        rw [show (((58 : UInt8).toNat : Nat) : Int) = 58 from rfl] at HSG1
        generalize hR1 : bstr r1 = R1 at *
        go_wp2_with fail
        refine (HSG1.out _).mono ?_
        rintro e w3 ⟨hsg, rfl⟩
        rcases hsg with ⟨r2, hs1, rfl⟩ | ⟨hs1, rfl⟩
        · have HNM := Lib.hid (fun W => rnumber_any (bstr r2) W (by rw [bstr_size]; have := Ar.unquote_rest h1; have := Ar.xsign_len hs1; omega))
          rw [show (bstr r2).data.toList = r2 from rfl] at HNM
          generalize hR2 : bstr r2 = R2 at *
          go_wp2_with fail
          refine (HNM.out _).mono ?_
          rintro e w4 ⟨hnm, hb4⟩
          have HB4 := Lib.hid (HB2.out.trans (hb4.mono HB2.out.size))
          have HO4 := Lib.hid (own_below HO2.out hb4 (Nat.le_refl _))
          have HZ4 := Lib.hid HB4.out.size
          clear hb4
          rcases hnm with ⟨n, r3, hn1, rfl⟩ | ⟨hn1, rfl⟩
          · have hone : Ar.xusr t = some ((x, n), r3) := Ar.xusr_s h1 hs1 hn1
            have HRL := Lib.hid (Nat.le_trans (Ar.xnum_len hn1) (Nat.le_trans (Nat.le_trans (Nat.le_succ _) (Nat.le_of_eq (Ar.xsign_len hs1))) (Ar.unquote_rest h1)))
            have hrl := HRL.out
            have HSG := Lib.hid (fun W => sign_any r3 44 W (by omega))
            rw [show (((44 : UInt8).toNat : Nat) : Int) = 44 from rfl] at HSG
            have HOK := Lib.hid hone
            clear hone hn1 hs1 h1
            generalize hRB : bstr r3 = RB at *
            go_wp2_with (at_builtin; refine app_lit rowLevel rfl _ _ rfl w4 (usrL [(x, n)]) 1 rfl (one_usr _) (.slice AO l.length cO) l.length (usrL l) w.heap.size rfl HO4.out rfl HZ4.out (by omega) ?_; intro v9 w9 ho9 hg9 hb9; obtain ⟨A9, c9, rfl⟩ := own_any ho9)
            have HO9 := Lib.hid ho9
            have HB9 := Lib.hid (hb9 _ HB4.out)
            clear ho9 hg9 hb9
            refine (HSG.out _).mono ?_
            rintro e wS ⟨hsg, rfl⟩
            rcases hsg with ⟨q, hq, rfl⟩ | ⟨hq, rfl⟩
            · have HQL := Lib.hid (Ar.xsign_len hq)
              have HEN : Hid (Ar.xlistF Ar.xusr (s.length + 1) s = (Ar.xlistF Ar.xusr m q).map (fun p => ((l ++ [(x, n)]) ++ p.1, p.2))) := Lib.hid (by
                rw [HEQ.out, Ar.xlist_more HOK.out hq]
                cases Ar.xlistF Ar.xusr m q with
                | none => rfl
                | some p => show some (l ++ (x, n) :: p.1, p.2) = some ((l ++ [(x, n)]) ++ p.1, p.2); rw [List.append_assoc]; rfl)
              clear hq
              have hql := HQL.out
              have hbq := bstr_size q
              go_wp2_with fail
              go_roundw
              case rel =>
                refine ⟨m, l ++ [(x, n)], q, rfl, ?_, HB9.out, by omega, by rw [List.length_append, List.length_singleton]; omega, HEN⟩
                rw [List.length_append, usrL_append]
                exact HO9.out
              case measure => show (bstr q).size < TB.size; rw [← hTB, bstr_size, bstr_size]; omega
            · have HEN : Hid (Ar.xlistF Ar.xusr (s.length + 1) s = some (l ++ [(x, n)], r3)) := Lib.hid (by rw [HEQ.out, Ar.xlist_end HOK.out hq]; rfl)
              clear hq
              go_wp2_with fail
              go_ret3
              exact ⟨.inl ⟨l ++ [(x, n)], r3, .slice A9 (l.length + 1) c9, HEN.out, by rw [hRB]; rfl, by rw [List.length_append, usrL_append]; exact HO9.out⟩, HB9.out⟩
          · have HNN : Hid (Ar.xusr t = none) := Lib.hid (Ar.xusr_n3 h1 hs1 hn1)
            go_wp2_with fail
            go_ret3
            exact ⟨.inr ⟨by show Ar.xlistF Ar.xusr (s.length + 1) s = none; rw [HEQ.out, Ar.xlist_none HNN.out]; rfl, rfl⟩, HB4.out⟩
        · have HNN : Hid (Ar.xusr t = none) := Lib.hid (Ar.xusr_n2 h1 hs1)
          have HN0 := Lib.hid (fun W => rnumber_any ⟨#[]⟩ W (by decide))
          go_wp2_with fail
          refine (HN0.out _).mono ?_
          rintro e w4 ⟨hnm, hbn⟩
          have HBN := Lib.hid (HB2.out.trans (hbn.mono HB2.out.size))
          clear hbn
          rcases hnm with ⟨n0, t0, hn0, _⟩ | ⟨_, rfl⟩
          · exact absurd hn0 (by intro h; have h' : Ar.xnum [] = some (n0, t0) := h; rw [Ar.xnum_nil] at h'; cases h')
          go_wp2_with fail
          go_ret3
          exact ⟨.inr ⟨by show Ar.xlistF Ar.xusr (s.length + 1) s = none; rw [HEQ.out, Ar.xlist_none HNN.out]; rfl, rfl⟩, HBN.out⟩
      · have HNN : Hid (Ar.xusr t = none) := Lib.hid (Ar.xusr_n1 h1)
        clear h1
        have HS0 := Lib.hid (fun W => sign_any [] 58 W (by decide))
        rw [show (((58 : UInt8).toNat : Nat) : Int) = 58 from rfl, show bstr [] = (⟨#[]⟩ : ByteArray) from rfl] at HS0
        have HN0 := Lib.hid (fun W => rnumber_any ⟨#[]⟩ W (by decide))
        go_wp2_with fail
        refine (HS0.out _).mono ?_
        rintro e w3 ⟨hsg, rfl⟩
        rcases hsg with ⟨q, hq, _⟩ | ⟨_, rfl⟩
        · cases hq
        go_wp2_with fail
        refine (HN0.out _).mono ?_
        rintro e w4 ⟨hnm, hbn⟩
        have HBN := Lib.hid (HB2.out.trans (hbn.mono HB2.out.size))
        clear hbn
        rcases hnm with ⟨n0, t0, hn0, _⟩ | ⟨_, rfl⟩
        · exact absurd hn0 (by intro h; have h' : Ar.xnum [] = some (n0, t0) := h; rw [Ar.xnum_nil] at h'; cases h')
        go_wp2_with fail
        go_ret3
        exact ⟨.inr ⟨by show Ar.xlistF Ar.xusr (s.length + 1) s = none; rw [HEQ.out, Ar.xlist_none HNN.out]; rfl, rfl⟩, HBN.out⟩
set_option maxHeartbeats 4000000 in
set_option maxRecDepth 100000 in
theorem rreadkinds_any (s : List UInt8) (w : World) (hs : s.length ≤ 1000000) : Calls Tryz.prog 129 #[.string (bstr s)] w fun e w' => LsA kndL 211 2 w.heap.size (Ar.xlist Ar.xknd s) e w' ∧ Below w.heap.size w w' := by
  have HO0 : Hid ((w.alloc (.cells #[] 211)).ownsRow w.heap.size 211 2 (.slice (some ⟨w.heap.size, 0, none⟩) 0 0) 0 []) := Lib.hid (World.ownsRow_lit (base := w.heap.size) (e := 211) (size := 2) w #[] 0 (Nat.le_refl _) (by decide) rfl)
  have HB0 := Lib.hid ((Below.refl w.heap.size w).alloc (Nat.le_refl _) (.cells #[] 211))
  go_enter Tryz.func129, Tryz.ntmps129
  go_wp2_with fail
  go_loopw [0, 5] (fun sx ox wr => ∃ (m : Nat) (l : List (Int × Int)) (t : List UInt8), sx = .string (bstr t) ∧ wr.ownsRow w.heap.size 211 2 ox l.length (kndL l) ∧ Below w.heap.size w wr ∧ t.length < m ∧ l.length + t.length ≤ s.length ∧ Hid (Ar.xlistF Ar.xknd (s.length + 1) s = (Ar.xlistF Ar.xknd m t).map (fun q => (l ++ q.1, q.2)))) (fun sx _ _ => vlen sx)
  case atStart => exact ⟨s.length + 1, [], s, rfl, HO0.out, HB0.out, Nat.lt_succ_self _, by simp, Lib.hid (by cases Ar.xlistF Ar.xknd (s.length + 1) s <;> rfl)⟩
  case round =>
    obtain ⟨m, l, t, rfl, ho, hb, hm, hlt, heq⟩ := hrel
    obtain ⟨AO, cO, rfl⟩ := own_any ho
    cases m with
    | zero => exact absurd hm (Nat.not_lt_zero _)
    | succ m =>
      have HO := Lib.hid ho
      have HB := Lib.hid hb
      have hbs := hb.size
      have HEQ : Hid (Ar.xlistF Ar.xknd (s.length + 1) s = (Ar.xlistF Ar.xknd (m + 1) t).map (fun q => (l ++ q.1, q.2))) := heq
      have hbt := bstr_size t
      clear ho hb heq
      have HC1 := Lib.hid (fun W => rnumber_any (bstr t) W (by omega))
      rw [show (bstr t).data.toList = t from rfl] at HC1
      generalize hTB : bstr t = TB at *
      go_wp2_with fail
      refine (HC1.out _).mono ?_
      rintro e w2 ⟨hone, hb2⟩
      have HB2 := Lib.hid (HB.out.trans (hb2.mono hbs))
      have HO2 := Lib.hid (own_below HO.out hb2 (Nat.le_refl _))
      clear hb2
      rcases hone with ⟨x, r1, h1, rfl⟩ | ⟨h1, rfl⟩
      · have HSG1 := Lib.hid (fun W => sign_any r1 58 W (by have := Ar.xnum_len h1; omega))
        rw [show (((58 : UInt8).toNat : Nat) : Int) = 58 from rfl] at HSG1
        generalize hR1 : bstr r1 = R1 at *
        go_wp2_with fail
        refine (HSG1.out _).mono ?_
        rintro e w3 ⟨hsg, rfl⟩
        rcases hsg with ⟨r2, hs1, rfl⟩ | ⟨hs1, rfl⟩
        · have HNM := Lib.hid (fun W => rnumber_any (bstr r2) W (by rw [bstr_size]; have := Ar.xnum_len h1; have := Ar.xsign_len hs1; omega))
          rw [show (bstr r2).data.toList = r2 from rfl] at HNM
          generalize hR2 : bstr r2 = R2 at *
          go_wp2_with fail
          refine (HNM.out _).mono ?_
          rintro e w4 ⟨hnm, hb4⟩
          have HB4 := Lib.hid (HB2.out.trans (hb4.mono HB2.out.size))
          have HO4 := Lib.hid (own_below HO2.out hb4 (Nat.le_refl _))
          have HZ4 := Lib.hid HB4.out.size
          clear hb4
          rcases hnm with ⟨n, r3, hn1, rfl⟩ | ⟨hn1, rfl⟩
          · have hone : Ar.xknd t = some ((x, n), r3) := Ar.xknd_s h1 hs1 hn1
            have HRL := Lib.hid (Nat.le_trans (Ar.xnum_len hn1) (Nat.le_trans (Nat.le_trans (Nat.le_succ _) (Nat.le_of_eq (Ar.xsign_len hs1))) (Ar.xnum_len h1)))
            have hrl := HRL.out
            have HSG := Lib.hid (fun W => sign_any r3 44 W (by omega))
            rw [show (((44 : UInt8).toNat : Nat) : Int) = 44 from rfl] at HSG
            have HOK := Lib.hid hone
            clear hone hn1 hs1 h1
            generalize hRB : bstr r3 = RB at *
            go_wp2_with (at_builtin; refine app_lit rowKind rfl _ _ rfl w4 (kndL [(x, n)]) 1 rfl (one_knd _) (.slice AO l.length cO) l.length (kndL l) w.heap.size rfl HO4.out rfl HZ4.out (by omega) ?_; intro v9 w9 ho9 hg9 hb9; obtain ⟨A9, c9, rfl⟩ := own_any ho9)
            have HO9 := Lib.hid ho9
            have HB9 := Lib.hid (hb9 _ HB4.out)
            clear ho9 hg9 hb9
            refine (HSG.out _).mono ?_
            rintro e wS ⟨hsg, rfl⟩
            rcases hsg with ⟨q, hq, rfl⟩ | ⟨hq, rfl⟩
            · have HQL := Lib.hid (Ar.xsign_len hq)
              have HEN : Hid (Ar.xlistF Ar.xknd (s.length + 1) s = (Ar.xlistF Ar.xknd m q).map (fun p => ((l ++ [(x, n)]) ++ p.1, p.2))) := Lib.hid (by
                rw [HEQ.out, Ar.xlist_more HOK.out hq]
                cases Ar.xlistF Ar.xknd m q with
                | none => rfl
                | some p => show some (l ++ (x, n) :: p.1, p.2) = some ((l ++ [(x, n)]) ++ p.1, p.2); rw [List.append_assoc]; rfl)
              clear hq
              have hql := HQL.out
              have hbq := bstr_size q
              go_wp2_with fail
              go_roundw
              case rel =>
                refine ⟨m, l ++ [(x, n)], q, rfl, ?_, HB9.out, by omega, by rw [List.length_append, List.length_singleton]; omega, HEN⟩
                rw [List.length_append, kndL_append]
                exact HO9.out
              case measure => show (bstr q).size < TB.size; rw [← hTB, bstr_size, bstr_size]; omega
            · have HEN : Hid (Ar.xlistF Ar.xknd (s.length + 1) s = some (l ++ [(x, n)], r3)) := Lib.hid (by rw [HEQ.out, Ar.xlist_end HOK.out hq]; rfl)
              clear hq
              go_wp2_with fail
              go_ret3
              exact ⟨.inl ⟨l ++ [(x, n)], r3, .slice A9 (l.length + 1) c9, HEN.out, by rw [hRB]; rfl, by rw [List.length_append, kndL_append]; exact HO9.out⟩, HB9.out⟩
          · have HNN : Hid (Ar.xknd t = none) := Lib.hid (Ar.xknd_n3 h1 hs1 hn1)
            go_wp2_with fail
            go_ret3
            exact ⟨.inr ⟨by show Ar.xlistF Ar.xknd (s.length + 1) s = none; rw [HEQ.out, Ar.xlist_none HNN.out]; rfl, rfl⟩, HB4.out⟩
        · have HNN : Hid (Ar.xknd t = none) := Lib.hid (Ar.xknd_n2 h1 hs1)
          have HN0 := Lib.hid (fun W => rnumber_any ⟨#[]⟩ W (by decide))
          go_wp2_with fail
          refine (HN0.out _).mono ?_
          rintro e w4 ⟨hnm, hbn⟩
          have HBN := Lib.hid (HB2.out.trans (hbn.mono HB2.out.size))
          clear hbn
          rcases hnm with ⟨n0, t0, hn0, _⟩ | ⟨_, rfl⟩
          · exact absurd hn0 (by intro h; have h' : Ar.xnum [] = some (n0, t0) := h; rw [Ar.xnum_nil] at h'; cases h')
          go_wp2_with fail
          go_ret3
          exact ⟨.inr ⟨by show Ar.xlistF Ar.xknd (s.length + 1) s = none; rw [HEQ.out, Ar.xlist_none HNN.out]; rfl, rfl⟩, HBN.out⟩
      · have HNN : Hid (Ar.xknd t = none) := Lib.hid (Ar.xknd_n1 h1)
        clear h1
        have HS0 := Lib.hid (fun W => sign_any [] 58 W (by decide))
        rw [show (((58 : UInt8).toNat : Nat) : Int) = 58 from rfl, show bstr [] = (⟨#[]⟩ : ByteArray) from rfl] at HS0
        have HN0 := Lib.hid (fun W => rnumber_any ⟨#[]⟩ W (by decide))
        go_wp2_with fail
        refine (HS0.out _).mono ?_
        rintro e w3 ⟨hsg, rfl⟩
        rcases hsg with ⟨q, hq, _⟩ | ⟨_, rfl⟩
        · cases hq
        go_wp2_with fail
        refine (HN0.out _).mono ?_
        rintro e w4 ⟨hnm, hbn⟩
        have HBN := Lib.hid (HB2.out.trans (hbn.mono HB2.out.size))
        clear hbn
        rcases hnm with ⟨n0, t0, hn0, _⟩ | ⟨_, rfl⟩
        · exact absurd hn0 (by intro h; have h' : Ar.xnum [] = some (n0, t0) := h; rw [Ar.xnum_nil] at h'; cases h')
        go_wp2_with fail
        go_ret3
        exact ⟨.inr ⟨by show Ar.xlistF Ar.xknd (s.length + 1) s = none; rw [HEQ.out, Ar.xlist_none HNN.out]; rfl, rfl⟩, HBN.out⟩
end Go.Proofs.YteadlcncnhbmjaaGreatDoor
