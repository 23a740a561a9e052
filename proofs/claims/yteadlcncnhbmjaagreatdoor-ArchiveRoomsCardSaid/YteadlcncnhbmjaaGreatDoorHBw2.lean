/- The text Bw2. -/
import Derived.Test.YteadlcncnhbmjaaGreatDoorHBw1
set_option linter.unusedSimpArgs false
set_option maxHeartbeats 16000000
set_option maxRecDepth 100000
set_option linter.unusedVariables false
namespace Ar
def nmL : List Str := NK.map (·.1)
theorem nmL_at {k : Nat} {nk : Str × FK} (h : NK[k]? = some nk) : nmL[k]? = some nk.1 := by unfold nmL; rw [List.getElem?_map, h]; rfl
theorem lineK_next_bound {e : List FV} (he : e.length = 29) {k : Nat} : (lineK e (k + 1)).length ≤ (line e).length := lineK_len e (k + 1) he
end Ar
namespace Go.Proofs.YteadlcncnhbmjaaGreatDoor
open Go.RowKit Go.Lib
set_option linter.unusedVariables false
theorem names_any (w : World) : Calls Tryz.prog 51 #[] w fun e w' => (∃ g, e = .returned (.slice (some ⟨g, 0, none⟩) 29 29) ∧ g < w'.heap.size ∧ Rd w' (some ⟨g, 0, none⟩) Ar.nmL.length (strL Ar.nmL)) ∧ Below w.heap.size w w' := by
 have HR := hid (Rd.litS w Ar.nmL)
 have HB := hid ((Below.refl w.heap.size w).alloc (Nat.le_refl _) (.cells (strL Ar.nmL).toArray 9))
 have HS : Hid (w.heap.size < (w.alloc (.cells (strL Ar.nmL).toArray 9)).heap.size) := hid (by rw [World.size_alloc]; omega)
 go_enter Tryz.func51, Tryz.ntmps51
 go_wp2_with fail
 go_ret
 exact ⟨⟨_, rfl, HS.out, HR.out⟩, HB.out⟩
theorem revent_any (ok : Nat → Prop) (cells : Array Value) (e : List Ar.FV) (w : World) (h : EvOf ok w cells e) (hw : ∀ v ∈ e, v.WOk) (hl : (Ar.line e).length ≤ 100000000) :
  Calls Tryz.prog 21 #[.agg cells] w fun r w' => r = .returned (.string (bstr (Ar.line e))) ∧ Below w.heap.size w w' := by
 have HE := hid h
 have HW := hid hw
 have HLEN := hid hl
 have HB0 := hid ((Below.refl w.heap.size w).alloc (Nat.le_refl _) (.cells cells 40))
 have HK0 := hid (Blk.new w 40 cells)
 have HES := hid (EvOf.size h)
 clear h hw hl
 go_enter Tryz.func21, Tryz.ntmps21
 go_wp2_with fail
 refine (names_any _).mono ?_
 rintro r w1 ⟨⟨g, rfl, hg, hrd⟩, hb⟩
 have HR1 := hid hrd
 have HB1 := hid (HB0.out.trans (hb.mono HB0.out.size))
 have HK1 := hid (HK0.out.below hb HK0.out.lt)
 have hn29 : Ar.nmL.length = 29 := rfl
 have HN29 := hid hn29
 clear hrd hb hn29 hg
 go_wp2_with fail
 go_loopw [4, 5] (fun sx ix wr => ∃ k : Nat, k ≤ 29 ∧ ix = .int .i64 k ∧ sx = .string (bstr (Ar.lineK e k)) ∧ Below w1.heap.size w1 wr) (fun _ ix _ => 29 - (RowKit.intOf ix).toNat)
 case atStart => exact ⟨0, by omega, rfl, by rw [Ar.lineK_zero]; rfl, Below.refl _ _⟩
 case round =>
  obtain ⟨k, hk, rfl, rfl, hb⟩ := hrel
  have HB := hid hb
  have hbs := hb.size
  clear hb
  by_cases hlt : k < 29
  ·obtain ⟨v, hv⟩ : ∃ v, e[k]? = some v := ⟨e[k]'(by rw [HE.out.len]; exact hlt), List.getElem?_eq_getElem _⟩
   obtain ⟨nk, hnk⟩ : ∃ nk, Ar.NK[k]? = some nk := ⟨Ar.NK[k]'(by show k < 29; exact hlt), List.getElem?_eq_getElem _⟩
   obtain ⟨bn, on, nm, hA, hnm, hcn⟩ := HR1.out.str_at (k := k) (by rw [HN29.out]; exact hlt)
   injection hA with hA
   injection hA with hA1 hA2 hA3
   subst hA1 hA2
   rw [Nat.zero_add] at hcn
   obtain rfl : nm = nk.1 := Option.some.inj (hnm.symm.trans (Ar.nmL_at hnk))
   have HLD := hid (HK1.out.below HB.out HK1.out.lt)
   have HT := hid (HB1.out.trans (HB.out.mono HB1.out.size))
   have HEW : Hid (EvOf ok wr cells e) := hid (HE.out.below HT.out)
   have HVA := hid (value_any ok cells e wr k v HEW.out HW.out hv)
   have HVW : Hid v.WOk := hid (HW.out v (List.mem_of_getElem? hv))
   have HV := hid hv
   have HNK := hid hnk
   have hmem := List.mem_of_getElem? hnk
   have hxc := Ar.xval_cases nk.1 v (Ar.NK_az nk hmem).1
   have hnl : (bstr nk.1).size ≤ 100 := by rw [bstr_size]; exact NK_short nk hmem
   have hxl : (bstr (Ar.xval v)).size ≤ 100000001 := by rw [bstr_size]; exact Ar.xval_len v HVW.out.2.1
   have hsl : (bstr (Ar.lineK e k)).size ≤ 100000000 := by rw [bstr_size]; exact Nat.le_trans (Ar.lineK_len e k HE.out.len) HLEN.out
   have hem := bstr_empty (Ar.xval v)
   have hes := bstr_empty (Ar.lineK e k)
   have hbl := str_cmp (Ar.xval v) [32]
   have HCN := hid hcn
   clear hv hnk hnm hmem hcn
   go_wp2_with (refine wpList_load_row rfl 40 _ rfl w.heap.size rfl 40 cells (0, 0) _ HLD.out Tryz.underlying40 rfl (by rw [size_event, HES.out]) ?_)
   refine HVA.out.mono ?_
   rintro r w3 ⟨rfl, hb3⟩
   have hcn3 : w3.cell? ⟨g, k, none⟩ = some (.string (bstr nk.1)) := keep_below (keep_below HCN.out HB.out) hb3
   have HBW3 := hid (HB.out.trans (hb3.mono hbs))
   clear hb3
   rcases hxc with ⟨h1, h2⟩ | ⟨h1, h2⟩ | ⟨h1, h1b, h2⟩
   ·have hem2 : (bstr (Ar.xval v)).toList.isEmpty = true := by rw [hem, h1]; rfl
    have HN2 : Hid (Ar.lineK e (k + 1) = Ar.lineK e k) := hid (Ar.lineK_skip HNK.out HV.out h2)
    clear hem hbl h1 h2 hes
    generalize bstr (Ar.xval v) = X at *
    generalize bstr nk.1 = N at *
    go_wp2_with fail
    go_roundw
    case rel => exact ⟨k + 1, by omega, by go_num, by rw [HN2.out], HBW3.out⟩
    case measure => simp [RowKit.intOf]; omega
   ·have hem2 : (bstr (Ar.xval v)).toList.isEmpty = false := by rw [hem, h1]; rfl
    have hbl2 : ((bstr (Ar.xval v)).toList == [32]) = true := by rw [hbl, h1]; rfl
    have hin : Ar.item nk.1 v ≠ [] := by rw [h2]; exact (Ar.NK_az nk (List.mem_of_getElem? HNK.out)).1
    have HNX := hid (Ar.lineK_add HNK.out HV.out hin)
    clear hin
    by_cases hL : Ar.lineK e k = []
    ·have hes2 : (bstr (Ar.lineK e k)).toList.isEmpty = true := by rw [hes, hL]; rfl
     have HIT : Hid (bstr (Ar.lineK e k) ++ bstr nk.1 = bstr (Ar.lineK e (k + 1))) := hid (by rw [HNX.out, if_pos hL, h2, hL]; exact str_eq (by simp [bstr]))
     have hp0 : ¬ 9223372036854775807 < (bstr (Ar.lineK e k)).size + (bstr nk.1).size := by omega
     clear hem hbl hes h1 h2 hL HNX
     generalize bstr (Ar.lineK e k) = S at *
     generalize bstr (Ar.xval v) = X at *
     generalize bstr nk.1 = N at *
     go_wp2_with fail
     go_roundw
     case rel => exact ⟨k + 1, by omega, by go_num, by rw [HIT.out], HBW3.out⟩
     case measure => simp [RowKit.intOf]; omega
    ·have hes2 : (bstr (Ar.lineK e k)).toList.isEmpty = false := by rw [hes]; cases hh : Ar.lineK e k with
      | nil => exact absurd hh hL
      | cons c r => rfl
     have HIT : Hid (bstr (Ar.lineK e k) ++ (⟨#[32]⟩ : ByteArray) ++ bstr nk.1 = bstr (Ar.lineK e (k + 1))) := hid (by rw [HNX.out, if_neg hL, h2]; exact str_eq (by simp [bstr]))
     have hp0 : ¬ 9223372036854775807 < (bstr (Ar.lineK e k)).size + 1 := by omega
     have hp1 : ¬ 9223372036854775807 < (bstr (Ar.lineK e k)).size + 1 + (bstr nk.1).size := by omega
     clear hem hbl hes h1 h2 hL HNX
     generalize bstr (Ar.lineK e k) = S at *
     generalize bstr (Ar.xval v) = X at *
     generalize bstr nk.1 = N at *
     go_wp2_with fail
     go_roundw
     case rel => exact ⟨k + 1, by omega, by go_num, by rw [HIT.out], HBW3.out⟩
     case measure => simp [RowKit.intOf]; omega
   ·have hem2 : (bstr (Ar.xval v)).toList.isEmpty = false := by rw [hem]; cases hh : Ar.xval v with
     | nil => exact absurd hh h1
     | cons c r => rfl
    have hbl2 : ((bstr (Ar.xval v)).toList == [32]) = false := by rw [hbl]; exact beq_eq_false_iff_ne.2 h1b
    have hin : Ar.item nk.1 v ≠ [] := by rw [h2]; simp [h1]
    have HNX := hid (Ar.lineK_add HNK.out HV.out hin)
    clear hin
    by_cases hL : Ar.lineK e k = []
    ·have hes2 : (bstr (Ar.lineK e k)).toList.isEmpty = true := by rw [hes, hL]; rfl
     have HIT : Hid (bstr (Ar.lineK e k) ++ bstr nk.1 ++ bstr (Ar.xval v) = bstr (Ar.lineK e (k + 1))) := hid (by rw [HNX.out, if_pos hL, h2, hL]; exact str_eq (by simp [bstr]))
     have hp0 : ¬ 9223372036854775807 < (bstr (Ar.lineK e k)).size + (bstr nk.1).size := by omega
     have hp1 : ¬ 9223372036854775807 < (bstr (Ar.lineK e k)).size + (bstr nk.1).size + (bstr (Ar.xval v)).size := by omega
     clear hem hbl hes h1 h2 hL HNX h1b
     generalize bstr (Ar.lineK e k) = S at *
     generalize bstr (Ar.xval v) = X at *
     generalize bstr nk.1 = N at *
     go_wp2_with fail
     go_roundw
     case rel => exact ⟨k + 1, by omega, by go_num, by rw [HIT.out], HBW3.out⟩
     case measure => simp [RowKit.intOf]; omega
    ·have hes2 : (bstr (Ar.lineK e k)).toList.isEmpty = false := by rw [hes]; cases hh : Ar.lineK e k with
      | nil => exact absurd hh hL
      | cons c r => rfl
     have HIT : Hid (bstr (Ar.lineK e k) ++ (⟨#[32]⟩ : ByteArray) ++ bstr nk.1 ++ bstr (Ar.xval v) = bstr (Ar.lineK e (k + 1))) := hid (by rw [HNX.out, if_neg hL, h2]; exact str_eq (by simp [bstr]))
     have hp0 : ¬ 9223372036854775807 < (bstr (Ar.lineK e k)).size + 1 := by omega
     have hp1 : ¬ 9223372036854775807 < (bstr (Ar.lineK e k)).size + 1 + (bstr nk.1).size := by omega
     have hp2 : ¬ 9223372036854775807 < (bstr (Ar.lineK e k)).size + 1 + (bstr nk.1).size + (bstr (Ar.xval v)).size := by omega
     clear hem hbl hes h1 h2 hL HNX h1b
     generalize bstr (Ar.lineK e k) = S at *
     generalize bstr (Ar.xval v) = X at *
     generalize bstr nk.1 = N at *
     go_wp2_with fail
     go_roundw
     case rel => exact ⟨k + 1, by omega, by go_num, by rw [HIT.out], HBW3.out⟩
     case measure => simp [RowKit.intOf]; omega
  ·obtain rfl : k = 29 := by omega
   have HI := hid (Ar.lineK_all e HE.out.len)
   have HF := hid (HB1.out.trans (HB.out.mono HB1.out.size))
   rw [HI.out]
   go_wp2_with fail
   go_ret
   exact ⟨rfl, HF.out⟩
end Go.Proofs.YteadlcncnhbmjaaGreatDoor
