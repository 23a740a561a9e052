/- The text Zk. -/
import Derived.Test.YtchkiegehejfmaaGreatDoorMax
set_option linter.unusedSimpArgs false
set_option maxHeartbeats 16000000
set_option maxRecDepth 100000
namespace Pr
def fstS (x : Option (Str × Str)) : Str := match x with
 | some p => p.1
 | none => []
def sndS (x : Option (Str × Str)) : Str := match x with
 | some p => p.2
 | none => []
theorem index_in : ∀ (ms : Str) (c : UInt8), (ms.contains c = true → 0 ≤ Go.Lib.indexByte ms c) ∧ (ms.contains c = false → Go.Lib.indexByte ms c = -1)
 | [], c => ⟨fun h => by simp at h, fun _ => rfl⟩
 | b :: l, c => by
  have ih := index_in l c
  unfold Go.Lib.indexByte
  by_cases h : b = c
  ·subst h
   simp
  ·have hb : (b == c) = false := beq_eq_false_iff_ne.2 h
   have hb2 : (c == b) = false := beq_eq_false_iff_ne.2 (Ne.symm h)
   rw [hb, List.contains_cons, hb2, Bool.false_or]
   refine ⟨fun h1 => ?_, fun h1 => ?_⟩
   ·have := ih.1 h1
    have e : (Go.Lib.indexByte l c == -1) = false := by rw [beq_eq_false_iff_ne]; omega
    simp [e]
    omega
   ·rw [ih.2 h1]
    rfl
theorem split_empty (ms : Str) : splitP ms [] = none := rfl
theorem split_mark {ms : Str} {c : UInt8} {r : Str} (h : ms.contains c = false) : splitP ms (c :: r) = none := by simp only [splitP, h, Bool.false_eq_true, if_true, if_false]
theorem split_cut {ms : Str} {c : UInt8} {r : Str} (h : ms.contains c = true) (h2 : cutC r = none) : splitP ms (c :: r) = none := by simp only [splitP, h, h2, Bool.false_eq_true, if_true, if_false]
theorem split_bad {ms : Str} {c : UInt8} {r a b : Str} (h : ms.contains c = true) (h2 : cutC r = some (a, b)) (h3 : (localL a && serverL b) = false) : splitP ms (c :: r) = none := by simp only [splitP, h, h2, h3, Bool.false_eq_true, if_true, if_false]
theorem split_good {ms : Str} {c : UInt8} {r a b : Str} (h : ms.contains c = true) (h2 : cutC r = some (a, b)) (h3 : (localL a && serverL b) = true) : splitP ms (c :: r) = some (a, b) := by simp only [splitP, h, h2, h3, Bool.false_eq_true, if_true, if_false]
end Pr
namespace Go.Proofs.YtchkiegehejfmaaGreatDoor
open Go.RowKit Go.Lib
set_option linter.unusedVariables false
set_option linter.unusedSimpArgs false
theorem split_any (M S : ByteArray) (m : Int) (w : World) (hs : S.size ≤ 1000000) (hm : w.cell? ⟨0, 0, none⟩ = some (.int .i64 m)) :
  Calls Tryz.prog 87 #[.string S, .string M] w fun e w' => e = .returned (.tuple #[.string (bstr (Pr.fstS (Pr.splitP M.data.toList S.data.toList))), .string (bstr (Pr.sndS (Pr.splitP M.data.toList S.data.toList))), .bool (Pr.splitP M.data.toList S.data.toList).isSome]) ∧ Below w.heap.size w w' := by
 have hsz : S.data.toList.length = S.size := (str_size S).symm
 by_cases h0 : S.size = 0
 ·have e : S = ⟨#[]⟩ := by
   have : S.data.toList = [] := List.eq_nil_of_length_eq_zero (by omega)
   cases S with | mk d => cases d with | mk l => exact congrArg (fun l => (⟨⟨l⟩⟩ : ByteArray)) this
  subst e
  rw [show Pr.splitP M.data.toList (⟨#[]⟩ : ByteArray).data.toList = none from rfl]
  clear h0 hsz hs
  go_enter Tryz.func87, Tryz.ntmps87
  go_wp2_with fail
  go_ret3
  exact ⟨rfl, Below.refl _ _⟩
 have hne0 : S.toList ≠ [] := fun h => by
  rw [Lib.toList_data] at h
  rw [h] at hsz
  simp at hsz
  omega
 have hne : S.toList.isEmpty = false := by
  cases hl : S.toList with
  | nil => exact absurd hl hne0
  | cons c r => rfl
 have hne2 : (S.toList == []) = false := beq_eq_false_iff_ne.2 hne0
 clear hne0
 have h1 : 0 < S.size := by omega
 obtain ⟨c, r, hcr⟩ : ∃ c r, S.data.toList = c :: r := by
  cases hl : S.data.toList with
  | nil => rw [hl] at hsz; simp at hsz; omega
  | cons c r => exact ⟨c, r, rfl⟩
 have hcS : S[0] = c := by
  have h2 := at_str S 0 h1
  rw [hcr] at h2
  injection h2 with h2
  exact h2.symm
 have hrS : (S.extract 1 S.size).data.toList = r := by
  rw [extract_drop, hcr]
  rfl
 rw [hcr]
 have hix := Pr.index_in M.data.toList c
 have HIB := hid (Tryz.strings_IndexByte M (c.toNat : Int))
 rw [show ((c.toNat : Int)).toNat.toUInt8 = c by simp] at HIB
 generalize hn0 : (S[0]).toNat = n0 at *
 have hn1 : c.toNat = n0 := by rw [← hn0, hcS]
 rw [hn1] at HIB
 clear hn1 hcS
 rcases Bool.eq_false_or_eq_true (M.data.toList.contains c) with hmc | hmc
 ·have hge := hix.1 hmc
  generalize Go.Lib.indexByte M.data.toList c = ii at *
  clear hix
  have hii : ¬ ii < 0 := by omega
  have hxs : (S.extract 1 S.size).size < 4294967281 := by rw [ByteArray.size_extract]; omega
  have HCU := hid (fun w hm => Tryz.strings_Cut (S.extract 1 S.size) ⟨#[58]⟩ m w hxs hm)
  rw [hrS, show (⟨#[58]⟩ : ByteArray).data.toList = [58] from rfl, Pr.lib_cut] at HCU
  have hrl : r.length ≤ 1000000 := by have := congrArg List.length hcr; simp at this; omega
  cases hcut : Pr.cutC r with
  | none =>
   rw [hcut] at HCU
   rw [Pr.split_cut hmc hcut]
   clear hcut hmc hcr
   go_enter Tryz.func87, Tryz.ntmps87
   go_wp2_with (first
    | (go_at_call 117; refine (HIB.out _).mono ?_; rintro e w2 ⟨rfl, rfl⟩)
    | (go_at_call 118; refine (HCU.out _ hm).mono ?_; rintro e w2 ⟨rfl, nn, rfl⟩))
   go_ret3
   exact ⟨rfl, below_drewN (Below.refl _ _) _⟩
  | some p =>
   obtain ⟨a, b⟩ := p
   rw [hcut] at HCU
   have hab := Pr.cutC_len r a b hcut
   have HLO := hid (fun w => local_any (bstr a) w (by rw [bstr_size]; omega))
   have HSV := hid (fun w => server_any (bstr b) w (by rw [bstr_size]; omega))
   rw [bstr_list] at HLO HSV
   rcases Bool.eq_false_or_eq_true (Pr.localL a) with hla | hla
   ·rcases Bool.eq_false_or_eq_true (Pr.serverL b) with hsb | hsb
    ·rw [Pr.split_good hmc hcut (by rw [hla, hsb]; rfl)]
     rw [hla] at HLO
     rw [hsb] at HSV
     clear hcut hmc hcr hla hsb
     go_enter Tryz.func87, Tryz.ntmps87
     go_wp2_with (first
      | (go_at_call 117; refine (HIB.out _).mono ?_; rintro e w2 ⟨rfl, rfl⟩)
      | (go_at_call 118; refine (HCU.out _ hm).mono ?_; rintro e w2 ⟨rfl, nn, rfl⟩)
      | (go_at_call 119; refine (HLO.out _).mono ?_; rintro e w3 ⟨rfl, rfl⟩)
      | (go_at_call 120; refine (HSV.out _).mono ?_; rintro e w4 ⟨rfl, rfl⟩))
     go_ret3
     exact ⟨rfl, below_drewN (Below.refl _ _) _⟩
    ·rw [Pr.split_bad hmc hcut (by rw [hla, hsb]; rfl)]
     rw [hla] at HLO
     rw [hsb] at HSV
     clear hcut hmc hcr hla hsb
     go_enter Tryz.func87, Tryz.ntmps87
     go_wp2_with (first
      | (go_at_call 117; refine (HIB.out _).mono ?_; rintro e w2 ⟨rfl, rfl⟩)
      | (go_at_call 118; refine (HCU.out _ hm).mono ?_; rintro e w2 ⟨rfl, nn, rfl⟩)
      | (go_at_call 119; refine (HLO.out _).mono ?_; rintro e w3 ⟨rfl, rfl⟩)
      | (go_at_call 120; refine (HSV.out _).mono ?_; rintro e w4 ⟨rfl, rfl⟩))
     go_ret3
     exact ⟨rfl, below_drewN (Below.refl _ _) _⟩
   ·rw [Pr.split_bad hmc hcut (by rw [hla]; rfl)]
    rw [hla] at HLO
    clear hcut hmc hcr hla
    go_enter Tryz.func87, Tryz.ntmps87
    go_wp2_with (first
     | (go_at_call 117; refine (HIB.out _).mono ?_; rintro e w2 ⟨rfl, rfl⟩)
     | (go_at_call 118; refine (HCU.out _ hm).mono ?_; rintro e w2 ⟨rfl, nn, rfl⟩)
     | (go_at_call 119; refine (HLO.out _).mono ?_; rintro e w3 ⟨rfl, rfl⟩)
     | (go_at_call 120; refine (HSV.out _).mono ?_; rintro e w4 ⟨rfl, rfl⟩))
    go_ret3
    exact ⟨rfl, below_drewN (Below.refl _ _) _⟩
 ·have hge := hix.2 hmc
  rw [hge] at HIB
  rw [Pr.split_mark hmc]
  clear hix hmc hcr hge
  go_enter Tryz.func87, Tryz.ntmps87
  go_wp2_with (go_at_call 117; refine (HIB.out _).mono ?_; rintro e w2 ⟨rfl, rfl⟩)
  go_ret3
  exact ⟨rfl, Below.refl _ _⟩
theorem ident_any (M S : ByteArray) (m : Int) (w : World) (hs : S.size ≤ 1000000) (hm : w.cell? ⟨0, 0, none⟩ = some (.int .i64 m)) :
  Calls Tryz.prog 86 #[.string S, .string M] w fun e w' => e = .returned (.int .i64 (if (Pr.splitP M.data.toList S.data.toList).isSome then 0 else 3)) ∧ Below w.heap.size w w' := by
 have HSP := hid (split_any M S m w hs hm)
 rcases Bool.eq_false_or_eq_true (Pr.splitP M.data.toList S.data.toList).isSome with h | h
 ·rw [h] at HSP ⊢
  rw [if_pos rfl]
  clear h
  go_enter Tryz.func86, Tryz.ntmps86
  go_wp2_with (go_at_call 87; refine HSP.out.mono ?_; rintro e w2 ⟨rfl, hb⟩)
  go_ret
  exact ⟨rfl, hb⟩
 ·rw [h] at HSP ⊢
  rw [if_neg (by decide)]
  clear h
  go_enter Tryz.func86, Tryz.ntmps86
  go_wp2_with (go_at_call 87; refine HSP.out.mono ?_; rintro e w2 ⟨rfl, hb⟩)
  go_ret
  exact ⟨rfl, hb⟩
theorem user_any (S : ByteArray) (m : Int) (w : World) (hs : S.size ≤ 1000000) (hm : w.cell? ⟨0, 0, none⟩ = some (.int .i64 m)) :
  Calls Tryz.prog 49 #[.string S] w fun e w' => e = .returned (.int .i64 (Pr.userE S.data.toList)) ∧ Below w.heap.size w w' := by
 have HSP := hid (ident_any ⟨#[64]⟩ S m w hs hm)
 have e : (if (Pr.splitP (⟨#[64]⟩ : ByteArray).data.toList S.data.toList).isSome then (0 : Int) else 3) = Pr.userE S.data.toList := rfl
 rw [e] at HSP
 generalize Pr.userE S.data.toList = X at *
 clear e
 go_enter Tryz.func49, Tryz.ntmps49
 go_wp2_with (go_at_call 86; refine HSP.out.mono ?_; rintro e w2 ⟨rfl, hb⟩)
 go_ret
 exact ⟨rfl, hb⟩
theorem serverof_any (S : ByteArray) (m : Int) (w : World) (hs : S.size ≤ 1000000) (hm : w.cell? ⟨0, 0, none⟩ = some (.int .i64 m)) :
  Calls Tryz.prog 50 #[.string S] w fun e w' => e = .returned (.string (bstr (Pr.serverOf S.data.toList))) ∧ Below w.heap.size w w' := by
 have HSP := hid (split_any ⟨#[64, 33]⟩ S m w hs hm)
 have e : Pr.sndS (Pr.splitP (⟨#[64, 33]⟩ : ByteArray).data.toList S.data.toList) = Pr.serverOf S.data.toList := by
  unfold Pr.serverOf
  rw [show (⟨#[64, 33]⟩ : ByteArray).data.toList = [64, 33] from rfl]
  cases Pr.splitP [64, 33] S.data.toList <;> rfl
 rw [e] at HSP
 generalize Pr.serverOf S.data.toList = X at *
 clear e
 generalize Pr.splitP (⟨#[64, 33]⟩ : ByteArray).data.toList S.data.toList = Y at *
 go_enter Tryz.func50, Tryz.ntmps50
 go_wp2_with (go_at_call 87; refine HSP.out.mono ?_; rintro e w2 ⟨rfl, hb⟩)
 go_ret
 exact ⟨rfl, hb⟩
end Go.Proofs.YtchkiegehejfmaaGreatDoor
