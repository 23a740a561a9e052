/- The text PaXAllows. -/
import Derived.Test.YtacjhbbieeliaaaGreatDoorCards
import Derived.Test.YtacjhbbieeliaaaGreatDoorTie
import Derived.Test.YtacjhbbieeliaaaGreatDoorMaad
import Derived.Test.YtacjhbbieeliaaaGreatDoorMbj
import Derived.SevenTiedAt
set_option linter.unusedSimpArgs false
set_option maxHeartbeats 16000000
set_option maxRecDepth 100000
set_option linter.unusedVariables false
namespace Go.Proofs.YtacjhbbieeliaaaGreatDoor
open Go.ChangeShapes Go.WideShapes Go.ChangeAt Go.RowKit
open Go.ChangeMaps (open_string shut_string)
set_option linter.unusedVariables false
theorem explainAllows_lifted (os : Os) (started : os.Started) (H : Type) (enc : TypeId × Value → H) :
  ReturnsInHanded {} Tryz.checked os 3 .any (fun w args => (Rows.explainAllowsSpec.pre enc Tryz.prog Tryz.f3 [] false w args ∧ laidMetH Tryz.prog laidL w) ∧ sizedMet enc Tryz.prog Tryz.f3 (OpenSpec.ofChange Rows.explainAllowsSpec) false w args) (Rows.explainAllowsSpec.post enc Tryz.prog Tryz.f3 false true false false) := by
 refine lift_row started (by kernel_rfl) Tryz.func3
  (ChangeSpec.witness_shaped (enc := enc) (C := Tryz.checked) (os := os) (X := fun w _ => laidMetH Tryz.prog laidL w) false (startW os) #[.agg zEv, .slice none 0 0] 8 rfl (World.shaped_of_RefB (by kernel_rfl) (by kernel_rfl)) (by kernel_rfl) (by kernel_rfl) (by kernel_rfl) (door_met os _)) ?_
 intro W base args ds gs before hval0 hW hL hsh
 have hval : ∀ (j : Nat) t v, Tryz.f3.params[j]? = some t → args[j]? = some v → Value.okWide Tryz.prog W .any base t v := hval0
 have hW' := hW
 obtain ⟨p, q, hA0, hV, rfl, hfz, hnd⟩ := hW
 have hA : DataW.TrodAll enc Tryz.prog W 0 (fun _ => true) true Tryz.f3.params.toList args.toList ds p := hA0
 rw [Tryz.params3] at hA hval
 obtain ⟨v0, vs0, d0, ds0, p0, q0, hargs, rfl, rfl, h0, r0⟩ := trodAll_cons hA
 obtain ⟨v1, vs1, d1, ds1, p1, q1, rfl, rfl, rfl, h1, r1⟩ := trodAll_cons r0
 obtain ⟨rfl, rfl, rfl⟩ := trodAll_nil r1
 obtain rfl : args = #[v0, v1] := by cases args; simp_all
 obtain ⟨rfl, rfl⟩ := trodVars_none hV
 obtain ⟨c0, rfl, hz0⟩ := okWide_struct Tryz.underlying34 (hval 0 34 v0 rfl rfl)
 rw [cells_event] at hz0
 have k0 := h0
 have lt0 : ∀ x ∈ p0, x.block < W.heap.size := by obtain ⟨m, hm⟩ := k0; exact DataW.trod_lt m _ _ _ hm
 obtain ⟨e0, w0, x0⟩ : ∃ e, EvV okB W c0.toList e ∧ EvW e := by
  obtain ⟨fuel, hf⟩ := h0
  have hf2 : Tr enc W 0 true fuel 34 c0.toList _ := hf
  exact ev_open hf2 (by rw [Array.length_toList, hz0])
 obtain ⟨a1, len1, cap1, rfl⟩ := okWide_slice Tryz.underlying35 (hval 1 35 v1 rfl rfl)
 have k1 := h1
 have lt1 : ∀ x ∈ p1, x.block < W.heap.size := by obtain ⟨m, hm⟩ := k1; exact DataW.trod_lt m _ _ _ hm
 obtain ⟨e1, hl1, hc1, w1, x1⟩ : ∃ l : List Co.Ev, l.length = len1 ∧ l.length ≤ cap1 ∧ EvRow okB W a1 l ∧ ∀ e ∈ l, EvW e := by
  obtain ⟨fuel, hf⟩ := h1
  obtain ⟨A, l, cap, hcs, hle, hr, hx⟩ := evs_open hf
  have hcs' : [Value.slice a1 len1 cap1] = [.slice A l.length cap] := hcs
  injection hcs' with hcs'
  injection hcs' with k1 k2 k3
  subst k1 k2 k3
  exact ⟨l, rfl, hle, hr, hx⟩
 subst hl1
 clear hA0 hval0
 refine (allows_law okB e0 c0 e1 a1 cap1 W w0 w1 (max_of hsh)).mono fun e W' ⟨he, bel⟩ => ?_
 subst he
 exact ⟨_, rfl, _, _, _, [], _, [], hW', trodAll_mk1 (shut_bool Tryz.underlying4 _), (trodAll_cons_mk (Below.trod laidOut (by kernel_rfl) (of_decide_eq_true (by kernel_rfl)) k0 bel lt0) (trodAll_cons_mk (Below.trod laidOut (by kernel_rfl) (of_decide_eq_true (by kernel_rfl)) k1 bel lt1) trodAll_mk0)), rfl, bel.frame _, fun h => by cases h⟩
end Go.Proofs.YtacjhbbieeliaaaGreatDoor
