/- The text PaPrints. -/
import Derived.Test.YtchkiegehejfmaaGreatDoorCards
import Derived.Test.YtchkiegehejfmaaGreatDoorTie
import Derived.Test.YtchkiegehejfmaaGreatDoorMpab
import Derived.Test.YtchkiegehejfmaaGreatDoorMpac
import Derived.SevenTiedAt
set_option linter.unusedSimpArgs false
set_option maxHeartbeats 16000000
set_option maxRecDepth 100000
set_option linter.unusedVariables false
namespace Go.Proofs.YtchkiegehejfmaaGreatDoor
open Go.ChangeShapes Go.WideShapes Go.ChangeAt Go.RowKit
open Go.ChangeMaps (open_string shut_string)
set_option linter.unusedVariables false
theorem pushrulesPrints_lifted (os : Os) (started : os.Started) (H : Type) (enc : TypeId × Value → H) :
  ReturnsInHanded {} Tryz.checked os 4 .any (fun w args => (Rows.pushrulesPrintsSpec.pre enc Tryz.prog Tryz.f4 [] false w args ∧ laidMetH Tryz.prog laidL w) ∧ sizedMet enc Tryz.prog Tryz.f4 (OpenSpec.ofChange Rows.pushrulesPrintsSpec) false w args) (Rows.pushrulesPrintsSpec.post enc Tryz.prog Tryz.f4 false true false false) := by
 refine lift_row started (by kernel_rfl) Tryz.func4
  (ChangeSpec.witness_shaped (enc := enc) (C := Tryz.checked) (os := os) (X := fun w _ => laidMetH Tryz.prog laidL w) false (startW os) #[.slice none 0 0] 8 rfl (World.shaped_of_RefB (by kernel_rfl) (by kernel_rfl)) (by kernel_rfl) (by kernel_rfl) (by kernel_rfl) (door_met os _)) ?_
 intro W base args ds gs before hval0 hW hL hsh
 have hval : ∀ (j : Nat) t v, Tryz.f4.params[j]? = some t → args[j]? = some v → Value.okWide Tryz.prog W .any base t v := hval0
 have hW' := hW
 obtain ⟨p, q, hA0, hV, rfl, hfz, hnd⟩ := hW
 have hA : DataW.TrodAll enc Tryz.prog W 0 (fun _ => true) true Tryz.f4.params.toList args.toList ds p := hA0
 rw [Tryz.params4] at hA hval
 obtain ⟨v0, vs0, d0, ds0, p0, q0, hargs, rfl, rfl, h0, r0⟩ := trodAll_cons hA
 obtain ⟨rfl, rfl, rfl⟩ := trodAll_nil r0
 obtain rfl : args = #[v0] := by cases args; simp_all
 obtain ⟨rfl, rfl⟩ := trodVars_none hV
 obtain ⟨a0, len0, cap0, rfl⟩ := okWide_slice Tryz.underlying23 (hval 0 23 v0 rfl rfl)
 have k0 := h0
 have lt0 : ∀ x ∈ p0, x.block < W.heap.size := by obtain ⟨m, hm⟩ := k0; exact DataW.trod_lt m _ _ _ hm
 obtain ⟨e0, hl0, hc0, w0⟩ : ∃ l : List Pr.Rl, l.length = len0 ∧ l.length ≤ cap0 ∧ RlRow W (fun _ => True) a0 l := by
  obtain ⟨fuel, hf⟩ := h0
  obtain ⟨A, l, cap, hcs, hle, hr⟩ := rules_open hf
  have hcs' : [Value.slice a0 len0 cap0] = [.slice A l.length cap] := hcs
  injection hcs' with hcs'
  injection hcs' with k1 k2 k3
  subst k1 k2 k3
  exact ⟨l, rfl, hle, hr⟩
 subst hl0
 clear hA0 hval0
 refine (prints_law e0 a0 cap0 W hc0 w0 (max_of hsh)).mono fun e W' ⟨he, bel⟩ => ?_
 subst he
 exact ⟨_, rfl, _, _, _, [], _, [], hW', trodAll_mk1 (shut_bool Tryz.underlying4 _), (trodAll_cons_mk (Below.trod laidOut (by kernel_rfl) (of_decide_eq_true (by kernel_rfl)) k0 bel lt0) trodAll_mk0), rfl, bel.frame _, fun h => by cases h⟩
end Go.Proofs.YtchkiegehejfmaaGreatDoor
