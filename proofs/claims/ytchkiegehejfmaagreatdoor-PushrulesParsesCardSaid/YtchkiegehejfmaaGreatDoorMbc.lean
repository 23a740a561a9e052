/- The text Gs. -/
import Derived.Test.YtchkiegehejfmaaGreatDoorMat
import Derived.Test.YtchkiegehejfmaaGreatDoorMax
import Derived.Test.YtchkiegehejfmaaGreatDoorMbb
set_option linter.unusedSimpArgs false
set_option maxHeartbeats 16000000
set_option maxRecDepth 100000
set_option linter.unusedVariables false
namespace Pr
theorem RlS.up {x : Rl} {n m : Nat} (h : RlS x n) (hm : n ≤ m) : RlS x m := ⟨h.name, h.small, Nat.le_trans h.nodes hm, h.acts, Nat.le_trans h.few hm⟩
theorem parseL_small {n : Nat} (hn : n ≤ 1000000) : ∀ (ls : List Str) (i : Nat) (acc : List Rl), (∀ t ∈ ls, t.length ≤ n) → (∀ x ∈ acc, RlS x n) → (∀ x ∈ (parseL i acc ls).1, RlS x n) ∧ (parseL i acc ls).1.length ≤ acc.length + ls.length
 | [], i, acc, _, ha => ⟨by rw [parseL]; exact ha, by rw [parseL]; exact Nat.le_add_right _ _⟩
 | t :: r, i, acc, hl, ha => by
  have hr : ∀ t ∈ r, t.length ≤ n := fun t ht => hl t (List.mem_cons_of_mem _ ht)
  have ht := hl t (List.mem_cons_self ..)
  cases hc : commentP t with
  | true =>
   rw [parseL_skip hc, List.length_cons]
   have h := parseL_small hn r (i + 1) acc hr ha
   exact ⟨h.1, by have := h.2; omega⟩
  | false =>
   cases hp : lineP t with
   | none =>
    rw [parseL_bad hc hp]
    exact ⟨fun x hx => by simp at hx, by simp⟩
   | some x =>
    rw [parseL_next hc hp, List.length_cons]
    have h := parseL_small hn r (i + 1) (acc ++ [x]) hr (fun y hy => by
     rcases List.mem_append.1 hy with hy | hy
     ·exact ha y hy
     ·rw [List.mem_singleton.1 hy]; exact (lineP_small (Nat.le_trans ht hn) hp).up ht)
    refine ⟨h.1, ?_⟩
    have h2 := h.2
    rw [List.length_append, List.length_singleton] at h2
    omega
theorem parseP_small {s : Str} (hs : s.length ≤ 99999) : (∀ x ∈ (parseP s).1, RlS x s.length) ∧ (parseP s).1.length ≤ s.length + 1 := by
 have h := parseL_small (n := s.length) (by omega) (Ar.lines s) 0 [] (Ar.lines_short s) (fun x hx => by cases hx)
 have h2 := Ar.lines_len s
 have h3 := h.2
 rw [List.length_nil] at h3
 unfold parseP
 split
 ·exact ⟨fun x hx => (by cases hx), Nat.zero_le _⟩
 ·split
  ·exact ⟨fun x hx => (by cases hx), Nat.zero_le _⟩
  ·split
   ·exact ⟨fun x hx => (by cases hx), Nat.zero_le _⟩
   ·exact ⟨h.1, by show (parseL 0 [] (Ar.lines s)).1.length ≤ _; omega⟩
end Pr
namespace Go.Proofs.YtchkiegehejfmaaGreatDoor
open Go.RowKit Go.Lib
set_option linter.unusedVariables false
set_option linter.unusedSimpArgs false
theorem parses_law (S : ByteArray) (w : World) (hm0 : ∃ m, w.cell? ⟨0, 0, none⟩ = some (.int .i64 m)) : Calls Tryz.prog 3 #[.string S] w fun r w' => r = .returned (.bool true) ∧ Below w.heap.size w w' := by
 obtain ⟨m, hm⟩ := hm0
 have HM := hid hm
 have HAW : Hid (∀ W, W.cell? ⟨0, 0, none⟩ = some (.int .i64 m) → Calls Tryz.prog 7 #[] W fun e w' => e = .returned (.bool true) ∧ Below W.heap.size W w') := hid (fun W h => awake_any m W h)
 clear hm
 by_cases h1 : 1500 < S.size
 ·have g1 : decide ((1500 : Int) < (S.size : Int)) = true := decide_eq_true (by omega)
  by_cases h2 : S.size ≤ 20000
  ·have g2 : decide ((S.size : Int) ≤ 20000) = true := decide_eq_true (by omega)
   go_enter Tryz.func3, Tryz.ntmps3
   go_wp2_with fail
   refine (HAW.out _ HM.out).mono ?_
   rintro e w2 ⟨rfl, hb2⟩
   go_wp2_with fail
   go_ret
   exact ⟨rfl, hb2⟩
  ·have g2 : decide ((S.size : Int) ≤ 20000) = false := decide_eq_false (by omega)
   by_cases h3 : 20010 < S.size
   ·have g3 : decide ((20010 : Int) < (S.size : Int)) = true := decide_eq_true (by omega)
    go_enter Tryz.func3, Tryz.ntmps3
    go_wp2_with fail
    refine (HAW.out _ HM.out).mono ?_
    rintro e w2 ⟨rfl, hb2⟩
    go_wp2_with fail
    go_ret
    exact ⟨rfl, hb2⟩
   ·have g3 : decide ((20010 : Int) < (S.size : Int)) = false := decide_eq_false (by omega)
    have HPP := hid (fun W h => pparse_any S m W (by omega) h)
    have HRP := hid (fun W => rparse_any S W (by omega))
    have hsm := Pr.parseP_small (s := S.data.toList) (by rw [← str_size]; omega)
    rw [← str_size] at hsm
    generalize Pr.parseP S.data.toList = RES at *
    have HLN : Hid (RES.1.length ≤ 1000000) := hid (by have := hsm.2; omega)
    have HLS : Hid (∀ x ∈ RES.1, Pr.nodes x.wh ≤ 1000000 ∧ x.acts.length ≤ 100000) := hid (fun x hx => ⟨by have := (hsm.1 x hx).nodes; omega, by have := (hsm.1 x hx).few; omega⟩)
    clear hsm
    go_enter Tryz.func3, Tryz.ntmps3
    go_wp2_with fail
    refine (HPP.out _ HM.out).mono ?_
    rintro e w2 ⟨⟨A, cap, rfl, hcap, hrow⟩, hb2⟩
    have HB2 := hid hb2
    have HR1 := hid hrow
    clear hb2 hrow hcap
    go_wp2_with fail
    refine (HRP.out _).mono ?_
    rintro e w3 ⟨⟨B, cap', rfl, hcap', hrow'⟩, hb3⟩
    have HB3 := hid (HB2.out.trans (hb3.mono HB2.out.size))
    have HSR := hid (rsamerules_eq _ _ RES.1 A B cap cap' w3 (HR1.out.bel hb3) hrow' HLN.out HLS.out)
    clear hb3 hrow' hcap'
    go_wp2_with (first
     | (go_at_call 10; refine HSR.out.mono ?_; rintro e w4 ⟨rfl, hb4⟩; have HB4 := hid (HB3.out.trans (hb4.mono HB3.out.size)); clear hb4)
     | (go_at_call 7; refine (HAW.out _ ((Below.cell HB4.out (block_lt HM.out)).trans HM.out)).mono ?_; rintro e w5 ⟨rfl, hb5⟩; have HB5 := hid (HB4.out.trans (hb5.mono HB4.out.size)); clear hb5))
    go_ret
    exact ⟨rfl, HB5.out⟩
 ·have g1 : decide ((1500 : Int) < (S.size : Int)) = false := decide_eq_false (by omega)
  have g3 : decide ((20010 : Int) < (S.size : Int)) = false := decide_eq_false (by omega)
  have HPP := hid (fun W h => pparse_any S m W (by omega) h)
  have HRP := hid (fun W => rparse_any S W (by omega))
  have hsm := Pr.parseP_small (s := S.data.toList) (by rw [← str_size]; omega)
  rw [← str_size] at hsm
  generalize Pr.parseP S.data.toList = RES at *
  have HLN : Hid (RES.1.length ≤ 1000000) := hid (by have := hsm.2; omega)
  have HLS : Hid (∀ x ∈ RES.1, Pr.nodes x.wh ≤ 1000000 ∧ x.acts.length ≤ 100000) := hid (fun x hx => ⟨by have := (hsm.1 x hx).nodes; omega, by have := (hsm.1 x hx).few; omega⟩)
  clear hsm
  go_enter Tryz.func3, Tryz.ntmps3
  go_wp2_with fail
  refine (HPP.out _ HM.out).mono ?_
  rintro e w2 ⟨⟨A, cap, rfl, hcap, hrow⟩, hb2⟩
  have HB2 := hid hb2
  have HR1 := hid hrow
  clear hb2 hrow hcap
  go_wp2_with fail
  refine (HRP.out _).mono ?_
  rintro e w3 ⟨⟨B, cap', rfl, hcap', hrow'⟩, hb3⟩
  have HB3 := hid (HB2.out.trans (hb3.mono HB2.out.size))
  have HSR := hid (rsamerules_eq _ _ RES.1 A B cap cap' w3 (HR1.out.bel hb3) hrow' HLN.out HLS.out)
  clear hb3 hrow' hcap'
  go_wp2_with (first
   | (go_at_call 10; refine HSR.out.mono ?_; rintro e w4 ⟨rfl, hb4⟩; have HB4 := hid (HB3.out.trans (hb4.mono HB3.out.size)); clear hb4)
   | (go_at_call 7; refine (HAW.out _ ((Below.cell HB4.out (block_lt HM.out)).trans HM.out)).mono ?_; rintro e w5 ⟨rfl, hb5⟩; have HB5 := hid (HB4.out.trans (hb5.mono HB4.out.size)); clear hb5))
  go_ret
  exact ⟨rfl, HB5.out⟩
end Go.Proofs.YtchkiegehejfmaaGreatDoor
