/- The texts W7, Gv of this proof, one behind the other. -/
import Derived.Test.YtchkiegehejfmaaGreatDoorMaw
import Derived.Test.YtchkiegehejfmaaGreatDoorMpaa
import Derived.Test.YtchkiegehejfmaaGreatDoorMat
import Derived.Test.YtchkiegehejfmaaGreatDoorMbb
set_option linter.unusedSimpArgs false
set_option maxHeartbeats 16000000
set_option maxRecDepth 100000
set_option linter.unusedVariables false
/- The text W7. -/
namespace Pr
theorem digF_len : ∀ (f n k : Nat), n < 10 ^ (k + 1) → (Ar.digF f n).length ≤ k + 1
 | 0, n, k, h => by simp [Ar.digF]
 | f + 1, n, k, h => by
  rw [Ar.digF]
  split
  ·simp
  ·rename_i g
   cases k with
   | zero => rw [Nat.zero_add, Nat.pow_one] at h; omega
   | succ k =>
    have h2 : n / 10 < 10 ^ (k + 1) := by
     rw [Nat.div_lt_iff_lt_mul (by decide), ← Nat.pow_succ]
     exact h
    have h3 := digF_len f (n / 10) k h2
    rw [List.length_append, List.length_singleton]
    omega
theorem itoa_short {n : Int} (h : n.natAbs < 10 ^ 18) : (Ar.itoa n).length ≤ 20 := by
 have h1 : (Ar.digs n.natAbs).length ≤ 18 := digF_len _ _ 17 h
 unfold Ar.itoa
 split
 ·rw [List.length_cons]; omega
 ·omega
theorem esc_len : ∀ t : Str, (t.flatMap escC).length ≤ 2 * t.length
 | [] => by simp
 | c :: t => by
  rw [List.flatMap_cons, List.length_append, List.length_cons]
  have h1 := esc_len t
  have h2 : (escC c).length ≤ 2 := by unfold escC; split <;> simp
  omega
theorem name_short {m : Bool} {t : Str} (h : okName m t = true) : t.length ≤ 32 := by
 unfold okName at h
 simp only [Bool.and_eq_true, decide_eq_true_eq] at h
 exact h.1.2
theorem glob_short {t : Str} (h : globE t = 0) : t.length ≤ 64 := by
 unfold globE at h
 split at h
 ·cases h
 ·split at h
  ·cases h
  ·omega
theorem leaf_len {o : Int} {t : Str} {n : Int} {ks : List Cn} (h : treeE (.mk o t n ks) = 0) (h2 : o ≠ 2) (h3 : o ≠ 3) (h4 : o ≠ 4) : (leafT o t n).length ≤ 160 := by
 rcases tree_shape h with h | h | h | h | h | h | h
 ·obtain ⟨ho, rfl, rfl, rfl⟩ := h
  obtain h | h | h | h | h | h := ho
  all_goals subst h; decide
 ·omega
 ·omega
 ·obtain ⟨rfl, rfl, hn1, hn2, rfl⟩ := h
  obtain h | h | h | h | h | h | h | h | h | h | h | h | h | h : n = 1 ∨ n = 2 ∨ n = 3 ∨ n = 4 ∨ n = 5 ∨ n = 6 ∨ n = 7 ∨ n = 8 ∨ n = 9 ∨ n = 10 ∨ n = 11 ∨ n = 12 ∨ n = 13 ∨ n = 14 := by omega
  all_goals subst h; decide
 ·obtain ⟨ho, rfl, rfl, hg⟩ := h
  have e1 : leafT o t 0 = fieldW o ++ 32 :: quoteT t := by unfold leafT; rw [if_neg (by omega), if_pos (by omega)]
  have e2 : (fieldW o).length ≤ 10 := by
   obtain h | h | h := ho
   all_goals subst h; decide
  have e3 := esc_len t
  have e4 := glob_short hg
  rw [e1]
  unfold quoteT
  simp only [List.length_append, List.length_cons, List.length_nil]
  omega
 ·obtain ⟨rfl, rfl, rfl, hn⟩ := h
  have := name_short hn
  show ([119, 111, 114, 100, 32] ++ t : Str).length ≤ 160
  simp only [List.length_append, List.length_cons, List.length_nil]
  omega
 ·obtain ⟨ho, rfl, hn1, hn2, rfl⟩ := h
  have e1 : leafT o [] n = fieldW o ++ 32 :: Ar.itoa n := by unfold leafT; rw [if_neg (by omega), if_neg (by omega), if_neg (by omega), if_pos ho]
  have e2 : (fieldW o).length ≤ 10 := by
   obtain h | h | h := ho
   all_goals subst h; decide
  have e3 : (Ar.itoa n).length ≤ 20 := itoa_short (by omega)
  rw [e1]
  simp only [List.length_append, List.length_cons]
  omega
theorem sep_len (o : Int) : (sepW o).length ≤ 3 := by
 unfold sepW
 split
 ·decide
 ·split <;> decide
mutual
theorem textC_len : ∀ (c : Cn), treeE c = 0 → (textC c).length + 10 ≤ 170 * nodes c
 | .mk o t n ks, h => by
  rw [textC, nodes]
  by_cases h23 : o = 2 ∨ o = 3
  ·rw [if_pos h23]
   have hk : treeEL ks = 0 := by
    rcases tree_shape h with h | h | h | h | h | h | h
    ·omega
    ·exact h.2.2.2.2
    all_goals omega
   have := textK_len o true ks hk
   omega
  ·rw [if_neg h23]
   by_cases h4 : o = 4
   ·rw [if_pos h4]
    have hk : treeEL ks = 0 := by
     rcases tree_shape h with h | h | h | h | h | h | h
     ·omega
     ·omega
     ·obtain ⟨_, _, _, k, rfl, hk⟩ := h
      rw [treeEL, hk, treeEL]; rfl
     all_goals omega
    have := textK_len 4 true ks hk
    rw [List.length_append]
    simp only [List.length_cons, List.length_nil]
    omega
   ·rw [if_neg h4]
    have := leaf_len h (fun e => h23 (.inl e)) (fun e => h23 (.inr e)) h4
    omega
theorem textK_len : ∀ (o : Int) (first : Bool) (ks : List Cn), treeEL ks = 0 → (textK o first ks).length ≤ 170 * nodesL ks
 | o, first, [], _ => by rw [textK]; exact Nat.zero_le _
 | o, first, c :: r, h => by
  rw [treeEL] at h
  by_cases hc : treeE c = 0
  ·rw [if_neg (fun e => e hc)] at h
   have h1 := textC_len c hc
   have h2 := textK_len o false r h
   have h3 := sep_len o
   have h4 : (if first = true then ([] : Str) else 32 :: (sepW o ++ [32])).length ≤ 5 := by
    split
    ·simp
    ·simp only [List.length_cons, List.length_append, List.length_nil]; omega
   have h5 : (if joint o c.op = true then 40 :: (textC c ++ [41]) else textC c).length ≤ (textC c).length + 2 := by
    split
    ·simp only [List.length_cons, List.length_append, List.length_nil]; omega
    ·omega
   rw [textK, nodesL, List.length_append, List.length_append]
   omega
  ·rw [if_pos hc] at h; exact absurd h hc
end
theorem act_short {a : Str} (h : isAct a = true) : a.length ≤ 38 := by
 unfold isAct at h
 simp only [Bool.or_eq_true, beq_iff_eq] at h
 obtain (((h | h) | h) | h) | h := h
 ·subst h; decide
 ·subst h; decide
 ·subst h; decide
 ·subst h; decide
 ·unfold isSound at h
  simp only [Bool.and_eq_true] at h
  have := name_short h.2
  rw [List.length_drop] at this
  omega
theorem joinT_len : ∀ l : List Str, (∀ a ∈ l, a.length ≤ 38) → (joinT l).length ≤ 40 * l.length
 | [], _ => by simp [joinT]
 | a :: r, h => by
  rw [joinT, List.length_append, List.length_cons]
  have h1 := h a (List.mem_cons_self ..)
  have h2 : ∀ r : List Str, (∀ a ∈ r, a.length ≤ 38) → (r.flatMap fun b => (44 :: 32 :: b : Str)).length ≤ 40 * r.length := by
   intro r
   induction r with
   | nil => intro _; simp
   | cons b r ih =>
    intro hr
    rw [List.flatMap_cons, List.length_append, List.length_cons, List.length_cons, List.length_cons]
    have h3 := ih (fun a ha => hr a (List.mem_cons_of_mem _ ha))
    have h4 := hr b (List.mem_cons_self ..)
    omega
  have h5 := h2 r (fun a ha => h a (List.mem_cons_of_mem _ ha))
  omega
theorem rules_nodes : ∀ (l earlier : List Rl), rulesE earlier l = 0 → ∀ x ∈ l, nodes x.wh ≤ 40
 | [], _, _, x, hx => by cases hx
 | y :: l, earlier, h, x, hx => by
  rw [rulesE] at h
  by_cases hy : ruleE earlier y = 0
  ·rw [if_neg (fun e => e hy)] at h
   rcases List.mem_cons.1 hx with e | hx
   ·rw [e]
    unfold ruleE at hy
    split at hy
    ·cases hy
    ·split at hy
     ·cases hy
     ·split at hy
      ·cases hy
      ·omega
   ·exact rules_nodes l _ h x hx
  ·rw [if_pos hy] at h; exact absurd h hy
theorem check_few {l : List Rl} (h : checkE l = 0) : l.length ≤ 100 := by
 unfold checkE at h
 split at h
 ·cases h
 ·omega
theorem rule_len {x : Rl} (h : Fine x) (hn : nodes x.wh ≤ 40) : (ruleT x ++ [10]).length ≤ 8000 := by
 have h1 := name_short h.name
 have h2 := textC_len x.wh h.tree
 have h3 := joinT_len x.acts (fun a ha => act_short (h.acts a ha))
 have h4 := h.few
 unfold ruleT
 simp only [List.length_append, List.length_cons, List.length_nil]
 omega
theorem print_len : ∀ l : List Rl, (∀ x ∈ l, Fine x ∧ nodes x.wh ≤ 40) → (printT l).length ≤ 8000 * l.length
 | [], _ => by simp [printT]
 | x :: l, h => by
  have h1 := print_len l (fun y hy => h y (List.mem_cons_of_mem _ hy))
  have h2 := rule_len (h x (List.mem_cons_self ..)).1 (h x (List.mem_cons_self ..)).2
  unfold printT at h1 ⊢
  rw [List.flatMap_cons, List.length_append, List.length_cons]
  omega
theorem check_rls {l : List Rl} (h : checkE l = 0) : rulesE [] l = 0 := by
 unfold checkE at h
 split at h
 ·cases h
 ·exact h
theorem check_short {l : List Rl} (h : checkE l = 0) : (printT l).length ≤ 1000000 := by
 have h1 := check_few h
 have h2 := print_len l (fun x hx => ⟨rules_fine l [] (check_rls h) x hx, rules_nodes l [] (check_rls h) x hx⟩)
 omega
end Pr
/- The text Gv. -/
namespace Pr
theorem printP_two (l : List Rl) : (printP l).2 ≠ 0 ∨ ((printP l).2 = 0 ∧ parseP (printP l).1 = (l, 0, 0) ∧ (printP l).1.length ≤ 20000) := by
 by_cases h : checkE l = 0
 ·by_cases h2 : 20000 < (printT l).length
  ·left; rw [printP_long h h2]; decide
  ·right; rw [printP_done h h2]; exact ⟨rfl, parse_print h (by omega), by show (printT l).length ≤ 20000; omega⟩
 ·left; rw [printP_bad h]; exact h
end Pr
namespace Go.Proofs.YtchkiegehejfmaaGreatDoor
open Go.RowKit Go.Lib
set_option linter.unusedVariables false
set_option linter.unusedSimpArgs false
theorem pprint_all (ok : Nat → Prop) (l : List Pr.Rl) (A : Option Addr) (cap : Nat) (w : World) (hn : l.length ≤ 1000000) (hcap : l.length ≤ cap) (hl : RlRow w ok A l) (hg : ∀ x ∈ l, x.Good) :
  Calls Tryz.prog 12 #[.slice A l.length cap] w fun e w' => e = .returned (.tuple #[.string (bstr (Pr.printP l).1), .int .i64 (Pr.printP l).2]) ∧ Below w.heap.size w w' := by
 by_cases hE : Pr.checkE l = 0
 ·exact pprint_any ok l A cap w hn hcap hl hg (Pr.check_short hE)
 have HCK := hid (pcheck_any ok l A cap w hn hcap hl hg)
 have HP := hid (Pr.printP_bad hE)
 obtain ⟨PP, hPP⟩ : ∃ PP, Pr.printP l = PP := ⟨_, rfl⟩
 rw [hPP] at HP ⊢
 generalize Pr.checkE l = E at *
 have hEb : (E == 0) = false := beq_eq_false_iff_ne.2 hE
 have hEn : (E != 0) = true := by rw [bne, hEb]; rfl
 clear hE hPP hl hg
 go_enter Tryz.func12, Tryz.ntmps12
 go_wp2_with (go_at_call 23; refine HCK.out.mono ?_; rintro e w1 ⟨rfl, hb1⟩; have HB1 := hid hb1; clear hb1)
 go_ret2
 exact ⟨by rw [HP.out]; rfl, HB1.out⟩
theorem rprint_all (ok : Nat → Prop) (l : List Pr.Rl) (A : Option Addr) (cap : Nat) (w : World) (hn : l.length ≤ 1000000) (hcap : l.length ≤ cap) (hl : RlRow w ok A l) (hg : ∀ x ∈ l, x.Good) :
  Calls Tryz.prog 13 #[.slice A l.length cap] w fun e w' => e = .returned (.tuple #[.string (bstr (Pr.printP l).1), .int .i64 (Pr.printP l).2]) ∧ Below w.heap.size w w' := by
 by_cases hE : Pr.checkE l = 0
 ·exact rprint_any ok l A cap w hn hcap hl hg (Pr.check_short hE)
 have HCK := hid (rcheck_any ok l A cap w hn hcap hl hg)
 have HP := hid (Pr.printP_bad hE)
 obtain ⟨PP, hPP⟩ : ∃ PP, Pr.printP l = PP := ⟨_, rfl⟩
 rw [hPP] at HP ⊢
 generalize Pr.checkE l = E at *
 have hEb : (E == 0) = false := beq_eq_false_iff_ne.2 hE
 have hEn : (E != 0) = true := by rw [bne, hEb]; rfl
 clear hE hPP hl hg
 go_enter Tryz.func13, Tryz.ntmps13
 go_wp2_with (go_at_call 24; refine HCK.out.mono ?_; rintro e w1 ⟨rfl, hb1⟩; have HB1 := hid hb1; clear hb1)
 go_ret2
 exact ⟨by rw [HP.out]; rfl, HB1.out⟩
theorem prints_law (l : List Pr.Rl) (A : Option Addr) (cap : Nat) (w : World) (hcap : l.length ≤ cap) (hr : RlRow w (fun _ => True) A l) (hm0 : ∃ m, w.cell? ⟨0, 0, none⟩ = some (.int .i64 m)) : Calls Tryz.prog 4 #[.slice A l.length cap] w fun r w' => r = .returned (.bool true) ∧ Below w.heap.size w w' := by
 obtain ⟨m, hm⟩ := hm0
 have HM := hid hm
 have HR := hid hr
 have HAW : Hid (∀ W, W.cell? ⟨0, 0, none⟩ = some (.int .i64 m) → Calls Tryz.prog 7 #[] W fun e w' => e = .returned (.bool true) ∧ Below W.heap.size W w') := hid (fun W h => awake_any m W h)
 have HPR : Hid (∀ S W, S.size ≤ 1000000 → W.cell? ⟨0, 0, none⟩ = some (.int .i64 m) → Calls Tryz.prog 8 #[.string S] W (PaA W (Pr.parseP S.data.toList))) := hid (fun S W hs h => pparse_any S m W hs h)
 have HGR := hid (rgreat_any (fun _ => True) 8 l A cap w (by decide) hr)
 clear hm hr
 cases hg : Pr.great 8 l with
 | true =>
  rw [hg] at HGR
  clear hg
  go_enter Tryz.func4, Tryz.ntmps4
  go_wp2_with (first
   | (go_at_call 11; refine HGR.out.mono ?_; rintro e w1 ⟨rfl, hb1⟩; have HB1 := hid hb1; have HR1 := hid (HR.out.bel hb1); clear hb1)
   | (go_at_call 7; refine (HAW.out _ ((Below.cell HB1.out (block_lt HM.out)).trans HM.out)).mono ?_; rintro e w5 ⟨rfl, hb5⟩; have HB5 := hid (HB1.out.trans (hb5.mono HB1.out.size)); clear hb5))
  go_ret
  exact ⟨rfl, HB5.out⟩
 | false =>
  rw [hg] at HGR
  obtain ⟨hl8, hng⟩ := Pr.great_no hg
  have HGD : Hid (∀ x ∈ l, x.Good) := hid (fun x hx => (hng x hx).good)
  have HPP : Hid (∀ W, RlRow W (fun _ => True) A l → _) := hid (fun W h => pprint_all (fun _ => True) l A cap W (by omega) hcap h HGD.out)
  have HRP : Hid (∀ W, RlRow W (fun _ => True) A l → _) := hid (fun W h => rprint_all (fun _ => True) l A cap W (by omega) hcap h HGD.out)
  have HLS : Hid (l.length ≤ 1000000 ∧ ∀ x ∈ l, Pr.nodes x.wh ≤ 1000000 ∧ x.acts.length ≤ 100000) := hid ⟨by omega, fun x hx => ⟨by have := (hng x hx).nodes; omega, by have := (hng x hx).few; omega⟩⟩
  have HTW := hid (Pr.printP_two l)
  clear hg hng hcap
  obtain ⟨T, E, hTE⟩ : ∃ T E, Pr.printP l = (T, E) := ⟨_, _, rfl⟩
  rw [hTE] at HPP HRP HTW
  clear hTE
  obtain ⟨TB, hTB⟩ : ∃ TB, bstr T = TB := ⟨_, rfl⟩
  have hT1 : (TB.toList == TB.toList) = true := beq_self_eq_true _
  have hT2 : (TB.toList != TB.toList) = false := by rw [bne, hT1]; rfl
  have hE1 : (E == E) = true := beq_self_eq_true _
  have hE2 : (E != E) = false := by rw [bne, hE1]; rfl
  have HPP2 : Hid (∀ W, RlRow W (fun _ => True) A l → Calls Tryz.prog 12 #[.slice A l.length cap] W fun e w' => e = .returned (.tuple #[.string TB, .int .i64 E]) ∧ Below W.heap.size W w') := hid (by rw [← hTB]; exact HPP.out)
  have HRP2 : Hid (∀ W, RlRow W (fun _ => True) A l → Calls Tryz.prog 13 #[.slice A l.length cap] W fun e w' => e = .returned (.tuple #[.string TB, .int .i64 E]) ∧ Below W.heap.size W w') := hid (by rw [← hTB]; exact HRP.out)
  rcases HTW.out with hE | ⟨hE, hpp, hlen⟩
  ·have hE3 : (E == 0) = false := beq_eq_false_iff_ne.2 hE
   have hE4 : (E != 0) = true := by rw [bne, hE3]; rfl
   clear hE HTW HPP HRP hTB
   go_enter Tryz.func4, Tryz.ntmps4
   go_wp2_with (first
    | (go_at_call 11; refine HGR.out.mono ?_; rintro e w1 ⟨rfl, hb1⟩; have HB1 := hid hb1; have HR1 := hid (HR.out.bel hb1); clear hb1)
    | (go_at_call 12; refine (HPP2.out w1 HR1.out).mono ?_; rintro e w2 ⟨rfl, hb2⟩; have HB2 := hid (HB1.out.trans (hb2.mono HB1.out.size)); have HR2 := hid (HR1.out.bel hb2); clear hb2)
    | (go_at_call 13; refine (HRP2.out w2 HR2.out).mono ?_; rintro e w3 ⟨rfl, hb3⟩; have HB3 := hid (HB2.out.trans (hb3.mono HB2.out.size)); have HR3 := hid (HR2.out.bel hb3); clear hb3)
    | (go_at_call 7; refine (HAW.out _ ((Below.cell HB3.out (block_lt HM.out)).trans HM.out)).mono ?_; rintro e w5 ⟨rfl, hb5⟩; have HB5 := hid (HB3.out.trans (hb5.mono HB3.out.size)); clear hb5))
   go_ret
   exact ⟨rfl, HB5.out⟩
  ·have hE' : E = 0 := hE
   subst hE'
   have HPA : Hid (∀ W, W.cell? ⟨0, 0, none⟩ = some (.int .i64 m) → Calls Tryz.prog 8 #[.string TB] W (PaA W (l, 0, 0))) := hid (fun W h => by
    have h2 := HPR.out TB W (by rw [← hTB, bstr_size]; exact Nat.le_trans hlen (by decide)) h
    rw [← hTB] at h2 ⊢
    rw [show (bstr T).data.toList = T from rfl, show Pr.parseP T = (l, 0, 0) from hpp] at h2
    exact h2)
   clear hE hpp hlen HTW HPP HRP HPR hTB
   go_enter Tryz.func4, Tryz.ntmps4
   go_wp2_with (first
    | (go_at_call 11; refine HGR.out.mono ?_; rintro e w1 ⟨rfl, hb1⟩; have HB1 := hid hb1; have HR1 := hid (HR.out.bel hb1); clear hb1)
    | (go_at_call 12; refine (HPP2.out w1 HR1.out).mono ?_; rintro e w2 ⟨rfl, hb2⟩; have HB2 := hid (HB1.out.trans (hb2.mono HB1.out.size)); have HR2 := hid (HR1.out.bel hb2); clear hb2)
    | (go_at_call 13; refine (HRP2.out w2 HR2.out).mono ?_; rintro e w3 ⟨rfl, hb3⟩; have HB3 := hid (HB2.out.trans (hb3.mono HB2.out.size)); have HR3 := hid (HR2.out.bel hb3); clear hb3)
    | (go_at_call 8; refine (HPA.out w3 ((Below.cell HB3.out (block_lt HM.out)).trans HM.out)).mono ?_; rintro e w4 ⟨⟨B, cap', rfl, hcap', hrow'⟩, hb4⟩; have HB4 := hid (HB3.out.trans (hb4.mono HB3.out.size)); have HSR := hid (rsamerules_eq _ _ l B A cap' cap w4 hrow' (HR3.out.bel hb4) HLS.out.1 HLS.out.2); clear hb4 hrow' hcap')
    | (go_at_call 10; refine HSR.out.mono ?_; rintro e w6 ⟨rfl, hb6⟩; have HB6 := hid (HB4.out.trans (hb6.mono HB4.out.size)); clear hb6)
    | (go_at_call 7; refine (HAW.out _ ((Below.cell HB6.out (block_lt HM.out)).trans HM.out)).mono ?_; rintro e w5 ⟨rfl, hb5⟩; have HB5 := hid (HB6.out.trans (hb5.mono HB6.out.size)); clear hb5))
   go_ret
   exact ⟨rfl, HB5.out⟩
end Go.Proofs.YtchkiegehejfmaaGreatDoor
