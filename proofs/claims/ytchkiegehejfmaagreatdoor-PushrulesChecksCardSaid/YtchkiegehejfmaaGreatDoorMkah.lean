/- The text Gw. -/
import Derived.Test.YtchkiegehejfmaaGreatDoorMkab
import Derived.Test.YtchkiegehejfmaaGreatDoorMas
import Derived.Test.YtchkiegehejfmaaGreatDoorMkag
set_option linter.unusedSimpArgs false
set_option maxHeartbeats 16000000
set_option maxRecDepth 100000
set_option linter.unusedVariables false
namespace Pr
theorem shadG_len : ∀ (r : List Rl) (fs : List Cn), (shadG fs r).length ≤ r.length
 | [], fs => by rw [shadG]; exact Nat.le_refl _
 | x :: r, fs => by
  rw [shadG, List.length_append, List.length_cons]
  have h := shadG_len r (fs ++ [simple x.wh])
  have h2 : (if fs.any (covers (simple x.wh)) = true then [x.name] else ([] : List Str)).length ≤ 1 := by split <;> simp
  omega
theorem shadow_len (l : List Rl) : (shadow l).length ≤ l.length := shadG_len l []
end Pr
namespace Go.Proofs.YtchkiegehejfmaaGreatDoor
open Go.RowKit Go.Lib
set_option linter.unusedVariables false
set_option linter.unusedSimpArgs false
theorem checks_law (l : List Pr.Rl) (A : Option Addr) (cap : Nat) (w : World) (hcap : l.length ≤ cap) (hr : RlRow w (fun _ => True) A l) (hm0 : ∃ m, w.cell? ⟨0, 0, none⟩ = some (.int .i64 m)) : Calls Tryz.prog 6 #[.slice A l.length cap] w fun r w' => r = .returned (.bool true) ∧ Below w.heap.size w w' := by
 obtain ⟨m, hm⟩ := hm0
 have HM := hid hm
 have HR := hid hr
 have HAW : Hid (∀ W, W.cell? ⟨0, 0, none⟩ = some (.int .i64 m) → Calls Tryz.prog 7 #[] W fun e w' => e = .returned (.bool true) ∧ Below W.heap.size W w') := hid (fun W h => awake_any m W h)
 have HGR := hid (rgreat_any (fun _ => True) 110 l A cap w (by decide) hr)
 clear hm hr
 cases hg : Pr.great 110 l with
 | true =>
  rw [hg] at HGR
  clear hg
  go_enter Tryz.func6, Tryz.ntmps6
  go_wp2_with (first
   | (go_at_call 11; refine HGR.out.mono ?_; rintro e w1 ⟨rfl, hb1⟩; have HB1 := hid hb1; clear hb1)
   | (go_at_call 7; refine (HAW.out _ ((Below.cell HB1.out (block_lt HM.out)).trans HM.out)).mono ?_; rintro e w5 ⟨rfl, hb5⟩; have HB5 := hid (HB1.out.trans (hb5.mono HB1.out.size)); clear hb5))
  go_ret
  exact ⟨rfl, HB5.out⟩
 | false =>
  rw [hg] at HGR
  obtain ⟨hl8, hng⟩ := Pr.great_no hg
  have HGD : Hid (∀ x ∈ l, x.Good) := hid (fun x hx => (hng x hx).good)
  have HND : Hid (∀ x ∈ l, Pr.nodes x.wh ≤ 100000) := hid (fun x hx => by have := (hng x hx).nodes; omega)
  have HPC : Hid (∀ W, RlRow W (fun _ => True) A l → _) := hid (fun W h => pcheck_any (fun _ => True) l A cap W (by omega) hcap h HGD.out)
  have HRC : Hid (∀ W, RlRow W (fun _ => True) A l → _) := hid (fun W h => rcheck_any (fun _ => True) l A cap W (by omega) hcap h HGD.out)
  have HPS : Hid (∀ W, RlRow W (fun _ => True) A l → _) := hid (fun W h => pshadowed_any (fun _ => True) l A cap W (by omega) h HND.out)
  have HRS : Hid (∀ W, RlRow W (fun _ => True) A l → _) := hid (fun W h => rshadowed_any (fun _ => True) l A cap W (by omega) h HND.out)
  clear hg hng
  generalize Pr.checkE l = E at *
  have hE1 : (E == E) = true := beq_self_eq_true _
  go_enter Tryz.func6, Tryz.ntmps6
  go_wp2_with (first
   | (go_at_call 11; refine HGR.out.mono ?_; rintro e w1 ⟨rfl, hb1⟩; have HB1 := hid hb1; clear hb1))
  go_loopw [3] (fun ix wr => ∃ k : Nat, 8 ≤ k ∧ k ≤ 200 ∧ ix = .int .i64 (k : Int) ∧ Below w.heap.size w wr) (fun ix _ => 200 - (RowKit.intOf ix).toNat)
  case atStart => exact ⟨8, Nat.le_refl _, by decide, rfl, HB1.out⟩
  case round =>
   obtain ⟨k, hk8, hk2, rfl, hb⟩ := hrel
   have HB := hid hb
   clear hb
   by_cases hlt : k < l.length
   ·obtain ⟨x, hx⟩ : ∃ x, l[k]? = some x := ⟨_, List.getElem?_eq_getElem hlt⟩
    obtain ⟨b, off, cs, rfl, hok, hrg, hcl, A2, cap2, D, dcap, hcs, hkr, hrd, hdc, hdo⟩ := (HR.out.bel HB.out) k x hx
    obtain rfl : cs = [.string (bstr x.name), .int .i64 x.wh.op, .string (bstr x.wh.text), .int .i64 x.wh.num, .slice A2 x.wh.kids.length cap2, .slice D x.acts.length dcap] := by
     have h := congrArg Array.toList hcs
     simpa using h
    have hck : wr.cell? ⟨b, off + k * 6 + 1 + 3, none⟩ = some (.slice A2 x.wh.kids.length cap2) := hrg 4 _ rfl
    have hkI : (k : Int) < (l.length : Int) := by omega
    clear hx hcs hrg hkr hrd hdc hdo
    by_cases h0 : 0 < x.wh.kids.length
    ·have h0I : (0 : Int) < (x.wh.kids.length : Int) := by omega
     go_wp2_with (first
      | (go_at_call 7; refine (HAW.out _ ((Below.cell HB.out (block_lt HM.out)).trans HM.out)).mono ?_; rintro e w5 ⟨rfl, hb5⟩; have HB5 := hid (HB.out.trans (hb5.mono HB.out.size)); clear hb5))
     go_ret
     exact ⟨rfl, HB5.out⟩
    ·have h0I : ¬ (0 : Int) < (x.wh.kids.length : Int) := by omega
     go_wp2_with fail
     go_roundw
     case rel => exact ⟨k + 1, by omega, by omega, by go_num, HB.out⟩
     case measure => simp [RowKit.intOf]; omega
   ·have hkI : ¬ (k : Int) < (l.length : Int) := by omega
    have HRW := hid (HR.out.bel HB.out)
    have hshl := Pr.shadow_len l
    go_wp2_with (first
     | (go_at_call 23; refine (HPC.out wr HRW.out).mono ?_; rintro e w2 ⟨rfl, hb2⟩; have HB2 := hid (HB.out.trans (hb2.mono HB.out.size)); have HR2 := hid (HRW.out.bel hb2); clear hb2)
     | (go_at_call 24; refine (HRC.out w2 HR2.out).mono ?_; rintro e w3 ⟨rfl, hb3⟩; have HB3 := hid (HB2.out.trans (hb3.mono HB2.out.size)); have HR3 := hid (HR2.out.bel hb3); clear hb3)
     | (go_at_call 26; refine (HPS.out w3 HR3.out).mono ?_; rintro e w4 ⟨⟨v4, rfl, how4⟩, hb4⟩; have HB4 := hid (HB3.out.trans (hb4.mono HB3.out.size)); have HR4 := hid (HR3.out.bel hb4); obtain ⟨A4, c4, rfl, hc4, hrd4, -⟩ := own_at how4; have HRD4 := hid hrd4; clear hb4 how4 hrd4)
     | (go_at_call 27; refine (HRS.out w4 HR4.out).mono ?_; rintro e w6 ⟨⟨v6, rfl, how6⟩, hb6⟩; have HB6 := hid (HB4.out.trans (hb6.mono HB4.out.size)); obtain ⟨A6, c6, rfl, hc6, hrd6, -⟩ := own_at how6; have HSX := hid (rtexts_any A4 A6 (Pr.shadow l).length (Pr.shadow l).length c4 c6 (Pr.shadow l) (Pr.shadow l) w6 (by have h := HRD4.out.below hb6; rwa [Nat.mul_one] at h) (by rwa [Nat.mul_one] at hrd6) (by omega) (by omega)); clear hb6 how6 hrd6)
     | (go_at_call 25; refine HSX.out.mono ?_; rintro e w7 ⟨rfl, q, rfl⟩; have htr : decide (Pr.shadow l = Pr.shadow l) = true := decide_eq_true rfl; have HB7 := hid (below_drewN HB6.out q))
     | (go_at_call 7; refine (HAW.out _ ((Below.cell HB7.out (block_lt HM.out)).trans HM.out)).mono ?_; rintro e w5 ⟨rfl, hb5⟩; have HB5 := hid (HB7.out.trans (hb5.mono HB7.out.size)); clear hb5))
    go_ret
    exact ⟨rfl, HB5.out⟩
end Go.Proofs.YtchkiegehejfmaaGreatDoor
