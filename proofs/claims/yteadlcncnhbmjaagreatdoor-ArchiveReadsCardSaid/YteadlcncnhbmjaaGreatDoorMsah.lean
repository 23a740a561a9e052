/- The texts Aw5, Aw6, Aw7, Ak2, Aw8 of this proof, one behind the other. -/
import Derived.IntWalk
import Derived.Test.YteadlcncnhbmjaaGreatDoorMsag
set_option linter.unusedSimpArgs false
set_option maxHeartbeats 16000000
set_option maxRecDepth 100000
set_option linter.unusedVariables false
namespace Go.Proofs.YteadlcncnhbmjaaGreatDoor
open Go.RowKit Go.Lib
theorem Cp (s : ByteArray) (k : Nat) (h : k < s.size) : s.data.toList.drop k = s[k] :: s.data.toList.drop (k + 1) := by
 obtain ⟨h1, h2⟩ := List.getElem?_eq_some_iff.1 (CS s k h);rw [← h2];exact List.drop_eq_getElem_cons h1
theorem OM (s : ByteArray) (k : Nat) (h : s.size ≤ k) : s.data.toList.drop k = [] := List.drop_of_length_le (by rw [← AI]; exact h)
theorem QQ (d h l : UInt8) (r : List UInt8) (c : UInt8) (hc : c.toNat = 92) (hd : d.toNat = 120) :
  Ar.tok (c :: d :: h :: l :: r) = if digI h < 0 ∨ digI l < 0 ∨ (32 ≤ 16 * digI h + digI l ∧ 16 * digI h + digI l ≤ 126) ∨ 16 * digI h + digI l = 10 then none else some (UInt8.ofNat (16 * digI h + digI l).toNat, 4) := by
 have hp : Ar.BI c = false := decide_eq_false (by omega);rw [Ar.CG, hp, if_neg (by decide), if_neg (by omega)];simp only;rw [if_neg (by omega), if_neg (by omega), if_neg (by omega)];unfold digI
 cases h1 : Ar.digv h with
 | none => simp
 | some a => cases h2 : Ar.digv l with
  | none => simp
  | some b =>
   simp only;by_cases h3 : (32 ≤ 16 * a + b ∧ 16 * a + b ≤ 126) ∨ 16 * a + b = 10
   ·rw [if_pos h3, if_pos (by omega)]
   ·rw [if_neg h3, if_neg (by omega), show (16 * (a : Int) + (b : Int)).toNat = 16 * a + b from by omega]
theorem JS (s : ByteArray) (w : World) (hs : s.size ≤ 1000000) :
  Calls Tryz.prog 17 #[.string s] w fun e w' => e = .returned (uqV (Ar.At s.data.toList)) ∧ Below w.heap.size w w' := by
 by_cases h0 : s.size = 0
 ·obtain rfl := Jm h0;clear h0;go_enter Tryz.func17, Tryz.ntmps17;go_wp2_with fail
  go_ret3
  exact ⟨rfl, Below.refl _ _⟩
 ·have hp : 0 < s.size := by omega
  have hz0 : ((s.size : Int) == 0) = false := by rw [beq_eq_false_iff_ne]; omega
  have hlh := Jy s hp;have HLH := hid hlh;clear hlh h0;have hc0 := (s[0]'hp).toNat_lt;by_cases h34 : (s[0]'hp).toNat = 34
  ·have hz : (((s[0]'hp).toNat : Int) != 34) = false := by rw [h34]; rfl
   have HU : Hid (Ar.At s.data.toList = Ar.unq (s.data.toList.drop 1)) := hid (by
    have h1 := Gr (s[0]'hp) (s.data.toList.drop 1) h34
    rwa [← HLH.out] at h1)
   have HDA : Hid (∀ k (h : k < s.size), s.data.toList.drop k = s[k] :: s.data.toList.drop (k + 1)) := hid (Cp s);have HDE : Hid (∀ k, s.size ≤ k → s.data.toList.drop k = []) := hid (OM s);have HAT : Hid (∀ k (h : k < s.size), s.data.toList[k]? = some s[k]) := hid (CS s);have HB0 : Hid (Below w.heap.size w (w.alloc (.cells #[] 5))) := hid ((Below.refl _ _).alloc (Nat.le_refl _) _);have HO0 : Hid (OwnB w.heap.size (w.alloc (.cells #[] 5)) (.slice (some ⟨w.heap.size, 0, none⟩) 0 0) []) := hid (World.ownsRow_lit (base := w.heap.size) (e := 5) (size := 1) w #[] 0 (Nat.le_refl _) (by decide) rfl);clear h34;go_enter Tryz.func17, Tryz.ntmps17;go_wp2_with fail
   go_loopw [5, 6] (fun out ix wr => ∃ (k : Nat) (ol : List UInt8), k ≤ s.size ∧ ix = .int .i64 k ∧ OwnB w.heap.size wr out ol ∧ Hid (UqRel s.data.toList k ol) ∧ ol.length ≤ k ∧ Below w.heap.size w wr) (fun _ ix _ => s.size - (RowKit.intOf ix).toNat)
   case atStart => exact ⟨1, [], by omega, rfl, HO0.out, hid (by unfold UqRel; cases Ar.unq (s.data.toList.drop 1) <;> rfl), by simp, HB0.out⟩
   case round =>
    obtain ⟨k, ol, hk, rfl, ho, hrl, hol, hb⟩ := hrel;have HO := hid ho;have HB := hid hb;have hbs := hb.size;clear ho hb;by_cases hlt : k < s.size
    ·have HC := hid (HAT.out k hlt);have hdl := HDA.out k hlt;have hc2 := (s[k]'hlt).toNat_lt;by_cases h34 : (s[k]'hlt).toNat = 34
     ·have hy : (((s[k]'hlt).toNat : Int) != 34) = false := by rw [h34]; rfl
      have HE := hid (Qe hrl.out HC.out h34);have hcv := fun q => Fb (w := wr.drewN q) HO.out
      have hex := BA s (k + 1);clear h34 hdl;go_wp2_with fail
      go_quiet (fail)
      go_wp2_with fail
      go_ret3
      exact ⟨CR (y := some (ol, s.data.toList.drop (k + 1))) rfl (by rw [HU.out, HE.out]), below_drewN HB.out _⟩
     ·have hy : (((s[k]'hlt).toNat : Int) != 34) = true := by rw [bne_iff_ne]; omega
      have HBA := hid (fun w => IT (s[k]'hlt) w);by_cases hpl : Ar.BI (s[k]'hlt) = true
      ·have HP := hid hpl;have HT : Hid (UqRel s.data.toList (k + 1) (ol ++ [s[k]'hlt])) := hid (ER hrl.out HC.out h34 (by rw [hdl, Ar.CG, if_pos hpl]));clear hdl hpl h34
       go_wp2_with (first
        | (go_at_call 43; refine (HBA.out _).mono ?_; rintro e w' ⟨rfl, rfl⟩; rw [HP.out])
        | (at_builtin; refine CC rfl _ _ rfl wr [s[k]'hlt] u5 ol w.heap.size rfl HO.out rfl hbs (by simp; omega) ?_; intro v2 w3 ho3 hg3 hb3))
       go_roundw
       case rel => exact ⟨k + 1, ol ++ [s[k]'hlt], by omega, by go_num, ho3, HT, by rw [List.length_append]; simp; omega, hb3 _ HB.out⟩
       case measure => simp [RowKit.intOf]; omega
      ·have HP : Hid (Ar.BI (s[k]'hlt) = false) := hid (by simpa using hpl);by_cases h92 : (s[k]'hlt).toNat = 92
       ·have hx : (((s[k]'hlt).toNat : Int) != 92) = false := by rw [h92]; rfl
        by_cases hk1 : k + 1 < s.size
        ·have hdl2 := HDA.out (k + 1) hk1;have hd2 := (s[k + 1]'hk1).toNat_lt;have htc := Ar.CG (s[k]'hlt) (s.data.toList.drop (k + 1));rw [if_neg hpl, if_neg (by omega), ← hdl, hdl2] at htc;simp only at htc;by_cases hd34 : (s[k + 1]'hk1).toNat = 34
         ·have hu : (((s[k + 1]'hk1).toNat : Int) == 34) = true := by rw [hd34]; rfl
          rw [if_pos (.inl hd34)] at htc;have HT : Hid (UqRel s.data.toList (k + 2) (ol ++ [s[k + 1]'hk1])) := hid (ER hrl.out HC.out h34 htc);clear htc hdl hdl2 hpl h34 h92 hd34
          go_wp2_with (first
           | (go_at_call 43; refine (HBA.out _).mono ?_; rintro e w' ⟨rfl, rfl⟩; rw [HP.out])
           | (at_builtin; refine CC rfl _ _ rfl wr [s[k + 1]'hk1] u5 ol w.heap.size rfl HO.out rfl hbs (by simp; omega) ?_; intro v2 w3 ho3 hg3 hb3))
          go_roundw
          case rel => exact ⟨k + 2, ol ++ [s[k + 1]'hk1], by omega, by go_num, ho3, HT, by rw [List.length_append]; simp; omega, hb3 _ HB.out⟩
          case measure => simp [RowKit.intOf]; omega
         ·have hu : (((s[k + 1]'hk1).toNat : Int) == 34) = false := by rw [beq_eq_false_iff_ne]; omega
          by_cases hd92 : (s[k + 1]'hk1).toNat = 92
          ·have hv : (((s[k + 1]'hk1).toNat : Int) == 92) = true := by rw [hd92]; rfl
           rw [if_pos (.inr hd92)] at htc;have HT : Hid (UqRel s.data.toList (k + 2) (ol ++ [s[k + 1]'hk1])) := hid (ER hrl.out HC.out h34 htc);clear htc hdl hdl2 hpl h34 h92 hd34 hd92
           go_wp2_with (first
            | (go_at_call 43; refine (HBA.out _).mono ?_; rintro e w' ⟨rfl, rfl⟩; rw [HP.out])
            | (at_builtin; refine CC rfl _ _ rfl wr [s[k + 1]'hk1] u5 ol w.heap.size rfl HO.out rfl hbs (by simp; omega) ?_; intro v2 w3 ho3 hg3 hb3))
           go_roundw
           case rel => exact ⟨k + 2, ol ++ [s[k + 1]'hk1], by omega, by go_num, ho3, HT, by rw [List.length_append]; simp; omega, hb3 _ HB.out⟩
           case measure => simp [RowKit.intOf]; omega
          ·have hv : (((s[k + 1]'hk1).toNat : Int) == 92) = false := by rw [beq_eq_false_iff_ne]; omega
           rw [if_neg (by omega)] at htc;by_cases hd110 : (s[k + 1]'hk1).toNat = 110
           ·have ht : (((s[k + 1]'hk1).toNat : Int) == 110) = true := by rw [hd110]; rfl
            rw [if_pos hd110] at htc;have HT : Hid (UqRel s.data.toList (k + 2) (ol ++ [10])) := hid (ER hrl.out HC.out h34 htc);clear htc hdl hdl2 hpl h34 h92 hd34 hd92 hd110
            go_wp2_with (first
             | (go_at_call 43; refine (HBA.out _).mono ?_; rintro e w' ⟨rfl, rfl⟩; rw [HP.out])
             | (at_builtin; refine CC rfl _ _ rfl wr [10] u5 ol w.heap.size rfl HO.out rfl hbs (by simp; omega) ?_; intro v2 w3 ho3 hg3 hb3))
            go_roundw
            case rel => exact ⟨k + 2, ol ++ [10], by omega, by go_num, ho3, HT, by rw [List.length_append]; simp; omega, hb3 _ HB.out⟩
            case measure => simp [RowKit.intOf]; omega
           ·have ht : (((s[k + 1]'hk1).toNat : Int) == 110) = false := by rw [beq_eq_false_iff_ne]; omega
            rw [if_neg hd110] at htc;by_cases hd120 : (s[k + 1]'hk1).toNat = 120
            ·have hs2 : (((s[k + 1]'hk1).toNat : Int) != 120) = false := by rw [hd120]; rfl
             by_cases hk3 : k + 3 < s.size
             ·have hk2 : k + 2 < s.size := by omega
              have hdl3 := HDA.out (k + 2) hk2;have hdl4 := HDA.out (k + 3) hk3;obtain ⟨x2, hx2⟩ : ∃ x, s[k + 2]'hk2 = x := ⟨_, rfl⟩;obtain ⟨x3, hx3⟩ : ∃ x, s[k + 3]'hk3 = x := ⟨_, rfl⟩;rw [hx2] at hdl3;rw [hx3] at hdl4;have htd := QQ (s[k + 1]'hk1) x2 x3 (s.data.toList.drop (k + 4)) (s[k]'hlt) h92 hd120;rw [← hdl4, ← hdl3, ← hdl2, ← hdl] at htd;have hr1 := IK x2;have hr2 := IK x3;have HD1 := hid (fun w => (I2 x2 w).mono (fun e w' (h : _ ∧ w = w') => (⟨h.1, h.2.symm⟩ : e = .returned (.int .i64 (digI x2)) ∧ w' = w)));have HD2 := hid (fun w => (I2 x3 w).mono (fun e w' (h : _ ∧ w = w') => (⟨h.1, h.2.symm⟩ : e = .returned (.int .i64 (digI x3)) ∧ w' = w)));have hz2 := x2.toNat_lt;have hz3 := x3.toNat_lt;clear htc hdl hdl2 hdl3 hdl4 hd34 hd92 hd110 hd120;generalize digI x2 = da at *;generalize digI x3 = db at *;by_cases hbad : da < 0 ∨ db < 0 ∨ (32 ≤ 16 * da + db ∧ 16 * da + db ≤ 126) ∨ 16 * da + db = 10
              ·rw [if_pos hbad] at htd;have HE := hid (Gd hrl.out HC.out h34 htd);clear htd hpl h34 h92;by_cases ha : da < 0
               ·clear hbad;go_wp2_with (go_at_call 43; refine (HBA.out _).mono ?_; rintro e w' ⟨rfl, rfl⟩; rw [HP.out]);have hS0 : 0 ≤ (k : Int) + 2 := by omega
                have hS1 : 0 ≤ (k : Int) + 3 := by omega
                have hS2 : IntKind.i64.wrap ((k : Int) + 2) = (k : Int) + 2 := IntWalk.i64_in _ (by omega);have hS3 : IntKind.i64.wrap ((k : Int) + 3) = (k : Int) + 3 := IntWalk.i64_in _ (by omega);have hS4 : ((k : Int) + 2).toNat = k + 2 := by omega
                have hS5 : ((k : Int) + 3).toNat = k + 3 := by omega
                have hS6 : (k : Int) + 2 < (s.size : Int) := by omega
                have hS7 : (k : Int) + 3 < (s.size : Int) := by omega
                go_quiet ((first | (go_at_call_of 45 (Value.int .u8 (x2.toNat : Int)); exact Calls.quiet_of_same (HD1.out _)) | (go_at_call_of 45 (Value.int .u8 (x3.toNat : Int)); exact Calls.quiet_of_same (HD2.out _))))
                clear hS0 hS1 hS2 hS3 hS4 hS5 hS6 hS7;go_wp2_with fail
                go_ret3
                exact ⟨CR rfl (by rw [HU.out, HE.out]), below_drewN HB.out _⟩
               ·by_cases hb : db < 0
                ·clear hbad;go_wp2_with (go_at_call 43; refine (HBA.out _).mono ?_; rintro e w' ⟨rfl, rfl⟩; rw [HP.out]);have hS0 : 0 ≤ (k : Int) + 2 := by omega
                 have hS1 : 0 ≤ (k : Int) + 3 := by omega
                 have hS2 : IntKind.i64.wrap ((k : Int) + 2) = (k : Int) + 2 := IntWalk.i64_in _ (by omega);have hS3 : IntKind.i64.wrap ((k : Int) + 3) = (k : Int) + 3 := IntWalk.i64_in _ (by omega);have hS4 : ((k : Int) + 2).toNat = k + 2 := by omega
                 have hS5 : ((k : Int) + 3).toNat = k + 3 := by omega
                 have hS6 : (k : Int) + 2 < (s.size : Int) := by omega
                 have hS7 : (k : Int) + 3 < (s.size : Int) := by omega
                 go_quiet ((first | (go_at_call_of 45 (Value.int .u8 (x2.toNat : Int)); exact Calls.quiet_of_same (HD1.out _)) | (go_at_call_of 45 (Value.int .u8 (x3.toNat : Int)); exact Calls.quiet_of_same (HD2.out _))))
                 clear hS0 hS1 hS2 hS3 hS4 hS5 hS6 hS7;go_wp2_with fail
                 go_ret3
                 exact ⟨CR rfl (by rw [HU.out, HE.out]), below_drewN HB.out _⟩
                ·have ha1 : 0 ≤ da := by omega
                 have hb1 : 0 ≤ db := by omega
                 by_cases h10 : 16 * da + db = 10
                 ·have h11 : 16 * da + db < 32 := by omega
                  have h12 : ((16 * da + db) == 10) = true := by rw [h10]; rfl
                  clear hbad h10 ha hb;go_wp2_with (go_at_call 43; refine (HBA.out _).mono ?_; rintro e w' ⟨rfl, rfl⟩; rw [HP.out]);have hS0 : 0 ≤ (k : Int) + 2 := by omega
                  have hS1 : 0 ≤ (k : Int) + 3 := by omega
                  have hS2 : IntKind.i64.wrap ((k : Int) + 2) = (k : Int) + 2 := IntWalk.i64_in _ (by omega);have hS3 : IntKind.i64.wrap ((k : Int) + 3) = (k : Int) + 3 := IntWalk.i64_in _ (by omega);have hS4 : ((k : Int) + 2).toNat = k + 2 := by omega
                  have hS5 : ((k : Int) + 3).toNat = k + 3 := by omega
                  have hS6 : (k : Int) + 2 < (s.size : Int) := by omega
                  have hS7 : (k : Int) + 3 < (s.size : Int) := by omega
                  go_quiet ((first | (go_at_call_of 45 (Value.int .u8 (x2.toNat : Int)); exact Calls.quiet_of_same (HD1.out _)) | (go_at_call_of 45 (Value.int .u8 (x3.toNat : Int)); exact Calls.quiet_of_same (HD2.out _))))
                  clear hS0 hS1 hS2 hS3 hS4 hS5 hS6 hS7;go_wp2_with fail
                  go_ret3
                  exact ⟨CR rfl (by rw [HU.out, HE.out]), below_drewN HB.out _⟩
                 ·have h11 : 32 ≤ 16 * da + db := by omega
                  have h12 : 16 * da + db ≤ 126 := by omega
                  clear hbad h10 ha hb;go_wp2_with (go_at_call 43; refine (HBA.out _).mono ?_; rintro e w' ⟨rfl, rfl⟩; rw [HP.out]);have hS0 : 0 ≤ (k : Int) + 2 := by omega
                  have hS1 : 0 ≤ (k : Int) + 3 := by omega
                  have hS2 : IntKind.i64.wrap ((k : Int) + 2) = (k : Int) + 2 := IntWalk.i64_in _ (by omega);have hS3 : IntKind.i64.wrap ((k : Int) + 3) = (k : Int) + 3 := IntWalk.i64_in _ (by omega);have hS4 : ((k : Int) + 2).toNat = k + 2 := by omega
                  have hS5 : ((k : Int) + 3).toNat = k + 3 := by omega
                  have hS6 : (k : Int) + 2 < (s.size : Int) := by omega
                  have hS7 : (k : Int) + 3 < (s.size : Int) := by omega
                  go_quiet ((first | (go_at_call_of 45 (Value.int .u8 (x2.toNat : Int)); exact Calls.quiet_of_same (HD1.out _)) | (go_at_call_of 45 (Value.int .u8 (x3.toNat : Int)); exact Calls.quiet_of_same (HD2.out _))))
                  clear hS0 hS1 hS2 hS3 hS4 hS5 hS6 hS7;go_wp2_with fail
                  go_ret3
                  exact ⟨CR rfl (by rw [HU.out, HE.out]), below_drewN HB.out _⟩
              ·rw [if_neg hbad] at htd;have HT : Hid (UqRel s.data.toList (k + 4) (ol ++ [UInt8.ofNat (16 * da + db).toNat])) := hid (ER hrl.out HC.out h34 htd);have ha1 : 0 ≤ da := by omega
               have hb1 : 0 ≤ db := by omega
               obtain ⟨x, hx8⟩ : ∃ x : UInt8, x = UInt8.ofNat (16 * da + db).toNat := ⟨_, rfl⟩;have hxv : 16 * da + db = (x.toNat : Int) := by rw [hx8, UInt8.toNat_ofNat']; omega
               rw [← hx8] at HT;have h13 : ((x.toNat : Int) == 10) = false := by rw [beq_eq_false_iff_ne]; omega
               have hx9 := x.toNat_lt;have hcase : x.toNat < 32 ∨ 126 < x.toNat := by omega
               clear htd hpl h34 h92 hx8 hbad;by_cases h14 : x.toNat < 32
               ·clear hcase;go_wp2_with (go_at_call 43; refine (HBA.out _).mono ?_; rintro e w' ⟨rfl, rfl⟩; rw [HP.out]);have hS0 : 0 ≤ (k : Int) + 2 := by omega
                have hS1 : 0 ≤ (k : Int) + 3 := by omega
                have hS2 : IntKind.i64.wrap ((k : Int) + 2) = (k : Int) + 2 := IntWalk.i64_in _ (by omega);have hS3 : IntKind.i64.wrap ((k : Int) + 3) = (k : Int) + 3 := IntWalk.i64_in _ (by omega);have hS4 : ((k : Int) + 2).toNat = k + 2 := by omega
                have hS5 : ((k : Int) + 3).toNat = k + 3 := by omega
                have hS6 : (k : Int) + 2 < (s.size : Int) := by omega
                have hS7 : (k : Int) + 3 < (s.size : Int) := by omega
                go_quiet ((first | (go_at_call_of 45 (Value.int .u8 (x2.toNat : Int)); exact Calls.quiet_of_same (HD1.out _)) | (go_at_call_of 45 (Value.int .u8 (x3.toNat : Int)); exact Calls.quiet_of_same (HD2.out _))))
                clear hS0 hS1 hS2 hS3 hS4 hS5 hS6 hS7;generalize hw9 : wr.drewN _ = w9;have HO9 : Hid (OwnB w.heap.size w9 u5 ol) := hid (by rw [← hw9]; exact HO.out);have HB9 : Hid (Below w.heap.size w w9) := hid (by rw [← hw9]; exact below_drewN HB.out _);have hbs9 : w.heap.size ≤ w9.heap.size := HB9.out.size;clear hw9;go_wp2_with (at_builtin; refine CC rfl _ _ rfl w9 [x] u5 ol w.heap.size rfl HO9.out rfl hbs9 (by simp; omega) ?_; intro v2 w3 ho3 hg3 hb3)
                go_roundw
                case rel => exact ⟨k + 4, ol ++ [x], by omega, by go_num, ho3, HT, by rw [List.length_append]; simp; omega, hb3 _ HB9.out⟩
                case measure => simp [RowKit.intOf]; omega
               ·have h15 : 126 < x.toNat := by omega
                have h16 : 32 ≤ x.toNat := by omega
                clear hcase h14;go_wp2_with (go_at_call 43; refine (HBA.out _).mono ?_; rintro e w' ⟨rfl, rfl⟩; rw [HP.out]);have hS0 : 0 ≤ (k : Int) + 2 := by omega
                have hS1 : 0 ≤ (k : Int) + 3 := by omega
                have hS2 : IntKind.i64.wrap ((k : Int) + 2) = (k : Int) + 2 := IntWalk.i64_in _ (by omega);have hS3 : IntKind.i64.wrap ((k : Int) + 3) = (k : Int) + 3 := IntWalk.i64_in _ (by omega);have hS4 : ((k : Int) + 2).toNat = k + 2 := by omega
                have hS5 : ((k : Int) + 3).toNat = k + 3 := by omega
                have hS6 : (k : Int) + 2 < (s.size : Int) := by omega
                have hS7 : (k : Int) + 3 < (s.size : Int) := by omega
                go_quiet ((first | (go_at_call_of 45 (Value.int .u8 (x2.toNat : Int)); exact Calls.quiet_of_same (HD1.out _)) | (go_at_call_of 45 (Value.int .u8 (x3.toNat : Int)); exact Calls.quiet_of_same (HD2.out _))))
                clear hS0 hS1 hS2 hS3 hS4 hS5 hS6 hS7;generalize hw9 : wr.drewN _ = w9;have HO9 : Hid (OwnB w.heap.size w9 u5 ol) := hid (by rw [← hw9]; exact HO.out);have HB9 : Hid (Below w.heap.size w w9) := hid (by rw [← hw9]; exact below_drewN HB.out _);have hbs9 : w.heap.size ≤ w9.heap.size := HB9.out.size;clear hw9;go_wp2_with (at_builtin; refine CC rfl _ _ rfl w9 [x] u5 ol w.heap.size rfl HO9.out rfl hbs9 (by simp; omega) ?_; intro v2 w3 ho3 hg3 hb3)
                go_roundw
                case rel => exact ⟨k + 4, ol ++ [x], by omega, by go_num, ho3, HT, by rw [List.length_append]; simp; omega, hb3 _ HB9.out⟩
                case measure => simp [RowKit.intOf]; omega
             ·have HE : Hid (Ar.unq (s.data.toList.drop 1) = none) := hid (Gd hrl.out HC.out h34 (by
               rw [htc, if_neg (by omega)];by_cases hk2 : k + 2 < s.size
               ·rw [HDA.out (k + 2) hk2, HDE.out (k + 3) (by omega)]
               ·rw [HDE.out (k + 2) (by omega)]))
              have hBW := HB.out;clear htc hdl hdl2 hpl h34 h92 hd34 hd92 hd110 hd120;go_wp2_with (go_at_call 43; refine (HBA.out _).mono ?_; rintro e w' ⟨rfl, rfl⟩; rw [HP.out])
              go_ret3
              exact ⟨CR rfl (by rw [HU.out, HE.out]), hBW⟩
            ·have hs2 : (((s[k + 1]'hk1).toNat : Int) != 120) = true := by rw [bne_iff_ne]; omega
             rw [if_pos hd120] at htc;have HE := hid (Gd hrl.out HC.out h34 htc);have hBW := HB.out;clear htc hdl hdl2 hpl h34 h92 hd34 hd92 hd110 hd120;go_wp2_with (go_at_call 43; refine (HBA.out _).mono ?_; rintro e w' ⟨rfl, rfl⟩; rw [HP.out])
             go_ret3
             exact ⟨CR rfl (by rw [HU.out, HE.out]), hBW⟩
        ·have HE : Hid (Ar.unq (s.data.toList.drop 1) = none) := hid (Gd hrl.out HC.out h34 (by rw [hdl, Ar.CG, if_neg hpl, if_neg (by omega), HDE.out (k + 1) (by omega)]));have hBW := HB.out;clear hdl hpl h34 h92;go_wp2_with (go_at_call 43; refine (HBA.out _).mono ?_; rintro e w' ⟨rfl, rfl⟩; rw [HP.out])
         go_ret3
         exact ⟨CR rfl (by rw [HU.out, HE.out]), hBW⟩
       ·have hx : (((s[k]'hlt).toNat : Int) != 92) = true := by rw [bne_iff_ne]; omega
        have HE := hid (Gd hrl.out HC.out h34 (by rw [hdl, Ar.CG, if_neg hpl, if_pos h92]));have hBW := HB.out;clear hdl hpl h34 h92;go_wp2_with (go_at_call 43; refine (HBA.out _).mono ?_; rintro e w' ⟨rfl, rfl⟩; rw [HP.out])
        go_ret3
        exact ⟨CR rfl (by rw [HU.out, HE.out]), hBW⟩
    ·obtain rfl : k = s.size := by omega
     have HE : Hid (Ar.unq (s.data.toList.drop 1) = none) := hid (J7 hrl.out (by rw [HDE.out s.size (Nat.le_refl _)]; rfl));go_wp2_with fail
     go_ret3
     exact ⟨CR rfl (by rw [HU.out, HE.out]), HB.out⟩
  ·have hz : (((s[0]'hp).toNat : Int) != 34) = true := by rw [bne_iff_ne]; omega
   have HU : Hid (Ar.At s.data.toList = none) := hid (by
    have h1 := IF (s[0]'hp) (s.data.toList.drop 1) h34
    rwa [← HLH.out] at h1)
   clear h34;go_enter Tryz.func17, Tryz.ntmps17;go_wp2_with fail
   go_ret3
   exact ⟨CR rfl HU.out, Below.refl _ _⟩
def RdS (w : World) (g : Nat) (r : Ar.RS) : Prop := Blk w g 87 #[.string (bstr r.1), .bool r.2]
section
variable {w w' : World} {g : Nat} {r : Ar.RS}
theorem RdS.c0 (h : RdS w g r) : w.cell? ⟨g, 0, none⟩ = some (.string (bstr r.1)) := (Blk.cell h 0).trans rfl
theorem RdS.c1 (h : RdS w g r) : w.cell? ⟨g, 1, none⟩ = some (.bool r.2) := (Blk.cell h 1).trans rfl
theorem RdS.f (h : RdS w g r) (i : Nat) : w.frozen? ⟨g, i, none⟩ = false := Blk.frozen h i
theorem RdS.set0 (h : RdS w g r) (s : List UInt8) : RdS (w.setCell ⟨g, 0, none⟩ (.string (bstr s))) g (s, r.2) := Blk.set_ h 0 _
theorem RdS.set1 (h : RdS w g r) (b : Bool) : RdS (w.setCell ⟨g, 1, none⟩ (.bool b)) g (r.1, b) := Blk.set_ h 1 _
theorem RdS.keep (h : RdS w g r) {row : Option Nat} (hg : w.grownBy w' row) (hne : some g ≠ row) : RdS w' g r := Blk.grown h hg hne
theorem RdS.lt (h : RdS w g r) : g < w.heap.size := Blk.lt h
end
theorem Az (w : World) (g i : Nat) (v : Value) : w.grownBy (w.setCell ⟨g, i, none⟩ v) (some g) :=
 ⟨rfl, rfl, rfl, by simp [World.setCell], fun j hj hne => Below.heap_setCell w ⟨g, i, none⟩ v j (fun e => hne (by rw [e]))⟩
theorem F1 {s p : List UInt8} (h : Lib.hasPrefix s p = true) : p.length ≤ s.length := by
 unfold Lib.hasPrefix at h;exact (List.isPrefixOf_iff_prefix.1 h).length_le
theorem BK (g : Nat) (t : ByteArray) (r : Ar.RS) (w : World) (h : RdS w g r) (hl : r.1.length ≤ 1000000) :
  Calls Tryz.prog 50 #[.pointer (some ⟨g, 0, none⟩), .string t] w fun e w' => e = .returned (.tuple #[]) ∧ RdS w' g (Ar.eat t.data.toList r) ∧ w.grownBy w' (some g) := by
 have hc0 := h.c0;have hc1 := h.c1;have hf0 := h.f 0;have hf1 := h.f 1;have HP := hid (fun w => Tryz.strings_HasPrefix (bstr r.1) t w)
 cases hp : Lib.hasPrefix r.1 t.data.toList with
 | true =>
  have hpl := F1 hp;rw [← AI] at hpl;have HE : Hid (Ar.eat t.data.toList r = (r.1.drop t.size, r.2)) := hid (by unfold Ar.eat; rw [if_pos hp, ← AI]);have HS := hid (h.set0 (r.1.drop t.size));have hb : (bstr r.1).size = r.1.length := Ab _;have hex := BA (bstr r.1) t.size;rw [GY] at hex;have HPV : Hid (Lib.hasPrefix (bstr r.1).data.toList t.data.toList = true) := hid hp;clear hp h;generalize bstr r.1 = S at *;have hb1 : t.size ≤ S.size := by omega
  have hb2 : S.size ≤ 1000000 := by omega
  clear hb hpl;go_enter Tryz.func50, Tryz.ntmps50;go_wp2_with fail;refine (HP.out _).mono ?_;rintro e w' ⟨rfl, rfl⟩;rw [HPV.out];go_wp2_with fail
  go_end0
  exact ⟨rfl, by rw [HE.out]; exact HS.out, Az _ _ _ _⟩
 | false =>
  have HE : Hid (Ar.eat t.data.toList r = (r.1, true)) := hid (by unfold Ar.eat; rw [if_neg (by rw [hp]; decide)]);have HS := hid (h.set1 true);have HPV : Hid (Lib.hasPrefix (bstr r.1).data.toList t.data.toList = false) := hid hp;clear hp h;generalize bstr r.1 = S at *;go_enter Tryz.func50, Tryz.ntmps50;go_wp2_with fail;refine (HP.out _).mono ?_;rintro e w' ⟨rfl, rfl⟩;rw [HPV.out];go_wp2_with fail;exact bodyPost_ret (results_none rfl _ _ _) rfl ⟨rfl, by rw [HE.out]; exact HS.out, Az _ _ _ _⟩
theorem FG (g : Nat) (t : ByteArray) (r : Ar.RS) (w : World) (h : RdS w g r) (hl : r.1.length ≤ 1000000) :
  Calls Tryz.prog 136 #[.pointer (some ⟨g, 0, none⟩), .string t] w fun e w' => e = .returned (.bool (Ar.has t.data.toList r).1) ∧ RdS w' g (Ar.has t.data.toList r).2 ∧ w.grownBy w' (some g) := by
 have hc0 := h.c0;have hc1 := h.c1;have hf0 := h.f 0;have hf1 := h.f 1;have HP := hid (fun w => Tryz.strings_HasPrefix (bstr r.1) t w);have HR := hid h;obtain ⟨rs, rb⟩ := r
 cases rb with
 | true =>
  have HE : Hid (Ar.has t.data.toList (rs, true) = (false, (rs, true))) := hid (by unfold Ar.has; simp);clear h;generalize hS : bstr rs = S at *;have HSS := hid hS;clear hS;go_enter Tryz.func136, Tryz.ntmps136;go_wp2_with fail;go_ret;exact ⟨AL (by rw [HE.out]), by rw [HE.out]; exact HR.out, World.grownBy.refl _ _⟩
 | false =>
  cases hp : Lib.hasPrefix rs t.data.toList with
  | true =>
   have hpl := F1 hp;rw [← AI] at hpl;have HE : Hid (Ar.has t.data.toList (rs, false) = (true, (rs.drop t.size, false))) := hid (by unfold Ar.has; simp only [hp, Bool.not_false, Bool.and_self, if_true, ← AI]);have HS := hid (h.set0 (rs.drop t.size));have hb : (bstr rs).size = rs.length := Ab _;have hex := BA (bstr rs) t.size;rw [GY] at hex;have HPV : Hid (Lib.hasPrefix (bstr rs).data.toList t.data.toList = true) := hid hp;clear hp h HR;generalize bstr rs = S at *;have hb1 : t.size ≤ S.size := by omega
   have hb2 : S.size ≤ 1000000 := by
    have : rs.length ≤ 1000000 := hl;omega
   clear hb hpl;go_enter Tryz.func136, Tryz.ntmps136;go_wp2_with fail;refine (HP.out _).mono ?_;rintro e w' ⟨rfl, rfl⟩;rw [HPV.out];go_wp2_with fail;go_ret;exact ⟨AL (by rw [HE.out]), by rw [HE.out]; exact HS.out, Az _ _ _ _⟩
  | false =>
   have HE : Hid (Ar.has t.data.toList (rs, false) = (false, (rs, false))) := hid (by unfold Ar.has; simp [hp]);have HPV : Hid (Lib.hasPrefix (bstr rs).data.toList t.data.toList = false) := hid hp;clear hp h;generalize hS : bstr rs = S at *;have HSS := hid hS;clear hS;go_enter Tryz.func136, Tryz.ntmps136;go_wp2_with fail;refine (HP.out _).mono ?_;rintro e w' ⟨rfl, rfl⟩;rw [HPV.out];go_wp2_with fail;go_ret;exact ⟨AL (by rw [HE.out]), by rw [HE.out]; exact HR.out, World.grownBy.refl _ _⟩
theorem Dp (g : Nat) (r : Ar.RS) (w : World) (h : RdS w g r) (hl : r.1.length ≤ 1000000) :
  Calls Tryz.prog 135 #[.pointer (some ⟨g, 0, none⟩)] w fun e w' => e = .returned (.string (bstr (Ar.rtext r).1)) ∧ RdS w' g (Ar.rtext r).2 ∧ w.grownBy w' (some g) := by
 have hc0 := h.c0;have HR := hid h;have hb : (bstr r.1).size = r.1.length := Ab _;have HU := hid (fun w => Hj (bstr r.1) w (by omega));have HL : Hid ((bstr r.1).data.toList = r.1) := hid rfl;clear h hb;obtain ⟨S, hS⟩ : ∃ S, bstr r.1 = S := ⟨_, rfl⟩;rw [hS] at hc0 HU HL;have HSS := hid hS;clear hS;go_enter Tryz.func135, Tryz.ntmps135;go_wp2_with fail;refine (HU.out _).mono ?_;rintro e w1 ⟨rfl, hb1⟩;rw [HL.out];have hr1 : RdS w1 g r := by
  show w1.heap[g]? = _;rw [hb1.block g HR.out.lt];exact HR.out
 have hg1 : w.grownBy w1 (some g) := ⟨hb1.os, hb1.tape, hb1.output, hb1.size, fun i hi _ => hb1.block i hi⟩;have hf0 := hr1.f 0;have hf1 := hr1.f 1;have hd0 := hr1.c0;have hd1 := hr1.c1;rw [HSS.out] at hd0
 cases hu : Ar.At r.1 with
 | none =>
  have HE : Hid (Ar.rtext r = ([], (r.1, true))) := hid (by unfold Ar.rtext; rw [hu]);have HS := hid (hr1.set1 true);have HG := hid hg1;clear hu hr1 hg1;unfold uqV;go_wp2_with fail;go_ret;exact ⟨AM (by rw [HE.out]; rfl), by rw [HE.out]; exact HS.out, HG.out.trans (Az _ _ _ _)⟩
 | some p =>
  have HE : Hid (Ar.rtext r = (p.1, (p.2, r.2))) := hid (by unfold Ar.rtext; rw [hu]);have HS := hid (hr1.set0 p.2);have HG := hid hg1;clear hu hr1 hg1;unfold uqV;go_wp2_with fail;go_ret;exact ⟨AM (by rw [HE.out]), by rw [HE.out]; exact HS.out, HG.out.trans (Az _ _ _ _)⟩
theorem Lk {p : UInt8 → Bool} {l : List UInt8} {k : Nat} (h1 : ∀ c ∈ l.take k, p c = true) (h2 : ∀ c, l[k]? = some c → p c = false) : l.takeWhile p = l.take k ∧ l.dropWhile p = l.drop k := by
 have := Ar.Dj (p := p) (l := l.take k) (t := l.drop k) h1 (by
  intro c r e;refine h2 c ?_;have : (l.drop k)[0]? = some c := by rw [e]; rfl
  rwa [List.getElem?_drop, Nat.add_zero] at this)
 rwa [List.take_append_drop] at this
theorem Iq {p : UInt8 → Bool} {l : List UInt8} {k : Nat} {c : UInt8} (h1 : ∀ c ∈ l.take k, p c = true) (h2 : l[k]? = some c) (h3 : p c = true) : ∀ c ∈ l.take (k + 1), p c = true := by
 intro d hd;rw [BF h2] at hd;rcases List.mem_append.1 hd with hd | hd
 ·exact h1 d hd
 ·rw [List.mem_singleton.1 hd]; exact h3
theorem C7 (s : ByteArray) (k : Nat) (h : k ≤ s.size) : s.extract 0 k = bstr (s.data.toList.take k) := Bg (by rw [EQ]; rfl)
theorem Pr (g : Nat) (r : Ar.RS) (w : World) (h : RdS w g r) (hl : r.1.length ≤ 1000000) :
  Calls Tryz.prog 49 #[.pointer (some ⟨g, 0, none⟩)] w fun e w' => e = .returned (.string (bstr (Ar.word r).1)) ∧ RdS w' g (Ar.word r).2 ∧ w.grownBy w' (some g) := by
 have hc0 := h.c0;have hf0 := h.f 0;have HR := hid h;have hb : (bstr r.1).size = r.1.length := Ab _;have HL : Hid ((bstr r.1).data.toList = r.1) := hid rfl;have HSET := hid (fun s => h.set0 s);clear h;obtain ⟨S, hS⟩ : ∃ S, bstr r.1 = S := ⟨_, rfl⟩;rw [hS] at hc0 HL hb;have hsz : S.size ≤ 1000000 := by omega
 have HAT : Hid (∀ k (h : k < S.size), S.data.toList[k]? = some S[k]) := hid (CS S);have HLE : Hid (S.data.toList.length = S.size) := hid (AI S).symm;have HEX : Hid (∀ k, k ≤ S.size → S.extract 0 k = bstr (S.data.toList.take k)) := hid (C7 S);have HED : Hid (∀ k, S.extract k S.size = bstr (S.data.toList.drop k)) := hid (BA S);clear hb hS;go_enter Tryz.func49, Tryz.ntmps49;go_wp2_with fail
 go_loop [3] (fun ix => ∃ k : Nat, k ≤ S.size ∧ ix = .int .i64 k ∧ Hid (∀ c ∈ S.data.toList.take k, Ar.az c = true)) (fun ix => S.size - (RowKit.intOf ix).toNat)
 case atStart => exact ⟨0, Nat.zero_le _, rfl, hid (by simp)⟩
 case round =>
  obtain ⟨k, hk, rfl, hall⟩ := hrel;by_cases hgo : ∃ h : k < S.size, Ar.az S[k] = true
  ·obtain ⟨hlt, haz⟩ := hgo;have HN := hid (Iq hall.out (HAT.out k hlt) haz);obtain ⟨ha1, ha2⟩ := of_decide_eq_true haz;clear haz;go_wp2_with fail
   go_round
   case rel => exact ⟨k + 1, by omega, by go_num, HN⟩
   case measure => simp [RowKit.intOf]; omega
  ·have hst := Lk (p := Ar.az) hall.out (fun c hc => by
    obtain ⟨h1, h2⟩ := List.getElem?_eq_some_iff.1 hc;have hlt : k < S.size := by rw [← HLE.out]; exact h1
    have h3 := HAT.out k hlt;rw [hc] at h3;injection h3 with h3;rw [h3]
    cases hz : Ar.az S[k] with
    | false => rfl
    | true => exact absurd ⟨hlt, hz⟩ hgo)
   have HE : Hid (Ar.word r = (S.data.toList.take k, (S.data.toList.drop k, r.2))) := hid (by
    unfold Ar.word
    rw [← HL.out, hst.1, hst.2])
   have hex := HEX.out k hk;have hed := HED.out k;clear hst;by_cases hlt : k < S.size
   ·have hcase : (S[k]'hlt).toNat < 97 ∨ 122 < (S[k]'hlt).toNat := by
     have hn : ¬ (97 ≤ (S[k]'hlt).toNat ∧ (S[k]'hlt).toNat ≤ 122) := fun h => hgo ⟨hlt, decide_eq_true h⟩
     omega
    clear hgo;rcases hcase with hc | hc
    ·go_wp2_with fail;go_ret;exact ⟨AM (by rw [HE.out]), by rw [HE.out]; exact HSET.out _, Az _ _ _ _⟩
    ·have hc2 : 97 ≤ (S[k]'hlt).toNat := by omega
     go_wp2_with fail;go_ret;exact ⟨AM (by rw [HE.out]), by rw [HE.out]; exact HSET.out _, Az _ _ _ _⟩
   ·obtain rfl : k = S.size := by omega
    have HD0 : Hid (S.data.toList.drop S.size = []) := hid (List.drop_of_length_le (by rw [HLE.out]; exact Nat.le_refl _));clear hgo hlt;go_wp2_with fail;go_ret;exact ⟨AM (by rw [HE.out]), by rw [HE.out]; show RdS _ g (S.data.toList.drop S.size, r.2); rw [HD0.out]; exact HSET.out [], Az _ _ _ _⟩
def Ready (w : World) : Prop := (∃ m, w.cell? ⟨0, 0, none⟩ = some (.int .i64 m)) ∧ (∃ t p, w.cell? ⟨1, 0, none⟩ = some (.iface t p)) ∧ ∃ t p, w.cell? ⟨2, 0, none⟩ = some (.iface t p)
theorem Ready.grown {w w' : World} {row : Option Nat} (h : Ready w) (hg : w.grownBy w' row) (hr : ∀ g, row = some g → 3 ≤ g) : Ready w' := by
 obtain ⟨⟨m, h1⟩, ⟨t, p, h2⟩, ⟨u, q, h3⟩⟩ := h;exact ⟨⟨m, hg.cell h1 (fun e => by have := hr 0 e.symm; omega)⟩, ⟨t, p, hg.cell h2 (fun e => by have := hr 1 e.symm; omega)⟩, ⟨u, q, hg.cell h3 (fun e => by have := hr 2 e.symm; omega)⟩⟩
theorem Bo {w w' : World} (hb : Below w.heap.size w w') (row : Option Nat) : w.grownBy w' row := ⟨hb.os, hb.tape, hb.output, hb.size, fun i hi _ => hb.block i hi⟩
theorem Ready.below {w w' : World} (h : Ready w) (hb : Below w.heap.size w w') : Ready w' := h.grown (Bo hb none) (fun g e => by cases e)
theorem MY (s : ByteArray) (v : Int) (w : World) (hs : s.size ≤ 1000000) (h : Lib.atoiAll s.data.toList = .ok v) :
  Calls Tryz.prog 91 #[.string s] w fun e w' => e = .returned (.tuple #[.int .i64 v, .nilIface]) ∧ Below w.heap.size w w' := by
 refine (Tryz.strconv_Atoi_ok s (by omega) v h w).mono ?_;rintro e w' ⟨rfl, hw⟩;refine ⟨rfl, ?_⟩;rcases hw with rfl | ⟨t, rfl⟩
 ·exact Below.refl _ _
 ·exact Lib.bytesWorld_below w _ t
theorem KV (s : ByteArray) (w : World) (hR : Ready w) (hs : s.size ≤ 1000000) (h : ∀ v, Lib.atoiAll s.data.toList ≠ .ok v) :
  Calls Tryz.prog 91 #[.string s] w fun e w' => (∃ n t p, e = .returned (.tuple #[.int .i64 n, .iface t p])) ∧ Below w.heap.size w w' := by
 obtain ⟨_, ⟨t, p, h2⟩, ⟨u, q, h3⟩⟩ := hR;by_cases hr : Lib.atoiAll s.data.toList = .range
 ·refine (Tryz.strconv_Atoi_range s (by omega) hr _ w h3 (.inr ⟨u, q, rfl⟩)).mono ?_;rintro e w' ⟨N, rfl, _, _, hb⟩;exact ⟨⟨_, _, _, rfl⟩, hb⟩
 ·refine (Tryz.strconv_Atoi_syntax s (by omega) ⟨h, hr⟩ _ w h2 (.inr ⟨t, p, rfl⟩)).mono ?_;rintro e w' ⟨N, rfl, _, _, hb⟩;exact ⟨⟨_, _, _, rfl⟩, hb⟩
theorem RdS.below {w w' : World} {g : Nat} {r : Ar.RS} (h : RdS w g r) (hb : Below w.heap.size w w') : RdS w' g r := h.keep (Bo hb none) (by simp)
theorem Be (g : Nat) (r : Ar.RS) (w : World) (h : RdS w g r) (hl : r.1.length ≤ 1000000) (hRd : Ready w) :
  Calls Tryz.prog 137 #[.pointer (some ⟨g, 0, none⟩)] w fun e w' => e = .returned (.int .i64 (Ar.rnum r).1) ∧ RdS w' g (Ar.rnum r).2 ∧ w.grownBy w' (some g) := by
 have hc0 := h.c0;have HR := hid h;have HRY := hid hRd;have hb : (bstr r.1).size = r.1.length := Ab _;have HL : Hid ((bstr r.1).data.toList = r.1) := hid rfl;clear h hRd;obtain ⟨S, hS⟩ : ∃ S, bstr r.1 = S := ⟨_, rfl⟩;rw [hS] at hc0 HL hb;have hsz : S.size ≤ 1000000 := by omega
 have HSS := hid hS;have HAT : Hid (∀ k (h : k < S.size), S.data.toList[k]? = some S[k]) := hid (CS S);have HLE : Hid (S.data.toList.length = S.size) := hid (AI S).symm;have HEX : Hid (∀ k, k ≤ S.size → S.extract 0 k = bstr (S.data.toList.take k)) := hid (C7 S);have HED : Hid (∀ k, S.extract k S.size = bstr (S.data.toList.drop k)) := hid (BA S);clear hb hS;go_enter Tryz.func137, Tryz.ntmps137;go_wp2_with fail
 go_loop [3] (fun ix => ∃ k : Nat, k ≤ S.size ∧ ix = .int .i64 k ∧ Hid (∀ c ∈ S.data.toList.take k, Ar.numch c = true)) (fun ix => S.size - (RowKit.intOf ix).toNat)
 case atStart => exact ⟨0, Nat.zero_le _, rfl, hid (by simp)⟩
 case round =>
  obtain ⟨k, hk, rfl, hall⟩ := hrel;by_cases hgo : ∃ h : k < S.size, Ar.numch S[k] = true
  ·obtain ⟨hlt, haz⟩ := hgo;have HN := hid (Iq hall.out (HAT.out k hlt) haz);have hcc := of_decide_eq_true haz;have hc8 := (S[k]'hlt).toNat_lt;clear haz;by_cases h45 : (S[k]'hlt).toNat = 45
   ·have hz : (((S[k]'hlt).toNat : Int) == 45) = true := by rw [h45]; rfl
    clear hcc h45;go_wp2_with fail
    go_round
    case rel => exact ⟨k + 1, by omega, by go_num, HN⟩
    case measure => simp [RowKit.intOf]; omega
   ·have hz : (((S[k]'hlt).toNat : Int) == 45) = false := by rw [beq_eq_false_iff_ne]; omega
    have h1 : 48 ≤ (S[k]'hlt).toNat := by omega
    have h2 : (S[k]'hlt).toNat ≤ 57 := by omega
    clear hcc h45;go_wp2_with fail
    go_round
    case rel => exact ⟨k + 1, by omega, by go_num, HN⟩
    case measure => simp [RowKit.intOf]; omega
  ·have hst := Lk (p := Ar.numch) hall.out (fun c hc => by
    obtain ⟨h1, h2⟩ := List.getElem?_eq_some_iff.1 hc;have hlt : k < S.size := by rw [← HLE.out]; exact h1
    have h3 := HAT.out k hlt;rw [hc] at h3;injection h3 with h3;rw [h3]
    cases hz : Ar.numch S[k] with
    | false => rfl
    | true => exact absurd ⟨hlt, hz⟩ hgo)
   have HTW : Hid (r.1.takeWhile Ar.numch = S.data.toList.take k) := hid (by rw [← HL.out]; exact hst.1);have HDW : Hid (r.1.dropWhile Ar.numch = S.data.toList.drop k) := hid (by rw [← HL.out]; exact hst.2);have hex := HEX.out k hk;have hed := HED.out k
   have HTL : Hid ((bstr (S.data.toList.take k)).size ≤ 1000000) := hid (by
    rw [Ab];have : (S.data.toList.take k).length ≤ k := List.length_take_le _ _
    omega)
   clear hst;have hway : (k < S.size → (∃ h : k < S.size, (S[k]'h).toNat < 48 ∧ (S[k]'h).toNat ≠ 45) ∨ ∃ h : k < S.size, 57 < (S[k]'h).toNat) := fun hlt => by
    have hn : ¬ ((S[k]'hlt).toNat = 45 ∨ 48 ≤ (S[k]'hlt).toNat ∧ (S[k]'hlt).toNat ≤ 57) := fun h => hgo ⟨hlt, decide_eq_true h⟩
    by_cases h : (S[k]'hlt).toNat < 48
    ·exact .inl ⟨hlt, h, by omega⟩
    ·exact .inr ⟨hlt, by omega⟩
   have hthree : (∃ h : k < S.size, (S[k]'h).toNat < 48 ∧ (S[k]'h).toNat ≠ 45) ∨ (∃ h : k < S.size, 57 < (S[k]'h).toNat) ∨ k = S.size := by
    by_cases hlt : k < S.size
    ·rcases hway hlt with h | h
     ·exact .inl h
     ·exact .inr (.inl h)
    ·exact .inr (.inr (by omega))
   clear hway hgo;by_cases hok : ∃ v, Lib.atoiAll (S.data.toList.take k) = .ok v
   ·obtain ⟨v, ha⟩ := hok;have HEV : Hid (Ar.rnum r = (v, (S.data.toList.drop k, r.2))) := hid (by unfold Ar.rnum; rw [HTW.out, HDW.out, ha]);have HA := hid (fun w => MY (bstr (S.data.toList.take k)) v w HTL.out ha);clear ha;rcases hthree with ⟨hlt, hc1, hc2⟩ | ⟨hlt, hc1⟩ | rfl
    ·have hz : (((S[k]'hlt).toNat : Int) == 45) = false := by rw [beq_eq_false_iff_ne]; omega
     clear hc2;go_wp2_with fail;refine (HA.out _).mono ?_;rintro e w1 ⟨rfl, hb1⟩;have hr1 := HR.out.below hb1;have hg1 := Bo hb1 (some g);have hd0 := hr1.c0;have hf0 := hr1.f 0;have hd1 := hr1.c1;have hf1 := hr1.f 1;rw [HSS.out] at hd0;have HR1 := hid hr1;have HG1 := hid hg1;clear hr1 hg1;go_wp2_with fail;go_ret;exact ⟨Cq (by rw [HEV.out]), by rw [HEV.out]; exact HR1.out.set0 _, HG1.out.trans (Az _ _ _ _)⟩
    ·have hz : (((S[k]'hlt).toNat : Int) == 45) = false := by rw [beq_eq_false_iff_ne]; omega
     have hc3 : 48 ≤ (S[k]'hlt).toNat := by omega
     go_wp2_with fail;refine (HA.out _).mono ?_;rintro e w1 ⟨rfl, hb1⟩;have hr1 := HR.out.below hb1;have hg1 := Bo hb1 (some g);have hd0 := hr1.c0;have hf0 := hr1.f 0;have hd1 := hr1.c1;have hf1 := hr1.f 1;rw [HSS.out] at hd0;have HR1 := hid hr1;have HG1 := hid hg1;clear hr1 hg1;go_wp2_with fail;go_ret;exact ⟨Cq (by rw [HEV.out]), by rw [HEV.out]; exact HR1.out.set0 _, HG1.out.trans (Az _ _ _ _)⟩
    ·have HD0 : Hid (S.data.toList.drop S.size = []) := hid (List.drop_of_length_le (by rw [HLE.out]; exact Nat.le_refl _));go_wp2_with fail;refine (HA.out _).mono ?_;rintro e w1 ⟨rfl, hb1⟩;have hr1 := HR.out.below hb1;have hg1 := Bo hb1 (some g);have hd0 := hr1.c0;have hf0 := hr1.f 0;have hd1 := hr1.c1;have hf1 := hr1.f 1;rw [HSS.out] at hd0;have HR1 := hid hr1;have HG1 := hid hg1;clear hr1 hg1;go_wp2_with fail;go_ret;exact ⟨Cq (by rw [HEV.out]), by rw [HEV.out]; show RdS _ g (S.data.toList.drop S.size, r.2); rw [HD0.out]; exact HR1.out.set0 [], HG1.out.trans (Az _ _ _ _)⟩
   ·have HEV : Hid (Ar.rnum r = (0, (r.1, true))) := hid (by
     unfold Ar.rnum;rw [HTW.out, HDW.out]
     cases ha : Lib.atoiAll (S.data.toList.take k) with
     | ok v => exact absurd ⟨v, ha⟩ hok
     | _ => rfl)
    have HA := hid (fun w hw => KV (bstr (S.data.toList.take k)) w hw HTL.out (fun v hv => hok ⟨v, hv⟩));clear hok;rcases hthree with ⟨hlt, hc1, hc2⟩ | ⟨hlt, hc1⟩ | rfl
    ·have hz : (((S[k]'hlt).toNat : Int) == 45) = false := by rw [beq_eq_false_iff_ne]; omega
     clear hc2;go_wp2_with fail;refine (HA.out _ HRY.out).mono ?_;rintro e w1 ⟨⟨n0, t0, p0, rfl⟩, hb1⟩;have hr1 := HR.out.below hb1;have hg1 := Bo hb1 (some g);have hf0 := hr1.f 0;have hd1 := hr1.c1;have hf1 := hr1.f 1;have HR1 := hid hr1;have HG1 := hid hg1;clear hr1 hg1;go_wp2_with fail;go_ret;exact ⟨Cq (by rw [HEV.out]), by rw [HEV.out]; exact HR1.out.set1 true, HG1.out.trans (Az _ _ _ _)⟩
    ·have hz : (((S[k]'hlt).toNat : Int) == 45) = false := by rw [beq_eq_false_iff_ne]; omega
     have hc3 : 48 ≤ (S[k]'hlt).toNat := by omega
     go_wp2_with fail;refine (HA.out _ HRY.out).mono ?_;rintro e w1 ⟨⟨n0, t0, p0, rfl⟩, hb1⟩;have hr1 := HR.out.below hb1;have hg1 := Bo hb1 (some g);have hf0 := hr1.f 0;have hd1 := hr1.c1;have hf1 := hr1.f 1;have HR1 := hid hr1;have HG1 := hid hg1;clear hr1 hg1;go_wp2_with fail;go_ret;exact ⟨Cq (by rw [HEV.out]), by rw [HEV.out]; exact HR1.out.set1 true, HG1.out.trans (Az _ _ _ _)⟩
    ·go_wp2_with fail;refine (HA.out _ HRY.out).mono ?_;rintro e w1 ⟨⟨n0, t0, p0, rfl⟩, hb1⟩;have hr1 := HR.out.below hb1;have hg1 := Bo hb1 (some g);have hf0 := hr1.f 0;have hd1 := hr1.c1;have hf1 := hr1.f 1;have HR1 := hid hr1;have HG1 := hid hg1;clear hr1 hg1;go_wp2_with fail;go_ret;exact ⟨Cq (by rw [HEV.out]), by rw [HEV.out]; exact HR1.out.set1 true, HG1.out.trans (Az _ _ _ _)⟩
structure RowT (T e : TypeId) (size bytes : Nat) : Prop where
 und : Tryz.prog.underlying T = some (.slice e)
 info : ∃ z, (Tryz.prog.info? e).map (fun i => (i.zero, i.size, i.bytes)) = some (some z, size, bytes) ∧ z.cells.size = size
 pos : 0 < size
 small : bytes ≤ 1000
section
variable {ops : Array Oper} {rest : List Oper} {o : Oper} {a : Act} {Q : Exit → Act → World → Prop} {K : Act → World → Prop} {T e : TypeId} {size bytes : Nat}
theorem Io (hT : RowT T e size bytes) (ty : TypeId) (w : World) (v : Value) (n : Nat) (xs ys : List Value) (base : Nat) (hown : w.ownsRow base e size v n xs) (g m c : Nat) (hl : ys.length = m * size) (h1 : ∀ u ∈ ys, u.oneCell' = true)
  (hr : ∀ j u, ys[j]? = some u → w.cell? ⟨g, j, none⟩ = some u) (hbase : base ≤ w.heap.size) (hlen : n + m ≤ 100000000000) :
  ∃ v' w', (Builtin.append_ #[T, T] ty #[v, .slice (some ⟨g, 0, none⟩) m c]).run Tryz.prog w = .ok v' w' ∧ w'.ownsRow base e size v' (n + m) (xs ++ ys) ∧ w.grownBy w' v.ownBlock ∧ ∀ w0, Below base w0 w → Below base w0 w' := by
 obtain ⟨z, hi, hz⟩ := hT.info;obtain ⟨i, hu, zu0, zu1, zu2⟩ := Cf hi;have hbs : (n + m) * bytes ≤ 140737488355328 := by
  have := Nat.mul_le_mul hlen hT.small;omega
 obtain ⟨v', w', hrun, h2, h3, _, _⟩ := run_append_own_at (P := Tryz.prog) w base T ty e i z size bytes hT.und hu zu0 zu1 zu2 hz hT.pos v n xs hown ⟨g, 0, none⟩ m c ys hl
  (fun j u hu => by rw [show (⟨g, 0, none⟩ : Addr).add j = ⟨g, j, none⟩ from by rw [Addr.add_mid g 0 j, Nat.zero_add]]; exact hr j u hu) h1 (by unfold maxLen; omega) hbs hbase
 exact ⟨v', w', hrun, h2, h3, fun w0 hb => hb.grown h3 hbase (fun g hg => (hown.lt g hg).1)⟩
theorem Bt (hT : RowT T e size bytes) (hgd : o.guard = none) (s x : Operand) (ho : o.op = .call { callee := .builtin .append, args := #[s, x], argTypes := #[T, T] })
  (wr : World) (ys : List Value) (m : Nat) (hl : ys.length = m * size) (h1 : ∀ u ∈ ys, u.oneCell' = true) (v : Value) (n : Nat) (xs : List Value) (base : Nat) (hs : a.eval s = v) (hown : wr.ownsRow base e size v n xs)
  (hx : a.eval x = .slice (some ⟨wr.heap.size, 0, none⟩) m m) (hbase : base ≤ wr.heap.size) (hlen : n + m ≤ 100000000000)
  (h : ∀ v' w', w'.ownsRow base e size v' (n + m) (xs ++ ys) → (wr.alloc (.cells ys.toArray e)).grownBy w' v.ownBlock → (∀ w0, Below base w0 wr → Below base w0 w') → wpList Tryz.prog ops Q rest (a.put o.dst v') w') :
  wpList Tryz.prog ops Q (o :: rest) a (wr.alloc (.cells ys.toArray e)) := by
 refine wpList_plain hgd fun K hK => ?_
 obtain ⟨v', w', hrun, h2, h3, h4⟩ := Io hT o.type (wr.alloc (.cells ys.toArray e)) v n xs ys base (hown.alloc _) wr.heap.size m m hl h1 (fun j u hu => by rw [(Blk.new wr e ys.toArray).cell j, List.getElem?_toArray]; exact hu) (by simp; omega) hlen;unfold Oper.wp execOp;simp only [ho, resolve, invoke, builtin, Sem.run_bind, Sem.run_pure, Result.andThen_ok, List.map_toArray, List.map_cons, List.map_nil, hs, hx, hrun];exact hK _ _ (h v' w' h2 h3 fun w0 hb => h4 w0 (hb.alloc hbase _))
end
theorem Pe : RowT 29 3 1 8 := ⟨Tryz.underlying29, ⟨_, KC, rfl⟩, by decide, by decide⟩
theorem CD : RowT 30 9 1 16 := ⟨Tryz.underlying30, ⟨_, Le, rfl⟩, by decide, by decide⟩
theorem LD : (Tryz.prog.info? 77).map (fun i => (i.zero, i.size, i.bytes)) = some (some (.agg #[.string ByteArray.empty, .int .i64 0]), 2, 24) := by kernel_rfl
theorem If : (Tryz.prog.info? 211).map (fun i => (i.zero, i.size, i.bytes)) = some (some (.agg #[.int .i64 0, .int .i64 0]), 2, 16) := by kernel_rfl
theorem Kw : RowT 31 77 2 24 := ⟨Tryz.underlying31, ⟨_, LD, rfl⟩, by decide, by decide⟩
theorem MO : RowT 32 211 2 16 := ⟨Tryz.underlying32, ⟨_, If, rfl⟩, by decide, by decide⟩
def intL (l : List Int) : List Value := l.map fun n => .int .i64 n
def usrL (l : List (List UInt8 × Int)) : List Value := l.flatMap fun p => [.string (bstr p.1), .int .i64 p.2]
def kndL (l : List (Int × Int)) : List Value := l.flatMap fun p => [.int .i64 p.1, .int .i64 p.2]
theorem Fa (a b : List Int) : intL (a ++ b) = intL a ++ intL b := List.map_append
theorem Fq (a b : List (List UInt8 × Int)) : usrL (a ++ b) = usrL a ++ usrL b := List.flatMap_append
theorem Fk (a b : List (Int × Int)) : kndL (a ++ b) = kndL a ++ kndL b := List.flatMap_append
section
variable {α : Type} (one : Ar.RS → α × Ar.RS)
def tailL (xs : List α) (r : Ar.RS) : List α × Ar.RS := if (Ar.has [44] r).1 then (xs ++ (Ar.Au one ((Ar.has [44] r).2.1.length + 1) (Ar.has [44] r).2).1, (Ar.Au one ((Ar.has [44] r).2.1.length + 1) (Ar.has [44] r).2).2) else (xs, (Ar.has [44] r).2)
theorem Dr (h : ∀ r, (one r).2.1.length ≤ r.1.length) (r : Ar.RS) : Ar.Au one (r.1.length + 1) r = tailL one [(one r).1] (one r).2 := by
 unfold tailL;rw [Ar.Au];split
 ·rename_i hh;have h1 := (Ar.Dl [44] (one r).2).2 hh;have h2 := h r;simp only [List.length_cons, List.length_nil] at h1;rw [Ar.FN one h r.1.length ((Ar.has [44] (one r).2).2.1.length + 1) _ (by omega) (by omega)];rfl
 ·rfl
theorem FE (xs : List α) (r : Ar.RS) (h : (Ar.has [44] r).1 = false) : tailL one xs r = (xs, (Ar.has [44] r).2) := by
 unfold tailL;rw [if_neg (by rw [h]; decide)]
theorem EA (hlen : ∀ r, (one r).2.1.length ≤ r.1.length) (xs : List α) (r : Ar.RS) (h : (Ar.has [44] r).1 = true) : tailL one xs r = tailL one (xs ++ [(one (Ar.has [44] r).2).1]) (one (Ar.has [44] r).2).2 := by
 have h1 := Dr one hlen (Ar.has [44] r).2;rw [tailL, if_pos h, h1];unfold tailL;split
 ·simp
 ·rfl
end
def rdLen (w : World) (g : Nat) : Nat := match w.cell? ⟨g, 0, none⟩ with
 | some (.string s) => s.size
 | _ => 0
theorem Ba {w : World} {g : Nat} {r : Ar.RS} (h : RdS w g r) : rdLen w g = r.1.length := by unfold rdLen; rw [h.c0]; exact Ab _
theorem MT (l : List Int) : ∀ u ∈ intL l, u.oneCell' = true := by
 intro u hu;obtain ⟨c, _, rfl⟩ := List.mem_map.1 hu;rfl
theorem MQ (l : List (List UInt8 × Int)) : ∀ u ∈ usrL l, u.oneCell' = true := by
 intro u hu;unfold usrL at hu;rw [List.mem_flatMap] at hu;obtain ⟨p, _, hp⟩ := hu;simp only [List.mem_cons, List.not_mem_nil, or_false] at hp;rcases hp with rfl | rfl <;> rfl
theorem MU (l : List (Int × Int)) : ∀ u ∈ kndL l, u.oneCell' = true := by
 intro u hu;unfold kndL at hu;rw [List.mem_flatMap] at hu;obtain ⟨p, _, hp⟩ := hu;simp only [List.mem_cons, List.not_mem_nil, or_false] at hp;rcases hp with rfl | rfl <;> rfl
theorem Ku (g : Nat) (r : Ar.RS) (w : World) (h : RdS w g r) (hl : r.1.length ≤ 1000000) (hRd : Ready w) (hg3 : 3 ≤ g) :
  Calls Tryz.prog 199 #[.pointer (some ⟨g, 0, none⟩), .func (.func 137) #[.pointer (some ⟨g, 0, none⟩)] #[]] w fun e w' =>
   (∃ v, e = .returned v ∧ w'.ownsRow w.heap.size 3 1 v (Ar.Au Ar.rnum (r.1.length + 1) r).1.length (intL (Ar.Au Ar.rnum (r.1.length + 1) r).1)) ∧ RdS w' g (Ar.Au Ar.rnum (r.1.length + 1) r).2 ∧ w.grownBy w' (some g) := by
 have HF := hid (Dr Ar.rnum Ar.Bd r);have hlt := h.lt;have hol := Ar.Bd r;have HR0 := hid h;have HRY := hid hRd;clear h hRd;go_enter Tryz.func199, Tryz.ntmps199;go_wp2_with fail;refine (Be g r _ HR0.out hl HRY.out).mono ?_;rintro e w1 ⟨rfl, hr1, hg1⟩;have hs1 := hg1.size;have HR1 := hid hr1;have HG1 := hid hg1;have HOL : Hid ((w1.alloc (.cells (intL [(Ar.rnum r).1]).toArray 3)).ownsRow w.heap.size 3 1 (.slice (some ⟨w1.heap.size, 0, none⟩) 1 1) 1 (intL [(Ar.rnum r).1])) := hid (World.ownsRow_lit (base := w.heap.size) (e := 3) (size := 1) w1 (intL [(Ar.rnum r).1]).toArray 1 hs1 (by decide) rfl);clear hr1 hg1;go_wp2_with fail
 go_loopw [5] (fun out wr => ∃ (xs : List Int) (r1 : Ar.RS), Hid (Ar.Au Ar.rnum (r.1.length + 1) r = tailL Ar.rnum xs r1) ∧ wr.ownsRow w.heap.size 3 1 out xs.length (intL xs) ∧ RdS wr g r1 ∧ w.grownBy wr (some g) ∧ Ready wr ∧ r1.1.length + xs.length ≤ 1000001 ∧ 1 ≤ xs.length) (fun _ wr => rdLen wr g)
 case atStart =>
  have hga := HG1.out.andThen (World.grownBy_alloc w1 (.cells (intL [(Ar.rnum r).1]).toArray 3) none) (fun j e => by cases e);exact ⟨[(Ar.rnum r).1], (Ar.rnum r).2, HF, HOL.out, HR1.out.keep (World.grownBy_alloc w1 _ none) (by simp), hga, HRY.out.grown hga (fun j e => by injection e with e; omega), by simp; omega, by simp⟩
 case round =>
  obtain ⟨xs, r1, htl, ho, hr, hg, hry, hxl, hx1⟩ := hrel;have hrdl := Ba hr;have hne : u5.ownBlock ≠ some g := fun e => by have := (ho.lt g e).1; omega
  have HO := hid ho;have HR := hid hr;have HG := hid hg;have HRD := hid hry;have HN := hid hne;have HM := hid hrdl;have hgs := hg.size;clear ho hr hg hry hne hrdl;go_wp2_with fail;refine (FG g ⟨#[44]⟩ r1 _ HR.out (by omega)).mono ?_;rintro e w2 ⟨rfl, hr2, hg2⟩;rw [show (⟨#[44]⟩ : ByteArray).data.toList = [44] from rfl] at hr2 ⊢;have hg02 := HG.out.trans hg2;have ho2 := HO.out.kept hg2 (.inr HN.out);have hry2 := HRD.out.grown hg2 (fun j e => by injection e with e; omega);have hs2 := hg02.size
  cases hh : (Ar.has [44] r1).1 with
  | true =>
   have hl2 := (Ar.Dl [44] r1).2 hh;simp only [List.length_cons, List.length_nil] at hl2;have HT := hid (EA Ar.rnum Ar.Bd xs r1 hh);have h3l := Ar.Bd (Ar.has [44] r1).2;have HR2 := hid hr2;have HG2 := hid hg2;have HG02 := hid hg02;have HO2 := hid ho2;have HRY2 := hid hry2;clear hh hr2 hg2 hg02 ho2 hry2;generalize Ar.has [44] r1 = hv at *;go_wp2_with fail;refine (Be g hv.2 _ HR2.out (by omega) HRY2.out).mono ?_;rintro e w3 ⟨rfl, hr3, hg3'⟩;have hs3 := hg3'.size;have HO3 := hid (HO2.out.kept hg3' (.inr HN.out));have HG3 := hid (HG02.out.trans hg3');have HR3 := hid hr3;have HRY3 := hid (HRY2.out.grown hg3' (fun j e => by injection e with e; omega));clear hr3 hg3';go_wp2_with (at_builtin; refine Bt Pe rfl _ _ rfl w3 (intL [(Ar.rnum hv.2).1]) 1 rfl (MT _) u5 xs.length (intL xs) w.heap.size rfl HO3.out rfl (by omega) (by omega) ?_; intro v4 w4 ho4 hg4 hb4)
   go_roundw
   case rel =>
    have hga := (World.grownBy_alloc w3 (.cells (intL [(Ar.rnum hv.2).1]).toArray 3) u5.ownBlock).trans hg4;have hg04 := HG3.out.andThen hga (fun j e => .inl (HO3.out.lt j e).1);have hr4 := HR3.out.keep hga (fun e => HN.out e.symm);refine ⟨xs ++ [(Ar.rnum hv.2).1], (Ar.rnum hv.2).2, hid (htl.out.trans HT.out), ?_, hr4, hg04, HRY3.out.grown hga (fun j e => by have := (HO3.out.lt j e).1; omega), by rw [List.length_append]; simp; omega, by rw [List.length_append]; simp⟩;rw [List.length_append, Fa];exact ho4
   case measure =>
    have hga := (World.grownBy_alloc w3 (.cells (intL [(Ar.rnum hv.2).1]).toArray 3) u5.ownBlock).trans hg4;have hr4 := HR3.out.keep hga (fun e => HN.out e.symm);rw [Ba hr4, HM.out];omega
  | false =>
   have HT := hid (FE Ar.rnum xs r1 hh);have HR2 := hid hr2;have HG02 := hid hg02;have HO2 := hid ho2;clear hh hr2 hg2 hg02 ho2 hry2;go_wp2_with fail;go_ret;refine ⟨⟨_, rfl, ?_⟩, ?_, HG02.out⟩
   ·rw [htl.out, HT.out]; exact HO2.out
   ·rw [htl.out, HT.out]; exact HR2.out
theorem O8 (g : Nat) (r : Ar.RS) (w : World) (h : RdS w g r) (hl : r.1.length ≤ 1000000) (hRd : Ready w) (hg3 : 3 ≤ g) :
  Calls Tryz.prog 217 #[.pointer (some ⟨g, 0, none⟩), .func (.func 135) #[.pointer (some ⟨g, 0, none⟩)] #[]] w fun e w' =>
   (∃ v, e = .returned v ∧ w'.ownsRow w.heap.size 9 1 v (Ar.Au Ar.rtext (r.1.length + 1) r).1.length (strL (Ar.Au Ar.rtext (r.1.length + 1) r).1)) ∧ RdS w' g (Ar.Au Ar.rtext (r.1.length + 1) r).2 ∧ w.grownBy w' (some g) := by
 have HF := hid (Dr Ar.rtext Ar.BY r);have hlt := h.lt;have hol := Ar.BY r;have HR0 := hid h;have HRY := hid hRd;clear h hRd;go_enter Tryz.func217, Tryz.ntmps217;go_wp2_with fail;refine (Dp g r _ HR0.out hl).mono ?_;rintro e w1 ⟨rfl, hr1, hg1⟩;have hs1 := hg1.size;have HR1 := hid hr1;have HG1 := hid hg1;have HOL : Hid ((w1.alloc (.cells (strL [(Ar.rtext r).1]).toArray 9)).ownsRow w.heap.size 9 1 (.slice (some ⟨w1.heap.size, 0, none⟩) 1 1) 1 (strL [(Ar.rtext r).1])) := hid (World.ownsRow_lit (base := w.heap.size) (e := 9) (size := 1) w1 (strL [(Ar.rtext r).1]).toArray 1 hs1 (by decide) rfl);clear hr1 hg1;go_wp2_with fail
 go_loopw [5] (fun out wr => ∃ (xs : List (List UInt8)) (r1 : Ar.RS), Hid (Ar.Au Ar.rtext (r.1.length + 1) r = tailL Ar.rtext xs r1) ∧ wr.ownsRow w.heap.size 9 1 out xs.length (strL xs) ∧ RdS wr g r1 ∧ w.grownBy wr (some g) ∧ Ready wr ∧ r1.1.length + xs.length ≤ 1000001 ∧ 1 ≤ xs.length) (fun _ wr => rdLen wr g)
 case atStart =>
  have hga := HG1.out.andThen (World.grownBy_alloc w1 (.cells (strL [(Ar.rtext r).1]).toArray 9) none) (fun j e => by cases e);exact ⟨[(Ar.rtext r).1], (Ar.rtext r).2, HF, HOL.out, HR1.out.keep (World.grownBy_alloc w1 _ none) (by simp), hga, HRY.out.grown hga (fun j e => by injection e with e; omega), by simp; omega, by simp⟩
 case round =>
  obtain ⟨xs, r1, htl, ho, hr, hg, hry, hxl, hx1⟩ := hrel;have hrdl := Ba hr;have hne : u5.ownBlock ≠ some g := fun e => by have := (ho.lt g e).1; omega
  have HO := hid ho;have HR := hid hr;have HG := hid hg;have HRD := hid hry;have HN := hid hne;have HM := hid hrdl;have hgs := hg.size;clear ho hr hg hry hne hrdl;go_wp2_with fail;refine (FG g ⟨#[44]⟩ r1 _ HR.out (by omega)).mono ?_;rintro e w2 ⟨rfl, hr2, hg2⟩;rw [show (⟨#[44]⟩ : ByteArray).data.toList = [44] from rfl] at hr2 ⊢;have hg02 := HG.out.trans hg2;have ho2 := HO.out.kept hg2 (.inr HN.out);have hry2 := HRD.out.grown hg2 (fun j e => by injection e with e; omega);have hs2 := hg02.size
  cases hh : (Ar.has [44] r1).1 with
  | true =>
   have hl2 := (Ar.Dl [44] r1).2 hh;simp only [List.length_cons, List.length_nil] at hl2;have HT := hid (EA Ar.rtext Ar.BY xs r1 hh);have h3l := Ar.BY (Ar.has [44] r1).2;have HR2 := hid hr2;have HG2 := hid hg2;have HG02 := hid hg02;have HO2 := hid ho2;have HRY2 := hid hry2;clear hh hr2 hg2 hg02 ho2 hry2;generalize Ar.has [44] r1 = hv at *;go_wp2_with fail;refine (Dp g hv.2 _ HR2.out (by omega)).mono ?_;rintro e w3 ⟨rfl, hr3, hg3'⟩;have hs3 := hg3'.size;have HO3 := hid (HO2.out.kept hg3' (.inr HN.out));have HG3 := hid (HG02.out.trans hg3');have HR3 := hid hr3;have HRY3 := hid (HRY2.out.grown hg3' (fun j e => by injection e with e; omega));clear hr3 hg3';go_wp2_with (at_builtin; refine Bt CD rfl _ _ rfl w3 (strL [(Ar.rtext hv.2).1]) 1 rfl (Bx _) u5 xs.length (strL xs) w.heap.size rfl HO3.out rfl (by omega) (by omega) ?_; intro v4 w4 ho4 hg4 hb4)
   go_roundw
   case rel =>
    have hga := (World.grownBy_alloc w3 (.cells (strL [(Ar.rtext hv.2).1]).toArray 9) u5.ownBlock).trans hg4;have hg04 := HG3.out.andThen hga (fun j e => .inl (HO3.out.lt j e).1);have hr4 := HR3.out.keep hga (fun e => HN.out e.symm);refine ⟨xs ++ [(Ar.rtext hv.2).1], (Ar.rtext hv.2).2, hid (htl.out.trans HT.out), ?_, hr4, hg04, HRY3.out.grown hga (fun j e => by have := (HO3.out.lt j e).1; omega), by rw [List.length_append]; simp; omega, by rw [List.length_append]; simp⟩;rw [List.length_append, AJ];exact ho4
   case measure =>
    have hga := (World.grownBy_alloc w3 (.cells (strL [(Ar.rtext hv.2).1]).toArray 9) u5.ownBlock).trans hg4;have hr4 := HR3.out.keep hga (fun e => HN.out e.symm);rw [Ba hr4, HM.out];omega
  | false =>
   have HT := hid (FE Ar.rtext xs r1 hh);have HR2 := hid hr2;have HG02 := hid hg02;have HO2 := hid ho2;clear hh hr2 hg2 hg02 ho2 hry2;go_wp2_with fail;go_ret;refine ⟨⟨_, rfl, ?_⟩, ?_, HG02.out⟩
   ·rw [htl.out, HT.out]; exact HO2.out
   ·rw [htl.out, HT.out]; exact HR2.out
end Go.Proofs.YteadlcncnhbmjaaGreatDoor
