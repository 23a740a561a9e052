/- The texts W6, Zj, Zk of this proof, one behind the other. -/
import Derived.Test.YtchkiegehejfmaaGreatDoorMsax
import Derived.Test.YtchkiegehejfmaaGreatDoorMsbf
import Derived.Test.YtchkiegehejfmaaGreatDoorMsas
import Derived.Test.YtchkiegehejfmaaGreatDoorMsaj
import Derived.Test.YtchkiegehejfmaaGreatDoorMsaf
set_option linter.unusedSimpArgs false
set_option maxHeartbeats 16000000
set_option maxRecDepth 100000
set_option linter.unusedVariables false
namespace Pr
open Go
def wakeT : Str := [114, 117, 108, 101, 32, 97, 32, 119, 104, 101, 110, 32, 107, 105, 110, 100, 32, 109, 101, 115, 115, 97, 103, 101, 32, 97, 110, 100, 32, 40, 109, 101, 110, 116, 105, 111, 110, 32, 111, 114, 32, 110, 111, 116, 32, 108, 101, 118, 101, 108, 32, 53, 48, 41, 32, 100, 111, 32, 110, 111, 116, 105, 102, 121]
def wakeN : Str := [114, 117, 108, 101, 32, 97, 32, 119, 104, 101, 110, 32, 107, 105, 110, 100, 32, 109, 101, 115, 115, 97, 103, 101, 32, 97, 110, 100, 32, 40, 109, 101, 110, 116, 105, 111, 110, 32, 111, 114, 32, 110, 111, 116, 32, 108, 101, 118, 101, 108, 32, 53, 48, 41, 32, 100, 111, 32, 110, 111, 116, 105, 102, 121, 10]
def wake2T : Str := [35, 32, 120, 10, 114, 117, 108, 101, 32, 97, 32, 119, 104, 101, 110, 32, 102, 114, 111, 109, 32, 120, 32, 100, 111, 32, 110, 111, 116, 105, 102, 121]
def wakeC : Cn := .mk 2 [] 0 [.mk 5 [] 11 [], .mk 3 [] 0 [.mk 13 [] 0 [], .mk 4 [] 0 [.mk 10 [] 50 []]]]
def wakeR : Rl := ⟨[97], wakeC, [notifyW]⟩
def usHead : Str := [114, 117, 108, 101, 32, 114, 101, 100, 97, 99, 116, 101, 100, 32, 119, 104, 101, 110, 32, 103, 111, 110, 101, 32, 100, 111, 32, 109, 117, 116, 101, 10, 114, 117, 108, 101, 32, 101, 100, 105, 116, 115, 32, 119, 104, 101, 110, 32, 101, 100, 105, 116, 32, 100, 111, 32, 109, 117, 116, 101, 10, 114, 117, 108, 101, 32, 109, 101, 110, 116, 105, 111, 110, 32, 119, 104, 101, 110, 32, 109, 101, 110, 116, 105, 111, 110, 32, 100, 111, 32, 110, 111, 116, 105, 102, 121, 44, 32, 104, 105, 103, 104, 108, 105, 103, 104, 116, 44, 32, 99, 111, 117, 110, 116, 44, 32, 115, 111, 117, 110, 100, 61, 112, 105, 110, 103, 10, 114, 117, 108, 101, 32, 114, 101, 112, 108, 105, 101, 115, 32, 119, 104, 101, 110, 32, 114, 101, 112, 108, 121, 32, 111, 114, 32, 116, 104, 114, 101, 97, 100, 32, 100, 111, 32, 110, 111, 116, 105, 102, 121, 44, 32, 104, 105, 103, 104, 108, 105, 103, 104, 116, 44, 32, 99, 111, 117, 110, 116, 10, 114, 117, 108, 101, 32, 115, 109, 97, 108, 108, 45, 114, 111, 111, 109, 115, 32, 119, 104, 101, 110, 32, 107, 105, 110, 100, 32, 109, 101, 115, 115, 97, 103, 101, 32, 97, 110, 100, 32, 110, 111, 116, 32, 109, 101, 109, 98, 101, 114, 115, 32, 51, 32, 100, 111, 32, 110, 111, 116, 105, 102, 121, 44, 32, 99, 111, 117, 110, 116, 44, 32, 115, 111, 117, 110, 100, 61, 100, 105, 110, 103, 10, 114, 117, 108, 101, 32, 97, 116, 45, 104, 111, 109, 101, 32, 119, 104, 101, 110, 32, 107, 105, 110, 100, 32, 109, 101, 115, 115, 97, 103, 101, 32, 97, 110, 100, 32, 102, 114, 111, 109, 32, 34, 42, 58]
def usTail : Str := [34, 32, 100, 111, 32, 110, 111, 116, 105, 102, 121, 44, 32, 99, 111, 117, 110, 116, 10, 114, 117, 108, 101, 32, 109, 101, 115, 115, 97, 103, 101, 115, 32, 119, 104, 101, 110, 32, 107, 105, 110, 100, 32, 109, 101, 115, 115, 97, 103, 101, 32, 100, 111, 32, 99, 111, 117, 110, 116, 10, 114, 117, 108, 101, 32, 114, 101, 115, 116, 32, 119, 104, 101, 110, 32, 97, 108, 119, 97, 121, 115, 32, 100, 111, 32, 109, 117, 116, 101, 10]
def usualT (user : Str) : Str := usHead ++ (serverOf user ++ usTail)
def usualP (user : Str) : List Rl := if userE user ≠ 0 then [] else (parseP (usualT user)).1
def annT : Str := [64, 97, 110, 110, 58, 97]
theorem wake_parse : parseP wakeT = ([wakeR], 0, 0) := by kernel_rfl
theorem wake_print : printP [wakeR] = (wakeN, 0) := by kernel_rfl
theorem wake2_parse : parseP wake2T = ([], 2, 10) := by kernel_rfl
theorem ann_usual : (usualP annT).length = 8 := by kernel_rfl
theorem wake_check : checkE [wakeR] = 0 := by kernel_rfl
end Pr
namespace Pr
theorem take_snoc {s : Str} {k : Nat} {c : UInt8} (h : s[k]? = some c) : s.take (k + 1) = s.take k ++ [c] := by
 obtain ⟨h1, h2⟩ := List.getElem?_eq_some_iff.1 h;rw [List.take_succ_eq_append_getElem h1, h2]
end Pr
namespace Go.Proofs.YtchkiegehejfmaaGreatDoor
open Go.RowKit Go.Lib
theorem BN (n : Nat) (w : World) : Calls Tryz.prog 150 #[.int .u8 (n : Int)] w fun e w' => e = .returned (.bool (Pr.letterN n)) ∧ w = w' := by
 by_cases ha : 97 ≤ n
 ·by_cases hb : n ≤ 122
  ·have hx : ¬ n ≤ 57 := by omega
   have e : Pr.letterN n = true := by unfold Pr.letterN; rw [decide_eq_true (p := 97 ≤ n) (by omega), decide_eq_true (p := n ≤ 122) (by omega), decide_eq_true (p := 48 ≤ n) (by omega), decide_eq_false (p := n ≤ 57) (by omega)]; rfl
   rw [e];clear e;have qa : decide ((97 : Int) ≤ (n : Int)) = true := decide_eq_true (by omega);have qb : decide ((n : Int) ≤ 122) = true := decide_eq_true (by omega);have qc : decide ((48 : Int) ≤ (n : Int)) = true := decide_eq_true (by omega);have qd : decide ((n : Int) ≤ 57) = false := decide_eq_false (by omega);go_enter Tryz.func150, Tryz.ntmps150;go_wp2_with fail;go_ret;exact ⟨rfl, rfl⟩
  ·have hx : ¬ n ≤ 57 := by omega
   have e : Pr.letterN n = false := by unfold Pr.letterN; rw [decide_eq_true (p := 97 ≤ n) (by omega), decide_eq_false (p := n ≤ 122) (by omega), decide_eq_true (p := 48 ≤ n) (by omega), decide_eq_false (p := n ≤ 57) (by omega)]; rfl
   rw [e];clear e;have qa : decide ((97 : Int) ≤ (n : Int)) = true := decide_eq_true (by omega);have qb : decide ((n : Int) ≤ 122) = false := decide_eq_false (by omega);have qc : decide ((48 : Int) ≤ (n : Int)) = true := decide_eq_true (by omega);have qd : decide ((n : Int) ≤ 57) = false := decide_eq_false (by omega);go_enter Tryz.func150, Tryz.ntmps150;go_wp2_with fail;go_ret;exact ⟨rfl, rfl⟩
 ·have hx : n ≤ 122 := by omega
  by_cases hc : 48 ≤ n
  ·by_cases hd : n ≤ 57
   ·have e : Pr.letterN n = true := by unfold Pr.letterN; rw [decide_eq_false (p := 97 ≤ n) (by omega), decide_eq_true (p := n ≤ 122) (by omega), decide_eq_true (p := 48 ≤ n) (by omega), decide_eq_true (p := n ≤ 57) (by omega)]; rfl
    rw [e];clear e;have qa : decide ((97 : Int) ≤ (n : Int)) = false := decide_eq_false (by omega);have qb : decide ((n : Int) ≤ 122) = true := decide_eq_true (by omega);have qc : decide ((48 : Int) ≤ (n : Int)) = true := decide_eq_true (by omega);have qd : decide ((n : Int) ≤ 57) = true := decide_eq_true (by omega);go_enter Tryz.func150, Tryz.ntmps150;go_wp2_with fail;go_ret;exact ⟨rfl, rfl⟩
   ·have e : Pr.letterN n = false := by unfold Pr.letterN; rw [decide_eq_false (p := 97 ≤ n) (by omega), decide_eq_true (p := n ≤ 122) (by omega), decide_eq_true (p := 48 ≤ n) (by omega), decide_eq_false (p := n ≤ 57) (by omega)]; rfl
    rw [e];clear e;have qa : decide ((97 : Int) ≤ (n : Int)) = false := decide_eq_false (by omega);have qb : decide ((n : Int) ≤ 122) = true := decide_eq_true (by omega);have qc : decide ((48 : Int) ≤ (n : Int)) = true := decide_eq_true (by omega);have qd : decide ((n : Int) ≤ 57) = false := decide_eq_false (by omega);go_enter Tryz.func150, Tryz.ntmps150;go_wp2_with fail;go_ret;exact ⟨rfl, rfl⟩
  ·have e : Pr.letterN n = false := by unfold Pr.letterN; rw [decide_eq_false (p := 97 ≤ n) (by omega), decide_eq_true (p := n ≤ 122) (by omega), decide_eq_false (p := 48 ≤ n) (by omega), decide_eq_true (p := n ≤ 57) (by omega)]; rfl
   rw [e];clear e;have qa : decide ((97 : Int) ≤ (n : Int)) = false := decide_eq_false (by omega);have qb : decide ((n : Int) ≤ 122) = true := decide_eq_true (by omega);have qc : decide ((48 : Int) ≤ (n : Int)) = false := decide_eq_false (by omega);have qd : decide ((n : Int) ≤ 57) = true := decide_eq_true (by omega);go_enter Tryz.func150, Tryz.ntmps150;go_wp2_with fail;go_ret;exact ⟨rfl, rfl⟩
theorem Hd (n : Nat) (w : World) : Calls Tryz.prog 148 #[.int .u8 (n : Int)] w fun e w' => e = .returned (.bool (Pr.locN n)) ∧ w = w' := by
 by_cases h95 : n = 95
 ·subst h95;rw [show Pr.locN 95 = true from rfl];go_enter Tryz.func148, Tryz.ntmps148;go_wp2_with fail;go_ret;exact ⟨rfl, rfl⟩
 by_cases h46 : n = 46
 ·subst h46;rw [show Pr.locN 46 = true from rfl];go_enter Tryz.func148, Tryz.ntmps148;go_wp2_with fail;go_ret;exact ⟨rfl, rfl⟩
 by_cases h45 : n = 45
 ·subst h45;rw [show Pr.locN 45 = true from rfl];go_enter Tryz.func148, Tryz.ntmps148;go_wp2_with fail;go_ret;exact ⟨rfl, rfl⟩
 by_cases h61 : n = 61
 ·subst h61;rw [show Pr.locN 61 = true from rfl];go_enter Tryz.func148, Tryz.ntmps148;go_wp2_with fail;go_ret;exact ⟨rfl, rfl⟩
 have e : Pr.locN n = false := by unfold Pr.locN; simp [h95, h46, h45, h61]
 have d95 : ((n : Int) == 95) = false := by rw [beq_eq_false_iff_ne]; omega
 have d46 : ((n : Int) == 46) = false := by rw [beq_eq_false_iff_ne]; omega
 have d45 : ((n : Int) == 45) = false := by rw [beq_eq_false_iff_ne]; omega
 have d61 : ((n : Int) == 61) = false := by rw [beq_eq_false_iff_ne]; omega
 rw [e];clear e h95 h46 h45 h61;go_enter Tryz.func148, Tryz.ntmps148;go_wp2_with fail;go_ret;exact ⟨rfl, rfl⟩
theorem GU (n : Nat) (w : World) : Calls Tryz.prog 149 #[.int .u8 (n : Int)] w fun e w' => e = .returned (.bool (Pr.srvN n)) ∧ w = w' := by
 by_cases h46 : n = 46
 ·subst h46;rw [show Pr.srvN 46 = true from rfl];go_enter Tryz.func149, Tryz.ntmps149;go_wp2_with fail;go_ret;exact ⟨rfl, rfl⟩
 by_cases h45 : n = 45
 ·subst h45;rw [show Pr.srvN 45 = true from rfl];go_enter Tryz.func149, Tryz.ntmps149;go_wp2_with fail;go_ret;exact ⟨rfl, rfl⟩
 have e : Pr.srvN n = false := by unfold Pr.srvN; simp [h46, h45]
 have d46 : ((n : Int) == 46) = false := by rw [beq_eq_false_iff_ne]; omega
 have d45 : ((n : Int) == 45) = false := by rw [beq_eq_false_iff_ne]; omega
 rw [e];clear e h46 h45;go_enter Tryz.func149, Tryz.ntmps149;go_wp2_with fail;go_ret;exact ⟨rfl, rfl⟩
theorem F3 (S : ByteArray) (w : World) (hs : S.size ≤ 1000000) : Calls Tryz.prog 147 #[.string S, .func (.func 148) #[] #[]] w fun e w' => e = .returned (.bool (Pr.validL Pr.locN S.data.toList)) ∧ w = w' := by
 have HAT := hid (AN S);have hsz : S.data.toList.length = S.size := (Am S).symm;have HO := hid (fun n W => Hd n W);have HLE := hid (fun n W => BN n W);generalize hLL : S.data.toList = L at *;clear hLL;by_cases h1 : S.size < 1
 ·have e : Pr.validL Pr.locN L = false := by unfold Pr.validL; rw [decide_eq_false (by omega)]; rfl
  rw [e];have hq : S.size = 0 := by omega
  clear e;go_enter Tryz.func147, Tryz.ntmps147;go_wp2_with fail;go_ret;exact ⟨rfl, rfl⟩
 by_cases h2 : 32 < S.size
 ·have e : Pr.validL Pr.locN L = false := by unfold Pr.validL; rw [decide_eq_false (p := L.length ≤ 32) (by omega)]; simp
  rw [e];clear e;go_enter Tryz.func147, Tryz.ntmps147;go_wp2_with fail;go_ret;exact ⟨rfl, rfl⟩
 have e : Pr.validL Pr.locN L = L.all fun c => Pr.letterN c.toNat || Pr.locN c.toNat := by unfold Pr.validL; rw [decide_eq_true (p := 1 ≤ L.length) (by omega), decide_eq_true (p := L.length ≤ 32) (by omega)]; rfl
 rw [e];clear e;obtain ⟨p, hp⟩ : ∃ p : UInt8 → Bool, (fun c : UInt8 => Pr.letterN c.toNat || Pr.locN c.toNat) = p := ⟨_, rfl⟩;rw [hp];obtain ⟨R, hR⟩ : ∃ R, L.all p = R := ⟨_, rfl⟩;rw [hR];have HR := hid hR;have HP : Hid (∀ c, p c = (Pr.letterN c.toNat || Pr.locN c.toNat)) := hid (fun c => by rw [← hp]);clear hR hp;go_enter Tryz.func147, Tryz.ntmps147;go_wp2_with fail
 go_loopw [16] (fun ix wr => ∃ k : Nat, k ≤ S.size ∧ ix = .int .i64 k ∧ w = wr ∧ Hid (∀ c ∈ L.take k, p c = true)) (fun ix _ => S.size - (RowKit.intOf ix).toNat)
 case atStart => exact ⟨0, Nat.zero_le _, rfl, rfl, hid (fun c h => by simp at h)⟩
 case round =>
  obtain ⟨k, hk, rfl, rfl, hall⟩ := hrel;by_cases hlt : k < S.size
  ·have hch := HP.out S[k]
   have HN0 : Hid (p S[k] = true → Hid (∀ c ∈ L.take (k + 1), p c = true)) := hid (fun hn => hid fun c hc => by
    rw [Pr.take_snoc (HAT.out k hlt)] at hc;rcases List.mem_append.1 hc with hc | hc
    ·exact hall.out c hc
    ·rw [List.mem_singleton.1 hc]; exact hn)
   have HF0 : Hid (p S[k] = false → R = false) := hid (fun hn => by rw [← HR.out]; exact Pr.all_fail (HAT.out k hlt) hn);have HL := hid (HLE.out (S[k]).toNat);have HJ := hid (HO.out (S[k]).toNat);have hc2 := (S[k]).toNat_lt;rcases Bool.eq_false_or_eq_true (Pr.letterN (S[k]).toNat) with hl | hl
   ·have HN := HN0.out (by rw [hch, hl]; rfl);rw [hl] at HL;clear hch hl;go_wp2_with (go_at_call 150; refine (HL.out _).mono ?_; rintro e w2 ⟨rfl, rfl⟩)
    go_roundw
    case rel => exact ⟨k + 1, by omega, by go_num, by trivial, HN⟩
    case measure => simp [RowKit.intOf]; omega
   ·rw [hl] at HL;rcases Bool.eq_false_or_eq_true (Pr.locN (S[k]).toNat) with hj | hj
    ·have HN := HN0.out (by rw [hch, hj]; simp);rw [hj] at HJ;clear hch hl hj;go_wp2_with (go_at_call 150; refine (HL.out _).mono ?_; rintro e w2 ⟨rfl, rfl⟩);refine (HJ.out _).mono ?_;rintro e w2 ⟨rfl, rfl⟩;go_wp2_with fail
     go_roundw
     case rel => exact ⟨k + 1, by omega, by go_num, by trivial, HN⟩
     case measure => simp [RowKit.intOf]; omega
    ·have HF := hid (HF0.out (by rw [hch, hl, hj]; rfl));rw [hj] at HJ;clear hch hl hj;go_wp2_with (go_at_call 150; refine (HL.out _).mono ?_; rintro e w2 ⟨rfl, rfl⟩);refine (HJ.out _).mono ?_;rintro e w2 ⟨rfl, rfl⟩;go_wp2_with fail;go_ret;exact ⟨congrArg (fun b => Ending.returned (.bool b)) HF.out.symm, by trivial⟩
  ·obtain rfl : k = S.size := by omega
   have HE : Hid (R = true) := hid (by rw [← HR.out]; exact Pr.all_done (by rw [hsz]; exact hall.out));go_wp2_with fail;go_ret;exact ⟨congrArg (fun b => Ending.returned (.bool b)) HE.out.symm, by trivial⟩
theorem GE (S : ByteArray) (w : World) (hs : S.size ≤ 1000000) : Calls Tryz.prog 147 #[.string S, .func (.func 149) #[] #[]] w fun e w' => e = .returned (.bool (Pr.validL Pr.srvN S.data.toList)) ∧ w = w' := by
 have HAT := hid (AN S);have hsz : S.data.toList.length = S.size := (Am S).symm;have HO := hid (fun n W => GU n W);have HLE := hid (fun n W => BN n W);generalize hLL : S.data.toList = L at *;clear hLL;by_cases h1 : S.size < 1
 ·have e : Pr.validL Pr.srvN L = false := by unfold Pr.validL; rw [decide_eq_false (by omega)]; rfl
  rw [e];have hq : S.size = 0 := by omega
  clear e;go_enter Tryz.func147, Tryz.ntmps147;go_wp2_with fail;go_ret;exact ⟨rfl, rfl⟩
 by_cases h2 : 32 < S.size
 ·have e : Pr.validL Pr.srvN L = false := by unfold Pr.validL; rw [decide_eq_false (p := L.length ≤ 32) (by omega)]; simp
  rw [e];clear e;go_enter Tryz.func147, Tryz.ntmps147;go_wp2_with fail;go_ret;exact ⟨rfl, rfl⟩
 have e : Pr.validL Pr.srvN L = L.all fun c => Pr.letterN c.toNat || Pr.srvN c.toNat := by unfold Pr.validL; rw [decide_eq_true (p := 1 ≤ L.length) (by omega), decide_eq_true (p := L.length ≤ 32) (by omega)]; rfl
 rw [e];clear e;obtain ⟨p, hp⟩ : ∃ p : UInt8 → Bool, (fun c : UInt8 => Pr.letterN c.toNat || Pr.srvN c.toNat) = p := ⟨_, rfl⟩;rw [hp];obtain ⟨R, hR⟩ : ∃ R, L.all p = R := ⟨_, rfl⟩;rw [hR];have HR := hid hR;have HP : Hid (∀ c, p c = (Pr.letterN c.toNat || Pr.srvN c.toNat)) := hid (fun c => by rw [← hp]);clear hR hp;go_enter Tryz.func147, Tryz.ntmps147;go_wp2_with fail
 go_loopw [16] (fun ix wr => ∃ k : Nat, k ≤ S.size ∧ ix = .int .i64 k ∧ w = wr ∧ Hid (∀ c ∈ L.take k, p c = true)) (fun ix _ => S.size - (RowKit.intOf ix).toNat)
 case atStart => exact ⟨0, Nat.zero_le _, rfl, rfl, hid (fun c h => by simp at h)⟩
 case round =>
  obtain ⟨k, hk, rfl, rfl, hall⟩ := hrel;by_cases hlt : k < S.size
  ·have hch := HP.out S[k]
   have HN0 : Hid (p S[k] = true → Hid (∀ c ∈ L.take (k + 1), p c = true)) := hid (fun hn => hid fun c hc => by
    rw [Pr.take_snoc (HAT.out k hlt)] at hc;rcases List.mem_append.1 hc with hc | hc
    ·exact hall.out c hc
    ·rw [List.mem_singleton.1 hc]; exact hn)
   have HF0 : Hid (p S[k] = false → R = false) := hid (fun hn => by rw [← HR.out]; exact Pr.all_fail (HAT.out k hlt) hn);have HL := hid (HLE.out (S[k]).toNat);have HJ := hid (HO.out (S[k]).toNat);have hc2 := (S[k]).toNat_lt;rcases Bool.eq_false_or_eq_true (Pr.letterN (S[k]).toNat) with hl | hl
   ·have HN := HN0.out (by rw [hch, hl]; rfl);rw [hl] at HL;clear hch hl;go_wp2_with (go_at_call 150; refine (HL.out _).mono ?_; rintro e w2 ⟨rfl, rfl⟩)
    go_roundw
    case rel => exact ⟨k + 1, by omega, by go_num, by trivial, HN⟩
    case measure => simp [RowKit.intOf]; omega
   ·rw [hl] at HL;rcases Bool.eq_false_or_eq_true (Pr.srvN (S[k]).toNat) with hj | hj
    ·have HN := HN0.out (by rw [hch, hj]; simp);rw [hj] at HJ;clear hch hl hj;go_wp2_with (go_at_call 150; refine (HL.out _).mono ?_; rintro e w2 ⟨rfl, rfl⟩);refine (HJ.out _).mono ?_;rintro e w2 ⟨rfl, rfl⟩;go_wp2_with fail
     go_roundw
     case rel => exact ⟨k + 1, by omega, by go_num, by trivial, HN⟩
     case measure => simp [RowKit.intOf]; omega
    ·have HF := hid (HF0.out (by rw [hch, hl, hj]; rfl));rw [hj] at HJ;clear hch hl hj;go_wp2_with (go_at_call 150; refine (HL.out _).mono ?_; rintro e w2 ⟨rfl, rfl⟩);refine (HJ.out _).mono ?_;rintro e w2 ⟨rfl, rfl⟩;go_wp2_with fail;go_ret;exact ⟨congrArg (fun b => Ending.returned (.bool b)) HF.out.symm, by trivial⟩
  ·obtain rfl : k = S.size := by omega
   have HE : Hid (R = true) := hid (by rw [← HR.out]; exact Pr.all_done (by rw [hsz]; exact hall.out));go_wp2_with fail;go_ret;exact ⟨congrArg (fun b => Ending.returned (.bool b)) HE.out.symm, by trivial⟩
theorem FV (S : ByteArray) (w : World) (hs : S.size ≤ 1000000) : Calls Tryz.prog 119 #[.string S] w fun e w' => e = .returned (.bool (Pr.localL S.data.toList)) ∧ w = w' := by
 have HV := hid (F3 S w hs);unfold Pr.localL;go_enter Tryz.func119, Tryz.ntmps119;go_wp2_with (go_at_call 147; refine HV.out.mono ?_; rintro e w2 ⟨rfl, rfl⟩);go_ret;exact ⟨rfl, rfl⟩
theorem EY (S : ByteArray) (w : World) (hs : S.size ≤ 1000000) : Calls Tryz.prog 120 #[.string S] w fun e w' => e = .returned (.bool (Pr.serverL S.data.toList)) ∧ w = w' := by
 have HV := hid (GE S w hs);have hsz : S.data.toList.length = S.size := (Am S).symm;obtain ⟨B, hB⟩ : ∃ B, Pr.validL Pr.srvN S.data.toList = B := ⟨_, rfl⟩;rw [hB] at HV;cases B
 ·have e : Pr.serverL S.data.toList = false := by unfold Pr.serverL; rw [hB]; rfl
  rw [e];clear e hB;go_enter Tryz.func120, Tryz.ntmps120;go_wp2_with (go_at_call 147; refine HV.out.mono ?_; rintro e w2 ⟨rfl, rfl⟩);go_ret;exact ⟨rfl, rfl⟩
 ·have h1 : 1 ≤ S.size := by
   unfold Pr.validL at hB;rw [Bool.and_eq_true, decide_eq_true_eq] at hB;omega
  have hf : S.data.toList.headD 0 = S[0] := by
   have h0 := AN S 0 (by omega)
   cases hl : S.data.toList with
   | nil => rw [hl] at h0; cases h0
   | cons c r => rw [hl] at h0; injection h0
  have hg : S.data.toList.getLastD 0 = S[S.size - 1] := by
   have h0 := AN S (S.size - 1) (by omega);rw [List.getLastD_eq_getLast?, List.getLast?_eq_getElem?, hsz, h0];rfl
  have e : Pr.serverL S.data.toList = (Pr.letterN (S[0]).toNat && Pr.letterN (S[S.size - 1]).toNat) := by unfold Pr.serverL; rw [hB, hf, hg]; rfl
  rw [e];clear e hB hf hg;have HL0 := hid (BN (S[0]).toNat);have HL1 := hid (BN (S[S.size - 1]).toNat);have hlast : S.size - 1 < S.size := by omega
  generalize hn0 : (S[0]).toNat = n0 at *;generalize hn1 : (S[S.size - 1]).toNat = n1 at *;have hw1 : IntKind.i64.wrap ((S.size : Int) - 1) = ((S.size - 1 : Nat) : Int) := by rw [IntWalk.i64_in _ (by omega)]; omega
  rcases Bool.eq_false_or_eq_true (Pr.letterN n0) with h0 | h0
  ·rw [h0] at HL0 ⊢;generalize Pr.letterN n1 = b1 at *;clear h0;go_enter Tryz.func120, Tryz.ntmps120
   go_wp2_with (first
    | (go_at_call 147; refine HV.out.mono ?_; rintro e w2 ⟨rfl, rfl⟩)
    | (go_at_call_of 150 (Value.int .u8 (n0 : Int)); refine (HL0.out _).mono ?_; rintro e w2 ⟨rfl, rfl⟩)
    | (go_at_call_of 150 (Value.int .u8 (n1 : Int)); refine (HL1.out _).mono ?_; rintro e w2 ⟨rfl, rfl⟩))
   go_ret;exact ⟨by simp, rfl⟩
  ·rw [h0] at HL0 ⊢;clear h0;go_enter Tryz.func120, Tryz.ntmps120
   go_wp2_with (first
    | (go_at_call 147; refine HV.out.mono ?_; rintro e w2 ⟨rfl, rfl⟩)
    | (go_at_call 150; refine (HL0.out _).mono ?_; rintro e w2 ⟨rfl, rfl⟩))
   go_ret;exact ⟨rfl, rfl⟩
end Go.Proofs.YtchkiegehejfmaaGreatDoor
namespace Pr
def fstS (x : Option (Str × Str)) : Str := match x with
 | some p => p.1
 | none => []
def sndS (x : Option (Str × Str)) : Str := match x with
 | some p => p.2
 | none => []
theorem index_in : ∀ (ms : Str) (c : UInt8), (ms.contains c = true → 0 ≤ Go.Lib.indexByte ms c) ∧ (ms.contains c = false → Go.Lib.indexByte ms c = -1)
 | [], c => ⟨fun h => by simp at h, fun _ => rfl⟩
 | b :: l, c => by
  have ih := index_in l c;unfold Go.Lib.indexByte;by_cases h : b = c
  ·subst h;simp
  ·have hb : (b == c) = false := beq_eq_false_iff_ne.2 h;have hb2 : (c == b) = false := beq_eq_false_iff_ne.2 (Ne.symm h);rw [hb, List.contains_cons, hb2, Bool.false_or];refine ⟨fun h1 => ?_, fun h1 => ?_⟩
   ·have := ih.1 h1;have e : (Go.Lib.indexByte l c == -1) = false := by rw [beq_eq_false_iff_ne]; omega
    simp [e];omega
   ·rw [ih.2 h1];rfl
theorem split_mark {ms : Str} {c : UInt8} {r : Str} (h : ms.contains c = false) : splitP ms (c :: r) = none := by simp only [splitP, h, Bool.false_eq_true, if_true, if_false]
theorem split_cut {ms : Str} {c : UInt8} {r : Str} (h : ms.contains c = true) (h2 : cutC r = none) : splitP ms (c :: r) = none := by simp only [splitP, h, h2, Bool.false_eq_true, if_true, if_false]
theorem split_bad {ms : Str} {c : UInt8} {r a b : Str} (h : ms.contains c = true) (h2 : cutC r = some (a, b)) (h3 : (localL a && serverL b) = false) : splitP ms (c :: r) = none := by simp only [splitP, h, h2, h3, Bool.false_eq_true, if_true, if_false]
theorem split_good {ms : Str} {c : UInt8} {r a b : Str} (h : ms.contains c = true) (h2 : cutC r = some (a, b)) (h3 : (localL a && serverL b) = true) : splitP ms (c :: r) = some (a, b) := by simp only [splitP, h, h2, h3, Bool.false_eq_true, if_true, if_false]
end Pr
namespace Go.Proofs.YtchkiegehejfmaaGreatDoor
open Go.RowKit Go.Lib
theorem DL (M S : ByteArray) (m : Int) (w : World) (hs : S.size ≤ 1000000) (hm : w.cell? ⟨0, 0, none⟩ = some (.int .i64 m)) :
  Calls Tryz.prog 87 #[.string S, .string M] w fun e w' => e = .returned (.tuple #[.string (bstr (Pr.fstS (Pr.splitP M.data.toList S.data.toList))), .string (bstr (Pr.sndS (Pr.splitP M.data.toList S.data.toList))), .bool (Pr.splitP M.data.toList S.data.toList).isSome]) ∧ Below w.heap.size w w' := by
 have hsz : S.data.toList.length = S.size := (Am S).symm;by_cases h0 : S.size = 0
 ·have e : S = ⟨#[]⟩ := by
   have : S.data.toList = [] := List.eq_nil_of_length_eq_zero (by omega);cases S with | mk d => cases d with | mk l => exact congrArg (fun l => (⟨⟨l⟩⟩ : ByteArray)) this
  subst e;rw [show Pr.splitP M.data.toList (⟨#[]⟩ : ByteArray).data.toList = none from rfl];clear h0 hsz hs;go_enter Tryz.func87, Tryz.ntmps87;go_wp2_with fail
  go_ret3
  exact ⟨rfl, Below.refl _ _⟩
 have hne0 : S.toList ≠ [] := fun h => by
  rw [Lib.toList_data] at h;rw [h] at hsz;simp at hsz;omega
 have hne : S.toList.isEmpty = false := by
  cases hl : S.toList with
  | nil => exact absurd hl hne0
  | cons c r => rfl
 have hne2 : (S.toList == []) = false := beq_eq_false_iff_ne.2 hne0;clear hne0;have h1 : 0 < S.size := by omega
 obtain ⟨c, r, hcr⟩ : ∃ c r, S.data.toList = c :: r := by
  cases hl : S.data.toList with
  | nil => rw [hl] at hsz; simp at hsz; omega
  | cons c r => exact ⟨c, r, rfl⟩
 have hcS : S[0] = c := by
  have h2 := AN S 0 h1;rw [hcr] at h2;injection h2 with h2;exact h2.symm
 have hrS : (S.extract 1 S.size).data.toList = r := by
  rw [BH, hcr];rfl
 rw [hcr];have hix := Pr.index_in M.data.toList c;have HIB := hid (Tryz.strings_IndexByte M (c.toNat : Int));rw [show ((c.toNat : Int)).toNat.toUInt8 = c by simp] at HIB;generalize hn0 : (S[0]).toNat = n0 at *;have hn1 : c.toNat = n0 := by rw [← hn0, hcS]
 rw [hn1] at HIB;clear hn1 hcS;rcases Bool.eq_false_or_eq_true (M.data.toList.contains c) with hmc | hmc
 ·have hge := hix.1 hmc;generalize Go.Lib.indexByte M.data.toList c = ii at *;clear hix;have hii : ¬ ii < 0 := by omega
  have hxs : (S.extract 1 S.size).size < 4294967281 := by rw [ByteArray.size_extract]; omega
  have HCU := hid (fun w hm => Tryz.strings_Cut (S.extract 1 S.size) ⟨#[58]⟩ m w hxs hm);rw [hrS, show (⟨#[58]⟩ : ByteArray).data.toList = [58] from rfl, Pr.lib_cut] at HCU;have hrl : r.length ≤ 1000000 := by have := congrArg List.length hcr; simp at this; omega
  cases hcut : Pr.cutC r with
  | none =>
   rw [hcut] at HCU;rw [Pr.split_cut hmc hcut];clear hcut hmc hcr;go_enter Tryz.func87, Tryz.ntmps87
   go_wp2_with (first
    | (go_at_call 117; refine (HIB.out _).mono ?_; rintro e w2 ⟨rfl, rfl⟩)
    | (go_at_call 118; refine (HCU.out _ hm).mono ?_; rintro e w2 ⟨rfl, nn, rfl⟩))
   go_ret3
   exact ⟨rfl, below_drewN (Below.refl _ _) _⟩
  | some p =>
   obtain ⟨a, b⟩ := p;rw [hcut] at HCU;have hab := Pr.cutC_len r a b hcut;have HLO := hid (fun w => FV (bstr a) w (by rw [Ai]; omega));have HSV := hid (fun w => EY (bstr b) w (by rw [Ai]; omega));rw [Cz] at HLO HSV;rcases Bool.eq_false_or_eq_true (Pr.localL a) with hla | hla
   ·rcases Bool.eq_false_or_eq_true (Pr.serverL b) with hsb | hsb
    ·rw [Pr.split_good hmc hcut (by rw [hla, hsb]; rfl)];rw [hla] at HLO;rw [hsb] at HSV;clear hcut hmc hcr hla hsb;go_enter Tryz.func87, Tryz.ntmps87
     go_wp2_with (first
      | (go_at_call 117; refine (HIB.out _).mono ?_; rintro e w2 ⟨rfl, rfl⟩)
      | (go_at_call 118; refine (HCU.out _ hm).mono ?_; rintro e w2 ⟨rfl, nn, rfl⟩)
      | (go_at_call 119; refine (HLO.out _).mono ?_; rintro e w3 ⟨rfl, rfl⟩)
      | (go_at_call 120; refine (HSV.out _).mono ?_; rintro e w4 ⟨rfl, rfl⟩))
     go_ret3
     exact ⟨rfl, below_drewN (Below.refl _ _) _⟩
    ·rw [Pr.split_bad hmc hcut (by rw [hla, hsb]; rfl)];rw [hla] at HLO;rw [hsb] at HSV;clear hcut hmc hcr hla hsb;go_enter Tryz.func87, Tryz.ntmps87
     go_wp2_with (first
      | (go_at_call 117; refine (HIB.out _).mono ?_; rintro e w2 ⟨rfl, rfl⟩)
      | (go_at_call 118; refine (HCU.out _ hm).mono ?_; rintro e w2 ⟨rfl, nn, rfl⟩)
      | (go_at_call 119; refine (HLO.out _).mono ?_; rintro e w3 ⟨rfl, rfl⟩)
      | (go_at_call 120; refine (HSV.out _).mono ?_; rintro e w4 ⟨rfl, rfl⟩))
     go_ret3
     exact ⟨rfl, below_drewN (Below.refl _ _) _⟩
   ·rw [Pr.split_bad hmc hcut (by rw [hla]; rfl)];rw [hla] at HLO;clear hcut hmc hcr hla;go_enter Tryz.func87, Tryz.ntmps87
    go_wp2_with (first
     | (go_at_call 117; refine (HIB.out _).mono ?_; rintro e w2 ⟨rfl, rfl⟩)
     | (go_at_call 118; refine (HCU.out _ hm).mono ?_; rintro e w2 ⟨rfl, nn, rfl⟩)
     | (go_at_call 119; refine (HLO.out _).mono ?_; rintro e w3 ⟨rfl, rfl⟩)
     | (go_at_call 120; refine (HSV.out _).mono ?_; rintro e w4 ⟨rfl, rfl⟩))
    go_ret3
    exact ⟨rfl, below_drewN (Below.refl _ _) _⟩
 ·have hge := hix.2 hmc;rw [hge] at HIB;rw [Pr.split_mark hmc];clear hix hmc hcr hge;go_enter Tryz.func87, Tryz.ntmps87;go_wp2_with (go_at_call 117; refine (HIB.out _).mono ?_; rintro e w2 ⟨rfl, rfl⟩)
  go_ret3
  exact ⟨rfl, Below.refl _ _⟩
theorem FR (M S : ByteArray) (m : Int) (w : World) (hs : S.size ≤ 1000000) (hm : w.cell? ⟨0, 0, none⟩ = some (.int .i64 m)) :
  Calls Tryz.prog 86 #[.string S, .string M] w fun e w' => e = .returned (.int .i64 (if (Pr.splitP M.data.toList S.data.toList).isSome then 0 else 3)) ∧ Below w.heap.size w w' := by
 have HSP := hid (DL M S m w hs hm);rcases Bool.eq_false_or_eq_true (Pr.splitP M.data.toList S.data.toList).isSome with h | h
 ·rw [h] at HSP ⊢;rw [if_pos rfl];clear h;go_enter Tryz.func86, Tryz.ntmps86;go_wp2_with (go_at_call 87; refine HSP.out.mono ?_; rintro e w2 ⟨rfl, hb⟩);go_ret;exact ⟨rfl, hb⟩
 ·rw [h] at HSP ⊢;rw [if_neg (by decide)];clear h;go_enter Tryz.func86, Tryz.ntmps86;go_wp2_with (go_at_call 87; refine HSP.out.mono ?_; rintro e w2 ⟨rfl, hb⟩);go_ret;exact ⟨rfl, hb⟩
theorem GM (S : ByteArray) (m : Int) (w : World) (hs : S.size ≤ 1000000) (hm : w.cell? ⟨0, 0, none⟩ = some (.int .i64 m)) :
  Calls Tryz.prog 49 #[.string S] w fun e w' => e = .returned (.int .i64 (Pr.userE S.data.toList)) ∧ Below w.heap.size w w' := by
 have HSP := hid (FR ⟨#[64]⟩ S m w hs hm);have e : (if (Pr.splitP (⟨#[64]⟩ : ByteArray).data.toList S.data.toList).isSome then (0 : Int) else 3) = Pr.userE S.data.toList := rfl;rw [e] at HSP;generalize Pr.userE S.data.toList = X at *;clear e;go_enter Tryz.func49, Tryz.ntmps49;go_wp2_with (go_at_call 86; refine HSP.out.mono ?_; rintro e w2 ⟨rfl, hb⟩);go_ret;exact ⟨rfl, hb⟩
theorem Ec (S : ByteArray) (m : Int) (w : World) (hs : S.size ≤ 1000000) (hm : w.cell? ⟨0, 0, none⟩ = some (.int .i64 m)) :
  Calls Tryz.prog 50 #[.string S] w fun e w' => e = .returned (.string (bstr (Pr.serverOf S.data.toList))) ∧ Below w.heap.size w w' := by
 have HSP := hid (DL ⟨#[64, 33]⟩ S m w hs hm);have e : Pr.sndS (Pr.splitP (⟨#[64, 33]⟩ : ByteArray).data.toList S.data.toList) = Pr.serverOf S.data.toList := by
  unfold Pr.serverOf;rw [show (⟨#[64, 33]⟩ : ByteArray).data.toList = [64, 33] from rfl];cases Pr.splitP [64, 33] S.data.toList <;> rfl
 rw [e] at HSP;generalize Pr.serverOf S.data.toList = X at *;clear e;generalize Pr.splitP (⟨#[64, 33]⟩ : ByteArray).data.toList S.data.toList = Y at *;go_enter Tryz.func50, Tryz.ntmps50;go_wp2_with (go_at_call 87; refine HSP.out.mono ?_; rintro e w2 ⟨rfl, hb⟩);go_ret;exact ⟨rfl, hb⟩
end Go.Proofs.YtchkiegehejfmaaGreatDoor
