/- The texts Gia, Gib, Gic of this proof, one behind the other. -/
import Derived.Test.YtchkiegehejfmaaGreatDoorMsbh
import Derived.Test.YtchkiegehejfmaaGreatDoorMsbg
import Derived.Test.YtchkiegehejfmaaGreatDoorMsbm
set_option linter.unusedSimpArgs false
set_option maxHeartbeats 16000000
set_option maxRecDepth 100000
set_option linter.unusedVariables false
namespace Pr
def colN : Str → Nat
 | [] => 0
 | c :: r => if c = 58 then 0 else colN r + 1
theorem colN_is : ∀ (s : Str) (k : Nat), (∀ c ∈ s.take k, c ≠ 58) → (s.length = k ∨ s[k]? = some 58) → colN s = k
 | [], k, _, h2 => by
  rcases h2 with h | h
  ·exact h
  ·cases h
 | c :: r, 0, _, h2 => by
  rcases h2 with h | h
  ·cases h
  ·injection h with h; subst h; rfl
 | c :: r, k + 1, h1, h2 => by
  have hc : c ≠ 58 := h1 c (by rw [List.take_succ_cons]; exact List.mem_cons_self ..)
  rw [colN, if_neg hc, colN_is r k (fun d hd => h1 d (by rw [List.take_succ_cons]; exact List.mem_cons_of_mem _ hd)) (by
   rcases h2 with h | h
   ·left; rw [List.length_cons] at h; omega
   ·right; exact h)]
theorem cut_col : ∀ s : Str, (cutC s = none ∧ colN s = s.length) ∨ (cutC s = some (s.take (colN s), s.drop (colN s + 1)) ∧ colN s < s.length)
 | [] => .inl ⟨rfl, rfl⟩
 | c :: r => by
  unfold cutC;by_cases h : c = 58
  ·rw [if_pos h, colN, if_pos h];exact .inr ⟨rfl, by simp⟩
  ·rw [if_neg h, colN, if_neg h];rcases cut_col r with ⟨h1, h2⟩ | ⟨h1, h2⟩
   ·left
    rw [h1, h2];exact ⟨rfl, rfl⟩
   ·right
    rw [h1];exact ⟨rfl, by rw [List.length_cons]; omega⟩
end Pr
namespace Go.Proofs.YtchkiegehejfmaaGreatDoor
open Go.RowKit Go.Lib
theorem CD (n : Nat) (w : World) : Calls Tryz.prog 151 #[.int .u8 (n : Int)] w fun e w' => e = .returned (.bool (Pr.letterN n)) ∧ w = w' := by
 by_cases ha : 97 ≤ n
 ·by_cases hb : n ≤ 122
  ·have hx : ¬ n ≤ 57 := by omega
   have e : Pr.letterN n = true := by unfold Pr.letterN; rw [decide_eq_true (p := 97 ≤ n) (by omega), decide_eq_true (p := n ≤ 122) (by omega), decide_eq_true (p := 48 ≤ n) (by omega), decide_eq_false (p := n ≤ 57) (by omega)]; rfl
   rw [e];clear e;have qa : decide ((97 : Int) ≤ (n : Int)) = true := decide_eq_true (by omega);have qb : decide ((n : Int) ≤ 122) = true := decide_eq_true (by omega);have qc : decide ((48 : Int) ≤ (n : Int)) = true := decide_eq_true (by omega);have qd : decide ((n : Int) ≤ 57) = false := decide_eq_false (by omega);go_enter Tryz.func151, Tryz.ntmps151;go_wp2_with fail;go_ret;exact ⟨rfl, rfl⟩
  ·have hx : ¬ n ≤ 57 := by omega
   have e : Pr.letterN n = false := by unfold Pr.letterN; rw [decide_eq_true (p := 97 ≤ n) (by omega), decide_eq_false (p := n ≤ 122) (by omega), decide_eq_true (p := 48 ≤ n) (by omega), decide_eq_false (p := n ≤ 57) (by omega)]; rfl
   rw [e];clear e;have qa : decide ((97 : Int) ≤ (n : Int)) = true := decide_eq_true (by omega);have qb : decide ((n : Int) ≤ 122) = false := decide_eq_false (by omega);have qc : decide ((48 : Int) ≤ (n : Int)) = true := decide_eq_true (by omega);have qd : decide ((n : Int) ≤ 57) = false := decide_eq_false (by omega);go_enter Tryz.func151, Tryz.ntmps151;go_wp2_with fail;go_ret;exact ⟨rfl, rfl⟩
 ·have hx : n ≤ 122 := by omega
  by_cases hc : 48 ≤ n
  ·by_cases hd : n ≤ 57
   ·have e : Pr.letterN n = true := by unfold Pr.letterN; rw [decide_eq_false (p := 97 ≤ n) (by omega), decide_eq_true (p := n ≤ 122) (by omega), decide_eq_true (p := 48 ≤ n) (by omega), decide_eq_true (p := n ≤ 57) (by omega)]; rfl
    rw [e];clear e;have qa : decide ((97 : Int) ≤ (n : Int)) = false := decide_eq_false (by omega);have qb : decide ((n : Int) ≤ 122) = true := decide_eq_true (by omega);have qc : decide ((48 : Int) ≤ (n : Int)) = true := decide_eq_true (by omega);have qd : decide ((n : Int) ≤ 57) = true := decide_eq_true (by omega);go_enter Tryz.func151, Tryz.ntmps151;go_wp2_with fail;go_ret;exact ⟨rfl, rfl⟩
   ·have e : Pr.letterN n = false := by unfold Pr.letterN; rw [decide_eq_false (p := 97 ≤ n) (by omega), decide_eq_true (p := n ≤ 122) (by omega), decide_eq_true (p := 48 ≤ n) (by omega), decide_eq_false (p := n ≤ 57) (by omega)]; rfl
    rw [e];clear e;have qa : decide ((97 : Int) ≤ (n : Int)) = false := decide_eq_false (by omega);have qb : decide ((n : Int) ≤ 122) = true := decide_eq_true (by omega);have qc : decide ((48 : Int) ≤ (n : Int)) = true := decide_eq_true (by omega);have qd : decide ((n : Int) ≤ 57) = false := decide_eq_false (by omega);go_enter Tryz.func151, Tryz.ntmps151;go_wp2_with fail;go_ret;exact ⟨rfl, rfl⟩
  ·have e : Pr.letterN n = false := by unfold Pr.letterN; rw [decide_eq_false (p := 97 ≤ n) (by omega), decide_eq_true (p := n ≤ 122) (by omega), decide_eq_false (p := 48 ≤ n) (by omega), decide_eq_true (p := n ≤ 57) (by omega)]; rfl
   rw [e];clear e;have qa : decide ((97 : Int) ≤ (n : Int)) = false := decide_eq_false (by omega);have qb : decide ((n : Int) ≤ 122) = true := decide_eq_true (by omega);have qc : decide ((48 : Int) ≤ (n : Int)) = false := decide_eq_false (by omega);have qd : decide ((n : Int) ≤ 57) = true := decide_eq_true (by omega);go_enter Tryz.func151, Tryz.ntmps151;go_wp2_with fail;go_ret;exact ⟨rfl, rfl⟩
theorem Dt (S : ByteArray) (w : World) (hs : S.size ≤ 1000000) : Calls Tryz.prog 89 #[.string S] w fun e w' => e = .returned (.int .i64 (Pr.colN S.data.toList : Int)) ∧ w = w' := by
 have HAT := hid (AN S);have hsz : S.data.toList.length = S.size := (Am S).symm;generalize S.data.toList = L at *;have HCE : Hid (∀ k : Nat, (∀ c ∈ L.take k, c ≠ 58) → (L.length = k ∨ L[k]? = some 58) → Pr.colN L = k) := hid (Pr.colN_is L);have HSZ := hid hsz;generalize Pr.colN L = Z at *;clear hsz;go_enter Tryz.func89, Tryz.ntmps89;go_wp2_with fail
 go_loopw [3] (fun ix wr => ∃ k : Nat, k ≤ S.size ∧ ix = .int .i64 k ∧ w = wr ∧ Hid (∀ c ∈ L.take k, c ≠ 58)) (fun ix _ => S.size - (RowKit.intOf ix).toNat)
 case atStart => exact ⟨0, Nat.zero_le _, rfl, rfl, hid (fun c h => by simp at h)⟩
 case round =>
  obtain ⟨k, hk, rfl, rfl, hall⟩ := hrel;by_cases hlt : k < S.size
  ·have hat := HAT.out k hlt;have hc2 := (S[k]).toNat_lt;by_cases h58 : S[k] = 58
   ·have HZ : Hid (Z = k) := hid (HCE.out k hall.out (.inr (by rw [hat, h58])));have hn : (S[k]).toNat = 58 := by rw [h58]; rfl
    generalize hn0 : (S[k]).toNat = n0 at *;subst hn;clear hat h58;go_wp2_with fail;go_ret;exact ⟨congrArg (fun n : Nat => Ending.returned (.int .i64 (n : Int))) HZ.out.symm, by trivial⟩
   ·have HN : Hid (∀ c ∈ L.take (k + 1), c ≠ 58) := hid (fun c hc => by
     rw [Pr.take_snoc hat] at hc;rcases List.mem_append.1 hc with hc | hc
     ·exact hall.out c hc
     ·rw [List.mem_singleton.1 hc]; exact h58)
    have hn : ¬ (S[k]).toNat = 58 := fun e => h58 (UInt8.toNat_inj.1 (by rw [e]; rfl))
    generalize hn0 : (S[k]).toNat = n0 at *;have e1 : ((n0 : Int) == 58) = false := by rw [beq_eq_false_iff_ne]; omega
    have e2 : ((n0 : Int) != 58) = true := by rw [bne, e1]; rfl
    clear hat h58;go_wp2_with fail
    go_roundw
    case rel => exact ⟨k + 1, by omega, by go_num, by trivial, HN⟩
    case measure => simp [RowKit.intOf]; omega
  ·obtain rfl : k = S.size := by omega
   have HZ : Hid (Z = S.size) := hid (HCE.out S.size hall.out (.inl HSZ.out));go_wp2_with fail;go_ret;exact ⟨congrArg (fun n : Nat => Ending.returned (.int .i64 (n : Int))) HZ.out.symm, by trivial⟩
theorem Ff (S : ByteArray) (w : World) (hs : S.size ≤ 1000000) : Calls Tryz.prog 121 #[.string S] w fun e w' => e = .returned (.bool (Pr.localL S.data.toList)) ∧ w = w' := by
 have HAT := hid (AN S);have hsz : S.data.toList.length = S.size := (Am S).symm;have HLE := hid (fun n W => CD n W);generalize S.data.toList = L at *;obtain ⟨p, hp⟩ : ∃ p : UInt8 → Bool, (fun c : UInt8 => Pr.letterN c.toNat || Pr.locN c.toNat) = p := ⟨_, rfl⟩;have HP : Hid (∀ c, p c = (Pr.letterN c.toNat || Pr.locN c.toNat)) := hid (fun c => by rw [← hp]);obtain ⟨R, hR⟩ : ∃ R, L.all p = R := ⟨_, rfl⟩;have HR := hid hR;have hz : Pr.localL L = (decide (1 ≤ S.size) && (decide (S.size ≤ 32) && R)) := by
  unfold Pr.localL Pr.validL;rw [hp, hR, hsz]
 have HSZ := hid hsz;rw [hz];have HZF : Hid (R = false → (decide (1 ≤ S.size) && (decide (S.size ≤ 32) && R)) = false) := hid (fun h => by rw [h, Bool.and_false, Bool.and_false]);have HZT : Hid (R = true → (decide (1 ≤ S.size) && (decide (S.size ≤ 32) && R)) = (decide (1 ≤ S.size) && decide (S.size ≤ 32))) := hid (fun h => by rw [h, Bool.and_true]);generalize (decide (1 ≤ S.size) && (decide (S.size ≤ 32) && R)) = Z at *;clear hp hR hz hsz;go_enter Tryz.func121, Tryz.ntmps121;go_wp2_with fail
 go_loopw [3] (fun ix wr => ∃ k : Nat, k ≤ S.size ∧ ix = .int .i64 k ∧ w = wr ∧ Hid (∀ c ∈ L.take k, p c = true)) (fun ix _ => S.size - (RowKit.intOf ix).toNat)
 case atStart => exact ⟨0, Nat.zero_le _, rfl, rfl, hid (fun c h => by simp at h)⟩
 case round =>
  obtain ⟨k, hk, rfl, rfl, hall⟩ := hrel;by_cases hlt : k < S.size
  ·have hch := HP.out S[k]
   have HN0 : Hid (p S[k] = true → Hid (∀ c ∈ L.take (k + 1), p c = true)) := hid (fun hn => hid fun c hc => by
    rw [Pr.take_snoc (HAT.out k hlt)] at hc;rcases List.mem_append.1 hc with hc | hc
    ·exact hall.out c hc
    ·rw [List.mem_singleton.1 hc]; exact hn)
   have HF0 : Hid (p S[k] = false → R = false) := hid (fun hn => by rw [← HR.out]; exact Pr.all_fail (HAT.out k hlt) hn);have HL := hid (HLE.out (S[k]).toNat);have hc2 := (S[k]).toNat_lt;generalize p S[k] = pk at *;generalize hn0 : (S[k]).toNat = n0 at *;rcases Bool.eq_false_or_eq_true (Pr.letterN n0) with hl | hl
   ·have HN := HN0.out (by rw [hch, hl]; rfl);rw [hl] at HL;clear hch hl;go_wp2_with (go_at_call 151; refine (HL.out _).mono ?_; rintro e w2 ⟨rfl, rfl⟩)
    go_roundw
    case rel => exact ⟨k + 1, by omega, by go_num, by trivial, HN⟩
    case measure => simp [RowKit.intOf]; omega
   ·rw [hl] at HL;by_cases h95 : n0 = 95
    ·have hj : Pr.locN n0 = true := by rw [h95]; rfl
     have HN := HN0.out (by rw [hch, hj]; simp);subst h95;clear hch hl hj;go_wp2_with (go_at_call 151; refine (HL.out _).mono ?_; rintro e w2 ⟨rfl, rfl⟩)
     go_roundw
     case rel => exact ⟨k + 1, by omega, by go_num, by trivial, HN⟩
     case measure => simp [RowKit.intOf]; omega
    have e95 : ((n0 : Int) == 95) = false := by rw [beq_eq_false_iff_ne]; omega
    have f95 : ((n0 : Int) != 95) = true := by rw [bne, e95]; rfl
    by_cases h46 : n0 = 46
    ·have hj : Pr.locN n0 = true := by rw [h46]; rfl
     have HN := HN0.out (by rw [hch, hj]; simp);subst h46;clear hch hl hj;go_wp2_with (go_at_call 151; refine (HL.out _).mono ?_; rintro e w2 ⟨rfl, rfl⟩)
     go_roundw
     case rel => exact ⟨k + 1, by omega, by go_num, by trivial, HN⟩
     case measure => simp [RowKit.intOf]; omega
    have e46 : ((n0 : Int) == 46) = false := by rw [beq_eq_false_iff_ne]; omega
    have f46 : ((n0 : Int) != 46) = true := by rw [bne, e46]; rfl
    by_cases h45 : n0 = 45
    ·have hj : Pr.locN n0 = true := by rw [h45]; rfl
     have HN := HN0.out (by rw [hch, hj]; simp);subst h45;clear hch hl hj;go_wp2_with (go_at_call 151; refine (HL.out _).mono ?_; rintro e w2 ⟨rfl, rfl⟩)
     go_roundw
     case rel => exact ⟨k + 1, by omega, by go_num, by trivial, HN⟩
     case measure => simp [RowKit.intOf]; omega
    have e45 : ((n0 : Int) == 45) = false := by rw [beq_eq_false_iff_ne]; omega
    have f45 : ((n0 : Int) != 45) = true := by rw [bne, e45]; rfl
    by_cases h61 : n0 = 61
    ·have hj : Pr.locN n0 = true := by rw [h61]; rfl
     have HN := HN0.out (by rw [hch, hj]; simp);subst h61;clear hch hl hj;go_wp2_with (go_at_call 151; refine (HL.out _).mono ?_; rintro e w2 ⟨rfl, rfl⟩)
     go_roundw
     case rel => exact ⟨k + 1, by omega, by go_num, by trivial, HN⟩
     case measure => simp [RowKit.intOf]; omega
    have e61 : ((n0 : Int) == 61) = false := by rw [beq_eq_false_iff_ne]; omega
    have f61 : ((n0 : Int) != 61) = true := by rw [bne, e61]; rfl
    have hj : Pr.locN n0 = false := by unfold Pr.locN; simp only [beq_eq_false_iff_ne.2 h95, beq_eq_false_iff_ne.2 h46, beq_eq_false_iff_ne.2 h45, beq_eq_false_iff_ne.2 h61, Bool.or_false]
    have HF := hid (HF0.out (by rw [hch, hl, hj]; rfl));clear hch hl hj;have HZ := hid (HZF.out HF.out);go_wp2_with (go_at_call 151; refine (HL.out _).mono ?_; rintro e w2 ⟨rfl, rfl⟩);go_ret;exact ⟨congrArg (fun b => Ending.returned (.bool b)) HZ.out.symm, by trivial⟩
  ·obtain rfl : k = S.size := by omega
   have HE : Hid (R = true) := hid (by rw [← HR.out]; exact Pr.all_done (by rw [HSZ.out]; exact hall.out));have HZ := hid (HZT.out HE.out);by_cases h1 : 1 ≤ S.size
   ·by_cases h2 : S.size ≤ 32
    ·have g1 : decide ((1 : Int) ≤ (S.size : Int)) = true := decide_eq_true (by omega);have g2 : decide ((S.size : Int) ≤ 32) = true := decide_eq_true (by omega);have HZ2 : Hid (Z = true) := hid (by rw [HZ.out, decide_eq_true h1, decide_eq_true h2]; rfl);go_wp2_with fail;go_ret;exact ⟨congrArg (fun b => Ending.returned (.bool b)) HZ2.out.symm, by trivial⟩
    ·have g1 : decide ((1 : Int) ≤ (S.size : Int)) = true := decide_eq_true (by omega);have g2 : decide ((S.size : Int) ≤ 32) = false := decide_eq_false (by omega);have HZ2 : Hid (Z = false) := hid (by rw [HZ.out, decide_eq_true h1, decide_eq_false h2]; rfl);go_wp2_with fail;go_ret;exact ⟨congrArg (fun b => Ending.returned (.bool b)) HZ2.out.symm, by trivial⟩
   ·have g1 : decide ((1 : Int) ≤ (S.size : Int)) = false := decide_eq_false (by omega);have HZ2 : Hid (Z = false) := hid (by rw [HZ.out, decide_eq_false h1]; rfl);go_wp2_with fail;go_ret;exact ⟨congrArg (fun b => Ending.returned (.bool b)) HZ2.out.symm, by trivial⟩
theorem El (S : ByteArray) (w : World) (hs : S.size ≤ 1000000) : Calls Tryz.prog 122 #[.string S] w fun e w' => e = .returned (.int .i64 (if Pr.serverL S.data.toList then 0 else 3)) ∧ w = w' := by
 have HAT := hid (AN S);have hsz : S.data.toList.length = S.size := (Am S).symm;have HLE := hid (fun n W => CD n W);generalize hLL : S.data.toList = L at *;obtain ⟨p, hp⟩ : ∃ p : UInt8 → Bool, (fun c : UInt8 => Pr.letterN c.toNat || Pr.srvN c.toNat) = p := ⟨_, rfl⟩;have HP : Hid (∀ c, p c = (Pr.letterN c.toNat || Pr.srvN c.toNat)) := hid (fun c => by rw [← hp]);obtain ⟨R, hR⟩ : ∃ R, L.all p = R := ⟨_, rfl⟩;have HR := hid hR;have hz : Pr.serverL L = ((decide (1 ≤ S.size) && (decide (S.size ≤ 32) && R)) && (Pr.letterN ((L.headD 0).toNat) && Pr.letterN ((L.getLastD 0).toNat))) := by
  unfold Pr.serverL Pr.validL;rw [hp, hR, hsz]
 have HSZ := hid hsz;obtain ⟨Z, hZ⟩ : ∃ Z : Int, (if Pr.serverL L = true then (0 : Int) else 3) = Z := ⟨_, rfl⟩;rw [hZ];by_cases h1 : S.size < 1
 ·have g1 : decide ((S.size : Int) < 1) = true := decide_eq_true (by omega);have HZ : Hid (3 = Z) := hid (by rw [← hZ, hz, decide_eq_false (by omega : ¬ 1 ≤ S.size)]; rfl);clear hz hZ hp hR hsz hLL;go_enter Tryz.func122, Tryz.ntmps122;go_wp2_with fail;go_ret;exact ⟨congrArg (fun z => Ending.returned (.int .i64 z)) HZ.out, rfl⟩
 have g1 : decide ((S.size : Int) < 1) = false := decide_eq_false (by omega);by_cases h32 : 32 < S.size
 ·have g2 : decide ((32 : Int) < (S.size : Int)) = true := decide_eq_true (by omega);have HZ : Hid (3 = Z) := hid (by rw [← hZ, hz, decide_eq_false (by omega : ¬ S.size ≤ 32), Bool.false_and, Bool.and_false]; rfl);clear hz hZ hp hR hsz hLL;go_enter Tryz.func122, Tryz.ntmps122;go_wp2_with fail;go_ret;exact ⟨congrArg (fun z => Ending.returned (.int .i64 z)) HZ.out, rfl⟩
 have g2 : decide ((32 : Int) < (S.size : Int)) = false := decide_eq_false (by omega);have hf : L.headD 0 = S[0] := by
  have h0 := HAT.out 0 (by omega)
  cases L with
  | nil => cases h0
  | cons c r => injection h0
 have hg : L.getLastD 0 = S[S.size - 1] := by
  have h0 := HAT.out (S.size - 1) (by omega);rw [List.getLastD_eq_getLast?, List.getLast?_eq_getElem?, hsz, h0];rfl
 rw [decide_eq_true (by omega : 1 ≤ S.size), decide_eq_true (by omega : S.size ≤ 32), Bool.true_and, Bool.true_and, hf, hg] at hz;have HL0 := hid (HLE.out (S[0]).toNat);have HL1 := hid (HLE.out (S[S.size - 1]).toNat);have hlast : S.size - 1 < S.size := by omega
 have hpos : 0 < S.size := by omega
 have hc0 := (S[0]).toNat_lt;have hc1 := (S[S.size - 1]).toNat_lt;generalize hn0 : (S[0]).toNat = n0 at *;generalize hn1 : (S[S.size - 1]).toNat = n1 at *;have hw1 : IntKind.i64.wrap ((S.size : Int) - 1) = ((S.size - 1 : Nat) : Int) := by rw [IntWalk.i64_in _ (by omega)]; omega
 have hw0 : (0 : Int) ≤ ((S.size - 1 : Nat) : Int) := by omega
 rcases Bool.eq_false_or_eq_true (Pr.letterN n0) with h0 | h0
 rotate_left
 ·have HZ : Hid (3 = Z) := hid (by rw [← hZ, hz, h0, Bool.false_and, Bool.and_false]; rfl);rw [h0] at HL0;clear hz hZ hp hR hsz h0 hf hg hLL;go_enter Tryz.func122, Tryz.ntmps122;go_wp2_with (go_at_call 151; refine (HL0.out _).mono ?_; rintro e w2 ⟨rfl, rfl⟩);go_ret;exact ⟨congrArg (fun z => Ending.returned (.int .i64 z)) HZ.out, rfl⟩
 rcases Bool.eq_false_or_eq_true (Pr.letterN n1) with h9 | h9
 rotate_left
 ·have HZ : Hid (3 = Z) := hid (by rw [← hZ, hz, h9, Bool.and_false, Bool.and_false]; rfl);rw [h0] at HL0;rw [h9] at HL1;clear h0 h9;clear hz hZ hp hR hsz hf hg hLL;go_enter Tryz.func122, Tryz.ntmps122;go_wp2_with (first | (go_at_call_of 151 (Value.int .u8 (n0 : Int)); refine (HL0.out _).mono ?_; rintro e w2 ⟨rfl, rfl⟩) | (go_at_call_of 151 (Value.int .u8 (n1 : Int)); refine (HL1.out _).mono ?_; rintro e w2 ⟨rfl, rfl⟩));go_ret;exact ⟨congrArg (fun z => Ending.returned (.int .i64 z)) HZ.out, rfl⟩
 rw [h0, h9, Bool.true_and, Bool.and_true] at hz;rw [h0] at HL0;rw [h9] at HL1;have HZF : Hid (R = false → 3 = Z) := hid (fun h => by rw [← hZ, hz, h]; rfl);have HZT : Hid (R = true → 0 = Z) := hid (fun h => by rw [← hZ, hz, h]; rfl);clear hz hZ hp hR hsz h0 h9 hf hg hLL;go_enter Tryz.func122, Tryz.ntmps122;go_wp2_with (first | (go_at_call_of 151 (Value.int .u8 (n0 : Int)); refine (HL0.out _).mono ?_; rintro e w2 ⟨rfl, rfl⟩) | (go_at_call_of 151 (Value.int .u8 (n1 : Int)); refine (HL1.out _).mono ?_; rintro e w2 ⟨rfl, rfl⟩));clear hn0 hn1 HL0 HL1 hc0 hc1
 go_loopw [3] (fun ix wr => ∃ k : Nat, k ≤ S.size ∧ ix = .int .i64 k ∧ w = wr ∧ Hid (∀ c ∈ L.take k, p c = true)) (fun ix _ => S.size - (RowKit.intOf ix).toNat)
 case atStart => exact ⟨0, Nat.zero_le _, rfl, rfl, hid (fun c h => by simp at h)⟩
 case round =>
  obtain ⟨k, hk, rfl, rfl, hall⟩ := hrel;by_cases hlt : k < S.size
  ·have hch := HP.out S[k]
   have HN0 : Hid (p S[k] = true → Hid (∀ c ∈ L.take (k + 1), p c = true)) := hid (fun hn => hid fun c hc => by
    rw [Pr.take_snoc (HAT.out k hlt)] at hc;rcases List.mem_append.1 hc with hc | hc
    ·exact hall.out c hc
    ·rw [List.mem_singleton.1 hc]; exact hn)
   have HF0 : Hid (p S[k] = false → R = false) := hid (fun hn => by rw [← HR.out]; exact Pr.all_fail (HAT.out k hlt) hn);have HL := hid (HLE.out (S[k]).toNat);have hc2 := (S[k]).toNat_lt;generalize p S[k] = pk at *;generalize hn0 : (S[k]).toNat = n0 at *;rcases Bool.eq_false_or_eq_true (Pr.letterN n0) with hl | hl
   ·have HN := HN0.out (by rw [hch, hl]; rfl);rw [hl] at HL;clear hch hl;go_wp2_with (go_at_call 151; refine (HL.out _).mono ?_; rintro e w2 ⟨rfl, rfl⟩)
    go_roundw
    case rel => exact ⟨k + 1, by omega, by go_num, by trivial, HN⟩
    case measure => simp [RowKit.intOf]; omega
   ·rw [hl] at HL;by_cases h46 : n0 = 46
    ·have hj : Pr.srvN n0 = true := by rw [h46]; rfl
     have HN := HN0.out (by rw [hch, hj]; simp);subst h46;clear hch hl hj;go_wp2_with (go_at_call 151; refine (HL.out _).mono ?_; rintro e w2 ⟨rfl, rfl⟩)
     go_roundw
     case rel => exact ⟨k + 1, by omega, by go_num, by trivial, HN⟩
     case measure => simp [RowKit.intOf]; omega
    have e46 : ((n0 : Int) == 46) = false := by rw [beq_eq_false_iff_ne]; omega
    have f46 : ((n0 : Int) != 46) = true := by rw [bne, e46]; rfl
    by_cases h45 : n0 = 45
    ·have hj : Pr.srvN n0 = true := by rw [h45]; rfl
     have HN := HN0.out (by rw [hch, hj]; simp);subst h45;clear hch hl hj;go_wp2_with (go_at_call 151; refine (HL.out _).mono ?_; rintro e w2 ⟨rfl, rfl⟩)
     go_roundw
     case rel => exact ⟨k + 1, by omega, by go_num, by trivial, HN⟩
     case measure => simp [RowKit.intOf]; omega
    have e45 : ((n0 : Int) == 45) = false := by rw [beq_eq_false_iff_ne]; omega
    have f45 : ((n0 : Int) != 45) = true := by rw [bne, e45]; rfl
    have hj : Pr.srvN n0 = false := by unfold Pr.srvN; simp only [beq_eq_false_iff_ne.2 h46, beq_eq_false_iff_ne.2 h45, Bool.or_false]
    have HF := hid (HF0.out (by rw [hch, hl, hj]; rfl));clear hch hl hj;have HZ := hid (HZF.out HF.out);go_wp2_with (go_at_call 151; refine (HL.out _).mono ?_; rintro e w2 ⟨rfl, rfl⟩);go_ret;exact ⟨congrArg (fun z => Ending.returned (.int .i64 z)) HZ.out, by trivial⟩
  ·obtain rfl : k = S.size := by omega
   have HE : Hid (R = true) := hid (by rw [← HR.out]; exact Pr.all_done (by rw [HSZ.out]; exact hall.out));have HZ := hid (HZT.out HE.out);go_wp2_with fail;go_ret;exact ⟨congrArg (fun z => Ending.returned (.int .i64 z)) HZ.out, by trivial⟩
end Go.Proofs.YtchkiegehejfmaaGreatDoor
namespace Pr
theorem D1 {m : UInt8} (hm : m ≠ 58) : ∀ {s a b : Str}, splitP [m] s = some (a, b) → s.drop (colN s + 1) = b ∧ colN s < s.length
 | [], a, b, h => by cases h
 | c :: r, a, b, h => by
  by_cases hc : c = m
  ·have hct : [m].contains c = true := by rw [hc]; simp
   rcases cut_col r with ⟨h1, h2⟩ | ⟨h1, h2⟩
   ·rw [split_cut hct h1] at h; cases h
   ·cases hb : (localL (r.take (colN r)) && serverL (r.drop (colN r + 1))) with
    | false => rw [split_bad hct h1 hb] at h; cases h
    | true =>
     rw [split_good hct h1 hb] at h;injection h with h;injection h with h3 h4;rw [colN, if_neg (by rw [hc]; exact hm)];exact ⟨h4, by rw [List.length_cons]; omega⟩
  ·rw [split_mark (by simp [hc])] at h;cases h
theorem Dd {ms ns : Str} {c : UInt8} {r : Str} (h1 : ms.contains c = true) (h2 : ns.contains c = true) : splitP ms (c :: r) = splitP ns (c :: r) := by
 cases hcut : cutC r with
 | none => rw [split_cut h1 hcut, split_cut h2 hcut]
 | some p =>
  obtain ⟨a, b⟩ := p
  cases hb : (localL a && serverL b) with
  | false => rw [split_bad h1 hcut hb, split_bad h2 hcut hb]
  | true => rw [split_good h1 hcut hb, split_good h2 hcut hb]
theorem DE (s : Str) : splitP [64, 33] s = match splitP [64] s with
  | some p => some p
  | none => splitP [33] s := by
 cases s with
 | nil => rfl
 | cons c r =>
  by_cases h1 : c = 64
  ·subst h1;rw [Dd (ns := [64]) (by decide) (by decide)]
   cases splitP [64] (64 :: r) with
   | some p => rfl
   | none => exact (split_mark (by decide)).symm
  ·rw [split_mark (ms := [64]) (by simp [h1])];show _ = splitP [33] (c :: r);by_cases h2 : c = 33
   ·subst h2;exact Dd (by decide) (by decide)
   ·rw [split_mark (by simp [h1, h2]), split_mark (by simp [h2])]
theorem serverOf_one {s : Str} (h : (splitP [64] s).isSome = true ∨ (splitP [33] s).isSome = true) : serverOf s = s.drop (colN s + 1) ∧ colN s < s.length := by
 unfold serverOf;rw [DE]
 cases h1 : splitP [64] s with
 | some p =>
  obtain ⟨a, b⟩ := p;have h2 := D1 (by decide) h1;exact ⟨h2.1.symm, h2.2⟩
 | none =>
  rw [h1] at h
  cases h3 : splitP [33] s with
  | some p =>
   obtain ⟨a, b⟩ := p;have h2 := D1 (by decide) h3;exact ⟨h2.1.symm, h2.2⟩
  | none => rw [h3] at h; rcases h with h | h <;> cases h
theorem serverOf_none {s : Str} (h : (splitP [64] s).isSome = false) (h2 : (splitP [33] s).isSome = false) : serverOf s = [] := by
 unfold serverOf;rw [DE]
 cases h1 : splitP [64] s with
 | some p => rw [h1] at h; cases h
 | none =>
  cases h3 : splitP [33] s with
  | some p => rw [h3] at h2; cases h2
  | none => rfl
end Pr
namespace Go.Proofs.YtchkiegehejfmaaGreatDoor
open Go.RowKit Go.Lib
theorem BP (S : ByteArray) (mk : Nat) (hmk : mk = 64 ∨ mk = 33) (w : World) (hs : S.size ≤ 1000000) : Calls Tryz.prog 88 #[.string S, .int .u8 (mk : Int)] w fun e w' => e = .returned (.bool (Pr.splitP [UInt8.ofNat mk] S.data.toList).isSome) ∧ w = w' := by
 have hsz : S.data.toList.length = S.size := (Am S).symm;have hm58 : UInt8.ofNat mk ≠ 58 := by rcases hmk with rfl | rfl <;> decide
 have hmt : (UInt8.ofNat mk).toNat = mk := by rcases hmk with rfl | rfl <;> rfl
 generalize UInt8.ofNat mk = M at *;by_cases h0 : S.size < 1
 ·have e : S.data.toList = [] := List.eq_nil_of_length_eq_zero (by omega);rw [e, show Pr.splitP [M] [] = none from rfl];have g1 : decide ((S.size : Int) < 1) = true := decide_eq_true (by omega);clear e hsz;show Calls Tryz.prog 88 #[.string S, .int .u8 (mk : Int)] w fun e w' => e = .returned (.bool false) ∧ w = w'
  go_enter Tryz.func88, Tryz.ntmps88;go_wp2_with fail;go_ret;exact ⟨rfl, rfl⟩
 have g1 : decide ((S.size : Int) < 1) = false := decide_eq_false (by omega);have h1 : 0 < S.size := by omega
 obtain ⟨c, r, hcr⟩ : ∃ c r, S.data.toList = c :: r := by
  cases hl : S.data.toList with
  | nil => rw [hl] at hsz; simp at hsz; omega
  | cons c r => exact ⟨c, r, rfl⟩
 have hcS : S[0] = c := by
  have h2 := AN S 0 h1;rw [hcr] at h2;injection h2 with h2;exact h2.symm
 have hrl : r.length + 1 = S.size := by rw [← hsz, hcr, List.length_cons]
 have HCO := hid (fun W => Dt S W hs);have hEX : ∀ a b, (S.extract a b).data.toList = ((c :: r).drop a).take (b - a) := fun a b => by rw [AK, hcr]
 rw [hcr] at HCO ⊢;have hc2 := (S[0]).toNat_lt;by_cases hcm : c = M
 ·have hn0 : (S[0]).toNat = mk := by rw [hcS, hcm, hmt]
  have e1 : ((mk : Int) == (mk : Int)) = true := beq_self_eq_true _;have e2 : ((mk : Int) != (mk : Int)) = false := by rw [bne, e1]; rfl
  have hc58 : c ≠ 58 := by rw [hcm]; exact hm58
  have hct : [M].contains c = true := by rw [hcm]; simp
  rw [Pr.colN, if_neg hc58] at HCO;rcases Pr.cut_col r with ⟨hcut, hk⟩ | ⟨hcut, hk⟩
  ·rw [Pr.split_cut hct hcut];rw [hk] at HCO;have g2 : decide (((r.length + 1 : Nat) : Int) < (S.size : Int)) = false := decide_eq_false (by omega);clear hcut hk hct hcm hcr hcS hEX hc58 hm58 hmt hsz;show Calls Tryz.prog 88 #[.string S, .int .u8 (mk : Int)] w fun e w' => e = .returned (.bool false) ∧ w = w'
   go_enter Tryz.func88, Tryz.ntmps88
   go_wp2_with (first
    | (go_at_call 89; refine (HCO.out _).mono ?_; rintro e w2 ⟨rfl, rfl⟩))
   go_ret;exact ⟨rfl, rfl⟩
  ·generalize hkk : Pr.colN r = k at *;have hl1 : (S.extract 1 (k + 1)).data.toList = r.take k := by rw [hEX]; simp
   have hl2 : (S.extract (k + 2) S.size).data.toList = r.drop (k + 1) := by
    rw [hEX, List.drop_succ_cons];exact List.take_of_length_le (by rw [List.length_drop]; omega)
   have HLO := hid (fun W => Ff (S.extract 1 (k + 1)) W (by rw [ByteArray.size_extract]; omega));have HSV := hid (fun W => El (S.extract (k + 2) S.size) W (by rw [ByteArray.size_extract]; omega));rw [hl1] at HLO;rw [hl2] at HSV;have g2 : decide (((k + 1 : Nat) : Int) < (S.size : Int)) = true := decide_eq_true (by omega);have hkS : k + 1 < S.size := by omega
   have hkS2 : k + 2 ≤ S.size := by omega
   have g3 : (1 : Int) ≤ ((k + 1 : Nat) : Int) := by omega
   have g4 : ((k + 1 : Nat) : Int) ≤ (S.size : Int) := by omega
   have hw : IntKind.i64.wrap (((k + 1 : Nat) : Int) + 1) = ((k + 2 : Nat) : Int) := by rw [IntWalk.i64_in _ (by omega)]; omega
   have g5 : (0 : Int) ≤ ((k + 2 : Nat) : Int) := by omega
   have g6 : ((k + 2 : Nat) : Int) ≤ (S.size : Int) := by omega
   clear hl1 hl2 hEX hcr hcS hsz hc58 hm58 hmt hkk;generalize hk2 : k + 2 = k2 at *;generalize hk1 : k + 1 = k1 at *;clear hk1 hk2;rcases Bool.eq_false_or_eq_true (Pr.localL (r.take k)) with hla | hla
   ·rw [hla] at HLO;rcases Bool.eq_false_or_eq_true (Pr.serverL (r.drop k1)) with hsb | hsb
    ·rw [hsb, if_pos rfl] at HSV;rw [Pr.split_good hct hcut (by rw [hla, hsb]; rfl)];clear hcut hct hcm hla hsb hk;show Calls Tryz.prog 88 #[.string S, .int .u8 (mk : Int)] w fun e w' => e = .returned (.bool true) ∧ w = w'
     go_enter Tryz.func88, Tryz.ntmps88
     go_wp2_with (first
      | (go_at_call 89; refine (HCO.out _).mono ?_; rintro e w2 ⟨rfl, rfl⟩)
      | (go_at_call 121; refine (HLO.out _).mono ?_; rintro e w3 ⟨rfl, rfl⟩)
      | (go_at_call 122; refine (HSV.out _).mono ?_; rintro e w4 ⟨rfl, rfl⟩))
     go_ret;exact ⟨rfl, rfl⟩
    ·rw [hsb, if_neg (by decide)] at HSV;rw [Pr.split_bad hct hcut (by rw [hla, hsb]; rfl)];clear hcut hct hcm hla hsb hk;show Calls Tryz.prog 88 #[.string S, .int .u8 (mk : Int)] w fun e w' => e = .returned (.bool false) ∧ w = w'
     go_enter Tryz.func88, Tryz.ntmps88
     go_wp2_with (first
      | (go_at_call 89; refine (HCO.out _).mono ?_; rintro e w2 ⟨rfl, rfl⟩)
      | (go_at_call 121; refine (HLO.out _).mono ?_; rintro e w3 ⟨rfl, rfl⟩)
      | (go_at_call 122; refine (HSV.out _).mono ?_; rintro e w4 ⟨rfl, rfl⟩))
     go_ret;exact ⟨rfl, rfl⟩
   ·rw [hla] at HLO;rw [Pr.split_bad hct hcut (by rw [hla]; rfl)];clear hcut hct hcm hla hk;show Calls Tryz.prog 88 #[.string S, .int .u8 (mk : Int)] w fun e w' => e = .returned (.bool false) ∧ w = w'
    go_enter Tryz.func88, Tryz.ntmps88
    go_wp2_with (first
     | (go_at_call 89; refine (HCO.out _).mono ?_; rintro e w2 ⟨rfl, rfl⟩)
     | (go_at_call 121; refine (HLO.out _).mono ?_; rintro e w3 ⟨rfl, rfl⟩))
    go_ret;exact ⟨rfl, rfl⟩
 ·have hne : ¬ (S[0]).toNat = mk := fun e => hcm (by rw [← hcS]; exact UInt8.toNat_inj.1 (by rw [e, hmt]))
  rw [Pr.split_mark (by simp [hcm])];generalize hn0 : (S[0]).toNat = n0 at *;have e1 : ((n0 : Int) == (mk : Int)) = false := by rw [beq_eq_false_iff_ne]; omega
  have e2 : ((n0 : Int) != (mk : Int)) = true := by rw [bne, e1]; rfl
  clear hcm hcr hcS hEX hm58 hmt hsz HCO hne;show Calls Tryz.prog 88 #[.string S, .int .u8 (mk : Int)] w fun e w' => e = .returned (.bool false) ∧ w = w'
  go_enter Tryz.func88, Tryz.ntmps88;go_wp2_with fail;go_ret;exact ⟨rfl, rfl⟩
theorem Gp (S : ByteArray) (w : World) (hs : S.size ≤ 1000000) : Calls Tryz.prog 51 #[.string S] w fun e w' => e = .returned (.int .i64 (Pr.userE S.data.toList)) ∧ w = w' := by
 have HK := hid (fun W => BP S 64 (.inl rfl) W hs);rw [show UInt8.ofNat 64 = 64 from rfl] at HK;unfold Pr.userE;rcases Bool.eq_false_or_eq_true (Pr.splitP [64] S.data.toList).isSome with h | h
 ·rw [h] at HK ⊢;rw [if_pos rfl];clear h;go_enter Tryz.func51, Tryz.ntmps51
  go_wp2_with (first
   | (go_at_call 88; refine (HK.out _).mono ?_; rintro e w2 ⟨rfl, rfl⟩))
  go_ret;exact ⟨rfl, rfl⟩
 ·rw [h] at HK ⊢;rw [if_neg (by decide)];clear h;go_enter Tryz.func51, Tryz.ntmps51
  go_wp2_with (first
   | (go_at_call 88; refine (HK.out _).mono ?_; rintro e w2 ⟨rfl, rfl⟩))
  go_ret;exact ⟨rfl, rfl⟩
theorem DB (S : ByteArray) (w : World) (hs : S.size ≤ 1000000) : Calls Tryz.prog 52 #[.string S] w fun e w' => e = .returned (.string (bstr (Pr.serverOf S.data.toList))) ∧ w = w' := by
 have hsz : S.data.toList.length = S.size := (Am S).symm;have HK := hid (fun W => BP S 64 (.inl rfl) W hs);have HQ := hid (fun W => BP S 33 (.inr rfl) W hs);have HCO := hid (fun W => Dt S W hs);rw [show UInt8.ofNat 64 = 64 from rfl] at HK;rw [show UInt8.ofNat 33 = 33 from rfl] at HQ;rcases Bool.eq_false_or_eq_true (Pr.splitP [64] S.data.toList).isSome with h | h
 ·rw [h] at HK;have hso := Pr.serverOf_one (s := S.data.toList) (.inl h)
  have HZ : Hid (bstr (Pr.serverOf S.data.toList) = S.extract (Pr.colN S.data.toList + 1) S.size) := hid (by
   rw [hso.1];refine (A5 ?_).symm;rw [AK]
   exact List.take_of_length_le (by rw [List.length_drop, hsz]; omega))
  have hkk := hso.2;generalize Pr.colN S.data.toList = k at *;generalize bstr (Pr.serverOf S.data.toList) = Z at *;have hw : IntKind.i64.wrap ((k : Int) + 1) = ((k + 1 : Nat) : Int) := by rw [IntWalk.i64_in _ (by omega)]; omega
  have g5 : (0 : Int) ≤ ((k + 1 : Nat) : Int) := by omega
  have g6 : ((k + 1 : Nat) : Int) ≤ (S.size : Int) := by omega
  have hkS : k + 1 ≤ S.size := by omega
  clear hso hsz;generalize hk1 : k + 1 = k1 at *;clear hk1;clear h HQ;go_enter Tryz.func52, Tryz.ntmps52
  go_wp2_with (first
   | (go_at_call 89; refine (HCO.out _).mono ?_; rintro e w2 ⟨rfl, rfl⟩)
   | (go_at_call 88; refine (HK.out _).mono ?_; rintro e w2 ⟨rfl, rfl⟩))
  go_ret;exact ⟨congrArg (fun s => Ending.returned (.string s)) HZ.out.symm, rfl⟩
 ·rw [h] at HK;rcases Bool.eq_false_or_eq_true (Pr.splitP [33] S.data.toList).isSome with h2 | h2
  ·rw [h2] at HQ;have hso := Pr.serverOf_one (s := S.data.toList) (.inr h2)
   have HZ : Hid (bstr (Pr.serverOf S.data.toList) = S.extract (Pr.colN S.data.toList + 1) S.size) := hid (by
    rw [hso.1];refine (A5 ?_).symm;rw [AK]
    exact List.take_of_length_le (by rw [List.length_drop, hsz]; omega))
   have hkk := hso.2;generalize Pr.colN S.data.toList = k at *;generalize bstr (Pr.serverOf S.data.toList) = Z at *;have hw : IntKind.i64.wrap ((k : Int) + 1) = ((k + 1 : Nat) : Int) := by rw [IntWalk.i64_in _ (by omega)]; omega
   have g5 : (0 : Int) ≤ ((k + 1 : Nat) : Int) := by omega
   have g6 : ((k + 1 : Nat) : Int) ≤ (S.size : Int) := by omega
   have hkS : k + 1 ≤ S.size := by omega
   clear hso hsz;generalize hk1 : k + 1 = k1 at *;clear hk1;clear h h2;go_enter Tryz.func52, Tryz.ntmps52;go_wp2_with fail;refine (HK.out _).mono ?_;rintro e w2 ⟨rfl, rfl⟩;go_wp2_with fail;refine (HQ.out _).mono ?_;rintro e w2 ⟨rfl, rfl⟩;go_wp2_with (go_at_call 89; refine (HCO.out _).mono ?_; rintro e w2 ⟨rfl, rfl⟩);go_ret;exact ⟨congrArg (fun s => Ending.returned (.string s)) HZ.out.symm, rfl⟩
  ·rw [h2] at HQ;rw [Pr.serverOf_none h h2];clear h h2 hsz;go_enter Tryz.func52, Tryz.ntmps52;go_wp2_with fail;refine (HK.out _).mono ?_;rintro e w2 ⟨rfl, rfl⟩;go_wp2_with fail;refine (HQ.out _).mono ?_;rintro e w2 ⟨rfl, rfl⟩;go_wp2_with fail;go_ret;exact ⟨rfl, rfl⟩
theorem E0 (S : ByteArray) (w : World) (hs : S.size ≤ 10000) :
  Calls Tryz.prog 22 #[.string S] w fun e w' => ((∃ A cap, e = .returned (.slice A (Pr.usualP S.data.toList).length cap) ∧ (Pr.usualP S.data.toList).length ≤ cap ∧ RlRow w' (fun b => w.heap.size ≤ b) A (Pr.usualP S.data.toList)) ∧ Below w.heap.size w w') := by
 have HU := hid (Gp S w (by omega));have HSO := hid (fun w => DB S w (by omega));have hsl := BI S.data.toList;rw [← Am] at hsl;unfold Pr.usualP Pr.usualT;by_cases hE : Pr.userE S.data.toList = 0
 ·rw [if_neg (by simp [hE])];rw [hE] at HU;generalize Pr.serverOf S.data.toList = so at *;clear hE;have hso : (bstr so).size ≤ 10000 := by rw [Ai]; omega
  have HBS : Hid ((bstr so).data.toList = so) := hid rfl;generalize bstr so = SO at *;obtain ⟨P, hP⟩ : ∃ P, Pr.parseP (Pr.usHead ++ (so ++ Pr.usTail)) = P := ⟨_, rfl⟩;rw [hP];have HPP := hid hP
  have HUL : Hid ((Pr.usHead ++ (so ++ Pr.usTail)).length ≤ 1000000) := hid (by
   rw [List.length_append, List.length_append, show Pr.usHead.length = 314 from rfl, show Pr.usTail.length = 90 from rfl]
   omega)
  clear hP;go_enter Tryz.func22, Tryz.ntmps22;go_wp2_with (go_at_call 51; refine HU.out.mono ?_; rintro e w1 ⟨rfl, rfl⟩);go_wp2_with (go_at_call 52; refine (HSO.out w).mono ?_; rintro e w2 ⟨rfl, rfl⟩);have HB2 := hid (Below.refl w.heap.size w);have hX : ∀ a b : ByteArray, ((a ++ SO) ++ b).data.toList = a.data.toList ++ (so ++ b.data.toList) := fun a b => by
   rw [Au, Au, HBS.out];simp only [List.append_assoc]
  refine (Fl _ w ?_).mono ?_
  ·rw [Am, hX];exact HUL.out
  ·rintro e w3 ⟨⟨A, cap, he, hc, hr⟩, hb3⟩;rw [hX] at he hc hr;have hr1 : RlRow w3 (fun b => w.heap.size ≤ b) A (Pr.parseP (Pr.usHead ++ (so ++ Pr.usTail))).1 := hr;have hc' : (Pr.parseP (Pr.usHead ++ (so ++ Pr.usTail))).1.length ≤ cap := hc;have he' : e = .returned (.tuple #[.slice A (Pr.parseP (Pr.usHead ++ (so ++ Pr.usTail))).1.length cap, .int .i64 (Pr.parseP (Pr.usHead ++ (so ++ Pr.usTail))).2.1, .int .i64 (Pr.parseP (Pr.usHead ++ (so ++ Pr.usTail))).2.2]) := he;clear he hc hr;rw [HPP.out] at hr1 hc' he';have hr' : RlRow w3 (fun b => w.heap.size ≤ b) A P.1 := hr1.keep fun b hb _ => ⟨Nat.le_trans HB2.out.size hb, rfl⟩
   clear hr1 hX;have HR := hid hr';have HC := hid hc';subst he';have HB3 := hid hb3;clear hr' hc' hb3;go_wp2_with fail;go_ret;exact ⟨⟨A, cap, rfl, HC.out, HR.out⟩, HB3.out⟩
 ·rw [if_pos hE];generalize Pr.userE S.data.toList = F at *;have hFb : (F == 0) = false := beq_eq_false_iff_ne.2 hE;have hFn : (F != 0) = true := by rw [bne, hFb]; rfl
  clear hE;go_enter Tryz.func22, Tryz.ntmps22;go_wp2_with (go_at_call 51; refine HU.out.mono ?_; rintro e w1 ⟨rfl, rfl⟩);go_ret;exact ⟨⟨none, 0, rfl, Nat.le_refl _, fun i r h => by cases h⟩, Below.refl _ _⟩
end Go.Proofs.YtchkiegehejfmaaGreatDoor
