/- The texts Gg, Gh of this proof, one behind the other. -/
import Derived.Test.YtchkiegehejfmaaGreatDoorMsas
import Derived.Test.YtchkiegehejfmaaGreatDoorMsbb
import Derived.Test.YtchkiegehejfmaaGreatDoorMsau
set_option linter.unusedSimpArgs false
set_option maxHeartbeats 16000000
set_option maxRecDepth 100000
set_option linter.unusedVariables false
namespace Go.Proofs.YtchkiegehejfmaaGreatDoor
open Go.RowKit Go.Lib
theorem EI (S : ByteArray) (w : World) (hs : S.size ≤ 1000000) : Calls Tryz.prog 173 #[.string S] w fun e w' => e = .returned (nmV (Pr.numP S.data.toList)) ∧ Below w.heap.size w w' := by
 have hlen := Am S;have HAT : Hid (∀ k (h : k < S.size), S.data.toList[k]? = some S[k]) := hid (AN S);obtain ⟨R, hR⟩ : ∃ R, Pr.numP S.data.toList = R := ⟨_, rfl⟩;rw [hR];by_cases h0 : S.size = 0
 ·have HE : Hid (R = none) := hid (by rw [← hR]; exact Pr.numP_short (.inl (by
   have e : S.data.toList = [] := List.eq_nil_of_length_eq_zero (by omega)
   rw [e]; rfl)))
  have hz : ((S.size : Int) == 0) = true := by rw [beq_iff_eq]; omega
  have hz2 : ¬ (0 : Int) < (S.size : Int) := by omega
  have hz3 : (S.size == 0) = true := by rw [beq_iff_eq]; exact h0
  clear hR h0 hlen;go_enter Tryz.func173, Tryz.ntmps173;go_wp2_with fail
  go_ret2
  exact ⟨AG HE.out, Below.refl _ _⟩
 have hp0 : 0 < S.size := by omega
 have hpI : (0 : Int) < (S.size : Int) := by omega
 have HD0 : Hid (Pr.sgnL S.data.toList = if S[0]'hp0 = 45 then 1 else 0) := hid (by
  have h1 := HAT.out 0 hp0;unfold Pr.sgnL
  cases hL : S.data.toList with
  | nil => rw [hL] at h1; cases h1
  | cons c r =>
   rw [hL] at h1;injection h1 with h1;rw [← h1];by_cases hc : c = 45
   ·rw [if_pos hc, hc]; rfl
   ·rw [if_neg hc]; exact if_neg (fun e => hc (by injection e)))
 obtain ⟨d, hd⟩ : ∃ d, Pr.sgnL S.data.toList = d := ⟨_, rfl⟩;have HSV := hid (Pr.sval_eq S.data.toList);have HSH : Hid (S.size = d ∨ d + 13 < S.size → R = none) := hid (fun h => by rw [← hR]; exact Pr.numP_short (by rw [hd, ← hlen]; exact h));have HBAD : Hid ((∃ c ∈ S.data.toList.drop d, Ar.isDig c = false) → R = none) := hid (fun h => by rw [← hR]; exact Pr.numP_bad (by rw [hd]; exact h));have HYES : Hid (∀ q, Pr.sval S.data.toList = q → -1000000000000 ≤ q → q ≤ 1000000000000 → Ar.itoa q = S.data.toList → R = some q) := hid (fun q h1 h2 h3 h4 => by rw [← hR]; exact Pr.numP_yes h1 h2 h3 h4);have HNO : Hid (∀ q, Pr.sval S.data.toList = q → (q < -1000000000000 ∨ 1000000000000 < q ∨ Ar.itoa q ≠ S.data.toList) → R = none) := hid (fun q h1 h2 => by rw [← hR]; exact Pr.numP_no h1 h2);rw [hd] at HD0 HSV;have HLEN := hid hlen;have hcases : (d = 1 ∧ (((S[0]'hp0).toNat : Int) == 45) = true) ∨ (d = 0 ∧ (((S[0]'hp0).toNat : Int) == 45) = false) := by
  have := HD0.out;by_cases h : S[0]'hp0 = 45
  ·rw [if_pos h] at this;exact .inl ⟨this, u8_eq (n := 45) rfl h⟩
  ·rw [if_neg h] at this;exact .inr ⟨this, u8_ne (n := 45) rfl h⟩
 clear hd hR hlen HD0;have hc0 := (S[0]'hp0).toNat_lt;rcases hcases with ⟨rfl, hsg⟩ | ⟨rfl, hsg⟩
 ·by_cases hsz : S.size = 1
  ·have HE := hid (HSH.out (.inl hsz));have hz : ((S.size : Int) == 1) = true := by rw [beq_iff_eq]; omega
   have hz3 : (S.size == 1) = true := by rw [beq_iff_eq]; exact hsz
   go_enter Tryz.func173, Tryz.ntmps173;go_wp2_with fail
   go_ret2
   exact ⟨AG HE.out, Below.refl _ _⟩
  have hz : ((S.size : Int) == 1) = false := by rw [beq_eq_false_iff_ne]; omega
  have hz3 : (S.size == 1) = false := by rw [beq_eq_false_iff_ne]; exact hsz
  by_cases h13 : 1 + 13 < S.size
  ·have HE := hid (HSH.out (.inr h13));have hzI : (14 : Int) < (S.size : Int) := by omega
   go_enter Tryz.func173, Tryz.ntmps173;go_wp2_with fail
   go_ret2
   exact ⟨AG HE.out, Below.refl _ _⟩
  have hzI : ¬ (14 : Int) < (S.size : Int) := by omega
  have HNL : Hid (S.size ≤ 14) := hid (by omega);clear hsz h13;go_enter Tryz.func173, Tryz.ntmps173;go_wp2_with fail
  go_loop [5, 6] (fun n ix => ∃ k m : Nat, 1 ≤ k ∧ k ≤ S.size ∧ n = .int .i64 (m : Int) ∧ ix = .int .i64 (k : Int) ∧ Hid (DgS S.data.toList 1 k m)) (fun _ ix => S.size - (RowKit.intOf ix).toNat)
  case atStart => exact ⟨1, 0, Nat.le_refl _, by omega, rfl, rfl, hid (by
   have e : (S.data.toList.take 1).drop 1 = [] := List.drop_eq_nil_of_le (by rw [List.length_take]; omega)
   exact ⟨by rw [e]; rfl, by rw [e]; simp⟩)⟩
  case round =>
   obtain ⟨k, m, hdk, hk, rfl, rfl, hdg⟩ := hrel;have hmlt := hdg.out.lt (by have := HNL.out; omega);by_cases hlt : k < S.size
   ·have HC := hid (HAT.out k hlt);have HB0 : Hid (¬ (48 ≤ (S[k]'hlt).toNat ∧ (S[k]'hlt).toNat ≤ 57) → R = none) := hid (fun h => HBAD.out (E2 HC.out hdk h));have HN0 : Hid (48 ≤ (S[k]'hlt).toNat ∧ (S[k]'hlt).toNat ≤ 57 → DgS S.data.toList 1 (k + 1) (10 * m + ((S[k]'hlt).toNat - 48))) := hid (fun h => hdg.out.next HC.out hdk (decide_eq_true h));have hcl := (S[k]'hlt).toNat_lt;clear HC;generalize hnc : (S[k]'hlt).toNat = nc at *;by_cases ha : nc < 48
    ·have HE := hid (HB0.out (by omega));go_wp2_with fail
     go_ret2
     exact ⟨AG HE.out, Below.refl _ _⟩
    ·by_cases hb : 57 < nc
     ·have HE := hid (HB0.out (by omega));go_wp2_with fail
      go_ret2
      exact ⟨AG HE.out, Below.refl _ _⟩
     ·have HN := hid (HN0.out ⟨by omega, by omega⟩);have hw1 : IntKind.i64.wrap ((m : Int) * 10) = (m : Int) * 10 := IntWalk.i64_in _ (by omega);have hw2 : IntKind.u8.wrap ((nc : Int) - 48) = (nc : Int) - 48 := by rw [IntKind.wrap_u8]; omega
      have hw2' : IntKind.i64.wrap ((nc : Int) - 48) = (nc : Int) - 48 := IntWalk.i64_in _ (by omega);have hw3 : IntKind.i64.wrap ((m : Int) * 10 + ((nc : Int) - 48)) = (m : Int) * 10 + ((nc : Int) - 48) := IntWalk.i64_in _ (by omega);have hwe : (m : Int) * 10 + ((nc : Int) - 48) = ((10 * m + (nc - 48) : Nat) : Int) := by omega
      go_wp2_with fail
      go_round
      case rel => exact ⟨k + 1, 10 * m + (nc - 48), by omega, by omega, by first | exact congrArg (Value.int .i64) hwe | go_num, by go_num, HN⟩
      case measure => simp [RowKit.intOf]; omega
   ·obtain rfl : k = S.size := by omega
    have HV : Hid (Pr.sval S.data.toList = -(m : Int)) := hid (by
     rw [HSV.out];have := hdg.out;rw [HLEN.out] at this;rw [this.all]
     rfl)
    have HMI : Hid (Ar.inInt (-(m : Int))) := hid (by unfold Ar.inInt; omega);have HT := hid (fun W => DR (-(m : Int)) W HMI.out);have HQY := hid (HYES.out (-(m : Int)) HV.out);have HQN := hid (HNO.out (-(m : Int)) HV.out);clear HV HMI hdg;by_cases h1 : (-(m : Int)) < -1000000000000
    ·have HE := hid (HQN.out (.inl h1));go_wp2_with fail
     go_ret2
     exact ⟨AG HE.out, Below.refl _ _⟩
    ·by_cases h2 : 1000000000000 < (-(m : Int))
     ·have HE := hid (HQN.out (.inr (.inl h2)));go_wp2_with fail
      go_ret2
      exact ⟨AG HE.out, Below.refl _ _⟩
     ·by_cases heq : Ar.itoa (-(m : Int)) = S.data.toList
      ·have HE := hid (HQY.out (by omega) (by omega) heq);have hcmp : ((bstr (Ar.itoa (-(m : Int)))).toList == S.toList) = true := by rw [AD, Lib.toList_data, beq_iff_eq]; exact heq
       have hcmn : ((bstr (Ar.itoa (-(m : Int)))).toList != S.toList) = false := by rw [bne, hcmp]; rfl
       clear heq;go_wp2_with (go_at_call 82; refine (HT.out _).mono ?_; rintro e w2 ⟨rfl, hb2⟩; have HB2 := hid hb2; clear hb2)
       go_ret2
       exact ⟨CR HE.out, HB2.out⟩
      ·have HE := hid (HQN.out (.inr (.inr heq)));have hcmp : ((bstr (Ar.itoa (-(m : Int)))).toList == S.toList) = false := by rw [AD, Lib.toList_data, beq_eq_false_iff_ne]; exact heq
       have hcmn : ((bstr (Ar.itoa (-(m : Int)))).toList != S.toList) = true := by rw [bne, hcmp]; rfl
       clear heq;go_wp2_with (go_at_call 82; refine (HT.out _).mono ?_; rintro e w2 ⟨rfl, hb2⟩; have HB2 := hid hb2; clear hb2)
       go_ret2
       exact ⟨AG HE.out, HB2.out⟩
 ·by_cases hsz : S.size = 0
  ·have HE := hid (HSH.out (.inl hsz));have hz : ((S.size : Int) == 0) = true := by rw [beq_iff_eq]; omega
   have hz3 : (S.size == 0) = true := by rw [beq_iff_eq]; exact hsz
   go_enter Tryz.func173, Tryz.ntmps173;go_wp2_with fail
   go_ret2
   exact ⟨AG HE.out, Below.refl _ _⟩
  have hz : ((S.size : Int) == 0) = false := by rw [beq_eq_false_iff_ne]; omega
  have hz3 : (S.size == 0) = false := by rw [beq_eq_false_iff_ne]; exact hsz
  by_cases h13 : 0 + 13 < S.size
  ·have HE := hid (HSH.out (.inr h13));have hzI : (13 : Int) < (S.size : Int) := by omega
   go_enter Tryz.func173, Tryz.ntmps173;go_wp2_with fail
   go_ret2
   exact ⟨AG HE.out, Below.refl _ _⟩
  have hzI : ¬ (13 : Int) < (S.size : Int) := by omega
  have HNL : Hid (S.size ≤ 13) := hid (by omega);clear hsz h13;go_enter Tryz.func173, Tryz.ntmps173;go_wp2_with fail
  go_loop [5, 6] (fun n ix => ∃ k m : Nat, 0 ≤ k ∧ k ≤ S.size ∧ n = .int .i64 (m : Int) ∧ ix = .int .i64 (k : Int) ∧ Hid (DgS S.data.toList 0 k m)) (fun _ ix => S.size - (RowKit.intOf ix).toNat)
  case atStart => exact ⟨0, 0, Nat.le_refl _, by omega, rfl, rfl, hid (by
   have e : (S.data.toList.take 0).drop 0 = [] := List.drop_eq_nil_of_le (by rw [List.length_take]; omega)
   exact ⟨by rw [e]; rfl, by rw [e]; simp⟩)⟩
  case round =>
   obtain ⟨k, m, hdk, hk, rfl, rfl, hdg⟩ := hrel;have hmlt := hdg.out.lt (by have := HNL.out; omega);by_cases hlt : k < S.size
   ·have HC := hid (HAT.out k hlt);have HB0 : Hid (¬ (48 ≤ (S[k]'hlt).toNat ∧ (S[k]'hlt).toNat ≤ 57) → R = none) := hid (fun h => HBAD.out (E2 HC.out hdk h));have HN0 : Hid (48 ≤ (S[k]'hlt).toNat ∧ (S[k]'hlt).toNat ≤ 57 → DgS S.data.toList 0 (k + 1) (10 * m + ((S[k]'hlt).toNat - 48))) := hid (fun h => hdg.out.next HC.out hdk (decide_eq_true h));have hcl := (S[k]'hlt).toNat_lt;clear HC;generalize hnc : (S[k]'hlt).toNat = nc at *;by_cases ha : nc < 48
    ·have HE := hid (HB0.out (by omega));go_wp2_with fail
     go_ret2
     exact ⟨AG HE.out, Below.refl _ _⟩
    ·by_cases hb : 57 < nc
     ·have HE := hid (HB0.out (by omega));go_wp2_with fail
      go_ret2
      exact ⟨AG HE.out, Below.refl _ _⟩
     ·have HN := hid (HN0.out ⟨by omega, by omega⟩);have hw1 : IntKind.i64.wrap ((m : Int) * 10) = (m : Int) * 10 := IntWalk.i64_in _ (by omega);have hw2 : IntKind.u8.wrap ((nc : Int) - 48) = (nc : Int) - 48 := by rw [IntKind.wrap_u8]; omega
      have hw2' : IntKind.i64.wrap ((nc : Int) - 48) = (nc : Int) - 48 := IntWalk.i64_in _ (by omega);have hw3 : IntKind.i64.wrap ((m : Int) * 10 + ((nc : Int) - 48)) = (m : Int) * 10 + ((nc : Int) - 48) := IntWalk.i64_in _ (by omega);have hwe : (m : Int) * 10 + ((nc : Int) - 48) = ((10 * m + (nc - 48) : Nat) : Int) := by omega
      go_wp2_with fail
      go_round
      case rel => exact ⟨k + 1, 10 * m + (nc - 48), by omega, by omega, by first | exact congrArg (Value.int .i64) hwe | go_num, by go_num, HN⟩
      case measure => simp [RowKit.intOf]; omega
   ·obtain rfl : k = S.size := by omega
    have HV : Hid (Pr.sval S.data.toList = (m : Int)) := hid (by
     rw [HSV.out];have := hdg.out;rw [HLEN.out] at this;rw [this.all]
     rfl)
    have HMI : Hid (Ar.inInt (m : Int)) := hid (by unfold Ar.inInt; omega);have HT := hid (fun W => DR (m : Int) W HMI.out);have HQY := hid (HYES.out (m : Int) HV.out);have HQN := hid (HNO.out (m : Int) HV.out);clear HV HMI hdg;by_cases h1 : (m : Int) < -1000000000000
    ·have HE := hid (HQN.out (.inl h1));go_wp2_with fail
     go_ret2
     exact ⟨AG HE.out, Below.refl _ _⟩
    ·by_cases h2 : 1000000000000 < (m : Int)
     ·have HE := hid (HQN.out (.inr (.inl h2)));go_wp2_with fail
      go_ret2
      exact ⟨AG HE.out, Below.refl _ _⟩
     ·by_cases heq : Ar.itoa (m : Int) = S.data.toList
      ·have HE := hid (HQY.out (by omega) (by omega) heq);have hcmp : ((bstr (Ar.itoa (m : Int))).toList == S.toList) = true := by rw [AD, Lib.toList_data, beq_iff_eq]; exact heq
       have hcmn : ((bstr (Ar.itoa (m : Int))).toList != S.toList) = false := by rw [bne, hcmp]; rfl
       clear heq;go_wp2_with (go_at_call 82; refine (HT.out _).mono ?_; rintro e w2 ⟨rfl, hb2⟩; have HB2 := hid hb2; clear hb2)
       go_ret2
       exact ⟨CR HE.out, HB2.out⟩
      ·have HE := hid (HQN.out (.inr (.inr heq)));have hcmp : ((bstr (Ar.itoa (m : Int))).toList == S.toList) = false := by rw [AD, Lib.toList_data, beq_eq_false_iff_ne]; exact heq
       have hcmn : ((bstr (Ar.itoa (m : Int))).toList != S.toList) = true := by rw [bne, hcmp]; rfl
       clear heq;go_wp2_with (go_at_call 82; refine (HT.out _).mono ?_; rintro e w2 ⟨rfl, hb2⟩; have HB2 := hid hb2; clear hb2)
       go_ret2
       exact ⟨AG HE.out, HB2.out⟩
end Go.Proofs.YtchkiegehejfmaaGreatDoor
namespace Pr
def operandP (o : Int) (r : List Tk) : Option (Cn × List Tk) := if useText o = false ∧ useN o = false then some (.mk o [] 0 [], r) else fieldP o r
end Pr
namespace Go.Proofs.YtchkiegehejfmaaGreatDoor
open Go.RowKit Go.Lib
theorem Db (f : Int) : (kdOf f == 115) = (f == 2) ∧ (kdOf f == 40) = (f == 3) ∧ (kdOf f == 41) = (f == 4) ∧ (kdOf f == 44) = (f == 5) := by
 unfold kdOf;by_cases h1 : f = 1
 ·subst h1; decide
 rw [if_neg h1];by_cases h2 : f = 2
 ·subst h2; decide
 rw [if_neg h2];by_cases h3 : f = 3
 ·subst h3; decide
 rw [if_neg h3];by_cases h4 : f = 4
 ·subst h4; decide
 rw [if_neg h4];by_cases h5 : f = 5
 ·subst h5; decide
 rw [if_neg h5, beq_eq_false_iff_ne.2 h2, beq_eq_false_iff_ne.2 h3, beq_eq_false_iff_ne.2 h4, beq_eq_false_iff_ne.2 h5];decide
theorem Aj {P : Program} {fn : Func} {p u v : Tmp} {ty : TypeId} (h : fn.results = #[.cell p ty, .tmp u, .tmp v]) (tmps : Array Value) (w : World) (g : Nat) (t : TypeId) (cs : Array Value) (d : TypeDesc)
  (hp : tmps.getD p undef = .pointer (some ⟨g, 0, none⟩)) (hg : Blk w g t cs)
  (hu : P.underlying ty = some d) (hd : (match d with | .struct _ | .array _ _ => true | _ => false) = true) (hi : (P.info? ty).map (·.size) = some cs.size) :
  (results fn tmps).run P w = .ok (.tuple #[.agg cs, tmps.getD u undef, tmps.getD v undef]) w := by
 have hl := run_loadVar_row w g t ty cs (0, 0) d hg hu hd hi;have e : (results fn tmps).run P w = ((asAddr (tmps.getD p undef)).run P w).andThen fun a w₁ => ((loadVar ty a).run P w₁).andThen fun x w₂ => .ok (.tuple #[x, tmps.getD u undef, tmps.getD v undef]) w₂ := by
  simp only [results, h];simp [Sem.run_bind, Result.andThen]
 rw [e];simp only [hp, asAddr, Sem.run_pure, Result.andThen_ok];rw [hl];rfl
def RcA (w : World) (L : List Pr.Tk) (x : Option (Pr.Cn × List Pr.Tk)) (e : Ending) (w' : World) : Prop := (match x with
  | none => ∃ V c j, e = .returned (.tuple #[.agg V, .int .i64 j, .bool false]) ∧ CnV w' (fun b => w.heap.size ≤ b) V c
  | some (c, q) => ∃ (V : Array Value) (j : Nat), j ≤ L.length ∧ q = L.drop j ∧ e = .returned (.tuple #[.agg V, .int .i64 (j : Int), .bool true]) ∧ CnV w' (fun b => w.heap.size ≤ b) V c) ∧ Below w.heap.size w w'
section
variable {w w' : World} {L : List Pr.Tk} {x : Option (Pr.Cn × List Pr.Tk)} {V : Array Value} {c : Pr.Cn} {j : Int} {k : Nat}
theorem RcA.bad (hx : x = none) (hV : CnV w' (fun b => w.heap.size ≤ b) V c) (hb : Below w.heap.size w w') : RcA w L x (.returned (.tuple #[.agg V, .int .i64 j, .bool false])) w' := by
 subst hx;exact ⟨⟨V, c, j, rfl, hV⟩, hb⟩
theorem RcA.good {q : List Pr.Tk} (hx : x = some (c, q)) (hq : q = L.drop k) (hk : k ≤ L.length) (hj : j = (k : Int)) (hV : CnV w' (fun b => w.heap.size ≤ b) V c) (hb : Below w.heap.size w w') : RcA w L x (.returned (.tuple #[.agg V, .int .i64 j, .bool true])) w' := by
 subst hx hj;exact ⟨⟨V, k, hk, hq, rfl, hV⟩, hb⟩
end
theorem Bl {w : World} {ok : Nat → Prop} (o : Int) (t : List UInt8) (n : Int) : CnV w ok #[.int .i64 o, .string (bstr t), .int .i64 n, .slice none 0 0] (.mk o t n []) := CnV.make (A := none) (cap := 0) CnRow.nil
theorem A4 {w : World} {ok : Nat → Prop} : CnV w ok zCn (.mk 0 [] 0 []) := Bl 0 [] 0
theorem Ap (a : Int) (s : ByteArray) (n : Int) (A : Option Addr) (l c : Nat) : (Tryz.prog.info? 36).map (·.size) = some (#[.int .i64 a, .string s, .int .i64 n, .slice A l c] : Array Value).size := by rw [Aa]; rfl
structure OpM (w0 : World) (G : Nat) (o : Int) (t : List UInt8) (n : Int) (kd : Int) (tx : ByteArray) (wr : World) : Prop where
 res : Blk wr w0.heap.size 36 zCn
 cnd : Blk wr (w0.heap.size + 1) 36 #[.int .i64 o, .string (bstr t), .int .i64 n, .slice none 0 0]
 tok : Blk wr G 98 #[.int .u8 kd, .string tx]
 gt : w0.heap.size + 2 ≤ G
 be : Below w0.heap.size w0 wr
section
variable {w0 wr w' : World} {G : Nat} {o : Int} {t : List UInt8} {n kd : Int} {tx : ByteArray}
theorem OpM.bel (h : OpM w0 G o t n kd tx wr) (hb : Below wr.heap.size wr w') : OpM w0 G o t n kd tx w' := ⟨h.res.below hb h.res.lt, h.cnd.below hb h.cnd.lt, h.tok.below hb h.tok.lt, h.gt, h.be.trans (hb.mono h.be.size)⟩
theorem OpM.set1 (h : OpM w0 G o t n kd tx wr) (s : List UInt8) : OpM w0 G o s n kd tx (wr.setCell ⟨w0.heap.size + 1, 1, none⟩ (.string (bstr s))) :=
 ⟨h.res.far (by show w0.heap.size ≠ w0.heap.size + 1; omega) _, h.cnd.set_ 1 _, h.tok.far (by have := h.gt; show G ≠ w0.heap.size + 1; omega) _, h.gt, h.be.setCell (by show w0.heap.size ≤ w0.heap.size + 1; omega) _⟩
theorem OpM.set2 (h : OpM w0 G o t n kd tx wr) (m : Int) : OpM w0 G o t m kd tx (wr.setCell ⟨w0.heap.size + 1, 2, none⟩ (.int .i64 m)) :=
 ⟨h.res.far (by show w0.heap.size ≠ w0.heap.size + 1; omega) _, h.cnd.set_ 2 _, h.tok.far (by have := h.gt; show G ≠ w0.heap.size + 1; omega) _, h.gt, h.be.setCell (by show w0.heap.size ≤ w0.heap.size + 1; omega) _⟩
theorem OpM.row (h : OpM w0 G o t n kd tx wr) (X : Array Value) : Blk (wr.setRow w0.heap.size X) w0.heap.size 36 X ∧ Below w0.heap.size w0 (wr.setRow w0.heap.size X) ∧ Blk (wr.setRow w0.heap.size X) (w0.heap.size + 1) 36 #[.int .i64 o, .string (bstr t), .int .i64 n, .slice none 0 0] ∧ Blk (wr.setRow w0.heap.size X) G 98 #[.int .u8 kd, .string tx] :=
 ⟨setRow_heap wr w0.heap.size zCn X 36 (0, 0) h.res, below_setRow (g := w0.heap.size) h.be (Nat.le_refl _) X, (setRow_other _ _ _ _ (by omega)).trans h.cnd, (setRow_other _ _ _ _ (by have := h.gt; omega)).trans h.tok⟩
end
theorem Gw (o : Int) (ht : Pr.useText o = false) (hn : Pr.useN o = false) (A : Option Addr) (cap : Nat) (L : List Pr.Tk) (i : Nat) (w : World) (hi : i ≤ L.length) :
  Calls Tryz.prog 164 #[.slice A L.length cap, .int .i64 (i : Int), .int .i64 o] w (RcA w L (some (.mk o [] 0 [], L.drop i))) := by
 have HUT := hid (fun W => Ay o W);have HUN := hid (fun W => AF o W);rw [ht] at HUT;rw [hn] at HUN;obtain ⟨RES, hRES⟩ : ∃ R : Option (Pr.Cn × List Pr.Tk), R = some (.mk o [] 0 [], L.drop i) := ⟨_, rfl⟩;have HE := hid hRES;rw [← hRES];clear ht hn hRES;go_enter Tryz.func164, Tryz.ntmps164;go_wp2_with (first | (go_at_call 46; refine (HUT.out _).mono ?_; rintro e w9 ⟨rfl, rfl⟩) | (go_at_call 47; refine (HUN.out _).mono ?_; rintro e w9 ⟨rfl, rfl⟩));have hk : Blk ((w.alloc (.cells #[.int .i64 o, .string ⟨#[]⟩, .int .i64 0, .slice none 0 0] 36)).alloc (.cells #[.int .i64 o, .string ⟨#[]⟩, .int .i64 0, .slice none 0 0] 36)) w.heap.size 36 #[.int .i64 o, .string ⟨#[]⟩, .int .i64 0, .slice none 0 0] := (Blk.new w _ _).alloc _;have hb := ((Below.refl _ w).alloc (Nat.le_refl _) (.cells #[.int .i64 o, .string ⟨#[]⟩, .int .i64 0, .slice none 0 0] 36)).alloc (by rw [World.size_alloc]; exact Nat.le_succ _) (.cells #[.int .i64 o, .string ⟨#[]⟩, .int .i64 0, .slice none 0 0] 36);refine bodyPost_ret (Aj rfl _ _ w.heap.size _ _ _ rfl hk Tryz.underlying36 rfl (Ap ..)) rfl ?_;exact RcA.good HE.out rfl hi rfl (Bl o [] 0) hb
theorem E6 (o : Int) (ho : o = 6 ∨ o = 7 ∨ o = 8) (A : Option Addr) (cap : Nat) (L : List Pr.Tk) (i : Nat) (w : World) (h : Rd w A (L.length * 2) (rkL L)) (hi : i ≤ L.length) (hL : L.length ≤ 1000000) (hx : ∀ t ∈ L, t.text.length ≤ 1000000) :
  Calls Tryz.prog 164 #[.slice A L.length cap, .int .i64 (i : Int), .int .i64 o] w (RcA w L (Pr.fieldP o (L.drop i))) := by
 have ht : Pr.useText o = true := by rcases ho with rfl | rfl | rfl <;> rfl
 have hn : Pr.useN o = false := by rcases ho with rfl | rfl | rfl <;> rfl
 have h9 : (o == 9) = false := beq_eq_false_iff_ne.2 (by omega);have hn9 : (o != 9) = true := by rw [bne, h9]; rfl
 have HFP := hid (Pr.fieldP_text ho (L.drop i));have HTY := hid (fun h => Pr.takeF_yes (f := 2) (r := L.drop i) (by decide) h);have HTN := hid (fun h => Pr.takeF_no (f := 2) (r := L.drop i) h);obtain ⟨RES, hRES⟩ : ∃ R, Pr.fieldP o (L.drop i) = R := ⟨_, rfl⟩;rw [hRES] at HFP ⊢;clear hRES ho;have HUT := hid (fun W => Ay o W);have HUN := hid (fun W => AF o W);rw [ht] at HUT;rw [hn] at HUN;have HLT := hid (Pr.hd_lt (L := L) (i := i));have hz1 : Below w.heap.size w (w.alloc (.cells zCn 36)) := (Below.refl w.heap.size w).alloc (Nat.le_refl _) (.cells zCn 36);have hs1 : (w.alloc (.cells zCn 36)).heap.size = w.heap.size + 1 := World.size_alloc ..
 have hz2 : Below w.heap.size w ((w.alloc (.cells zCn 36)).alloc (.cells #[.int .i64 o, .string ⟨#[]⟩, .int .i64 0, .slice none 0 0] 36)) := hz1.alloc (by omega) _;have hs2 : ((w.alloc (.cells zCn 36)).alloc (.cells #[.int .i64 o, .string ⟨#[]⟩, .int .i64 0, .slice none 0 0] 36)).heap.size = w.heap.size + 2 := by rw [World.size_alloc, hs1]
 have HK0 := hid ((Blk.new w 36 zCn).alloc (.cells #[.int .i64 o, .string ⟨#[]⟩, .int .i64 0, .slice none 0 0] 36))
 have HK1 : Hid (Blk ((w.alloc (.cells zCn 36)).alloc (.cells #[.int .i64 o, .string ⟨#[]⟩, .int .i64 0, .slice none 0 0] 36)) (w.heap.size + 1) 36 #[.int .i64 o, .string (bstr []), .int .i64 0, .slice none 0 0]) := hid (by
  have := Blk.new (w.alloc (.cells zCn 36)) 36 #[.int .i64 o, .string (bstr []), .int .i64 0, .slice none 0 0]
  rwa [hs1] at this)
 have HR1 := hid (h.below hz2);have HZ2 := hid hz2;have HS2 := hid hs2;have HA := hid (Bk A cap L i _ HR1.out hL (by omega));generalize hT : Pr.hdT (L.drop i) = T at *
 have HTL : Hid (T.text.length ≤ 1000000) := hid (by
  rw [← hT]
  cases hr : L.drop i with
  | nil => exact Nat.zero_le _
  | cons a r => exact hx a (List.mem_of_mem_drop (i := i) (by rw [hr]; exact List.mem_cons_self ..)))
 have hwi : IntKind.i64.wrap ((i : Int) + 1) = (i : Int) + 1 := IntWalk.i64_in _ (by omega);clear h hz1 hz2 hs1 hs2 ht hn hx hT;go_enter Tryz.func164, Tryz.ntmps164;go_wp2_with (first | (go_at_call 46; refine (HUT.out _).mono ?_; rintro e w9 ⟨rfl, rfl⟩) | (go_at_call 47; refine (HUN.out _).mono ?_; rintro e w9 ⟨rfl, rfl⟩));refine HA.out.mono ?_;rintro e w2 ⟨rfl, hb2⟩
 have HM : Hid (OpM w w2.heap.size o [] 0 (kdOf T.form) (bstr T.text) (w2.alloc (.cells #[.int .u8 (kdOf T.form), .string (bstr T.text)] 98))) := hid
  ⟨(HK0.out.below hb2 HK0.out.lt).alloc _, (HK1.out.below hb2 HK1.out.lt).alloc _, Blk.new w2 _ _, by have := hb2.size; have := HS2.out; omega, (HZ2.out.trans (hb2.mono HZ2.out.size)).alloc (Nat.le_trans HZ2.out.size hb2.size) _⟩
 obtain ⟨w3, hw3⟩ : ∃ w3, w2.alloc (.cells #[.int .u8 (kdOf T.form), .string (bstr T.text)] 98) = w3 := ⟨_, rfl⟩;rw [hw3] at HM;have ht0 : w3.cell? ⟨w2.heap.size, 0, none⟩ = some (.int .u8 (kdOf T.form)) := HM.out.tok.cell 0;have ht1 : w3.cell? ⟨w2.heap.size, 1, none⟩ = some (.string (bstr T.text)) := HM.out.tok.cell 1;have hc1 : w3.cell? ⟨w.heap.size + 1, 1, none⟩ = some (.string (bstr [])) := HM.out.cnd.cell 1;have hc2 : w3.cell? ⟨w.heap.size + 1, 2, none⟩ = some (.int .i64 0) := HM.out.cnd.cell 2;have hf1 := HM.out.cnd.frozen 1;have hf2 := HM.out.cnd.frozen 2;clear hb2;have HM4 := hid (HM.out.set1 T.text)
 go_upto_region 7 with (first | (go_at_call 46; refine (HUT.out _).mono ?_; rintro e w9 ⟨rfl, rfl⟩) | (go_at_call 47; refine (HUN.out _).mono ?_; rintro e w9 ⟨rfl, rfl⟩))
 generalize hw4 : w3.setCell ⟨w.heap.size + 1, 1, none⟩ (.string (bstr T.text)) = w4 at *;have HM5 := hid (HM4.out.bel (Below.refl _ _).drew);have HSA := hid (Ap o (bstr T.text) 0 none 0 0);refine wp_region_noPanic ?_;refine wp_region_held_drew (S := fun W => Blk W (w.heap.size + 1) 36 #[.int .i64 o, .string (bstr T.text), .int .i64 0, .slice none 0 0] ∧ W.cell? ⟨w2.heap.size, 0, none⟩ = some (.int .u8 (kdOf T.form))) (by kernel_rfl) (⟨HM5.out.cnd, HM5.out.tok.cell 0⟩) (fun hHeld => ?_);refine wpAnyH_take (i := 0) (oi := _) (v := _) rfl (by kernel_rfl) (by kernel_rfl) (by kernel_rfl) (fun _ _ _ h => h) (Ao (X := #[.int .i64 o, .string (bstr T.text), .int .i64 0, .slice none 0 0]) rfl Tryz.underlying36 HSA.out (fun W h => h.1) (by kernel_rfl) (.tmp 9) (by kernel_rfl) (by kernel_rfl)) hHeld ?_
 (try simp only [Act.put, pk1, pk2, pk3, pk4, pk5, pk6])
 refine wpAnyH_take (i := 1) (oi := _) (v := ?_) rfl (by kernel_rfl) (by kernel_rfl) (by kernel_rfl) (fun _ _ _ h => h) (Or.inl ⟨by kernel_rfl, ?_⟩) hHeld ?_;rotate_left
 ·intro wq hSw;go_simp
  (try with_reducible rfl)
 (try simp only [Act.put, pk1, pk2, pk3, pk4, pk5, pk6])
 refine wpAnyH_take (i := 2) (oi := _) (v := ?_) rfl (by kernel_rfl) (by kernel_rfl) (by kernel_rfl) (fun _ _ _ h => h) (Or.inl ⟨by kernel_rfl, ?_⟩) hHeld ?_;rotate_left
 ·intro wq hSw;go_simp
  (try with_reducible rfl)
 (try simp only [Act.put, pk1, pk2, pk3, pk4, pk5, pk6])
 refine wpAnyH_take (i := 3) (oi := _) (v := ?_) rfl (by kernel_rfl) (by kernel_rfl) (by kernel_rfl) (fun _ _ _ h => h) (Or.inl ⟨by kernel_rfl, ?_⟩) hHeld ?_;rotate_left
 ·intro wq hSw;go_simp
  (try with_reducible rfl)
 (try simp only [Act.put, pk1, pk2, pk3, pk4, pk5, pk6])
 refine wpAnyH_take (i := 4) (oi := _) (v := ?_) rfl (by kernel_rfl) (by kernel_rfl) (by kernel_rfl) (fun _ _ _ h => h) (Or.inl ⟨by kernel_rfl, ?_⟩) hHeld ?_;rotate_left
 ·intro wq hSw;have hSx := hSw.2;go_simp
  (try with_reducible rfl)
 (try simp only [Act.put, pk1, pk2, pk3, pk4, pk5, pk6])
 refine wpAnyH_take (i := 5) (oi := _) (v := ?_) rfl (by kernel_rfl) (by kernel_rfl) (by kernel_rfl) (fun _ _ _ h => h) (Or.inl ⟨by kernel_rfl, ?_⟩) hHeld ?_;rotate_left
 ·intro wq hSw;go_simp
  (try with_reducible rfl)
 (try simp only [Act.put, pk1, pk2, pk3, pk4, pk5, pk6])
 refine wpAnyH_ready (rs := [6]) (by kernel_rfl) (by simp) ?_;refine AllReadyH.cons (o := _) rfl (fun K hK => ?_) AllReadyH.nil;rw [if_pos (by kernel_rfl)];refine wp_store_row 36 _ _ rfl w.heap.size #[.int .i64 o, .string (bstr T.text), .int .i64 0, .slice none 0 0] rfl rfl 36 zCn HM5.out.res (Ap ..) rfl (by simp [Value.oneCell']) ?_;obtain ⟨k1, k2, k3, k4⟩ := HM5.out.row #[.int .i64 o, .string (bstr T.text), .int .i64 0, .slice none 0 0];refine hK.out _ _ ⟨k3, k4.cell 0⟩ (fun hHeld2 => ?_);have HKR := hid k1;have HBR := hid k2;clear k1 k2 k3 k4;clear hK K hHeld;have hHeld := hHeld2;clear hHeld2
 (try simp only [Act.put, pk1, pk2, pk3, pk4, pk5, pk6])
 refine wpAnyH_take (i := 7) (oi := _) (v := ?_) rfl (by kernel_rfl) (by kernel_rfl) (by kernel_rfl) (fun _ _ _ h => h) (Or.inl ⟨by kernel_rfl, ?_⟩) hHeld ?_;rotate_left
 ·intro wq hSw;go_simp
  (try with_reducible rfl)
 (try simp only [Act.put, pk1, pk2, pk3, pk4, pk5, pk6])
 refine wpAnyH_take (i := 8) (oi := _) (v := ?_) rfl (by kernel_rfl) (by kernel_rfl) (by kernel_rfl) (fun _ _ _ h => h) (Or.inl ⟨by kernel_rfl, ?_⟩) hHeld ?_;rotate_left
 ·intro wq hSw;go_simp
  (try with_reducible rfl)
 (try simp only [Act.put, pk1, pk2, pk3, pk4, pk5, pk6])
 refine wpAnyH_done (by kernel_rfl) ?_ _;refine NoPanic.normal ?_;go_wp2_with fail;by_cases hf : T.form = 2
 ·have hkd : (kdOf T.form == 115) = true := by rw [hf]; rfl
  have HE : Hid (RES = some (.mk o T.text 0 [], L.drop (i + 1))) := hid (by rw [HFP.out, HTY.out hf, Pr.tail_at]);rw [hkd];refine bodyPost_ret (Aj rfl _ _ w.heap.size _ _ _ rfl HKR.out Tryz.underlying36 rfl (Ap ..)) rfl ?_;exact RcA.good HE.out rfl (HLT.out (by rw [hf]; decide)) rfl (Bl o T.text 0) HBR.out
 ·have hkd : (kdOf T.form == 115) = false := by rw [(Db T.form).1]; exact beq_eq_false_iff_ne.2 hf
  have HE : Hid (RES = none) := hid (by rw [HFP.out, HTN.out hf]);rw [hkd];refine bodyPost_ret (Aj rfl _ _ w.heap.size _ _ _ rfl HKR.out Tryz.underlying36 rfl (Ap ..)) rfl ?_;exact RcA.bad HE.out (Bl o T.text 0) HBR.out
theorem Fe (o : Int) (ho : o = 9) (A : Option Addr) (cap : Nat) (L : List Pr.Tk) (i : Nat) (w : World) (h : Rd w A (L.length * 2) (rkL L)) (hi : i ≤ L.length) (hL : L.length ≤ 1000000) (hx : ∀ t ∈ L, t.text.length ≤ 1000000) :
  Calls Tryz.prog 164 #[.slice A L.length cap, .int .i64 (i : Int), .int .i64 o] w (RcA w L (Pr.fieldP o (L.drop i))) := by
 have ht : Pr.useText o = true := by rw [ho]; rfl
 have hn : Pr.useN o = false := by rw [ho]; rfl
 have h9 : (o == 9) = true := by rw [ho]; rfl
 have hn9 : (o != 9) = false := by rw [ho]; rfl
 have HFP := hid (Pr.fieldP_word (o := o) (by omega) (L.drop i));have HTY := hid (fun h => Pr.takeF_yes (f := 1) (r := L.drop i) (by decide) h);have HTN := hid (fun h => Pr.takeF_no (f := 1) (r := L.drop i) h);obtain ⟨RES, hRES⟩ : ∃ R, Pr.fieldP o (L.drop i) = R := ⟨_, rfl⟩;rw [hRES] at HFP ⊢;have HO := hid ho;clear hRES ho;have HUT := hid (fun W => Ay o W);have HUN := hid (fun W => AF o W);rw [ht] at HUT;rw [hn] at HUN;have HLT := hid (Pr.hd_lt (L := L) (i := i));have hz1 : Below w.heap.size w (w.alloc (.cells zCn 36)) := (Below.refl w.heap.size w).alloc (Nat.le_refl _) (.cells zCn 36);have hs1 : (w.alloc (.cells zCn 36)).heap.size = w.heap.size + 1 := World.size_alloc ..
 have hz2 : Below w.heap.size w ((w.alloc (.cells zCn 36)).alloc (.cells #[.int .i64 o, .string ⟨#[]⟩, .int .i64 0, .slice none 0 0] 36)) := hz1.alloc (by omega) _;have hs2 : ((w.alloc (.cells zCn 36)).alloc (.cells #[.int .i64 o, .string ⟨#[]⟩, .int .i64 0, .slice none 0 0] 36)).heap.size = w.heap.size + 2 := by rw [World.size_alloc, hs1]
 have HK0 := hid ((Blk.new w 36 zCn).alloc (.cells #[.int .i64 o, .string ⟨#[]⟩, .int .i64 0, .slice none 0 0] 36))
 have HK1 : Hid (Blk ((w.alloc (.cells zCn 36)).alloc (.cells #[.int .i64 o, .string ⟨#[]⟩, .int .i64 0, .slice none 0 0] 36)) (w.heap.size + 1) 36 #[.int .i64 o, .string (bstr []), .int .i64 0, .slice none 0 0]) := hid (by
  have := Blk.new (w.alloc (.cells zCn 36)) 36 #[.int .i64 o, .string (bstr []), .int .i64 0, .slice none 0 0]
  rwa [hs1] at this)
 have HR1 := hid (h.below hz2);have HZ2 := hid hz2;have HS2 := hid hs2;have HA := hid (Bk A cap L i _ HR1.out hL (by omega));generalize hT : Pr.hdT (L.drop i) = T at *
 have HTL : Hid (T.text.length ≤ 1000000) := hid (by
  rw [← hT]
  cases hr : L.drop i with
  | nil => exact Nat.zero_le _
  | cons a r => exact hx a (List.mem_of_mem_drop (i := i) (by rw [hr]; exact List.mem_cons_self ..)))
 have hwi : IntKind.i64.wrap ((i : Int) + 1) = (i : Int) + 1 := IntWalk.i64_in _ (by omega);clear h hz1 hz2 hs1 hs2 ht hn hx hT;go_enter Tryz.func164, Tryz.ntmps164;go_wp2_with (first | (go_at_call 46; refine (HUT.out _).mono ?_; rintro e w9 ⟨rfl, rfl⟩) | (go_at_call 47; refine (HUN.out _).mono ?_; rintro e w9 ⟨rfl, rfl⟩));refine HA.out.mono ?_;rintro e w2 ⟨rfl, hb2⟩
 have HM : Hid (OpM w w2.heap.size o [] 0 (kdOf T.form) (bstr T.text) (w2.alloc (.cells #[.int .u8 (kdOf T.form), .string (bstr T.text)] 98))) := hid
  ⟨(HK0.out.below hb2 HK0.out.lt).alloc _, (HK1.out.below hb2 HK1.out.lt).alloc _, Blk.new w2 _ _, by have := hb2.size; have := HS2.out; omega, (HZ2.out.trans (hb2.mono HZ2.out.size)).alloc (Nat.le_trans HZ2.out.size hb2.size) _⟩
 obtain ⟨w3, hw3⟩ : ∃ w3, w2.alloc (.cells #[.int .u8 (kdOf T.form), .string (bstr T.text)] 98) = w3 := ⟨_, rfl⟩;rw [hw3] at HM;have ht0 : w3.cell? ⟨w2.heap.size, 0, none⟩ = some (.int .u8 (kdOf T.form)) := HM.out.tok.cell 0;have ht1 : w3.cell? ⟨w2.heap.size, 1, none⟩ = some (.string (bstr T.text)) := HM.out.tok.cell 1;have hc1 : w3.cell? ⟨w.heap.size + 1, 1, none⟩ = some (.string (bstr [])) := HM.out.cnd.cell 1;have hc2 : w3.cell? ⟨w.heap.size + 1, 2, none⟩ = some (.int .i64 0) := HM.out.cnd.cell 2;have hf1 := HM.out.cnd.frozen 1;have hf2 := HM.out.cnd.frozen 2;clear hb2;by_cases hf : T.form = 1
 case neg =>
  have hkd : (kdOf T.form == 119) = false := by rw [Bb]; exact beq_eq_false_iff_ne.2 hf
  have hkn : (kdOf T.form != 119) = true := by rw [bne, hkd]; rfl
  have HE : Hid (RES = none) := hid (by rw [HFP.out, HTN.out hf]);go_wp2_with (first | (go_at_call 46; refine (HUT.out _).mono ?_; rintro e w9 ⟨rfl, rfl⟩) | (go_at_call 47; refine (HUN.out _).mono ?_; rintro e w9 ⟨rfl, rfl⟩) | ((with_reducible refine Ah rfl 36 _ _ rfl w.heap.size #[.int .i64 0, .string ⟨#[]⟩, .int .i64 0, .slice none 0 0] ?_ ?_ 36 zCn HM.out.res (Ap ..) rfl (by simp [Value.oneCell']) ?_); rfl; rfl; intro w5 hk5 hs5 hbl5));refine bodyPost_ret (Aj rfl _ _ w.heap.size _ _ _ rfl hk5 Tryz.underlying36 rfl (Ap ..)) rfl ?_;exact RcA.bad HE.out A4 (HM.out.be.trans (hbl5 w.heap.size (Nat.le_refl _)))
 have hkd : (kdOf T.form == 119) = true := by rw [Bb, hf]; rfl
 have hkn : (kdOf T.form != 119) = false := by rw [bne, hkd]; rfl
 have HLI := hid (HLT.out (by rw [hf]; decide));have HTF := hid (HTY.out hf);clear hf
 have HE : Hid (RES = some (.mk o T.text 0 [], L.drop (i + 1))) := hid (by
  rw [HFP.out, HTF.out, Pr.tail_at];show Pr.fieldT o T.text (L.drop (i + 1)) = _;unfold Pr.fieldT
  rw [if_pos HO.out])
 have HM4 := hid (HM.out.set1 T.text)
 go_upto_region 12 with (first | (go_at_call 46; refine (HUT.out _).mono ?_; rintro e w9 ⟨rfl, rfl⟩) | (go_at_call 47; refine (HUN.out _).mono ?_; rintro e w9 ⟨rfl, rfl⟩))
 generalize hw4 : w3.setCell ⟨w.heap.size + 1, 1, none⟩ (.string (bstr T.text)) = w4 at *;go_wp2_with (first | (refine Ac (by rfl) 36 _ rfl (w.heap.size + 1) rfl 36 _ (0, 0) _ rfl HM4.out.cnd Tryz.underlying36 (Ap ..) ?_) | ((with_reducible refine Ah rfl 36 _ _ rfl w.heap.size #[.int .i64 o, .string (bstr T.text), .int .i64 0, .slice none 0 0] ?_ ?_ 36 zCn HM4.out.res (Ap ..) rfl (by simp [Value.oneCell']) ?_); rfl; rfl; intro w5 hk5 hs5 hbl5));refine bodyPost_ret (Aj rfl _ _ w.heap.size _ _ _ rfl hk5 Tryz.underlying36 rfl (Ap ..)) rfl ?_;exact RcA.good HE.out rfl HLI.out rfl (Bl o T.text 0) (HM4.out.be.trans (hbl5 w.heap.size (Nat.le_refl _)))
theorem E9 (o : Int) (ho : o = 10 ∨ o = 11 ∨ o = 12) (A : Option Addr) (cap : Nat) (L : List Pr.Tk) (i : Nat) (w : World) (h : Rd w A (L.length * 2) (rkL L)) (hi : i ≤ L.length) (hL : L.length ≤ 1000000) (hx : ∀ t ∈ L, t.text.length ≤ 1000000) :
  Calls Tryz.prog 164 #[.slice A L.length cap, .int .i64 (i : Int), .int .i64 o] w (RcA w L (Pr.fieldP o (L.drop i))) := by
 have ht : Pr.useText o = false := by rcases ho with rfl | rfl | rfl <;> rfl
 have hn : Pr.useN o = true := by rcases ho with rfl | rfl | rfl <;> rfl
 have h9 : (o == 9) = false := beq_eq_false_iff_ne.2 (by omega);have hn9 : (o != 9) = true := by rw [bne, h9]; rfl
 have h5 : (o == 5) = false := beq_eq_false_iff_ne.2 (by omega);have hn5 : (o != 5) = true := by rw [bne, h5]; rfl
 have HFP := hid (Pr.fieldP_word (o := o) (by omega) (L.drop i));have HTY := hid (fun h => Pr.takeF_yes (f := 1) (r := L.drop i) (by decide) h);have HTN := hid (fun h => Pr.takeF_no (f := 1) (r := L.drop i) h);obtain ⟨RES, hRES⟩ : ∃ R, Pr.fieldP o (L.drop i) = R := ⟨_, rfl⟩;rw [hRES] at HFP ⊢;have HO := hid ho;clear hRES ho;have HUT := hid (fun W => Ay o W);have HUN := hid (fun W => AF o W);rw [ht] at HUT;rw [hn] at HUN;have HLT := hid (Pr.hd_lt (L := L) (i := i));have hz1 : Below w.heap.size w (w.alloc (.cells zCn 36)) := (Below.refl w.heap.size w).alloc (Nat.le_refl _) (.cells zCn 36);have hs1 : (w.alloc (.cells zCn 36)).heap.size = w.heap.size + 1 := World.size_alloc ..
 have hz2 : Below w.heap.size w ((w.alloc (.cells zCn 36)).alloc (.cells #[.int .i64 o, .string ⟨#[]⟩, .int .i64 0, .slice none 0 0] 36)) := hz1.alloc (by omega) _;have hs2 : ((w.alloc (.cells zCn 36)).alloc (.cells #[.int .i64 o, .string ⟨#[]⟩, .int .i64 0, .slice none 0 0] 36)).heap.size = w.heap.size + 2 := by rw [World.size_alloc, hs1]
 have HK0 := hid ((Blk.new w 36 zCn).alloc (.cells #[.int .i64 o, .string ⟨#[]⟩, .int .i64 0, .slice none 0 0] 36))
 have HK1 : Hid (Blk ((w.alloc (.cells zCn 36)).alloc (.cells #[.int .i64 o, .string ⟨#[]⟩, .int .i64 0, .slice none 0 0] 36)) (w.heap.size + 1) 36 #[.int .i64 o, .string (bstr []), .int .i64 0, .slice none 0 0]) := hid (by
  have := Blk.new (w.alloc (.cells zCn 36)) 36 #[.int .i64 o, .string (bstr []), .int .i64 0, .slice none 0 0]
  rwa [hs1] at this)
 have HR1 := hid (h.below hz2);have HZ2 := hid hz2;have HS2 := hid hs2;have HA := hid (Bk A cap L i _ HR1.out hL (by omega));generalize hT : Pr.hdT (L.drop i) = T at *
 have HTL : Hid (T.text.length ≤ 1000000) := hid (by
  rw [← hT]
  cases hr : L.drop i with
  | nil => exact Nat.zero_le _
  | cons a r => exact hx a (List.mem_of_mem_drop (i := i) (by rw [hr]; exact List.mem_cons_self ..)))
 have hwi : IntKind.i64.wrap ((i : Int) + 1) = (i : Int) + 1 := IntWalk.i64_in _ (by omega);clear h hz1 hz2 hs1 hs2 ht hn hx hT;go_enter Tryz.func164, Tryz.ntmps164;go_wp2_with (first | (go_at_call 46; refine (HUT.out _).mono ?_; rintro e w9 ⟨rfl, rfl⟩) | (go_at_call 47; refine (HUN.out _).mono ?_; rintro e w9 ⟨rfl, rfl⟩));refine HA.out.mono ?_;rintro e w2 ⟨rfl, hb2⟩
 have HM : Hid (OpM w w2.heap.size o [] 0 (kdOf T.form) (bstr T.text) (w2.alloc (.cells #[.int .u8 (kdOf T.form), .string (bstr T.text)] 98))) := hid
  ⟨(HK0.out.below hb2 HK0.out.lt).alloc _, (HK1.out.below hb2 HK1.out.lt).alloc _, Blk.new w2 _ _, by have := hb2.size; have := HS2.out; omega, (HZ2.out.trans (hb2.mono HZ2.out.size)).alloc (Nat.le_trans HZ2.out.size hb2.size) _⟩
 obtain ⟨w3, hw3⟩ : ∃ w3, w2.alloc (.cells #[.int .u8 (kdOf T.form), .string (bstr T.text)] 98) = w3 := ⟨_, rfl⟩;rw [hw3] at HM;have ht0 : w3.cell? ⟨w2.heap.size, 0, none⟩ = some (.int .u8 (kdOf T.form)) := HM.out.tok.cell 0;have ht1 : w3.cell? ⟨w2.heap.size, 1, none⟩ = some (.string (bstr T.text)) := HM.out.tok.cell 1;have hc1 : w3.cell? ⟨w.heap.size + 1, 1, none⟩ = some (.string (bstr [])) := HM.out.cnd.cell 1;have hc2 : w3.cell? ⟨w.heap.size + 1, 2, none⟩ = some (.int .i64 0) := HM.out.cnd.cell 2;have hf1 := HM.out.cnd.frozen 1;have hf2 := HM.out.cnd.frozen 2;clear hb2;by_cases hf : T.form = 1
 case neg =>
  have hkd : (kdOf T.form == 119) = false := by rw [Bb]; exact beq_eq_false_iff_ne.2 hf
  have hkn : (kdOf T.form != 119) = true := by rw [bne, hkd]; rfl
  have HE : Hid (RES = none) := hid (by rw [HFP.out, HTN.out hf]);go_wp2_with (first | (go_at_call 46; refine (HUT.out _).mono ?_; rintro e w9 ⟨rfl, rfl⟩) | (go_at_call 47; refine (HUN.out _).mono ?_; rintro e w9 ⟨rfl, rfl⟩) | ((with_reducible refine Ah rfl 36 _ _ rfl w.heap.size #[.int .i64 0, .string ⟨#[]⟩, .int .i64 0, .slice none 0 0] ?_ ?_ 36 zCn HM.out.res (Ap ..) rfl (by simp [Value.oneCell']) ?_); rfl; rfl; intro w5 hk5 hs5 hbl5));refine bodyPost_ret (Aj rfl _ _ w.heap.size _ _ _ rfl hk5 Tryz.underlying36 rfl (Ap ..)) rfl ?_;exact RcA.bad HE.out A4 (HM.out.be.trans (hbl5 w.heap.size (Nat.le_refl _)))
 have hkd : (kdOf T.form == 119) = true := by rw [Bb, hf]; rfl
 have hkn : (kdOf T.form != 119) = false := by rw [bne, hkd]; rfl
 have HLI := hid (HLT.out (by rw [hf]; decide));have HTF := hid (HTY.out hf);clear hf;have HNP := hid (fun W => EI (bstr T.text) W (by rw [Ai]; exact HTL.out));rw [show (bstr T.text).data.toList = T.text from rfl] at HNP;have HFT : Hid (RES = Pr.fieldT o T.text (L.drop (i + 1))) := hid (by rw [HFP.out, HTF.out, Pr.tail_at])
 have HFN : Hid (Pr.fieldT o T.text (L.drop (i + 1)) = match Pr.numP T.text with
  | none => none
  | some n => some (.mk o [] n [], L.drop (i + 1))) := hid (by have := HO.out; unfold Pr.fieldT; rw [if_neg (by omega), if_neg (by omega)]; cases Pr.numP T.text <;> rfl)
 go_wp2_with (first | (go_at_call 46; refine (HUT.out _).mono ?_; rintro e w9 ⟨rfl, rfl⟩) | (go_at_call 47; refine (HUN.out _).mono ?_; rintro e w9 ⟨rfl, rfl⟩));refine (HNP.out _).mono ?_;rintro e w9 ⟨rfl, hb9⟩;have HM3 := hid (HM.out.bel hb9);have hc2' := HM3.out.cnd.cell 2;simp only [List.getElem?_toArray, List.getElem?_cons_succ, List.getElem?_cons_zero] at hc2';have hf2' := HM3.out.cnd.frozen 2;clear hb9
 cases hnp : Pr.numP T.text with
 | none =>
  have HE : Hid (RES = none) := hid (by rw [HFT.out, HFN.out, hnp]);have HM4 := hid (HM3.out.set2 0);rw [show nmV none = .tuple #[.int .i64 0, .bool false] from rfl];clear hnp
  go_upto_region 18 with fail
  generalize hw4 : w9.setCell ⟨w.heap.size + 1, 2, none⟩ (.int .i64 0) = w4 at *;go_wp2_with (first | (refine Ac (by rfl) 36 _ rfl (w.heap.size + 1) rfl 36 _ (0, 0) _ rfl HM4.out.cnd Tryz.underlying36 (Ap ..) ?_) | ((with_reducible refine Ah rfl 36 _ _ rfl w.heap.size #[.int .i64 o, .string (bstr []), .int .i64 0, .slice none 0 0] ?_ ?_ 36 zCn HM4.out.res (Ap ..) rfl (by simp [Value.oneCell']) ?_); rfl; rfl; intro w5 hk5 hs5 hbl5));refine bodyPost_ret (Aj rfl _ _ w.heap.size _ _ _ rfl hk5 Tryz.underlying36 rfl (Ap ..)) rfl ?_;exact RcA.bad HE.out (Bl o [] 0) (HM4.out.be.trans (hbl5 w.heap.size (Nat.le_refl _)))
 | some n =>
  have HE : Hid (RES = some (.mk o [] n [], L.drop (i + 1))) := hid (by rw [HFT.out, HFN.out, hnp]);have HM4 := hid (HM3.out.set2 n);rw [show nmV (some n) = .tuple #[.int .i64 n, .bool true] from rfl];clear hnp
  go_upto_region 18 with fail
  generalize hw4 : w9.setCell ⟨w.heap.size + 1, 2, none⟩ (.int .i64 n) = w4 at *;go_wp2_with (first | (refine Ac (by rfl) 36 _ rfl (w.heap.size + 1) rfl 36 _ (0, 0) _ rfl HM4.out.cnd Tryz.underlying36 (Ap ..) ?_) | ((with_reducible refine Ah rfl 36 _ _ rfl w.heap.size #[.int .i64 o, .string (bstr []), .int .i64 n, .slice none 0 0] ?_ ?_ 36 zCn HM4.out.res (Ap ..) rfl (by simp [Value.oneCell']) ?_); rfl; rfl; intro w5 hk5 hs5 hbl5));refine bodyPost_ret (Aj rfl _ _ w.heap.size _ _ _ rfl hk5 Tryz.underlying36 rfl (Ap ..)) rfl ?_;exact RcA.good HE.out rfl HLI.out rfl (Bl o [] n) (HM4.out.be.trans (hbl5 w.heap.size (Nat.le_refl _)))
theorem E1 (o : Int) (ho : o = 5) (A : Option Addr) (cap : Nat) (L : List Pr.Tk) (i : Nat) (w : World) (h : Rd w A (L.length * 2) (rkL L)) (hi : i ≤ L.length) (hL : L.length ≤ 1000000) (hx : ∀ t ∈ L, t.text.length ≤ 1000000) :
  Calls Tryz.prog 164 #[.slice A L.length cap, .int .i64 (i : Int), .int .i64 o] w (RcA w L (Pr.fieldP o (L.drop i))) := by
 have ht : Pr.useText o = false := by rw [ho]; rfl
 have hn : Pr.useN o = true := by rw [ho]; rfl
 have h5 : (o == 5) = true := by rw [ho]; rfl
 have h9 : (o == 9) = false := beq_eq_false_iff_ne.2 (by omega);have hn9 : (o != 9) = true := by rw [bne, h9]; rfl
 have HFP := hid (Pr.fieldP_word (o := o) (by omega) (L.drop i));have HTY := hid (fun h => Pr.takeF_yes (f := 1) (r := L.drop i) (by decide) h);have HTN := hid (fun h => Pr.takeF_no (f := 1) (r := L.drop i) h);obtain ⟨RES, hRES⟩ : ∃ R, Pr.fieldP o (L.drop i) = R := ⟨_, rfl⟩;rw [hRES] at HFP ⊢;have HO := hid ho;clear hRES ho;have HUT := hid (fun W => Ay o W);have HUN := hid (fun W => AF o W);rw [ht] at HUT;rw [hn] at HUN;have HLT := hid (Pr.hd_lt (L := L) (i := i));have hz1 : Below w.heap.size w (w.alloc (.cells zCn 36)) := (Below.refl w.heap.size w).alloc (Nat.le_refl _) (.cells zCn 36);have hs1 : (w.alloc (.cells zCn 36)).heap.size = w.heap.size + 1 := World.size_alloc ..
 have hz2 : Below w.heap.size w ((w.alloc (.cells zCn 36)).alloc (.cells #[.int .i64 o, .string ⟨#[]⟩, .int .i64 0, .slice none 0 0] 36)) := hz1.alloc (by omega) _;have hs2 : ((w.alloc (.cells zCn 36)).alloc (.cells #[.int .i64 o, .string ⟨#[]⟩, .int .i64 0, .slice none 0 0] 36)).heap.size = w.heap.size + 2 := by rw [World.size_alloc, hs1]
 have HK0 := hid ((Blk.new w 36 zCn).alloc (.cells #[.int .i64 o, .string ⟨#[]⟩, .int .i64 0, .slice none 0 0] 36))
 have HK1 : Hid (Blk ((w.alloc (.cells zCn 36)).alloc (.cells #[.int .i64 o, .string ⟨#[]⟩, .int .i64 0, .slice none 0 0] 36)) (w.heap.size + 1) 36 #[.int .i64 o, .string (bstr []), .int .i64 0, .slice none 0 0]) := hid (by
  have := Blk.new (w.alloc (.cells zCn 36)) 36 #[.int .i64 o, .string (bstr []), .int .i64 0, .slice none 0 0]
  rwa [hs1] at this)
 have HR1 := hid (h.below hz2);have HZ2 := hid hz2;have HS2 := hid hs2;have HA := hid (Bk A cap L i _ HR1.out hL (by omega));generalize hT : Pr.hdT (L.drop i) = T at *
 have HTL : Hid (T.text.length ≤ 1000000) := hid (by
  rw [← hT]
  cases hr : L.drop i with
  | nil => exact Nat.zero_le _
  | cons a r => exact hx a (List.mem_of_mem_drop (i := i) (by rw [hr]; exact List.mem_cons_self ..)))
 have hwi : IntKind.i64.wrap ((i : Int) + 1) = (i : Int) + 1 := IntWalk.i64_in _ (by omega);clear h hz1 hz2 hs1 hs2 ht hn hx hT;go_enter Tryz.func164, Tryz.ntmps164;go_wp2_with (first | (go_at_call 46; refine (HUT.out _).mono ?_; rintro e w9 ⟨rfl, rfl⟩) | (go_at_call 47; refine (HUN.out _).mono ?_; rintro e w9 ⟨rfl, rfl⟩));refine HA.out.mono ?_;rintro e w2 ⟨rfl, hb2⟩
 have HM : Hid (OpM w w2.heap.size o [] 0 (kdOf T.form) (bstr T.text) (w2.alloc (.cells #[.int .u8 (kdOf T.form), .string (bstr T.text)] 98))) := hid
  ⟨(HK0.out.below hb2 HK0.out.lt).alloc _, (HK1.out.below hb2 HK1.out.lt).alloc _, Blk.new w2 _ _, by have := hb2.size; have := HS2.out; omega, (HZ2.out.trans (hb2.mono HZ2.out.size)).alloc (Nat.le_trans HZ2.out.size hb2.size) _⟩
 obtain ⟨w3, hw3⟩ : ∃ w3, w2.alloc (.cells #[.int .u8 (kdOf T.form), .string (bstr T.text)] 98) = w3 := ⟨_, rfl⟩;rw [hw3] at HM;have ht0 : w3.cell? ⟨w2.heap.size, 0, none⟩ = some (.int .u8 (kdOf T.form)) := HM.out.tok.cell 0;have ht1 : w3.cell? ⟨w2.heap.size, 1, none⟩ = some (.string (bstr T.text)) := HM.out.tok.cell 1;have hc1 : w3.cell? ⟨w.heap.size + 1, 1, none⟩ = some (.string (bstr [])) := HM.out.cnd.cell 1;have hc2 : w3.cell? ⟨w.heap.size + 1, 2, none⟩ = some (.int .i64 0) := HM.out.cnd.cell 2;have hf1 := HM.out.cnd.frozen 1;have hf2 := HM.out.cnd.frozen 2;clear hb2;by_cases hf : T.form = 1
 case neg =>
  have hkd : (kdOf T.form == 119) = false := by rw [Bb]; exact beq_eq_false_iff_ne.2 hf
  have hkn : (kdOf T.form != 119) = true := by rw [bne, hkd]; rfl
  have HE : Hid (RES = none) := hid (by rw [HFP.out, HTN.out hf]);go_wp2_with (first | (go_at_call 46; refine (HUT.out _).mono ?_; rintro e w9 ⟨rfl, rfl⟩) | (go_at_call 47; refine (HUN.out _).mono ?_; rintro e w9 ⟨rfl, rfl⟩) | ((with_reducible refine Ah rfl 36 _ _ rfl w.heap.size #[.int .i64 0, .string ⟨#[]⟩, .int .i64 0, .slice none 0 0] ?_ ?_ 36 zCn HM.out.res (Ap ..) rfl (by simp [Value.oneCell']) ?_); rfl; rfl; intro w5 hk5 hs5 hbl5));refine bodyPost_ret (Aj rfl _ _ w.heap.size _ _ _ rfl hk5 Tryz.underlying36 rfl (Ap ..)) rfl ?_;exact RcA.bad HE.out A4 (HM.out.be.trans (hbl5 w.heap.size (Nat.le_refl _)))
 have hkd : (kdOf T.form == 119) = true := by rw [Bb, hf]; rfl
 have hkn : (kdOf T.form != 119) = false := by rw [bne, hkd]; rfl
 have HLI := hid (HLT.out (by rw [hf]; decide));have HTF := hid (HTY.out hf);clear hf;have HFT : Hid (RES = Pr.fieldT o T.text (L.drop (i + 1))) := hid (by rw [HFP.out, HTF.out, Pr.tail_at])
 have HFN : Hid (Pr.fieldT o T.text (L.drop (i + 1)) = match Pr.idxOf T.text Pr.kindL with
  | none => none
  | some k => some (.mk o [] (1 + k) [], L.drop (i + 1))) := hid (by have := HO.out; unfold Pr.fieldT; rw [if_neg (by omega), if_pos (by omega)]; cases Pr.idxOf T.text Pr.kindL <;> rfl)
 obtain ⟨Z, hZ⟩ : ∃ Z, Pr.idxI T.text Pr.kindL = Z := ⟨_, rfl⟩;have hZr : -1 ≤ Z ∧ Z ≤ 1000000 := by
  rw [← hZ];unfold Pr.idxI
  cases hq : Pr.idxOf T.text Pr.kindL with
  | none => exact ⟨by decide, by decide⟩
  | some k =>
   have : k < Pr.kindL.length := by
    unfold Pr.idxOf at hq;exact (List.findIdx?_eq_some_iff_getElem.1 hq).1
   have h14 : Pr.kindL.length = 14 := rfl
   constructor <;> simp only <;> omega
 have HZ := hid hZ;have hwz : IntKind.i64.wrap (Z + 1) = Z + 1 := IntWalk.i64_in _ (by omega)
 go_upto_region 14 with (first | (go_at_call 46; refine (HUT.out _).mono ?_; rintro e w9 ⟨rfl, rfl⟩) | (go_at_call 47; refine (HUN.out _).mono ?_; rintro e w9 ⟨rfl, rfl⟩))
 refine wp_region_noPanic ?_;refine wp_region_held_drew (S := fun W => W.cell? ⟨w2.heap.size, 1, none⟩ = some (.string (bstr T.text))) (by kernel_rfl) (ht1) (fun hHeld => ?_);refine wpAnyH_take (i := 1) (oi := _) (v := ?_) rfl (by kernel_rfl) (by kernel_rfl) (by kernel_rfl) (fun _ _ _ h => h) (Or.inl ⟨by kernel_rfl, ?_⟩) hHeld ?_;rotate_left
 ·intro wq hSw;go_simp
  (try with_reducible rfl)
 (try simp only [Act.put, pk1, pk2, pk3, pk4, pk5, pk6])
 refine wpAnyH_take (i := 2) (oi := _) (v := ?_) rfl (by kernel_rfl) (by kernel_rfl) (by kernel_rfl) (fun _ _ _ h => h) (Or.inl ⟨by kernel_rfl, ?_⟩) hHeld ?_;rotate_left
 ·intro wq hSw;go_simp
  (try with_reducible rfl)
 (try simp only [Act.put, pk1, pk2, pk3, pk4, pk5, pk6])
 refine wpAnyH_ready (rs := [0]) (by kernel_rfl) (by simp) ?_;refine AllReadyH.cons (o := _) rfl (fun K hK => ?_) AllReadyH.nil;go_simp
 go_at_call 79
 refine (Fd w3.drew).mono ?_;rintro e w6 ⟨⟨gk, rfl, hgk, hrk⟩, hb6⟩;have HM6 := hid ((HM.out.bel (Below.refl _ _).drew).bel hb6);have HRK := hid hrk;clear hb6 hrk hgk;refine hK.out _ _ (HM6.out.tok.cell 1) (fun hHeld2 => ?_);clear hK K hHeld;have hHeld := hHeld2;clear hHeld2
 (try simp only [Act.put, pk1, pk2, pk3, pk4, pk5, pk6])
 refine wpAnyH_ready (rs := [3]) (by kernel_rfl) (by simp) ?_;refine AllReadyH.cons (o := _) rfl (fun K hK => ?_) AllReadyH.nil;go_simp
 go_at_call 172
 have HFD := Fp (some ⟨gk, 0, none⟩) 14 Pr.kindL T.text w6 (by decide) HRK.out;rw [HZ.out] at HFD;refine HFD.mono ?_;rintro e w7 ⟨rfl, rfl⟩;refine hK.out _ _ (HM6.out.tok.cell 1) (fun hHeld2 => ?_);clear hK K hHeld;have hHeld := hHeld2;clear hHeld2
 (try simp only [Act.put, pk1, pk2, pk3, pk4, pk5, pk6])
 refine wpAnyH_take (i := 4) (oi := _) (v := ?_) rfl (by kernel_rfl) (by kernel_rfl) (by kernel_rfl) (fun _ _ _ h => h) (Or.inl ⟨by kernel_rfl, ?_⟩) hHeld ?_;rotate_left
 ·intro wq hSw;go_simp
  (try with_reducible rfl)
 (try simp only [Act.put, pk1, pk2, pk3, pk4, pk5, pk6])
 refine wpAnyH_take (i := 5) (oi := _) (v := ?_) rfl (by kernel_rfl) (by kernel_rfl) (by kernel_rfl) (fun _ _ _ h => h) (Or.inl ⟨by kernel_rfl, ?_⟩) hHeld ?_;rotate_left
 ·intro wq hSw;go_simp
  (try with_reducible rfl)
 (try simp only [Act.put, pk1, pk2, pk3, pk4, pk5, pk6])
 have hd2 : w6.cell? ⟨w.heap.size + 1, 2, none⟩ = some (.int .i64 0) := HM6.out.cnd.cell 2;have hg2 := HM6.out.cnd.frozen 2;refine wpAnyH_ready (rs := [6]) (by kernel_rfl) (by simp) ?_;refine AllReadyH.cons (o := _) rfl (fun K hK => ?_) AllReadyH.nil;go_simp;have HM7 := hid (HM6.out.set2 (Z + 1));refine hK.out _ _ (HM7.out.tok.cell 1) (fun hHeld2 => ?_);clear hK K hHeld;have hHeld := hHeld2;clear hHeld2
 (try simp only [Act.put, pk1, pk2, pk3, pk4, pk5, pk6])
 refine wpAnyH_done (by kernel_rfl) ?_ _;refine NoPanic.normal ?_;generalize hw7 : w6.setCell ⟨w.heap.size + 1, 2, none⟩ (.int .i64 (Z + 1)) = w7 at *;have HM5 := hid (HM7.out.bel (Below.refl _ _).drew);have HSA := hid (Ap o (bstr []) (Z + 1) none 0 0)
 go_upto_region 15 with fail
 refine wp_region_noPanic ?_;refine wp_region_held_drew (S := fun W => Blk W (w.heap.size + 1) 36 #[.int .i64 o, .string (bstr []), .int .i64 (Z + 1), .slice none 0 0]) (by kernel_rfl) (HM5.out.cnd) (fun hHeld => ?_);refine wpAnyH_take (i := 0) (oi := _) (v := _) rfl (by kernel_rfl) (by kernel_rfl) (by kernel_rfl) (fun _ _ _ h => h) (Ao (X := #[.int .i64 o, .string (bstr []), .int .i64 (Z + 1), .slice none 0 0]) rfl Tryz.underlying36 HSA.out (fun W h => h) (by kernel_rfl) (.tmp 9) (by kernel_rfl) (by kernel_rfl)) hHeld ?_
 (try simp only [Act.put, pk1, pk2, pk3, pk4, pk5, pk6])
 refine wpAnyH_take (i := 1) (oi := _) (v := ?_) rfl (by kernel_rfl) (by kernel_rfl) (by kernel_rfl) (fun _ _ _ h => h) (Or.inl ⟨by kernel_rfl, ?_⟩) hHeld ?_;rotate_left
 ·intro wq hSw;go_simp
  (try with_reducible rfl)
 (try simp only [Act.put, pk1, pk2, pk3, pk4, pk5, pk6])
 refine wpAnyH_take (i := 2) (oi := _) (v := ?_) rfl (by kernel_rfl) (by kernel_rfl) (by kernel_rfl) (fun _ _ _ h => h) (Or.inl ⟨by kernel_rfl, ?_⟩) hHeld ?_;rotate_left
 ·intro wq hSw;go_simp
  (try with_reducible rfl)
 (try simp only [Act.put, pk1, pk2, pk3, pk4, pk5, pk6])
 refine wpAnyH_take (i := 3) (oi := _) (v := ?_) rfl (by kernel_rfl) (by kernel_rfl) (by kernel_rfl) (fun _ _ _ h => h) (Or.inl ⟨by kernel_rfl, ?_⟩) hHeld ?_;rotate_left
 ·intro wq hSw;go_simp
  (try with_reducible rfl)
 (try simp only [Act.put, pk1, pk2, pk3, pk4, pk5, pk6])
 refine wpAnyH_take (i := 4) (oi := _) (v := ?_) rfl (by kernel_rfl) (by kernel_rfl) (by kernel_rfl) (fun _ _ _ h => h) (Or.inl ⟨by kernel_rfl, ?_⟩) hHeld ?_;rotate_left
 ·intro wq hSw;have hSx := Blk.cell hSw 2;simp only [List.getElem?_toArray, List.getElem?_cons_succ, List.getElem?_cons_zero] at hSx;go_simp
  (try with_reducible rfl)
 (try simp only [Act.put, pk1, pk2, pk3, pk4, pk5, pk6])
 refine wpAnyH_take (i := 5) (oi := _) (v := ?_) rfl (by kernel_rfl) (by kernel_rfl) (by kernel_rfl) (fun _ _ _ h => h) (Or.inl ⟨by kernel_rfl, ?_⟩) hHeld ?_;rotate_left
 ·intro wq hSw;go_simp
  (try with_reducible rfl)
 (try simp only [Act.put, pk1, pk2, pk3, pk4, pk5, pk6])
 refine wpAnyH_ready (rs := [6]) (by kernel_rfl) (by simp) ?_;refine AllReadyH.cons (o := _) rfl (fun K hK => ?_) AllReadyH.nil;rw [if_pos (by kernel_rfl)];refine wp_store_row 36 _ _ rfl w.heap.size #[.int .i64 o, .string (bstr []), .int .i64 (Z + 1), .slice none 0 0] rfl rfl 36 zCn HM5.out.res (Ap ..) rfl (by simp [Value.oneCell']) ?_;obtain ⟨k1, k2, k3, k4⟩ := HM5.out.row #[.int .i64 o, .string (bstr []), .int .i64 (Z + 1), .slice none 0 0];refine hK.out _ _ k3 (fun hHeld2 => ?_);have HKR := hid k1;have HBR := hid k2;clear k1 k2 k3 k4;clear hK K hHeld;have hHeld := hHeld2;clear hHeld2
 (try simp only [Act.put, pk1, pk2, pk3, pk4, pk5, pk6])
 refine wpAnyH_take (i := 7) (oi := _) (v := ?_) rfl (by kernel_rfl) (by kernel_rfl) (by kernel_rfl) (fun _ _ _ h => h) (Or.inl ⟨by kernel_rfl, ?_⟩) hHeld ?_;rotate_left
 ·intro wq hSw;go_simp
  (try with_reducible rfl)
 (try simp only [Act.put, pk1, pk2, pk3, pk4, pk5, pk6])
 refine wpAnyH_take (i := 8) (oi := _) (v := ?_) rfl (by kernel_rfl) (by kernel_rfl) (by kernel_rfl) (fun _ _ _ h => h) (Or.inl ⟨by kernel_rfl, ?_⟩) hHeld ?_;rotate_left
 ·intro wq hSw;go_simp
  (try with_reducible rfl)
 (try simp only [Act.put, pk1, pk2, pk3, pk4, pk5, pk6])
 refine wpAnyH_done (by kernel_rfl) ?_ _;refine NoPanic.normal ?_;go_wp2_with fail
 cases hq : Pr.idxOf T.text Pr.kindL with
 | none =>
  have hzz : Z = -1 := by rw [← HZ.out]; unfold Pr.idxI; rw [hq]
  have HE : Hid (RES = none) := hid (by rw [HFT.out, HFN.out, hq]);subst hzz;refine bodyPost_ret (Aj rfl _ _ w.heap.size _ _ _ rfl HKR.out Tryz.underlying36 rfl (Ap ..)) rfl ?_;exact RcA.bad HE.out (Bl o [] 0) HBR.out
 | some k =>
  have hzz : Z = (k : Int) := by rw [← HZ.out]; unfold Pr.idxI; rw [hq]
  have HE : Hid (RES = some (.mk o [] (1 + k) [], L.drop (i + 1))) := hid (by rw [HFT.out, HFN.out, hq]);have hd : decide ((0 : Int) < Z + 1) = true := decide_eq_true (by omega);have hz1 : Z + 1 = 1 + (k : Int) := by omega
  refine bodyPost_ret (Aj rfl _ _ w.heap.size _ _ _ rfl HKR.out Tryz.underlying36 rfl (Ap ..)) rfl ?_;exact (by have := RcA.good HE.out rfl HLI.out (j := (i : Int) + 1) rfl (Bl o [] (1 + k)) HBR.out; rw [← hz1, ← hd] at this; exact this)
end Go.Proofs.YtchkiegehejfmaaGreatDoor
