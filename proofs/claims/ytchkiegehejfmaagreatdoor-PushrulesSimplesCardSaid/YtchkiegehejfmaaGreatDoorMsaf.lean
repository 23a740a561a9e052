/- The texts Ub, Ug, Uh of this proof, one behind the other. -/
import Derived.Deep.MidRow
import Derived.Test.YtchkiegehejfmaaGreatDoorMsae
set_option linter.unusedSimpArgs false
set_option maxHeartbeats 16000000
set_option maxRecDepth 100000
set_option linter.unusedVariables false
namespace Go.Proofs.YtchkiegehejfmaaGreatDoor
open Go.RowKit Go.Lib
inductive CnV (w : World) (ok : Nat → Prop) : Array Value → Pr.Cn → Prop
 | mk (o : Int) (t : List UInt8) (n : Int) (ks : List Pr.Cn) (A : Option Addr) (cap : Nat) (X : Nat → List Value)
   (h : ∀ i c, ks[i]? = some c → ∃ b off, A = some ⟨b, off, none⟩ ∧ ok b ∧ w.rangeAt b (off + i * 4) (X i) ∧ (X i).length = 4)
   (h2 : ∀ i c, ks[i]? = some c → CnV w ok (X i).toArray c) : CnV w ok #[.int .i64 o, .string (bstr t), .int .i64 n, .slice A ks.length cap] (.mk o t n ks)
def CnRow (w : World) (ok : Nat → Prop) (A : Option Addr) (ks : List Pr.Cn) : Prop := ∀ i c, ks[i]? = some c → ∃ b off X, A = some ⟨b, off, none⟩ ∧ ok b ∧ w.rangeAt b (off + i * 4) X ∧ X.length = 4 ∧ CnV w ok X.toArray c
theorem AL {w : World} {b o : Nat} {X : List Value} (h : w.rangeAt b o X) (hX : 0 < X.length) : b < w.heap.size := by
 have h1 := h 0 _ (List.getElem?_eq_getElem hX);exact An h1
theorem Aw {w w' : World} {b o : Nat} {X : List Value} (h : w.rangeAt b o X) (hb : w'.heap[b]? = w.heap[b]?) : w'.rangeAt b o X := fun j v hj => by
 rw [← h j v hj];exact World.cell?_of_block hb
section
variable {w w' : World} {ok ok' : Nat → Prop} {V : Array Value} {c : Pr.Cn} {A : Option Addr} {ks : List Pr.Cn}
theorem CnV.keep (h : CnV w ok V c) (hk : ∀ b, ok b → b < w.heap.size → ok' b ∧ w'.heap[b]? = w.heap[b]?) : CnV w' ok' V c := by
 induction h with
 | mk o t n ks A cap X h h2 ih =>
  refine .mk o t n ks A cap X (fun i c hi => ?_) (fun i c hi => ih i c hi);obtain ⟨b, off, h1, h3, h4, h5⟩ := h i c hi;obtain ⟨h6, h7⟩ := hk b h3 (AL h4 (by omega));exact ⟨b, off, h1, h6, Aw h4 h7, h5⟩
theorem CnRow.keep (h : CnRow w ok A ks) (hk : ∀ b, ok b → b < w.heap.size → ok' b ∧ w'.heap[b]? = w.heap[b]?) : CnRow w' ok' A ks := fun i c hi => by
 obtain ⟨b, off, X, h1, h3, h4, h5, h6⟩ := h i c hi;obtain ⟨h7, h8⟩ := hk b h3 (AL h4 (by omega));exact ⟨b, off, X, h1, h7, Aw h4 h8, h5, h6.keep hk⟩
theorem CnV.bel (h : CnV w ok V c) (hb : Below w.heap.size w w') : CnV w' ok V c := h.keep fun b ho hlt => ⟨ho, hb.block b hlt⟩
theorem CnRow.below (h : CnRow w ok A ks) (hb : Below w.heap.size w w') : CnRow w' ok A ks := h.keep fun b ho hlt => ⟨ho, hb.block b hlt⟩
theorem CnV.open (h : CnV w ok V c) : ∃ A cap, V = #[.int .i64 c.op, .string (bstr c.text), .int .i64 c.num, .slice A c.kids.length cap] ∧ CnRow w ok A c.kids := by
 cases h with
 | mk o t n ks A cap X h h2 =>
  refine ⟨A, cap, rfl, fun i c hi => ?_⟩;obtain ⟨b, off, h1, h3, h4, h5⟩ := h i c hi;exact ⟨b, off, X i, h1, h3, h4, h5, h2 i c hi⟩
theorem CnV.size (h : CnV w ok V c) : V.size = 4 := by obtain ⟨A, cap, rfl, -⟩ := h.open; rfl
theorem CnV.one (h : CnV w ok V c) : V.all (·.oneCell') = true := by obtain ⟨A, cap, rfl, -⟩ := h.open; simp [Value.oneCell']
theorem CnV.make {o : Int} {t : List UInt8} {n : Int} {cap : Nat} (h : CnRow w ok A ks) : CnV w ok #[.int .i64 o, .string (bstr t), .int .i64 n, .slice A ks.length cap] (.mk o t n ks) := by
 have h' : ∀ i, ∃ X : List Value, ∀ c, ks[i]? = some c → ∃ b off, A = some ⟨b, off, none⟩ ∧ ok b ∧ w.rangeAt b (off + i * 4) X ∧ X.length = 4 ∧ CnV w ok X.toArray c := fun i => by
  cases hk : ks[i]? with
  | none => exact ⟨[], fun c hc => by cases hc⟩
  | some c =>
   obtain ⟨b, off, X, h1, h3, h4, h5, h6⟩ := h i c hk;exact ⟨X, fun c' hc => by injection hc with hc; subst hc; exact ⟨b, off, h1, h3, h4, h5, h6⟩⟩
 let X := fun i => (h' i).choose
 have hX := fun i => (h' i).choose_spec
 exact .mk o t n ks A cap X (fun i c hi => by obtain ⟨b, off, h1, h3, h4, h5, h6⟩ := hX i c hi; exact ⟨b, off, h1, h3, h4, h5⟩) (fun i c hi => by obtain ⟨b, off, h1, h3, h4, h5, h6⟩ := hX i c hi; exact h6)
theorem CnRow.nil : CnRow w ok A [] := fun i c h => by cases h
end
abbrev zCn : Array Value := #[.int .i64 0, .string ⟨#[]⟩, .int .i64 0, .slice none 0 0]
theorem Aa : (Tryz.prog.info? 36).map (·.size) = some 4 := by kernel_rfl
end Go.Proofs.YtchkiegehejfmaaGreatDoor
namespace Pr
theorem nodesL_take : ∀ (ks : List Cn) (i : Nat) (c : Cn), ks[i]? = some c → nodesL (ks.take (i + 1)) = nodesL (ks.take i) + nodes c
 | [], i, c, h => by cases h
 | k :: r, 0, c, h => by injection h with h; subst h; simp [nodesL]
 | k :: r, i + 1, c, h => by
  rw [List.getElem?_cons_succ] at h;rw [List.take_succ_cons, List.take_succ_cons];unfold nodesL;rw [nodesL_take r i c h];omega
theorem nodesL_le : ∀ (ks : List Cn) (i : Nat), nodesL (ks.take i) ≤ nodesL ks
 | [], i => by simp
 | k :: r, 0 => by simp [nodesL]
 | k :: r, i + 1 => by
  rw [List.take_succ_cons];unfold nodesL;have := nodesL_le r i;omega
theorem nodes_kid {ks : List Cn} {i : Nat} {c : Cn} (h : ks[i]? = some c) : nodes c ≤ nodesL ks := by
 have h1 := nodesL_take ks i c h;have h2 := nodesL_le ks (i + 1);omega
theorem nodes_pos (c : Cn) : 1 ≤ nodes c := by cases c; unfold nodes; omega
theorem nodes_eq (c : Cn) : nodes c = nodesL c.kids + 1 := by cases c; rfl
theorem kids_nodes : ∀ ks : List Cn, ks.length ≤ nodesL ks
 | [] => Nat.zero_le _
 | k :: r => by
  have h1 := nodes_pos k;have h2 := kids_nodes r;unfold nodesL;rw [List.length_cons];omega
end Pr
namespace Pr
def usesV (o : Int) : Int := if useKids o then 4 else if useText o then 1 else if useN o then 2 else 0
theorem okName_short {m : Bool} {s : Str} (h : s.length < 1) : okName m s = false := by unfold okName; rw [decide_eq_false (by omega)]; rfl
theorem okName_long {m : Bool} {s : Str} (h : 32 < s.length) : okName m s = false := by unfold okName; rw [decide_eq_false (p := s.length ≤ 32) (by omega), Bool.and_false]; rfl
theorem okName_all {m : Bool} {s : Str} (h1 : 1 ≤ s.length) (h2 : s.length ≤ 32) : okName m s = s.all (nameCh m) := by unfold okName; rw [decide_eq_true h1, decide_eq_true h2]; rfl
theorem all_fail {p : UInt8 → Bool} {s : Str} {k : Nat} {c : UInt8} (h : s[k]? = some c) (hc : p c = false) : s.all p = false := by
 cases ha : s.all p with
 | false => rfl
 | true =>
  rw [List.all_eq_true] at ha;rw [ha c (List.mem_of_getElem? h)] at hc;cases hc
theorem all_done {p : UInt8 → Bool} {s : Str} (h : ∀ c ∈ s.take s.length, p c = true) : s.all p = true := by
 rw [List.all_eq_true];rw [List.take_length] at h;exact h
theorem any_done {p : UInt8 → Bool} {s : Str} (h : ∀ c ∈ s.take s.length, p c = false) : s.any p = false := by
 rw [List.any_eq_false];rw [List.take_length] at h;intro c hc;rw [h c hc];decide
theorem any_hit {p : UInt8 → Bool} {s : Str} {k : Nat} {c : UInt8} (h : s[k]? = some c) (hc : p c = true) : s.any p = true := List.any_eq_true.2 ⟨c, List.mem_of_getElem? h, hc⟩
end Pr
namespace Go.Proofs.YtchkiegehejfmaaGreatDoor
open Go.RowKit Go.Lib
theorem AS {α : Type} {l : List α} {k : Nat} {x : α} (h : l[k]? = some x) : l.take (k + 1) = l.take k ++ [x] := by
 rw [List.take_add_one, h];rfl
theorem Ez (o : Int) (w : World) : Calls Tryz.prog 43 #[.int .i64 o] w fun e w' => e = .returned (.tuple #[.int .i64 (Pr.usesV o), .bool (Pr.known o)]) ∧ w = w' := by
 by_cases h : 1 ≤ o ∧ o ≤ 17
 ·obtain h | h | h | h | h | h | h | h | h | h | h | h | h | h | h | h | h : o = 1 ∨ o = 2 ∨ o = 3 ∨ o = 4 ∨ o = 5 ∨ o = 6 ∨ o = 7 ∨ o = 8 ∨ o = 9 ∨ o = 10 ∨ o = 11 ∨ o = 12 ∨ o = 13 ∨ o = 14 ∨ o = 15 ∨ o = 16 ∨ o = 17 := by omega
  all_goals
   subst h;go_enter Tryz.func43, Tryz.ntmps43;go_wp2_with fail
   go_ret2
   exact ⟨rfl, rfl⟩
 ·have hk : Pr.known o = false := by unfold Pr.known; rw [Bool.and_eq_false_iff, decide_eq_false_iff_not, decide_eq_false_iff_not]; omega
  have d1 : (o == 1) = false := by rw [beq_eq_false_iff_ne]; omega
  have d2 : (o == 2) = false := by rw [beq_eq_false_iff_ne]; omega
  have d3 : (o == 3) = false := by rw [beq_eq_false_iff_ne]; omega
  have d4 : (o == 4) = false := by rw [beq_eq_false_iff_ne]; omega
  have d5 : (o == 5) = false := by rw [beq_eq_false_iff_ne]; omega
  have d6 : (o == 6) = false := by rw [beq_eq_false_iff_ne]; omega
  have d7 : (o == 7) = false := by rw [beq_eq_false_iff_ne]; omega
  have d8 : (o == 8) = false := by rw [beq_eq_false_iff_ne]; omega
  have d9 : (o == 9) = false := by rw [beq_eq_false_iff_ne]; omega
  have d10 : (o == 10) = false := by rw [beq_eq_false_iff_ne]; omega
  have d11 : (o == 11) = false := by rw [beq_eq_false_iff_ne]; omega
  have d12 : (o == 12) = false := by rw [beq_eq_false_iff_ne]; omega
  have d13 : (o == 13) = false := by rw [beq_eq_false_iff_ne]; omega
  have d14 : (o == 14) = false := by rw [beq_eq_false_iff_ne]; omega
  have d15 : (o == 15) = false := by rw [beq_eq_false_iff_ne]; omega
  have d16 : (o == 16) = false := by rw [beq_eq_false_iff_ne]; omega
  have d17 : (o == 17) = false := by rw [beq_eq_false_iff_ne]; omega
  have hu : Pr.usesV o = 0 := by unfold Pr.usesV Pr.useKids Pr.useText Pr.useN; rw [d2, d3, d4, d5, d6, d7, d8, d9, d10, d11, d12]; rfl
  rw [hk, hu];clear hk hu h;go_enter Tryz.func43, Tryz.ntmps43;go_wp2_with fail
  go_ret2
  exact ⟨rfl, rfl⟩
theorem Fg (n lo hi : Int) (w : World) : Calls Tryz.prog 154 #[.int .i64 n, .int .i64 lo, .int .i64 hi] w fun e w' => e = .returned (.int .i64 (Pr.withinE n lo hi)) ∧ w = w' := by
 unfold Pr.withinE;by_cases h1 : n < lo
 ·rw [if_pos (.inl h1)];go_enter Tryz.func154, Tryz.ntmps154;go_wp2_with fail;go_ret;exact ⟨rfl, rfl⟩
 ·by_cases h2 : hi < n
  ·rw [if_pos (.inr h2)];go_enter Tryz.func154, Tryz.ntmps154;go_wp2_with fail;go_ret;exact ⟨rfl, rfl⟩
  ·rw [if_neg (by omega)];go_enter Tryz.func154, Tryz.ntmps154;go_wp2_with fail;go_ret;exact ⟨rfl, rfl⟩
theorem FX (n : Int) (w : World) : Calls Tryz.prog 124 #[.int .u8 n] w fun e w' => e = .returned (.bool (n == 45)) ∧ w = w' := by
 go_enter Tryz.func124, Tryz.ntmps124;go_wp2_with fail;go_ret;exact ⟨rfl, rfl⟩
theorem E8 (n : Int) (w : World) : Calls Tryz.prog 166 #[.int .u8 n] w fun e w' => e = .returned (.bool false) ∧ w = w' := by
 go_enter Tryz.func166, Tryz.ntmps166;go_wp2_with fail;go_ret;exact ⟨rfl, rfl⟩
theorem Dz (S : ByteArray) (w : World) (hs : S.size ≤ 1000000) : Calls Tryz.prog 123 #[.string S, .func (.func 124) #[] #[]] w fun e w' => e = .returned (.bool (Pr.okName true S.data.toList)) ∧ w = w' := by
 have HAT := hid (AN S);have hsz : S.data.toList.length = S.size := Am S;have HO := hid (fun n W => FX n W);generalize hLL : S.data.toList = L at *;clear hLL;by_cases h1 : S.size < 1
 ·rw [Pr.okName_short (by omega)];have hq : S.size = 0 := by omega
  go_enter Tryz.func123, Tryz.ntmps123;go_wp2_with fail;go_ret;exact ⟨rfl, rfl⟩
 by_cases h2 : 32 < S.size
 ·rw [Pr.okName_long (by omega)];go_enter Tryz.func123, Tryz.ntmps123;go_wp2_with fail;go_ret;exact ⟨rfl, rfl⟩
 rw [Pr.okName_all (by omega) (by omega)];obtain ⟨R, hR⟩ : ∃ R, L.all (Pr.nameCh true) = R := ⟨_, rfl⟩;rw [hR];have HR := hid hR;clear hR;go_enter Tryz.func123, Tryz.ntmps123;go_wp2_with fail
 go_loopw [17] (fun ix wr => ∃ k : Nat, k ≤ S.size ∧ ix = .int .i64 k ∧ wr = w ∧ ∀ c ∈ L.take k, Pr.nameCh true c = true) (fun ix _ => S.size - (RowKit.intOf ix).toNat)
 case atStart => exact ⟨0, Nat.zero_le _, rfl, rfl, fun c h => by simp at h⟩
 case round =>
  obtain ⟨k, hk, rfl, rfl, hall⟩ := hrel;have HALL := hid hall;clear hall;by_cases hlt : k < S.size
  ·have hch : Pr.nameCh true S[k] = ((decide (97 ≤ S[k].toNat) && decide (S[k].toNat ≤ 122)) || (decide (48 ≤ S[k].toNat) && decide (S[k].toNat ≤ 57)) || (true && S[k] == 45)) := rfl;have h45 : (S[k] == 45) = decide (S[k].toNat = 45) := by
    by_cases h : S[k] = 45
    ·rw [h]; rfl
    ·rw [beq_eq_false_iff_ne.2 h, decide_eq_false];intro h3;exact h (UInt8.toNat_inj.1 h3)
   have HN0 : Hid (Pr.nameCh true S[k] = true → ∀ c ∈ L.take (k + 1), Pr.nameCh true c = true) := hid (fun hn c hc => by
    rw [AS (HAT.out k hlt)] at hc;rcases List.mem_append.1 hc with hc | hc
    ·exact HALL.out c hc
    ·rw [List.mem_singleton.1 hc]; exact hn)
   have HF0 : Hid (Pr.nameCh true S[k] = false → R = false) := hid (fun hn => by rw [← HR.out]; exact Pr.all_fail (HAT.out k hlt) hn);rw [h45] at hch;clear h45;have HCH := hid hch;clear hch;generalize hn : S[k].toNat = n at *;by_cases ha : n < 97
   ·by_cases hb : n < 48
    ·by_cases hc : n = 45
     ·have HN := hid (HN0.out (by rw [HCH.out, decide_eq_true (p := n = 45) hc]; simp));have hcq : ((n : Int) == 45) = true := by rw [beq_iff_eq]; omega
      clear hc;go_wp2_with fail;refine (HO.out _ _).mono ?_;rintro e w2 ⟨rfl, rfl⟩;go_wp2_with fail
      go_roundw
      case rel => exact ⟨k + 1, by omega, by go_num, by trivial, HN.out⟩
      case measure => simp [RowKit.intOf]; omega
     ·have HF := hid (HF0.out (by rw [HCH.out, decide_eq_false (p := n = 45) hc]; simp; omega));have hcq : ((n : Int) == 45) = false := by rw [beq_eq_false_iff_ne]; omega
      clear hc;go_wp2_with fail;refine (HO.out _ _).mono ?_;rintro e w2 ⟨rfl, rfl⟩;go_wp2_with fail;go_ret;exact ⟨congrArg (fun b => Ending.returned (.bool b)) HF.out.symm, by trivial⟩
    ·by_cases hd : 57 < n
     ·have hc : n ≠ 45 := by omega
      have HF := hid (HF0.out (by rw [HCH.out, decide_eq_false (p := n = 45) hc]; simp; omega));have hcq : ((n : Int) == 45) = false := by rw [beq_eq_false_iff_ne]; omega
      clear hc;go_wp2_with fail;refine (HO.out _ _).mono ?_;rintro e w2 ⟨rfl, rfl⟩;go_wp2_with fail;go_ret;exact ⟨congrArg (fun b => Ending.returned (.bool b)) HF.out.symm, by trivial⟩
     ·have HN := hid (HN0.out (by rw [HCH.out, decide_eq_true (p := 48 ≤ n) (by omega), decide_eq_true (p := n ≤ 57) (by omega)]; simp));go_wp2_with fail
      go_roundw
      case rel => exact ⟨k + 1, by omega, by go_num, by trivial, HN.out⟩
      case measure => simp [RowKit.intOf]; omega
   ·by_cases he : 122 < n
    ·have hc : n ≠ 45 := by omega
     have hb : ¬ n < 48 := by omega
     have hd : 57 < n := by omega
     have HF := hid (HF0.out (by rw [HCH.out, decide_eq_false (p := n = 45) hc]; simp; omega));have hcq : ((n : Int) == 45) = false := by rw [beq_eq_false_iff_ne]; omega
     clear hc;go_wp2_with fail;refine (HO.out _ _).mono ?_;rintro e w2 ⟨rfl, rfl⟩;go_wp2_with fail;go_ret;exact ⟨congrArg (fun b => Ending.returned (.bool b)) HF.out.symm, by trivial⟩
    ·have HN := hid (HN0.out (by rw [HCH.out, decide_eq_true (p := 97 ≤ n) (by omega), decide_eq_true (p := n ≤ 122) (by omega)]; simp));go_wp2_with fail
     go_roundw
     case rel => exact ⟨k + 1, by omega, by go_num, by trivial, HN.out⟩
     case measure => simp [RowKit.intOf]; omega
  ·obtain rfl : k = S.size := by omega
   have HE : Hid (R = true) := hid (by rw [← HR.out]; exact Pr.all_done (by rw [hsz]; exact HALL.out));go_wp2_with fail;go_ret;exact ⟨congrArg (fun b => Ending.returned (.bool b)) HE.out.symm, by trivial⟩
theorem Dy (S : ByteArray) (w : World) (hs : S.size ≤ 1000000) : Calls Tryz.prog 123 #[.string S, .func (.func 166) #[] #[]] w fun e w' => e = .returned (.bool (Pr.okName false S.data.toList)) ∧ w = w' := by
 have HAT := hid (AN S);have hsz : S.data.toList.length = S.size := Am S;have HO := hid (fun n W => E8 n W);generalize hLL : S.data.toList = L at *;clear hLL;by_cases h1 : S.size < 1
 ·rw [Pr.okName_short (by omega)];have hq : S.size = 0 := by omega
  go_enter Tryz.func123, Tryz.ntmps123;go_wp2_with fail;go_ret;exact ⟨rfl, rfl⟩
 by_cases h2 : 32 < S.size
 ·rw [Pr.okName_long (by omega)];go_enter Tryz.func123, Tryz.ntmps123;go_wp2_with fail;go_ret;exact ⟨rfl, rfl⟩
 rw [Pr.okName_all (by omega) (by omega)];obtain ⟨R, hR⟩ : ∃ R, L.all (Pr.nameCh false) = R := ⟨_, rfl⟩;rw [hR];have HR := hid hR;clear hR;go_enter Tryz.func123, Tryz.ntmps123;go_wp2_with fail
 go_loopw [17] (fun ix wr => ∃ k : Nat, k ≤ S.size ∧ ix = .int .i64 k ∧ wr = w ∧ ∀ c ∈ L.take k, Pr.nameCh false c = true) (fun ix _ => S.size - (RowKit.intOf ix).toNat)
 case atStart => exact ⟨0, Nat.zero_le _, rfl, rfl, fun c h => by simp at h⟩
 case round =>
  obtain ⟨k, hk, rfl, rfl, hall⟩ := hrel;have HALL := hid hall;clear hall;by_cases hlt : k < S.size
  ·have hch : Pr.nameCh false S[k] = ((decide (97 ≤ S[k].toNat) && decide (S[k].toNat ≤ 122)) || (decide (48 ≤ S[k].toNat) && decide (S[k].toNat ≤ 57)) || (false && S[k] == 45)) := rfl;have h45 : (S[k] == 45) = decide (S[k].toNat = 45) := by
    by_cases h : S[k] = 45
    ·rw [h]; rfl
    ·rw [beq_eq_false_iff_ne.2 h, decide_eq_false];intro h3;exact h (UInt8.toNat_inj.1 h3)
   have HN0 : Hid (Pr.nameCh false S[k] = true → ∀ c ∈ L.take (k + 1), Pr.nameCh false c = true) := hid (fun hn c hc => by
    rw [AS (HAT.out k hlt)] at hc;rcases List.mem_append.1 hc with hc | hc
    ·exact HALL.out c hc
    ·rw [List.mem_singleton.1 hc]; exact hn)
   have HF0 : Hid (Pr.nameCh false S[k] = false → R = false) := hid (fun hn => by rw [← HR.out]; exact Pr.all_fail (HAT.out k hlt) hn);rw [h45] at hch;clear h45;have HCH := hid hch;clear hch;generalize hn : S[k].toNat = n at *;by_cases ha : n < 97
   ·by_cases hb : n < 48
    ·by_cases hc : n = 45
     ·have HF := hid (HF0.out (by rw [HCH.out]; simp; omega));clear hc;go_wp2_with fail;refine (HO.out _ _).mono ?_;rintro e w2 ⟨rfl, rfl⟩;go_wp2_with fail;go_ret;exact ⟨congrArg (fun b => Ending.returned (.bool b)) HF.out.symm, by trivial⟩
     ·have HF := hid (HF0.out (by rw [HCH.out, decide_eq_false (p := n = 45) hc]; simp; omega));clear hc;go_wp2_with fail;refine (HO.out _ _).mono ?_;rintro e w2 ⟨rfl, rfl⟩;go_wp2_with fail;go_ret;exact ⟨congrArg (fun b => Ending.returned (.bool b)) HF.out.symm, by trivial⟩
    ·by_cases hd : 57 < n
     ·have hc : n ≠ 45 := by omega
      have HF := hid (HF0.out (by rw [HCH.out, decide_eq_false (p := n = 45) hc]; simp; omega));clear hc;go_wp2_with fail;refine (HO.out _ _).mono ?_;rintro e w2 ⟨rfl, rfl⟩;go_wp2_with fail;go_ret;exact ⟨congrArg (fun b => Ending.returned (.bool b)) HF.out.symm, by trivial⟩
     ·have HN := hid (HN0.out (by rw [HCH.out, decide_eq_true (p := 48 ≤ n) (by omega), decide_eq_true (p := n ≤ 57) (by omega)]; simp));go_wp2_with fail
      go_roundw
      case rel => exact ⟨k + 1, by omega, by go_num, by trivial, HN.out⟩
      case measure => simp [RowKit.intOf]; omega
   ·by_cases he : 122 < n
    ·have hc : n ≠ 45 := by omega
     have hb : ¬ n < 48 := by omega
     have hd : 57 < n := by omega
     have HF := hid (HF0.out (by rw [HCH.out, decide_eq_false (p := n = 45) hc]; simp; omega));clear hc;go_wp2_with fail;refine (HO.out _ _).mono ?_;rintro e w2 ⟨rfl, rfl⟩;go_wp2_with fail;go_ret;exact ⟨congrArg (fun b => Ending.returned (.bool b)) HF.out.symm, by trivial⟩
    ·have HN := hid (HN0.out (by rw [HCH.out, decide_eq_true (p := 97 ≤ n) (by omega), decide_eq_true (p := n ≤ 122) (by omega)]; simp));go_wp2_with fail
     go_roundw
     case rel => exact ⟨k + 1, by omega, by go_num, by trivial, HN.out⟩
     case measure => simp [RowKit.intOf]; omega
  ·obtain rfl : k = S.size := by omega
   have HE : Hid (R = true) := hid (by rw [← HR.out]; exact Pr.all_done (by rw [hsz]; exact HALL.out));go_wp2_with fail;go_ret;exact ⟨congrArg (fun b => Ending.returned (.bool b)) HE.out.symm, by trivial⟩
theorem DQ (S : ByteArray) (w : World) (hs : S.size ≤ 1000000) : Calls Tryz.prog 90 #[.string S] w fun e w' => e = .returned (.bool (Pr.okName true S.data.toList)) ∧ w = w' := by
 have HS := hid (Dz S w hs);go_enter Tryz.func90, Tryz.ntmps90;go_wp2_with fail;refine HS.out.mono ?_;rintro e w2 ⟨rfl, rfl⟩;go_wp2_with fail;go_ret;exact ⟨rfl, rfl⟩
theorem E7 (S : ByteArray) (w : World) (hs : S.size ≤ 1000000) : Calls Tryz.prog 153 #[.string S] w fun e w' => e = .returned (.bool (Pr.okName false S.data.toList)) ∧ w = w' := by
 have HS := hid (Dy S w hs);go_enter Tryz.func153, Tryz.ntmps153;go_wp2_with fail;refine HS.out.mono ?_;rintro e w2 ⟨rfl, rfl⟩;go_wp2_with fail;go_ret;exact ⟨rfl, rfl⟩
end Go.Proofs.YtchkiegehejfmaaGreatDoor
namespace Pr
def badCh (c : UInt8) : Bool := decide (c.toNat < 33) || decide (126 < c.toNat)
theorem globE_zero {s : Str} (h : s.length = 0) : globE s = 9 := by unfold globE; rw [if_pos (List.length_eq_zero_iff.1 h)]
theorem globE_long {s : Str} (h : 64 < s.length) : globE s = 7 := by unfold globE; rw [if_neg (by intro e; rw [e] at h; simp at h), if_pos h]
theorem globE_any {s : Str} (h : s.length ≠ 0) (h2 : ¬ 64 < s.length) : globE s = if s.any badCh then 3 else 0 := by unfold globE; rw [if_neg (by intro e; rw [e] at h; simp at h), if_neg h2]; rfl
end Pr
namespace Go.Proofs.YtchkiegehejfmaaGreatDoor
open Go.RowKit Go.Lib
theorem DV {S : ByteArray} (h : S.size ≠ 0) : S.toList.isEmpty = false := by
 rw [Lib.toList_data];have := Am S
 cases hl : S.data.toList with
 | nil => rw [hl, List.length_nil] at this; omega
 | cons a b => rfl
theorem EM {S : ByteArray} (h : S.size = 0) : S = ⟨#[]⟩ := A5 (by have := Am S; rw [h] at this; exact List.length_eq_zero_iff.1 (by omega))
theorem GT (S : ByteArray) (w : World) (hs : S.size ≤ 1000000) : Calls Tryz.prog 152 #[.string S] w fun e w' => e = .returned (.int .i64 (Pr.globE S.data.toList)) ∧ w = w' := by
 by_cases h0 : S.size = 0
 ·obtain rfl := EM h0;rw [Pr.globE_zero rfl];go_enter Tryz.func152, Tryz.ntmps152;go_wp2_with fail;go_ret;exact ⟨rfl, rfl⟩
 have HAT := hid (AN S);have hsz : S.data.toList.length = S.size := Am S;have he := DV h0;generalize hLL : S.data.toList = L at *;clear hLL;by_cases h2 : 64 < S.size
 ·rw [Pr.globE_long (by omega)];go_enter Tryz.func152, Tryz.ntmps152;go_wp2_with fail;go_ret;exact ⟨rfl, rfl⟩
 rw [Pr.globE_any (by omega) (by omega)];have h2i : ¬ (64 : Int) < (S.size : Int) := by omega
 obtain ⟨Z, hZ⟩ : ∃ Z : Int, (if L.any Pr.badCh = true then (3 : Int) else 0) = Z := ⟨_, rfl⟩;rw [hZ];have HZ := hid hZ;clear hZ;go_enter Tryz.func152, Tryz.ntmps152;go_wp2_with fail
 go_loopw [13] (fun ix wr => ∃ k : Nat, k ≤ S.size ∧ ix = .int .i64 k ∧ wr = w ∧ ∀ c ∈ L.take k, Pr.badCh c = false) (fun ix _ => S.size - (RowKit.intOf ix).toNat)
 case atStart => exact ⟨0, Nat.zero_le _, rfl, rfl, fun c h => by simp at h⟩
 case round =>
  obtain ⟨k, hk, rfl, rfl, hall⟩ := hrel;have HALL := hid hall;clear hall;by_cases hlt : k < S.size
  ·have hch : Pr.badCh S[k] = (decide (S[k].toNat < 33) || decide (126 < S[k].toNat)) := rfl
   have HN0 : Hid (Pr.badCh S[k] = false → ∀ c ∈ L.take (k + 1), Pr.badCh c = false) := hid (fun hn c hc => by
    rw [AS (HAT.out k hlt)] at hc;rcases List.mem_append.1 hc with hc | hc
    ·exact HALL.out c hc
    ·rw [List.mem_singleton.1 hc]; exact hn)
   have HF0 : Hid (Pr.badCh S[k] = true → Z = 3) := hid (fun hn => by rw [← HZ.out, Pr.any_hit (HAT.out k hlt) hn]; rfl);have HCH := hid hch;clear hch;generalize hn : S[k].toNat = n at *;by_cases ha : n < 33
   ·have HF := hid (HF0.out (by rw [HCH.out, decide_eq_true ha]; rfl));go_wp2_with fail;go_ret;exact ⟨congrArg (fun z => Ending.returned (.int .i64 z)) HF.out.symm, by trivial⟩
   ·by_cases hb : 126 < n
    ·have HF := hid (HF0.out (by rw [HCH.out, decide_eq_true hb, Bool.or_true]));go_wp2_with fail;go_ret;exact ⟨congrArg (fun z => Ending.returned (.int .i64 z)) HF.out.symm, by trivial⟩
    ·have HN := hid (HN0.out (by rw [HCH.out, decide_eq_false ha, decide_eq_false hb]; rfl));go_wp2_with fail
     go_roundw
     case rel => exact ⟨k + 1, by omega, by go_num, by trivial, HN.out⟩
     case measure => simp [RowKit.intOf]; omega
  ·obtain rfl : k = S.size := by omega
   have HE : Hid (Z = 0) := hid (by rw [← HZ.out, Pr.any_done (by rw [hsz]; exact HALL.out)]; rfl);go_wp2_with fail;go_ret;exact ⟨congrArg (fun z => Ending.returned (.int .i64 z)) HE.out.symm, by trivial⟩
theorem FQ (S : ByteArray) (w : World) (hs : S.size ≤ 1000000) : Calls Tryz.prog 131 #[.string S] w fun e w' => e = .returned (.int .i64 (Pr.globE S.data.toList)) ∧ w = w' := by
 by_cases h0 : S.size = 0
 ·obtain rfl := EM h0;rw [Pr.globE_zero rfl];go_enter Tryz.func131, Tryz.ntmps131;go_wp2_with fail;go_ret;exact ⟨rfl, rfl⟩
 have HAT := hid (AN S);have hsz : S.data.toList.length = S.size := Am S;have he := DV h0;generalize hLL : S.data.toList = L at *;clear hLL;by_cases h2 : 64 < S.size
 ·rw [Pr.globE_long (by omega)];go_enter Tryz.func131, Tryz.ntmps131;go_wp2_with fail;go_ret;exact ⟨rfl, rfl⟩
 rw [Pr.globE_any (by omega) (by omega)];have h2i : ¬ (64 : Int) < (S.size : Int) := by omega
 obtain ⟨Z, hZ⟩ : ∃ Z : Int, (if L.any Pr.badCh = true then (3 : Int) else 0) = Z := ⟨_, rfl⟩;rw [hZ];have HZ := hid hZ;clear hZ;go_enter Tryz.func131, Tryz.ntmps131;go_wp2_with fail
 go_loopw [3] (fun ix wr => ∃ k : Nat, k ≤ S.size ∧ ix = .int .i64 k ∧ wr = w ∧ ∀ c ∈ L.take k, Pr.badCh c = false) (fun ix _ => S.size - (RowKit.intOf ix).toNat)
 case atStart => exact ⟨0, Nat.zero_le _, rfl, rfl, fun c h => by simp at h⟩
 case round =>
  obtain ⟨k, hk, rfl, rfl, hall⟩ := hrel;have HALL := hid hall;clear hall;by_cases hlt : k < S.size
  ·have hch : Pr.badCh S[k] = (decide (S[k].toNat < 33) || decide (126 < S[k].toNat)) := rfl
   have HN0 : Hid (Pr.badCh S[k] = false → ∀ c ∈ L.take (k + 1), Pr.badCh c = false) := hid (fun hn c hc => by
    rw [AS (HAT.out k hlt)] at hc;rcases List.mem_append.1 hc with hc | hc
    ·exact HALL.out c hc
    ·rw [List.mem_singleton.1 hc]; exact hn)
   have HF0 : Hid (Pr.badCh S[k] = true → Z = 3) := hid (fun hn => by rw [← HZ.out, Pr.any_hit (HAT.out k hlt) hn]; rfl);have HCH := hid hch;clear hch;generalize hn : S[k].toNat = n at *;by_cases ha : n < 33
   ·have HF := hid (HF0.out (by rw [HCH.out, decide_eq_true ha]; rfl));go_wp2_with fail;go_ret;exact ⟨congrArg (fun z => Ending.returned (.int .i64 z)) HF.out.symm, by trivial⟩
   ·by_cases hb : 126 < n
    ·have HF := hid (HF0.out (by rw [HCH.out, decide_eq_true hb, Bool.or_true]));go_wp2_with fail;go_ret;exact ⟨congrArg (fun z => Ending.returned (.int .i64 z)) HF.out.symm, by trivial⟩
    ·have HN := hid (HN0.out (by rw [HCH.out, decide_eq_false ha, decide_eq_false hb]; rfl));go_wp2_with fail
     go_roundw
     case rel => exact ⟨k + 1, by omega, by go_num, by trivial, HN.out⟩
     case measure => simp [RowKit.intOf]; omega
  ·obtain rfl : k = S.size := by omega
   have HE : Hid (Z = 0) := hid (by rw [← HZ.out, Pr.any_done (by rw [hsz]; exact HALL.out)]; rfl);go_wp2_with fail;go_ret;exact ⟨congrArg (fun z => Ending.returned (.int .i64 z)) HE.out.symm, by trivial⟩
theorem Ce (m : Bool) (S : ByteArray) (w : World) (hs : S.size ≤ 1000000) : Calls Tryz.prog 96 #[.string S, .bool m] w fun e w' => e = .returned (.bool (Pr.okName m S.data.toList)) ∧ w = w' := by
 have HAT := hid (AN S);have hsz : S.data.toList.length = S.size := Am S;generalize hLL : S.data.toList = L at *;clear hLL;obtain ⟨R, hR⟩ : ∃ R, L.all (Pr.nameCh m) = R := ⟨_, rfl⟩;have HV : Hid (Pr.okName m L = (decide (1 ≤ L.length) && decide (L.length ≤ 32) && R)) := hid (by rw [← hR]; rfl);have HR := hid hR;obtain ⟨Z, hZ⟩ : ∃ Z, Pr.okName m L = Z := ⟨_, rfl⟩;rw [hZ];rw [hZ] at HV;clear hR hZ;go_enter Tryz.func96, Tryz.ntmps96;go_wp2_with fail
 go_loopw [5] (fun ix wr => ∃ k : Nat, k ≤ S.size ∧ ix = .int .i64 k ∧ wr = w ∧ ∀ c ∈ L.take k, Pr.nameCh m c = true) (fun ix _ => S.size - (RowKit.intOf ix).toNat)
 case atStart => exact ⟨0, Nat.zero_le _, rfl, rfl, fun c h => by simp at h⟩
 case round =>
  obtain ⟨k, hk, rfl, rfl, hall⟩ := hrel;have HALL := hid hall;clear hall;by_cases hlt : k < S.size
  ·have hch : Pr.nameCh m S[k] = ((decide (97 ≤ S[k].toNat) && decide (S[k].toNat ≤ 122)) || (decide (48 ≤ S[k].toNat) && decide (S[k].toNat ≤ 57)) || (m && S[k] == 45)) := rfl;have h45 : (S[k] == 45) = decide (S[k].toNat = 45) := by
    by_cases h : S[k] = 45
    ·rw [h]; rfl
    ·rw [beq_eq_false_iff_ne.2 h, decide_eq_false];intro h3;exact h (UInt8.toNat_inj.1 h3)
   have HN0 : Hid (Pr.nameCh m S[k] = true → ∀ c ∈ L.take (k + 1), Pr.nameCh m c = true) := hid (fun hn c hc => by
    rw [AS (HAT.out k hlt)] at hc;rcases List.mem_append.1 hc with hc | hc
    ·exact HALL.out c hc
    ·rw [List.mem_singleton.1 hc]; exact hn)
   have HF0 : Hid (Pr.nameCh m S[k] = false → Z = false) := hid (fun hn => by rw [HV.out, ← HR.out, Pr.all_fail (HAT.out k hlt) hn, Bool.and_false]);rw [h45] at hch;clear h45;have HCH := hid hch;clear hch;generalize hn : S[k].toNat = n at *;by_cases ha : 97 ≤ n
   ·have e1 : decide (((97 : Int) ≤ (n : Int)) : Prop) = true := decide_eq_true (by omega);by_cases hb : n ≤ 122
    ·have e2 : decide (((n : Int) ≤ 122) : Prop) = true := decide_eq_true (by omega);have HN := hid (HN0.out (by rw [HCH.out]; simp [ha, hb]));go_wp2_with fail
     go_roundw
     case rel => exact ⟨k + 1, by omega, by go_num, by trivial, HN.out⟩
     case measure => simp [RowKit.intOf]; omega
    ·have hd : ¬ n ≤ 57 := by omega
     have hc : 48 ≤ n := by omega
     have h5 : n ≠ 45 := by omega
     have e2 : decide (((n : Int) ≤ 122) : Prop) = false := decide_eq_false (by omega);have e3 : decide (((48 : Int) ≤ (n : Int)) : Prop) = true := decide_eq_true (by omega);have e4 : decide (((n : Int) ≤ 57) : Prop) = false := decide_eq_false (by omega);have hcq : ((n : Int) == 45) = false := by rw [beq_eq_false_iff_ne]; omega
     cases m with
     | true =>
      have HF := hid (HF0.out (by rw [HCH.out]; simp; omega));go_wp2_with fail;go_ret;exact ⟨congrArg (fun b => Ending.returned (.bool b)) HF.out.symm, by trivial⟩
     | false =>
      have HF := hid (HF0.out (by rw [HCH.out]; simp; omega));go_wp2_with fail;go_ret;exact ⟨congrArg (fun b => Ending.returned (.bool b)) HF.out.symm, by trivial⟩
   ·have e1 : decide (((97 : Int) ≤ (n : Int)) : Prop) = false := decide_eq_false (by omega);by_cases hc : 48 ≤ n
    ·have e3 : decide (((48 : Int) ≤ (n : Int)) : Prop) = true := decide_eq_true (by omega);by_cases hd : n ≤ 57
     ·have e4 : decide (((n : Int) ≤ 57) : Prop) = true := decide_eq_true (by omega);have HN := hid (HN0.out (by rw [HCH.out]; simp [hc, hd]));go_wp2_with fail
      go_roundw
      case rel => exact ⟨k + 1, by omega, by go_num, by trivial, HN.out⟩
      case measure => simp [RowKit.intOf]; omega
     ·have h5 : n ≠ 45 := by omega
      have e4 : decide (((n : Int) ≤ 57) : Prop) = false := decide_eq_false (by omega);have hcq : ((n : Int) == 45) = false := by rw [beq_eq_false_iff_ne]; omega
      cases m with
      | true =>
       have HF := hid (HF0.out (by rw [HCH.out]; simp; omega));go_wp2_with fail;go_ret;exact ⟨congrArg (fun b => Ending.returned (.bool b)) HF.out.symm, by trivial⟩
      | false =>
       have HF := hid (HF0.out (by rw [HCH.out]; simp; omega));go_wp2_with fail;go_ret;exact ⟨congrArg (fun b => Ending.returned (.bool b)) HF.out.symm, by trivial⟩
    ·have e3 : decide (((48 : Int) ≤ (n : Int)) : Prop) = false := decide_eq_false (by omega);by_cases h5 : n = 45
     ·cases m with
      | true =>
       have HN := hid (HN0.out (by rw [HCH.out]; simp [h5]));go_wp2_with fail
       go_roundw
       case rel => exact ⟨k + 1, by omega, by go_num, by trivial, HN.out⟩
       case measure => simp [RowKit.intOf]; omega
      | false =>
       have HF := hid (HF0.out (by rw [HCH.out]; simp; omega));go_wp2_with fail;go_ret;exact ⟨congrArg (fun b => Ending.returned (.bool b)) HF.out.symm, by trivial⟩
     ·have hcq : ((n : Int) == 45) = false := by rw [beq_eq_false_iff_ne]; omega
      cases m with
      | true =>
       have HF := hid (HF0.out (by rw [HCH.out]; simp; omega));go_wp2_with fail;go_ret;exact ⟨congrArg (fun b => Ending.returned (.bool b)) HF.out.symm, by trivial⟩
      | false =>
       have HF := hid (HF0.out (by rw [HCH.out]; simp; omega));go_wp2_with fail;go_ret;exact ⟨congrArg (fun b => Ending.returned (.bool b)) HF.out.symm, by trivial⟩
  ·obtain rfl : k = S.size := by omega
   have HE : Hid (R = true) := hid (by rw [← HR.out]; exact Pr.all_done (by rw [hsz]; exact HALL.out));by_cases h1 : 1 ≤ S.size
   ·by_cases h2 : S.size ≤ 32
    ·have f1 : decide ((1 : Int) ≤ (S.size : Int)) = true := decide_eq_true (by omega);have f2 : decide ((S.size : Int) ≤ 32) = true := decide_eq_true (by omega);have HZ : Hid (Z = true) := hid (by rw [HV.out, HE.out, decide_eq_true (p := 1 ≤ L.length) (by omega), decide_eq_true (p := L.length ≤ 32) (by omega)]; rfl);go_wp2_with fail;go_ret;exact ⟨congrArg (fun b => Ending.returned (.bool b)) HZ.out.symm, by trivial⟩
    ·have f1 : decide ((1 : Int) ≤ (S.size : Int)) = true := decide_eq_true (by omega);have f2 : decide ((S.size : Int) ≤ 32) = false := decide_eq_false (by omega);have HZ : Hid (Z = false) := hid (by rw [HV.out, decide_eq_false (p := L.length ≤ 32) (by omega), Bool.and_false, Bool.false_and]);go_wp2_with fail;go_ret;exact ⟨congrArg (fun b => Ending.returned (.bool b)) HZ.out.symm, by trivial⟩
   ·have HZ : Hid (Z = false) := hid (by rw [HV.out, decide_eq_false (p := 1 ≤ L.length) (by omega), Bool.false_and, Bool.false_and]);have hq : S.size = 0 := by omega
    go_wp2_with fail;go_ret;exact ⟨congrArg (fun b => Ending.returned (.bool b)) HZ.out.symm, by trivial⟩
theorem Ay (o : Int) (w : World) : Calls Tryz.prog 46 #[.int .i64 o] w fun e w' => e = .returned (.bool (Pr.useText o)) ∧ w = w' := by
 unfold Pr.useText
 cases d6 : (o == 6) with
 | true =>
  go_enter Tryz.func46, Tryz.ntmps46;go_wp2_with fail;go_ret;exact ⟨rfl, rfl⟩
 | false =>
  cases d7 : (o == 7) with
  | true =>
   go_enter Tryz.func46, Tryz.ntmps46;go_wp2_with fail;go_ret;exact ⟨rfl, rfl⟩
  | false =>
   cases d8 : (o == 8) with
   | true =>
    go_enter Tryz.func46, Tryz.ntmps46;go_wp2_with fail;go_ret;exact ⟨rfl, rfl⟩
   | false =>
    cases d9 : (o == 9) with
    | true =>
     go_enter Tryz.func46, Tryz.ntmps46;go_wp2_with fail;go_ret;exact ⟨rfl, rfl⟩
    | false =>
     go_enter Tryz.func46, Tryz.ntmps46;go_wp2_with fail;go_ret;exact ⟨rfl, rfl⟩
theorem AF (o : Int) (w : World) : Calls Tryz.prog 47 #[.int .i64 o] w fun e w' => e = .returned (.bool (Pr.useN o)) ∧ w = w' := by
 unfold Pr.useN
 cases d5 : (o == 5) with
 | true =>
  go_enter Tryz.func47, Tryz.ntmps47;go_wp2_with fail;go_ret;exact ⟨rfl, rfl⟩
 | false =>
  cases d10 : (o == 10) with
  | true =>
   go_enter Tryz.func47, Tryz.ntmps47;go_wp2_with fail;go_ret;exact ⟨rfl, rfl⟩
  | false =>
   cases d11 : (o == 11) with
   | true =>
    go_enter Tryz.func47, Tryz.ntmps47;go_wp2_with fail;go_ret;exact ⟨rfl, rfl⟩
   | false =>
    cases d12 : (o == 12) with
    | true =>
     go_enter Tryz.func47, Tryz.ntmps47;go_wp2_with fail;go_ret;exact ⟨rfl, rfl⟩
    | false =>
     go_enter Tryz.func47, Tryz.ntmps47;go_wp2_with fail;go_ret;exact ⟨rfl, rfl⟩
theorem AP (o : Int) (w : World) : Calls Tryz.prog 130 #[.int .i64 o] w fun e w' => e = .returned (.bool (Pr.useKids o)) ∧ w = w' := by
 unfold Pr.useKids
 cases d2 : (o == 2) with
 | true =>
  go_enter Tryz.func130, Tryz.ntmps130;go_wp2_with fail;go_ret;exact ⟨rfl, rfl⟩
 | false =>
  cases d3 : (o == 3) with
  | true =>
   go_enter Tryz.func130, Tryz.ntmps130;go_wp2_with fail;go_ret;exact ⟨rfl, rfl⟩
  | false =>
   cases d4 : (o == 4) with
   | true =>
    go_enter Tryz.func130, Tryz.ntmps130;go_wp2_with fail;go_ret;exact ⟨rfl, rfl⟩
   | false =>
    go_enter Tryz.func130, Tryz.ntmps130;go_wp2_with fail;go_ret;exact ⟨rfl, rfl⟩
end Go.Proofs.YtchkiegehejfmaaGreatDoor
