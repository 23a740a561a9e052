/- The texts W3, Vb, Yf of this proof, one behind the other. -/
import Derived.Test.YtchkiegehejfmaaGreatDoorMsar
import Derived.Test.YtchkiegehejfmaaGreatDoorMsae
import Derived.Test.YtchkiegehejfmaaGreatDoorMsab
import Derived.Test.YtchkiegehejfmaaGreatDoorMsaj
import Derived.Test.YtchkiegehejfmaaGreatDoorMsao
set_option linter.unusedSimpArgs false
set_option maxHeartbeats 16000000
set_option maxRecDepth 100000
set_option linter.unusedVariables false
namespace Pr
def sgnL (s : Str) : Nat := if s.head? = some 45 then 1 else 0
def sgnd (d n : Nat) : Int := if d = 1 then -(n : Int) else n
theorem sval_eq (s : Str) : sval s = sgnd (sgnL s) (Ar.val10 (s.drop (sgnL s))) := by
 cases s with
 | nil => rfl
 | cons c r =>
  by_cases h : c = 45
  ·subst h; rfl
  ·have h1 : sgnL (c :: r) = 0 := if_neg (fun e => h (by injection e));rw [GW _ (fun q e => h (by injection e)), h1];rfl
theorem DH (n : Int) : (Ar.itoa n).drop (sgnL (Ar.itoa n)) = Ar.digs n.natAbs := by
 unfold Ar.itoa;by_cases h : n < 0
 ·rw [if_pos h];rfl
 ·rw [if_neg h];have h1 : sgnL (Ar.digs n.natAbs) = 0 := by
   unfold sgnL;refine if_neg (fun e => ?_)
   cases hd : Ar.digs n.natAbs with
   | nil => exact Ar.CT _ hd
   | cons c r =>
    rw [hd] at e;injection e with e;subst e;exact F0 _ _ hd
  rw [h1];rfl
theorem Hn (n : Nat) (h : n ≤ 1000000000000) : (Ar.digs n).length ≤ 13 := by
 have : ∀ (k n : Nat), n < 10 ^ (k + 1) → (Ar.digs n).length ≤ k + 1 := by
  intro k
  induction k with
  | zero => intro n h; rw [Ar.AQ n (by simpa using h)]; simp
  | succ k ih =>
   intro n h;by_cases h10 : n < 10
   ·rw [Ar.AQ n h10]; simp
   ·rw [Ar.AY n (by omega), List.length_append];have h1 : n / 10 < 10 ^ (k + 1) := by
     rw [Nat.pow_succ] at h;omega
    have := ih (n / 10) h1;simp;omega
 exact this 12 n (by omega)
theorem Fy {s : Str} {n : Int} (h : numP s = some n) : s = Ar.itoa n ∧ -1000000000000 ≤ n ∧ n ≤ 1000000000000 := by
 unfold numP at h;split at h
 ·rename_i g;injection h with h;subst h;exact ⟨g.2.2.symm, g.1, g.2.1⟩
 ·cases h
theorem Ha {s : Str} {n : Int} (h : numP s = some n) : 1 ≤ s.length ∧ s.length ≤ sgnL s + 13 ∧ s.length ≠ sgnL s := by
 obtain ⟨rfl, h1, h2⟩ := Fy h;have h3 := congrArg List.length (DH n);rw [List.length_drop] at h3;have h4 := Hn n.natAbs (by omega);have h5 := List.length_pos_iff.2 (Ar.CT n.natAbs);omega
theorem sgnL_le (s : Str) : sgnL s ≤ 1 := by unfold sgnL; split <;> omega
theorem FM {s : Str} {n : Int} (h : numP s = some n) : ∀ c ∈ s.drop (sgnL s), Ar.isDig c = true := by
 obtain ⟨rfl, h1, h2⟩ := Fy h;rw [DH];exact Ar.EB _ _ (Nat.le_refl _)
theorem numP_bad {s : Str} (h : ∃ c ∈ s.drop (sgnL s), Ar.isDig c = false) : numP s = none := by
 cases hn : numP s with
 | none => rfl
 | some n =>
  obtain ⟨c, hc, hd⟩ := h;rw [FM hn c hc] at hd;cases hd
theorem numP_short {s : Str} (h : s.length = sgnL s ∨ sgnL s + 13 < s.length) : numP s = none := by
 cases hn : numP s with
 | none => rfl
 | some n =>
  have := Ha hn;omega
theorem numP_no {s : Str} {m : Int} (hm : sval s = m) (h : m < -1000000000000 ∨ 1000000000000 < m ∨ Ar.itoa m ≠ s) : numP s = none := by
 unfold numP;rw [hm];refine if_neg (fun g => ?_);rcases h with h | h | h
 ·omega
 ·omega
 ·exact h g.2.2
theorem numP_yes {s : Str} {m : Int} (hm : sval s = m) (h1 : -1000000000000 ≤ m) (h2 : m ≤ 1000000000000) (h3 : Ar.itoa m = s) : numP s = some m := by
 unfold numP;rw [hm, if_pos ⟨h1, h2, h3⟩]
theorem val10_lt : ∀ (n : Nat) (l : Str), l.length = n → (∀ c ∈ l, Ar.isDig c = true) → Ar.val10 l < 10 ^ n
 | 0, l, hl, _ => by rw [List.eq_nil_of_length_eq_zero hl]; decide
 | n + 1, l, hl, hd => by
  have hne : l ≠ [] := by rintro rfl; simp at hl
  have e := List.dropLast_concat_getLast hne;have h1 := val10_lt n l.dropLast (by rw [List.length_dropLast]; omega) (fun c hc => hd c ((List.dropLast_sublist l).mem hc));have h2 := hd (l.getLast hne) (List.getLast_mem hne);rw [← e, Ar.C0];have h3 := of_decide_eq_true h2;rw [Nat.pow_succ];omega
end Pr
namespace Go.Proofs.YtchkiegehejfmaaGreatDoor
open Go.RowKit Go.Lib
theorem BS : ∀ (k n : Nat), n < 10 ^ (k + 1) → (Ar.digs n).length ≤ k + 1
 | 0, n, h => by rw [Ar.AQ n (by simpa using h)]; simp
 | k + 1, n, h => by
  by_cases h10 : n < 10
  ·rw [Ar.AQ n h10]; simp
  ·rw [Ar.AY n (by omega), List.length_append];have h1 : n / 10 < 10 ^ (k + 1) := by
    rw [Nat.pow_succ] at h;omega
   have := BS k (n / 10) h1;simp;omega
def dgA (j : Nat) (acc : List UInt8) : Array Value := (List.replicate (20 - j) (Value.int .u8 0) ++ AH acc).toArray
theorem Fx (j : Nat) (acc : List UInt8) (c : UInt8) (hj : j < 20) (hl : acc.length = j) : (dgA j acc).setIfInBounds (20 - j - 1) (.int .u8 (c.toNat : Int)) = dgA (j + 1) (c :: acc) := by
 unfold dgA;rw [List.setIfInBounds_toArray]
 congr 1
 rw [show 20 - j = (20 - j - 1) + 1 from by omega, List.replicate_succ', List.append_assoc, List.set_append_right _ _ (by rw [List.length_replicate]; omega), List.length_replicate];rw [show 20 - j - 1 + 1 - 1 - (20 - j - 1) = 0 from by omega, show 20 - (j + 1) = 20 - j - 1 from by omega];rfl
theorem G3 (j : Nat) (acc : List UInt8) (hl : acc.length = j) (hj : j ≤ 20) (i : Nat) (hi : i < 20) : ∃ v, (dgA j acc)[i]? = some v := by
 refine ⟨(dgA j acc)[i]'?_, ?_⟩
 ·unfold dgA;simp [AH, hl];omega
 ·exact Array.getElem?_eq_getElem _
theorem Ii {w : World} {g j : Nat} {t : TypeId} {acc : List UInt8} (h : Blk w g t (dgA j acc)) (hl : acc.length = j) (hj : j ≤ 20) : Rd w (some ⟨g, 20 - j, none⟩) j (AH acc) := by
 refine ⟨by rw [CY]; exact hl, fun i v hv => ⟨g, 20 - j, rfl, ?_⟩⟩;rw [h.cell];unfold dgA;rw [List.getElem?_toArray, List.getElem?_append_right (by rw [List.length_replicate]; omega), List.length_replicate, Nat.add_sub_cancel_left];exact hv
theorem D5 (n : Int) (h : n < 0) (h2 : -9223372036854775808 ≤ n) : IntKind.u64.wrap (-IntKind.u64.wrap n) = (n.natAbs : Int) := by rw [IntKind.wrap_u64, IntKind.wrap_u64]; omega
theorem DX (W : World) (B k : Nat) (hk : k < 20) : (Instr.sliceAt 139 (.pointer (some ⟨B, 0, none⟩)) (some (.int .i64 (20 - (k : Int) - 1))) none none).run Tryz.prog W = .ok (.slice (some ⟨B, 19 - k, none⟩) (k + 1) (k + 1)) W := by
 have e20 : Tryz.prog.arrayLen 139 = 20 := by kernel_rfl
 rw [run_sliceAt_array_l W 139 ⟨B, 0, none⟩ (by kernel_rfl) .i64 _ (by omega) (by rw [e20]; omega), e20, show Tryz.prog.elem 139 = 5 from by kernel_rfl];rw [show (Go.sizeOf 5).run Tryz.prog W = .ok 1 W from by kernel_rfl];have e : (20 - (k : Int) - 1).toNat = 20 - (k + 1) := by omega
 rw [e];unfold slicedAt;show Result.ok (Value.slice (some (if 20 = 20 - (k + 1) then _ else _)) _ _) W = _;rw [if_neg (by omega), show 20 - (20 - (k + 1)) = k + 1 from by omega, Nat.mul_one];simp only [Addr.add, Nat.zero_add];rw [show 20 - (k + 1) = 19 - k from by omega];by_cases h : 19 - k = 0
 ·rw [if_pos h, h]
 ·rw [if_neg h]
theorem ED (W : World) (B k : Nat) (acc : List UInt8) (h : Blk W B 139 (dgA (k + 1) acc)) (hl : acc.length = k + 1) (hk : k < 20) : (convert 54 9 (.slice (some ⟨B, 19 - k, none⟩) (k + 1) (k + 1))).run Tryz.prog W = .ok (.string (bstr acc)) W :=
 CI W _ _ _ Tryz.underlying54 Tryz.underlying5 Tryz.underlying9 _ _ _ acc (by have := Ii h hl (by omega); rwa [show 20 - (k + 1) = 19 - k from by omega] at this)
def NRel (B : Nat) (w : World) (A : Nat) (u i j : Value) (wr : World) : Prop :=
 ∃ (uu k : Nat) (acc : List UInt8), u = .int .u64 uu ∧ i = .int .i64 (20 - k : Int) ∧ j = .int .i64 k ∧ acc.length = k ∧ k < 20 ∧ uu ≤ 9223372036854775808 ∧ Hid (Ar.digs A = Ar.digs uu ++ acc) ∧ Blk wr B 139 (dgA k acc) ∧ Below B w wr
theorem B0 (n : Int) (w : World) (hn : Ar.inInt n) : Calls Tryz.prog 75 #[.int .i64 n] w fun e w' => e = .returned (.string (bstr (Ar.itoa n))) ∧ Below w.heap.size w w' := by
 obtain ⟨hn1, hn2⟩ := hn;by_cases h0 : n < 0
 ·have HI : Hid (Ar.itoa n = 45 :: Ar.digs n.natAbs) := hid (by unfold Ar.itoa; rw [if_pos h0]);have HW := hid (D5 n h0 hn1);have hA : n.natAbs ≤ 9223372036854775808 := by omega
  generalize n.natAbs = A at *;have hlen : (Ar.digs A).length ≤ 19 := BS 18 A (by omega);go_enter Tryz.func75, Tryz.ntmps75;go_wp2_with fail;generalize hwA : w.alloc _ = wA
  go_loopw [3, 5, 13] (fun u i j wr => NRel w.heap.size w A u i j wr) (fun _ _ j _ => 20 - (RowKit.intOf j).toNat)
  case atStart =>
   refine ⟨A, 0, [], by rw [HW.out], by rfl, by rfl, rfl, by omega, hA, hid (by rw [List.append_nil]), ?_, ?_⟩
   ·rw [← hwA]; exact Blk.new _ _ _
   ·rw [← hwA]; exact (Below.refl _ _).alloc (Nat.le_refl _) _
  case round =>
   obtain ⟨u, k, acc, rfl, rfl, rfl, hk, hk20, hu, hdg, hblk, hbw⟩ := hrel;have hcell := G3 k acc hk (by omega) (20 - k - 1) (by omega);obtain ⟨v0, hcell⟩ := hcell;have hc0 := hblk.cell (20 - k - 1);rw [hcell] at hc0;have hf0 := hblk.frozen (20 - k - 1);have hset := hblk.set_ (20 - k - 1) (.int .u8 (48 + (u : Int) % 10));have hdb : (48 + (u : Int) % 10) = ((UInt8.ofNat (48 + u % 10)).toNat : Int) := by rw [(Ar.CA (u % 10) (by omega)).2]; omega
   have hds : (dgA k acc).setIfInBounds (20 - k - 1) (.int .u8 (48 + (u : Int) % 10)) = dgA (k + 1) (UInt8.ofNat (48 + u % 10) :: acc) := by rw [hdb]; exact Fx k acc _ hk20 hk
   rw [hds] at hset;have HB := hid hset;have hbw2 := hbw.setCell (p := ⟨w.heap.size, 20 - k - 1, none⟩) (Nat.le_refl _) (.int .u8 (48 + (u : Int) % 10));clear hcell hds hdb hset hblk hbw;obtain ⟨c, hc⟩ : ∃ c, UInt8.ofNat (48 + u % 10) = c := ⟨_, rfl⟩;rw [hc] at HB;replace hc := hid hc;by_cases h10 : u < 10
   ·have hq : u / 10 = 0 := by omega
    have HE : Hid (Ar.digs A = c :: acc) := hid (by rw [hdg.out, Ar.AQ u h10, ← hc.out, Nat.mod_eq_of_lt h10]; rfl);have hsl := DX (wr.setCell ⟨w.heap.size, 20 - k - 1, none⟩ (.int .u8 (48 + (u : Int) % 10))) w.heap.size k hk20;have hcv := ED _ w.heap.size k _ HB.out (by rw [List.length_cons, hk]) hk20;have hss : (bstr (c :: acc)).size = k + 1 := by rw [Ai, List.length_cons, hk]
    go_wp2_with fail;go_ret;exact ⟨Cw (by rw [HI.out, HE.out]; exact A5 (by rfl)), hbw2⟩
   ·have hq : u / 10 ≠ 0 := by omega
    go_wp2_with fail
    go_round
    case rel => exact ⟨u / 10, k + 1, c :: acc, by go_num, by go_num, by go_num, by rw [List.length_cons, hk], by have := congrArg List.length hdg.out; rw [List.length_append, hk] at this; have h2 := Ar.AY u (by omega); rw [h2, List.length_append] at this; have h3 := List.length_pos_iff.2 (Ar.CT (u / 10)); simp at this; omega, by omega, hid (by rw [hdg.out, Ar.AY u (by omega), List.append_assoc, hc.out]; rfl), HB.out, hbw2⟩
    case measure => simp [RowKit.intOf]; omega
 ·have HI : Hid (Ar.itoa n = Ar.digs n.natAbs) := hid (by unfold Ar.itoa; rw [if_neg h0]);have HW := hid (show n = (n.natAbs : Int) from by omega);have hA : n.natAbs ≤ 9223372036854775808 := by omega
  generalize n.natAbs = A at *;have hlen : (Ar.digs A).length ≤ 19 := BS 18 A (by omega);go_enter Tryz.func75, Tryz.ntmps75;go_wp2_with fail;generalize hwA : w.alloc _ = wA
  go_loopw [3, 5, 13] (fun u i j wr => NRel w.heap.size w A u i j wr) (fun _ _ j _ => 20 - (RowKit.intOf j).toNat)
  case atStart =>
   refine ⟨A, 0, [], by rw [HW.out], by rfl, by rfl, rfl, by omega, hA, hid (by rw [List.append_nil]), ?_, ?_⟩
   ·rw [← hwA]; exact Blk.new _ _ _
   ·rw [← hwA]; exact (Below.refl _ _).alloc (Nat.le_refl _) _
  case round =>
   obtain ⟨u, k, acc, rfl, rfl, rfl, hk, hk20, hu, hdg, hblk, hbw⟩ := hrel;have hcell := G3 k acc hk (by omega) (20 - k - 1) (by omega);obtain ⟨v0, hcell⟩ := hcell;have hc0 := hblk.cell (20 - k - 1);rw [hcell] at hc0;have hf0 := hblk.frozen (20 - k - 1);have hset := hblk.set_ (20 - k - 1) (.int .u8 (48 + (u : Int) % 10));have hdb : (48 + (u : Int) % 10) = ((UInt8.ofNat (48 + u % 10)).toNat : Int) := by rw [(Ar.CA (u % 10) (by omega)).2]; omega
   have hds : (dgA k acc).setIfInBounds (20 - k - 1) (.int .u8 (48 + (u : Int) % 10)) = dgA (k + 1) (UInt8.ofNat (48 + u % 10) :: acc) := by rw [hdb]; exact Fx k acc _ hk20 hk
   rw [hds] at hset;have HB := hid hset;have hbw2 := hbw.setCell (p := ⟨w.heap.size, 20 - k - 1, none⟩) (Nat.le_refl _) (.int .u8 (48 + (u : Int) % 10));clear hcell hds hdb hset hblk hbw;obtain ⟨c, hc⟩ : ∃ c, UInt8.ofNat (48 + u % 10) = c := ⟨_, rfl⟩;rw [hc] at HB;replace hc := hid hc;by_cases h10 : u < 10
   ·have hq : u / 10 = 0 := by omega
    have HE : Hid (Ar.digs A = c :: acc) := hid (by rw [hdg.out, Ar.AQ u h10, ← hc.out, Nat.mod_eq_of_lt h10]; rfl);have hsl := DX (wr.setCell ⟨w.heap.size, 20 - k - 1, none⟩ (.int .u8 (48 + (u : Int) % 10))) w.heap.size k hk20;have hcv := ED _ w.heap.size k _ HB.out (by rw [List.length_cons, hk]) hk20;have hss : (bstr (c :: acc)).size = k + 1 := by rw [Ai, List.length_cons, hk]
    go_wp2_with fail;go_ret;exact ⟨Cw (by rw [HI.out, HE.out]), hbw2⟩
   ·have hq : u / 10 ≠ 0 := by omega
    go_wp2_with fail
    go_round
    case rel => exact ⟨u / 10, k + 1, c :: acc, by go_num, by go_num, by go_num, by rw [List.length_cons, hk], by have := congrArg List.length hdg.out; rw [List.length_append, hk] at this; have h2 := Ar.AY u (by omega); rw [h2, List.length_append] at this; have h3 := List.length_pos_iff.2 (Ar.CT (u / 10)); simp at this; omega, by omega, hid (by rw [hdg.out, Ar.AY u (by omega), List.append_assoc, hc.out]; rfl), HB.out, hbw2⟩
    case measure => simp [RowKit.intOf]; omega
end Go.Proofs.YtchkiegehejfmaaGreatDoor
namespace Pr
theorem Hz {s : Str} {L : List Str} {k : Nat} (hk : L[k]? = some s) (h : ∀ y ∈ L.take k, y ≠ s) : idxOf s L = some k := by
 obtain ⟨h1, h2⟩ := List.getElem?_eq_some_iff.1 hk;unfold idxOf;rw [List.findIdx?_eq_some_iff_getElem];refine ⟨h1, by rw [h2]; simp, fun j hj => ?_⟩;have := h (L[j]'(by omega)) (List.mem_iff_getElem?.2 ⟨j, by rw [List.getElem?_take_of_lt hj]; exact List.getElem?_eq_getElem _⟩)
 simpa using this
theorem GZ {s : Str} {L : List Str} (h : ∀ y ∈ L.take L.length, y ≠ s) : idxOf s L = none := by
 unfold idxOf;rw [List.findIdx?_eq_none_iff];intro x hx;rw [List.take_length] at h
 simpa using h x hx
def idxI (s : Str) (L : List Str) : Int := match idxOf s L with
 | none => -1
 | some k => (k : Int)
theorem idxI_hit {s : Str} {L : List Str} {k : Nat} (hk : L[k]? = some s) (h : ∀ y ∈ L.take k, y ≠ s) : idxI s L = k := by unfold idxI; rw [Hz hk h]
theorem idxI_none {s : Str} {L : List Str} (h : ∀ y ∈ L.take L.length, y ≠ s) : idxI s L = -1 := by unfold idxI; rw [GZ h]
end Pr
namespace Go.Proofs.YtchkiegehejfmaaGreatDoor
open Go.RowKit Go.Lib
theorem EJ (n : Int) (w : World) : Calls Tryz.prog 175 #[.int .i64 n] w fun e w' => e = .returned (.bool (decide (-1000000000000 ≤ n ∧ n ≤ 1000000000000))) ∧ Below w.heap.size w w' := by
 have hblk := Blk.new w 3 #[.int .i64 (-1000000000000), .int .i64 1000000000000];have hc0 := hblk.cell 0;have hc1 := hblk.cell 1;simp only [List.getElem?_toArray, List.getElem?_cons_succ, List.getElem?_cons_zero] at hc0 hc1;have HB := hid ((Below.refl w.heap.size w).alloc (Nat.le_refl _) (.cells #[.int .i64 (-1000000000000), .int .i64 1000000000000] 3));clear hblk;by_cases h1 : n < -1000000000000
 ·rw [decide_eq_false (by omega)];go_enter Tryz.func175, Tryz.ntmps175;go_wp2_with fail
  go_loopw [7] (fun ix wr => ix = .int .i64 (0 : Nat) ∧ wr = w.alloc (.cells #[.int .i64 (-1000000000000), .int .i64 1000000000000] 3)) (fun _ _ => 0)
  case atStart => exact ⟨rfl, rfl⟩
  case round =>
   obtain ⟨rfl, rfl⟩ := hrel;go_wp2_with fail;go_ret;exact ⟨rfl, HB.out⟩
 ·by_cases h2 : 1000000000000 < n
  ·rw [decide_eq_false (by omega)];go_enter Tryz.func175, Tryz.ntmps175;go_wp2_with fail
   go_loopw [7] (fun ix wr => (∃ k : Nat, k ≤ 1 ∧ ix = .int .i64 (k : Int)) ∧ wr = w.alloc (.cells #[.int .i64 (-1000000000000), .int .i64 1000000000000] 3)) (fun ix _ => 2 - (RowKit.intOf ix).toNat)
   case atStart => exact ⟨⟨0, by omega, rfl⟩, rfl⟩
   case round =>
    obtain ⟨⟨k, hk, rfl⟩, rfl⟩ := hrel;obtain rfl | rfl : k = 0 ∨ k = 1 := by omega
    ·go_wp2_with fail
     go_roundw
     case rel => exact ⟨⟨1, by omega, rfl⟩, by trivial⟩
     case measure => simp [RowKit.intOf]
    ·go_wp2_with fail;go_ret;exact ⟨rfl, HB.out⟩
  ·rw [decide_eq_true (by omega)];go_enter Tryz.func175, Tryz.ntmps175;go_wp2_with fail
   go_loopw [7] (fun ix wr => (∃ k : Nat, k ≤ 2 ∧ ix = .int .i64 (k : Int)) ∧ wr = w.alloc (.cells #[.int .i64 (-1000000000000), .int .i64 1000000000000] 3)) (fun ix _ => 2 - (RowKit.intOf ix).toNat)
   case atStart => exact ⟨⟨0, by omega, rfl⟩, rfl⟩
   case round =>
    obtain ⟨⟨k, hk, rfl⟩, rfl⟩ := hrel;obtain rfl | rfl | rfl : k = 0 ∨ k = 1 ∨ k = 2 := by omega
    ·go_wp2_with fail
     go_roundw
     case rel => exact ⟨⟨1, by omega, rfl⟩, by trivial⟩
     case measure => simp [RowKit.intOf]
    ·go_wp2_with fail
     go_roundw
     case rel => exact ⟨⟨2, by omega, rfl⟩, by trivial⟩
     case measure => simp [RowKit.intOf]
    ·go_wp2_with fail;go_ret;exact ⟨rfl, HB.out⟩
theorem Ex (A : Option Addr) (cap : Nat) (L : List (List UInt8)) (s : List UInt8) (w : World) (hL : L.length ≤ 1000000) (h : Rd w A L.length (strL L)) :
  Calls Tryz.prog 170 #[.slice A L.length cap, .string (bstr s)] w fun e w' => e = .returned (.int .i64 (Pr.idxI s L)) ∧ w = w' := by
 obtain ⟨R, hR⟩ : ∃ R : Int, Pr.idxI s L = R := ⟨_, rfl⟩;rw [hR];have HR := hid hR;have HRD := hid h;clear h hR;go_enter Tryz.func170, Tryz.ntmps170;go_wp2_with fail
 go_loopw [8] (fun ix wr => wr = w ∧ ∃ k : Nat, k ≤ L.length ∧ ix = .int .i64 (k : Int) ∧ Hid (∀ y ∈ L.take k, y ≠ s)) (fun ix _ => L.length - (RowKit.intOf ix).toNat)
 case atStart => exact ⟨rfl, 0, Nat.zero_le _, rfl, hid (by simp)⟩
 case round =>
  obtain ⟨rfl, k, hk, rfl, hall⟩ := hrel;by_cases hlt : k < L.length
  ·obtain ⟨b, off, x, rfl, hx, hc⟩ := Rd.str_at HRD.out hlt;have hI0 : (0 : Int) ≤ (k : Int) := by omega
   by_cases hxs : x = s
   ·subst hxs;have HE : Hid (R = (k : Int)) := hid (by rw [← HR.out, Pr.idxI_hit hx hall.out]);have hcmp : ((bstr x).toList == (bstr x).toList) = true := by rw [beq_iff_eq]
    clear hx;go_wp2_with fail;go_ret;exact ⟨congrArg (fun n => Ending.returned (.int .i64 n)) HE.out.symm, by trivial⟩
   ·have HN : Hid (∀ y ∈ L.take (k + 1), y ≠ s) := hid (fun y hy => by
     rw [List.take_add_one, hx] at hy;rcases List.mem_append.1 hy with hy | hy
     ·exact hall.out y hy
     ·rw [Option.toList_some, List.mem_singleton] at hy; subst hy; exact hxs)
    have hcmp : ((bstr s).toList == (bstr x).toList) = false := by rw [AD, Lib.toList_data]; rw [beq_eq_false_iff_ne]; exact Ne.symm hxs
    clear hxs hx;go_wp2_with fail
    go_roundw
    case rel => exact ⟨by trivial, k + 1, by omega, by go_num, HN⟩
    case measure => simp [RowKit.intOf]; omega
  ·obtain rfl : k = L.length := by omega
   have HE : Hid (R = -1) := hid (by rw [← HR.out, Pr.idxI_none hall.out]);go_wp2_with fail;go_ret;exact ⟨congrArg (fun n => Ending.returned (.int .i64 n)) HE.out.symm, by trivial⟩
theorem Fp (A : Option Addr) (cap : Nat) (L : List (List UInt8)) (s : List UInt8) (w : World) (hL : L.length ≤ 1000000) (h : Rd w A L.length (strL L)) :
  Calls Tryz.prog 172 #[.slice A L.length cap, .string (bstr s)] w fun e w' => e = .returned (.int .i64 (Pr.idxI s L)) ∧ w = w' := by
 obtain ⟨R, hR⟩ : ∃ R : Int, Pr.idxI s L = R := ⟨_, rfl⟩;rw [hR];have HR := hid hR;have HRD := hid h;clear h hR;go_enter Tryz.func172, Tryz.ntmps172;go_wp2_with fail
 go_loopw [5] (fun ix wr => wr = w ∧ ∃ k : Nat, k ≤ L.length ∧ ix = .int .i64 (k : Int) ∧ Hid (∀ y ∈ L.take k, y ≠ s)) (fun ix _ => L.length - (RowKit.intOf ix).toNat)
 case atStart => exact ⟨rfl, 0, Nat.zero_le _, rfl, hid (by simp)⟩
 case round =>
  obtain ⟨rfl, k, hk, rfl, hall⟩ := hrel;by_cases hlt : k < L.length
  ·obtain ⟨b, off, x, rfl, hx, hc⟩ := Rd.str_at HRD.out hlt;have hI0 : (0 : Int) ≤ (k : Int) := by omega
   by_cases hxs : x = s
   ·subst hxs;have HE : Hid (R = (k : Int)) := hid (by rw [← HR.out, Pr.idxI_hit hx hall.out]);have hcmp : ((bstr x).toList == (bstr x).toList) = true := by rw [beq_iff_eq]
    clear hx;go_wp2_with fail;go_ret;exact ⟨congrArg (fun n => Ending.returned (.int .i64 n)) HE.out.symm, by trivial⟩
   ·have HN : Hid (∀ y ∈ L.take (k + 1), y ≠ s) := hid (fun y hy => by
     rw [List.take_add_one, hx] at hy;rcases List.mem_append.1 hy with hy | hy
     ·exact hall.out y hy
     ·rw [Option.toList_some, List.mem_singleton] at hy; subst hy; exact hxs)
    have hcmp : ((bstr x).toList == (bstr s).toList) = false := by rw [AD, Lib.toList_data]; rw [beq_eq_false_iff_ne]; exact hxs
    clear hxs hx;go_wp2_with fail
    go_roundw
    case rel => exact ⟨by trivial, k + 1, by omega, by go_num, HN⟩
    case measure => simp [RowKit.intOf]; omega
  ·obtain rfl : k = L.length := by omega
   have HE : Hid (R = -1) := hid (by rw [← HR.out, Pr.idxI_none hall.out]);go_wp2_with fail;go_ret;exact ⟨congrArg (fun n => Ending.returned (.int .i64 n)) HE.out.symm, by trivial⟩
theorem Fv {L : List UInt8} {k d : Nat} {c : UInt8} (h : L[k]? = some c) (hd : d ≤ k) : (L.take (k + 1)).drop d = (L.take k).drop d ++ [c] := by
 have hl := (List.getElem?_eq_some_iff.1 h).1;rw [List.take_add_one, h, Option.toList_some, List.drop_append_of_le_length (by rw [List.length_take]; omega)]
def DgS (L : List UInt8) (d k n : Nat) : Prop := n = Ar.val10 ((L.take k).drop d) ∧ ∀ c ∈ (L.take k).drop d, Ar.isDig c = true
theorem DgS.next {L : List UInt8} {d k n : Nat} {c : UInt8} (h : DgS L d k n) (hc : L[k]? = some c) (hd : d ≤ k) (h1 : Ar.isDig c = true) : DgS L d (k + 1) (10 * n + (c.toNat - 48)) := by
 obtain ⟨h2, h3⟩ := h;refine ⟨?_, fun x hx => ?_⟩
 ·rw [Fv hc hd, Ar.C0, ← h2, Nat.mul_comm]
 ·rw [Fv hc hd] at hx;rcases List.mem_append.1 hx with hx | hx
  ·exact h3 x hx
  ·rw [List.mem_singleton.1 hx]; exact h1
theorem DgS.lt {L : List UInt8} {d k n : Nat} (h : DgS L d k n) (hk : k ≤ 14) : n < 100000000000000 := by
 rw [h.1];have h1 := Pr.val10_lt _ _ rfl h.2;have h2 : ((L.take k).drop d).length ≤ 14 := by rw [List.length_drop, List.length_take]; omega
 exact Nat.lt_of_lt_of_le h1 (Nat.pow_le_pow_right (n := 10) (by omega) h2)
theorem DgS.all {L : List UInt8} {d n : Nat} (h : DgS L d L.length n) : n = Ar.val10 (L.drop d) := by have := h.1; rwa [List.take_length] at this
theorem E2 {L : List UInt8} {d k : Nat} {c : UInt8} (hc : L[k]? = some c) (hd : d ≤ k) (h : ¬ (48 ≤ c.toNat ∧ c.toNat ≤ 57)) : ∃ c ∈ L.drop d, Ar.isDig c = false :=
 ⟨c, List.mem_iff_getElem?.2 ⟨k - d, by rw [List.getElem?_drop, show d + (k - d) = k by omega]; exact hc⟩, decide_eq_false h⟩
def nmV (x : Option Int) : Value := .tuple #[.int .i64 (x.getD 0), .bool x.isSome]
theorem AG {x : Option Int} (h : x = none) : Ending.returned (.tuple #[.int .i64 0, .bool false]) = .returned (nmV x) := by rw [h]; rfl
theorem CR {x : Option Int} {m : Int} (h : x = some m) : Ending.returned (.tuple #[.int .i64 m, .bool true]) = .returned (nmV x) := by rw [h]; rfl
end Go.Proofs.YtchkiegehejfmaaGreatDoor
