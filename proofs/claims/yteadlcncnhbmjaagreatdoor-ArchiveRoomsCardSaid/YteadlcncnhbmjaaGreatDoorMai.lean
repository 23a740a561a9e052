/- The texts An1, An2, An3 of this proof, one behind the other. -/
import Derived.Test.YteadlcncnhbmjaaGreatDoorMah
set_option linter.unusedSimpArgs false
set_option maxHeartbeats 16000000
set_option maxRecDepth 100000
/- The text An1. -/
namespace Go.Proofs.YteadlcncnhbmjaaGreatDoor
open Go.RowKit Go.Lib
set_option linter.unusedVariables false
theorem digs_len : ∀ (k n : Nat), n < 10 ^ (k + 1) → (Ar.digs n).length ≤ k + 1
 | 0, n, h => by rw [Ar.digs_small n (by simpa using h)]; simp
 | k + 1, n, h => by
  by_cases h10 : n < 10
  ·rw [Ar.digs_small n h10]; simp
  ·rw [Ar.digs_step n (by omega), List.length_append]
   have h1 : n / 10 < 10 ^ (k + 1) := by
    rw [Nat.pow_succ] at h
    omega
   have := digs_len k (n / 10) h1
   simp
   omega
def dgA (j : Nat) (acc : List UInt8) : Array Value := (List.replicate (20 - j) (Value.int .u8 0) ++ bytesL acc).toArray
theorem dgA_set (j : Nat) (acc : List UInt8) (c : UInt8) (hj : j < 20) (hl : acc.length = j) : (dgA j acc).setIfInBounds (20 - j - 1) (.int .u8 (c.toNat : Int)) = dgA (j + 1) (c :: acc) := by
 unfold dgA
 rw [List.setIfInBounds_toArray]
 congr 1
 rw [show 20 - j = (20 - j - 1) + 1 from by omega, List.replicate_succ', List.append_assoc, List.set_append_right _ _ (by rw [List.length_replicate]; omega), List.length_replicate]
 rw [show 20 - j - 1 + 1 - 1 - (20 - j - 1) = 0 from by omega, show 20 - (j + 1) = 20 - j - 1 from by omega]
 rfl
theorem dgA_at (j : Nat) (acc : List UInt8) (hl : acc.length = j) (hj : j ≤ 20) (i : Nat) (hi : i < 20) : ∃ v, (dgA j acc)[i]? = some v := by
 refine ⟨(dgA j acc)[i]'?_, ?_⟩
 ·unfold dgA
  simp [bytesL, hl]
  omega
 ·exact Array.getElem?_eq_getElem _
theorem dgA_rd {w : World} {g j : Nat} {t : TypeId} {acc : List UInt8} (h : Blk w g t (dgA j acc)) (hl : acc.length = j) (hj : j ≤ 20) : Rd w (some ⟨g, 20 - j, none⟩) j (bytesL acc) := by
 refine ⟨by rw [bytesL_len]; exact hl, fun i v hv => ⟨g, 20 - j, rfl, ?_⟩⟩
 rw [h.cell]
 unfold dgA
 rw [List.getElem?_toArray, List.getElem?_append_right (by rw [List.length_replicate]; omega), List.length_replicate, Nat.add_sub_cancel_left]
 exact hv
theorem num_wrap_pos (n : Int) (h : 0 ≤ n) (h2 : n ≤ 9223372036854775807) : IntKind.u64.wrap n = (n.natAbs : Int) := by rw [IntKind.wrap_u64]; omega
theorem num_wrap_neg (n : Int) (h : n < 0) (h2 : -9223372036854775808 ≤ n) : IntKind.u64.wrap (-IntKind.u64.wrap n) = (n.natAbs : Int) := by rw [IntKind.wrap_u64, IntKind.wrap_u64]; omega
theorem dig_byte (u : Nat) : IntKind.u8.wrap (48 + (u : Int) % 10) = ((UInt8.ofNat (48 + u % 10)).toNat : Int) := by rw [(Ar.dig_of (u % 10) (by omega)).2, IntKind.wrap_u8]; omega
theorem slice_dig (W : World) (B k : Nat) (hk : k < 20) : (Instr.sliceAt 193 (.pointer (some ⟨B, 0, none⟩)) (some (.int .i64 (20 - (k : Int) - 1))) none none).run Tryz.prog W = .ok (.slice (some ⟨B, 19 - k, none⟩) (k + 1) (k + 1)) W := by
 have e20 : Tryz.prog.arrayLen 193 = 20 := by kernel_rfl
 rw [run_sliceAt_array_l W 193 ⟨B, 0, none⟩ (by kernel_rfl) .i64 _ (by omega) (by rw [e20]; omega), e20, show Tryz.prog.elem 193 = 5 from by kernel_rfl]
 rw [show (Go.sizeOf 5).run Tryz.prog W = .ok 1 W from by kernel_rfl]
 have e : (20 - (k : Int) - 1).toNat = 20 - (k + 1) := by omega
 rw [e]
 unfold slicedAt
 show Result.ok (Value.slice (some (if 20 = 20 - (k + 1) then _ else _)) _ _) W = _
 rw [if_neg (by omega), show 20 - (20 - (k + 1)) = k + 1 from by omega, Nat.mul_one]
 simp only [Addr.add, Nat.zero_add]
 rw [show 20 - (k + 1) = 19 - k from by omega]
 by_cases h : 19 - k = 0
 ·rw [if_pos h, h]
 ·rw [if_neg h]
theorem conv_dig (W : World) (B k : Nat) (acc : List UInt8) (h : Blk W B 193 (dgA (k + 1) acc)) (hl : acc.length = k + 1) (hk : k < 20) : (convert 69 9 (.slice (some ⟨B, 19 - k, none⟩) (k + 1) (k + 1))).run Tryz.prog W = .ok (.string (bstr acc)) W :=
 run_conv_bs W _ _ _ Tryz.underlying69 Tryz.underlying5 Tryz.underlying9 _ _ _ acc (by have := dgA_rd h hl (by omega); rwa [show 20 - (k + 1) = 19 - k from by omega] at this)
def NRel (B : Nat) (w : World) (A : Nat) (u i j : Value) (wr : World) : Prop :=
 ∃ (uu k : Nat) (acc : List UInt8), u = .int .u64 uu ∧ i = .int .i64 (20 - k : Int) ∧ j = .int .i64 k ∧ acc.length = k ∧ k < 20 ∧ uu ≤ 9223372036854775808 ∧ Hid (Ar.digs A = Ar.digs uu ++ acc) ∧ Blk wr B 193 (dgA k acc) ∧ Below B w wr
theorem ntext_any (n : Int) (w : World) (hn : Ar.inInt n) : Calls Tryz.prog 89 #[.int .i64 n] w fun e w' => e = .returned (.string (bstr (Ar.itoa n))) ∧ Below w.heap.size w w' := by
 obtain ⟨hn1, hn2⟩ := hn
 by_cases h0 : n < 0
 ·have HI : Hid (Ar.itoa n = 45 :: Ar.digs n.natAbs) := hid (by unfold Ar.itoa; rw [if_pos h0])
  have HW := hid (num_wrap_neg n h0 hn1)
  have hA : n.natAbs ≤ 9223372036854775808 := by omega
  generalize n.natAbs = A at *
  have hlen : (Ar.digs A).length ≤ 19 := digs_len 18 A (by omega)
  go_enter Tryz.func89, Tryz.ntmps89
  go_wp2_with fail
  generalize hwA : w.alloc _ = wA
  go_loopw [3, 5, 13] (fun u i j wr => NRel w.heap.size w A u i j wr) (fun _ _ j _ => 20 - (RowKit.intOf j).toNat)
  case atStart =>
   refine ⟨A, 0, [], by rw [HW.out], by rfl, by rfl, rfl, by omega, hA, hid (by rw [List.append_nil]), ?_, ?_⟩
   ·rw [← hwA]; exact Blk.new _ _ _
   ·rw [← hwA]; exact (Below.refl _ _).alloc (Nat.le_refl _) _
  case round =>
   obtain ⟨u, k, acc, rfl, rfl, rfl, hk, hk20, hu, hdg, hblk, hbw⟩ := hrel
   have hcell := dgA_at k acc hk (by omega) (20 - k - 1) (by omega)
   obtain ⟨v0, hcell⟩ := hcell
   have hc0 := hblk.cell (20 - k - 1)
   rw [hcell] at hc0
   have hf0 := hblk.frozen (20 - k - 1)
   have hset := hblk.set_ (20 - k - 1) (.int .u8 (48 + (u : Int) % 10))
   have hdb : (48 + (u : Int) % 10) = ((UInt8.ofNat (48 + u % 10)).toNat : Int) := by rw [(Ar.dig_of (u % 10) (by omega)).2]; omega
   have hds : (dgA k acc).setIfInBounds (20 - k - 1) (.int .u8 (48 + (u : Int) % 10)) = dgA (k + 1) (UInt8.ofNat (48 + u % 10) :: acc) := by rw [hdb]; exact dgA_set k acc _ hk20 hk
   rw [hds] at hset
   have HB := hid hset
   have hbw2 := hbw.setCell (p := ⟨w.heap.size, 20 - k - 1, none⟩) (Nat.le_refl _) (.int .u8 (48 + (u : Int) % 10))
   clear hcell hds hdb hset hblk hbw
   obtain ⟨c, hc⟩ : ∃ c, UInt8.ofNat (48 + u % 10) = c := ⟨_, rfl⟩
   rw [hc] at HB
   replace hc := hid hc
   by_cases h10 : u < 10
   ·have hq : u / 10 = 0 := by omega
    have HE : Hid (Ar.digs A = c :: acc) := hid (by rw [hdg.out, Ar.digs_small u h10, ← hc.out, Nat.mod_eq_of_lt h10]; rfl)
    have hsl := slice_dig (wr.setCell ⟨w.heap.size, 20 - k - 1, none⟩ (.int .u8 (48 + (u : Int) % 10))) w.heap.size k hk20
    have hcv := conv_dig _ w.heap.size k _ HB.out (by rw [List.length_cons, hk]) hk20
    have hss : (bstr (c :: acc)).size = k + 1 := by rw [bstr_size, List.length_cons, hk]
    go_wp2_with fail
    go_ret
    exact ⟨ret_str (by rw [HI.out, HE.out]; exact str_eq (by rfl)), hbw2⟩
   ·have hq : u / 10 ≠ 0 := by omega
    go_wp2_with fail
    go_round
    case rel => exact ⟨u / 10, k + 1, c :: acc, by go_num, by go_num, by go_num, by rw [List.length_cons, hk], by have := congrArg List.length hdg.out; rw [List.length_append, hk] at this; have h2 := Ar.digs_step u (by omega); rw [h2, List.length_append] at this; have h3 := List.length_pos_iff.2 (Ar.digs_ne (u / 10)); simp at this; omega, by omega, hid (by rw [hdg.out, Ar.digs_step u (by omega), List.append_assoc, hc.out]; rfl), HB.out, hbw2⟩
    case measure => simp [RowKit.intOf]; omega
 ·have HI : Hid (Ar.itoa n = Ar.digs n.natAbs) := hid (by unfold Ar.itoa; rw [if_neg h0])
  have HW := hid (show n = (n.natAbs : Int) from by omega)
  have hA : n.natAbs ≤ 9223372036854775808 := by omega
  generalize n.natAbs = A at *
  have hlen : (Ar.digs A).length ≤ 19 := digs_len 18 A (by omega)
  go_enter Tryz.func89, Tryz.ntmps89
  go_wp2_with fail
  generalize hwA : w.alloc _ = wA
  go_loopw [3, 5, 13] (fun u i j wr => NRel w.heap.size w A u i j wr) (fun _ _ j _ => 20 - (RowKit.intOf j).toNat)
  case atStart =>
   refine ⟨A, 0, [], by rw [HW.out], by rfl, by rfl, rfl, by omega, hA, hid (by rw [List.append_nil]), ?_, ?_⟩
   ·rw [← hwA]; exact Blk.new _ _ _
   ·rw [← hwA]; exact (Below.refl _ _).alloc (Nat.le_refl _) _
  case round =>
   obtain ⟨u, k, acc, rfl, rfl, rfl, hk, hk20, hu, hdg, hblk, hbw⟩ := hrel
   have hcell := dgA_at k acc hk (by omega) (20 - k - 1) (by omega)
   obtain ⟨v0, hcell⟩ := hcell
   have hc0 := hblk.cell (20 - k - 1)
   rw [hcell] at hc0
   have hf0 := hblk.frozen (20 - k - 1)
   have hset := hblk.set_ (20 - k - 1) (.int .u8 (48 + (u : Int) % 10))
   have hdb : (48 + (u : Int) % 10) = ((UInt8.ofNat (48 + u % 10)).toNat : Int) := by rw [(Ar.dig_of (u % 10) (by omega)).2]; omega
   have hds : (dgA k acc).setIfInBounds (20 - k - 1) (.int .u8 (48 + (u : Int) % 10)) = dgA (k + 1) (UInt8.ofNat (48 + u % 10) :: acc) := by rw [hdb]; exact dgA_set k acc _ hk20 hk
   rw [hds] at hset
   have HB := hid hset
   have hbw2 := hbw.setCell (p := ⟨w.heap.size, 20 - k - 1, none⟩) (Nat.le_refl _) (.int .u8 (48 + (u : Int) % 10))
   clear hcell hds hdb hset hblk hbw
   obtain ⟨c, hc⟩ : ∃ c, UInt8.ofNat (48 + u % 10) = c := ⟨_, rfl⟩
   rw [hc] at HB
   replace hc := hid hc
   by_cases h10 : u < 10
   ·have hq : u / 10 = 0 := by omega
    have HE : Hid (Ar.digs A = c :: acc) := hid (by rw [hdg.out, Ar.digs_small u h10, ← hc.out, Nat.mod_eq_of_lt h10]; rfl)
    have hsl := slice_dig (wr.setCell ⟨w.heap.size, 20 - k - 1, none⟩ (.int .u8 (48 + (u : Int) % 10))) w.heap.size k hk20
    have hcv := conv_dig _ w.heap.size k _ HB.out (by rw [List.length_cons, hk]) hk20
    have hss : (bstr (c :: acc)).size = k + 1 := by rw [bstr_size, List.length_cons, hk]
    go_wp2_with fail
    go_ret
    exact ⟨ret_str (by rw [HI.out, HE.out]), hbw2⟩
   ·have hq : u / 10 ≠ 0 := by omega
    go_wp2_with fail
    go_round
    case rel => exact ⟨u / 10, k + 1, c :: acc, by go_num, by go_num, by go_num, by rw [List.length_cons, hk], by have := congrArg List.length hdg.out; rw [List.length_append, hk] at this; have h2 := Ar.digs_step u (by omega); rw [h2, List.length_append] at this; have h3 := List.length_pos_iff.2 (Ar.digs_ne (u / 10)); simp at this; omega, by omega, hid (by rw [hdg.out, Ar.digs_step u (by omega), List.append_assoc, hc.out]; rfl), HB.out, hbw2⟩
    case measure => simp [RowKit.intOf]; omega
end Go.Proofs.YteadlcncnhbmjaaGreatDoor
/- The text An2. -/
namespace Go.Proofs.YteadlcncnhbmjaaGreatDoor
open Go.RowKit Go.Lib
set_option linter.unusedVariables false
structure Acc (f : FuncId) (i : Nat) : Prop where
 enters : Enters Tryz.prog f
 calls : ∀ (g : Nat) (w : World), Calls Tryz.prog f #[.pointer (some ⟨g, 0, none⟩)] w fun e w' => e = .returned (.pointer (some ⟨g, i, none⟩)) ∧ w' = w
theorem ret_ptr {a b : Addr} (h : a = b) : Ending.returned (.pointer (some a)) = .returned (.pointer (some b)) := by rw [h]
theorem acc0 : Acc 160 0 where
 enters := enters_of Tryz.func160 (by kernel_rfl) rfl
 calls g w := by
  go_enter Tryz.func160, Tryz.ntmps160
  go_wp2_with fail
  go_ret
  exact ⟨ret_ptr rfl, rfl⟩
theorem acc1 : Acc 161 1 where
 enters := enters_of Tryz.func161 (by kernel_rfl) rfl
 calls g w := by
  go_enter Tryz.func161, Tryz.ntmps161
  go_wp2_with fail
  go_ret
  exact ⟨ret_ptr rfl, rfl⟩
theorem acc2 : Acc 162 2 where
 enters := enters_of Tryz.func162 (by kernel_rfl) rfl
 calls g w := by
  go_enter Tryz.func162, Tryz.ntmps162
  go_wp2_with fail
  go_ret
  exact ⟨ret_ptr rfl, rfl⟩
theorem acc4 : Acc 165 4 where
 enters := enters_of Tryz.func165 (by kernel_rfl) rfl
 calls g w := by
  go_enter Tryz.func165, Tryz.ntmps165
  go_wp2_with fail
  go_ret
  exact ⟨ret_ptr rfl, rfl⟩
theorem acc5 : Acc 166 5 where
 enters := enters_of Tryz.func166 (by kernel_rfl) rfl
 calls g w := by
  go_enter Tryz.func166, Tryz.ntmps166
  go_wp2_with fail
  go_ret
  exact ⟨ret_ptr rfl, rfl⟩
theorem acc6 : Acc 167 6 where
 enters := enters_of Tryz.func167 (by kernel_rfl) rfl
 calls g w := by
  go_enter Tryz.func167, Tryz.ntmps167
  go_wp2_with fail
  go_ret
  exact ⟨ret_ptr rfl, rfl⟩
theorem acc7 : Acc 168 7 where
 enters := enters_of Tryz.func168 (by kernel_rfl) rfl
 calls g w := by
  go_enter Tryz.func168, Tryz.ntmps168
  go_wp2_with fail
  go_ret
  exact ⟨ret_ptr rfl, rfl⟩
theorem acc8 : Acc 170 8 where
 enters := enters_of Tryz.func170 (by kernel_rfl) rfl
 calls g w := by
  go_enter Tryz.func170, Tryz.ntmps170
  go_wp2_with fail
  go_ret
  exact ⟨ret_ptr rfl, rfl⟩
theorem acc9 : Acc 171 9 where
 enters := enters_of Tryz.func171 (by kernel_rfl) rfl
 calls g w := by
  go_enter Tryz.func171, Tryz.ntmps171
  go_wp2_with fail
  go_ret
  exact ⟨ret_ptr rfl, rfl⟩
theorem acc10 : Acc 172 10 where
 enters := enters_of Tryz.func172 (by kernel_rfl) rfl
 calls g w := by
  go_enter Tryz.func172, Tryz.ntmps172
  go_wp2_with fail
  go_ret
  exact ⟨ret_ptr rfl, rfl⟩
theorem acc11 : Acc 173 11 where
 enters := enters_of Tryz.func173 (by kernel_rfl) rfl
 calls g w := by
  go_enter Tryz.func173, Tryz.ntmps173
  go_wp2_with fail
  go_ret
  exact ⟨ret_ptr rfl, rfl⟩
theorem acc12 : Acc 174 12 where
 enters := enters_of Tryz.func174 (by kernel_rfl) rfl
 calls g w := by
  go_enter Tryz.func174, Tryz.ntmps174
  go_wp2_with fail
  go_ret
  exact ⟨ret_ptr rfl, rfl⟩
theorem acc13 : Acc 175 13 where
 enters := enters_of Tryz.func175 (by kernel_rfl) rfl
 calls g w := by
  go_enter Tryz.func175, Tryz.ntmps175
  go_wp2_with fail
  go_ret
  exact ⟨ret_ptr rfl, rfl⟩
theorem acc14 : Acc 176 14 where
 enters := enters_of Tryz.func176 (by kernel_rfl) rfl
 calls g w := by
  go_enter Tryz.func176, Tryz.ntmps176
  go_wp2_with fail
  go_ret
  exact ⟨ret_ptr rfl, rfl⟩
theorem acc15 : Acc 178 15 where
 enters := enters_of Tryz.func178 (by kernel_rfl) rfl
 calls g w := by
  go_enter Tryz.func178, Tryz.ntmps178
  go_wp2_with fail
  go_ret
  exact ⟨ret_ptr rfl, rfl⟩
theorem acc16 : Acc 179 16 where
 enters := enters_of Tryz.func179 (by kernel_rfl) rfl
 calls g w := by
  go_enter Tryz.func179, Tryz.ntmps179
  go_wp2_with fail
  go_ret
  exact ⟨ret_ptr rfl, rfl⟩
theorem acc19 : Acc 182 19 where
 enters := enters_of Tryz.func182 (by kernel_rfl) rfl
 calls g w := by
  go_enter Tryz.func182, Tryz.ntmps182
  go_wp2_with fail
  go_ret
  exact ⟨ret_ptr rfl, rfl⟩
theorem acc20 : Acc 183 20 where
 enters := enters_of Tryz.func183 (by kernel_rfl) rfl
 calls g w := by
  go_enter Tryz.func183, Tryz.ntmps183
  go_wp2_with fail
  go_ret
  exact ⟨ret_ptr rfl, rfl⟩
theorem acc21 : Acc 184 21 where
 enters := enters_of Tryz.func184 (by kernel_rfl) rfl
 calls g w := by
  go_enter Tryz.func184, Tryz.ntmps184
  go_wp2_with fail
  go_ret
  exact ⟨ret_ptr rfl, rfl⟩
theorem acc22 : Acc 185 22 where
 enters := enters_of Tryz.func185 (by kernel_rfl) rfl
 calls g w := by
  go_enter Tryz.func185, Tryz.ntmps185
  go_wp2_with fail
  go_ret
  exact ⟨ret_ptr rfl, rfl⟩
theorem acc23 : Acc 186 23 where
 enters := enters_of Tryz.func186 (by kernel_rfl) rfl
 calls g w := by
  go_enter Tryz.func186, Tryz.ntmps186
  go_wp2_with fail
  go_ret
  exact ⟨ret_ptr rfl, rfl⟩
theorem acc24 : Acc 187 24 where
 enters := enters_of Tryz.func187 (by kernel_rfl) rfl
 calls g w := by
  go_enter Tryz.func187, Tryz.ntmps187
  go_wp2_with fail
  go_ret
  exact ⟨ret_ptr rfl, rfl⟩
theorem acc25 : Acc 188 25 where
 enters := enters_of Tryz.func188 (by kernel_rfl) rfl
 calls g w := by
  go_enter Tryz.func188, Tryz.ntmps188
  go_wp2_with fail
  go_ret
  exact ⟨ret_ptr rfl, rfl⟩
theorem acc26 : Acc 106 26 where
 enters := enters_of Tryz.func106 (by kernel_rfl) rfl
 calls g w := by
  go_enter Tryz.func106, Tryz.ntmps106
  go_wp2_with fail
  go_ret
  exact ⟨ret_ptr rfl, rfl⟩
theorem acc27 : Acc 108 27 where
 enters := enters_of Tryz.func108 (by kernel_rfl) rfl
 calls g w := by
  go_enter Tryz.func108, Tryz.ntmps108
  go_wp2_with fail
  go_ret
  exact ⟨ret_ptr rfl, rfl⟩
theorem acc28 : Acc 109 28 where
 enters := enters_of Tryz.func109 (by kernel_rfl) rfl
 calls g w := by
  go_enter Tryz.func109, Tryz.ntmps109
  go_wp2_with fail
  go_ret
  exact ⟨ret_ptr rfl, rfl⟩
end Go.Proofs.YteadlcncnhbmjaaGreatDoor
/- The text An3. -/
namespace Go.Proofs.YteadlcncnhbmjaaGreatDoor
open Go.RowKit Go.Lib
set_option linter.unusedVariables false
theorem bstr_empty (l : List UInt8) : (bstr l).toList.isEmpty = l.isEmpty := by
 rw [Lib.toList_data]; rfl
theorem FVnum0 : (Ar.FV.num 0).text = [] := rfl
theorem FVnum {n : Int} (h : n ≠ 0) : (Ar.FV.num n).text = Ar.itoa n := if_neg h
theorem FVtxt {s : List UInt8} (h : s ≠ []) : (Ar.FV.txt s).text = Ar.quote s := if_neg h
theorem wnum_any (acc : FuncId) (i bx : Nat) (cells : Array Value) (n : Int) (w : World) (ha : Acc acc i) (hbx : w.cell? ⟨bx, 0, none⟩ = some (.func (.func acc) #[] #[])) (hc : cells[i]? = some (.int .i64 n)) (hn : Ar.inInt n) :
  Calls Tryz.prog 189 #[.agg cells, .pointer (some ⟨bx, 0, none⟩)] w fun e w' => e = .returned (.string (bstr (Ar.FV.num n).text)) ∧ Below w.heap.size w w' := by
 have hEN : ∀ (args : Array Value) (w : World), (callFunc acc args).run Tryz.prog w = .ok (.enter acc args) w := ha.enters
 have HA := hid ha
 have hlt : bx < w.heap.size := block_lt hbx
 have hbx2 := (World.grownBy_alloc w (.cells cells 40) none).cell hbx (by simp)
 have hk := (Blk.new w 40 cells).cell i
 rw [hc] at hk
 have HB := hid ((Below.refl w.heap.size w).alloc (Nat.le_refl _) (.cells cells 40))
 have HN := hid hn
 clear ha hbx hc hn
 by_cases h0 : n = 0
 ·subst h0
  go_enter Tryz.func189, Tryz.ntmps189
  go_wp2_with (go_at_fn acc; refine (HA.out.calls _ _).mono ?_; rintro e w1 ⟨rfl, rfl⟩)
  go_ret
  exact ⟨ret_str rfl, HB.out⟩
 ·have HT := hid (FVnum h0)
  go_enter Tryz.func189, Tryz.ntmps189
  go_wp2_with (go_at_fn acc; refine (HA.out.calls _ _).mono ?_; rintro e w1 ⟨rfl, rfl⟩)
  refine (ntext_any n _ HN.out).mono ?_
  rintro e w2 ⟨rfl, hb⟩
  have HB2 := hid (HB.out.trans (hb.mono (by simp)))
  go_wp2_with fail
  go_ret
  exact ⟨ret_str (by rw [HT.out]), HB2.out⟩
theorem wtxt_any (acc : FuncId) (i bx : Nat) (cells : Array Value) (s : List UInt8) (w : World) (ha : Acc acc i) (hbx : w.cell? ⟨bx, 0, none⟩ = some (.func (.func acc) #[] #[])) (hc : cells[i]? = some (.string (bstr s))) (hs : s.length ≤ 1000000) :
  Calls Tryz.prog 191 #[.agg cells, .pointer (some ⟨bx, 0, none⟩)] w fun e w' => e = .returned (.string (bstr (Ar.FV.txt s).text)) ∧ Below w.heap.size w w' := by
 have hEN : ∀ (args : Array Value) (w : World), (callFunc acc args).run Tryz.prog w = .ok (.enter acc args) w := ha.enters
 have HA := hid ha
 have hlt : bx < w.heap.size := block_lt hbx
 have hbx2 := (World.grownBy_alloc w (.cells cells 40) none).cell hbx (by simp)
 have hk := (Blk.new w 40 cells).cell i
 rw [hc] at hk
 have HB := hid ((Below.refl w.heap.size w).alloc (Nat.le_refl _) (.cells cells 40))
 clear ha hbx hc
 by_cases h0 : s = []
 ·subst h0
  rw [show bstr [] = ⟨#[]⟩ from rfl] at hk
  go_enter Tryz.func191, Tryz.ntmps191
  go_wp2_with (go_at_fn acc; refine (HA.out.calls _ _).mono ?_; rintro e w1 ⟨rfl, rfl⟩)
  go_ret
  exact ⟨ret_str rfl, HB.out⟩
 ·have HT := hid (FVtxt h0)
  have hne : (!(bstr s).toList.isEmpty) = true := by
   rw [bstr_empty]
   cases s with
   | nil => exact absurd rfl h0
   | cons c r => rfl
  have hsz : (bstr s).size ≤ 1000000 := by rw [bstr_size]; exact hs
  have HL : Hid ((bstr s).data.toList = s) := hid rfl
  obtain ⟨S, hS⟩ : ∃ S, bstr s = S := ⟨_, rfl⟩
  rw [hS] at hne hk hsz HL
  clear hS
  go_enter Tryz.func191, Tryz.ntmps191
  go_wp2_with (go_at_fn acc; refine (HA.out.calls _ _).mono ?_; rintro e w1 ⟨rfl, rfl⟩)
  refine (quote_any S _ hsz).mono ?_
  rintro e w2 ⟨rfl, hb⟩
  have HB2 := hid (HB.out.trans (hb.mono (by simp)))
  go_wp2_with fail
  go_ret
  exact ⟨ret_str (by rw [HT.out, HL.out]), HB2.out⟩
theorem wkind_any (cells : Array Value) (n : Int) (w : World) (hc : cells[3]? = some (.int .i64 n)) (hn : Ar.inInt n) :
  Calls Tryz.prog 208 #[.agg cells] w fun e w' => e = .returned (.string (bstr (Ar.FV.num n).text)) ∧ Below w.heap.size w w' := by
 have hk := (Blk.new w 40 cells).cell 3
 rw [hc] at hk
 have HB := hid ((Below.refl w.heap.size w).alloc (Nat.le_refl _) (.cells cells 40))
 have HN := hid hn
 clear hc hn
 by_cases h0 : n = 0
 ·subst h0
  go_enter Tryz.func208, Tryz.ntmps208
  go_wp2_with fail
  go_ret
  exact ⟨ret_str rfl, HB.out⟩
 ·have HT := hid (FVnum h0)
  go_enter Tryz.func208, Tryz.ntmps208
  go_wp2_with fail
  refine (ntext_any n _ HN.out).mono ?_
  rintro e w2 ⟨rfl, hb⟩
  have HB2 := hid (HB.out.trans (hb.mono (by simp)))
  go_wp2_with fail
  go_ret
  exact ⟨ret_str (by rw [HT.out]), HB2.out⟩
theorem wflag_any (acc : FuncId) (i bx by_ : Nat) (nm : ByteArray) (cells : Array Value) (b : Bool) (w : World) (ha : Acc acc i) (hbx : w.cell? ⟨bx, 0, none⟩ = some (.func (.func acc) #[] #[])) (hby : w.cell? ⟨by_, 0, none⟩ = some (.string nm)) (hc : cells[i]? = some (.bool b)) :
  Calls Tryz.prog 210 #[.agg cells, .pointer (some ⟨bx, 0, none⟩), .pointer (some ⟨by_, 0, none⟩)] w fun e w' => e = .returned (.string (if b then nm else bstr [])) ∧ Below w.heap.size w w' := by
 have hEN : ∀ (args : Array Value) (w : World), (callFunc acc args).run Tryz.prog w = .ok (.enter acc args) w := ha.enters
 have HA := hid ha
 have hlt : bx < w.heap.size := block_lt hbx
 have hlt2 : by_ < w.heap.size := block_lt hby
 have hbx2 := (World.grownBy_alloc w (.cells cells 40) none).cell hbx (by simp)
 have hby2 := (World.grownBy_alloc w (.cells cells 40) none).cell hby (by simp)
 have hk := (Blk.new w 40 cells).cell i
 rw [hc] at hk
 have HB := hid ((Below.refl w.heap.size w).alloc (Nat.le_refl _) (.cells cells 40))
 clear ha hbx hby hc
 cases b with
 | false =>
  go_enter Tryz.func210, Tryz.ntmps210
  go_wp2_with (go_at_fn acc; refine (HA.out.calls _ _).mono ?_; rintro e w1 ⟨rfl, rfl⟩)
  go_ret
  exact ⟨ret_str rfl, HB.out⟩
 | true =>
  go_enter Tryz.func210, Tryz.ntmps210
  go_wp2_with (go_at_fn acc; refine (HA.out.calls _ _).mono ?_; rintro e w1 ⟨rfl, rfl⟩)
  go_ret
  exact ⟨ret_str rfl, HB.out⟩
end Go.Proofs.YteadlcncnhbmjaaGreatDoor
