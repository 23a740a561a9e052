/- The walks of the reference's Hex and of Digit. -/
import Derived.Test.YtejoionamkmeeaaW3
namespace Go.Proofs.Ytejoionamkmeeaa
open Go.RowKit

theorem cons_str (c : UInt8) (tl : List UInt8) : (ByteArray.mk #[c]) ++ ByteArray.mk tl.toArray = ByteArray.mk (c :: tl).toArray := by
  apply ByteArray.ext
  simp

theorem rhex_any (n : Int) (w : World) :
    Calls Try.prog 17 #[.int .i64 n] w fun e w' => e = .returned (.string ⟨(Sm.digs (Sm.cut n)).toArray⟩) ∧ Below w.heap.size w w' := by
  have hst := Sm.start_rem n
  have hlt0 := Sm.cut_lt n
  generalize Sm.cut n = v at *
  go_enter Try.func17, Try.ntmps17
  go_wp2
  clear hst
  go_loopw [3, 4, 5] (fun u s j wr => ∃ k : Nat, k ≤ 16 ∧ j = .int .i64 k ∧ u = .int .u64 ((v / 16 ^ k : Nat) : Int) ∧ s = .string ⟨((Sm.digs v).drop (16 - k)).toArray⟩ ∧ Below w.heap.size w wr) (fun _ _ j _ => 16 - (intOf j).toNat)
  case atStart =>
    exact ⟨0, by omega, rfl, by simp, by simp [Sm.digs], Below.refl _ _⟩
  case round =>
    obtain ⟨k, hk, rfl, rfl, rfl, hbel⟩ := hrel
    by_cases hlt : k < 16
    · have HP := Lib.hid (Sm.pow_step v k)
      have HD := Lib.hid (Sm.digs_drop v k hlt)
      have hq0 := Sm.div_lt v k hlt0
      generalize hq : v / 16 ^ k = q at *
      have hrem := Sm.rem16 q
      have hquo := Sm.quo16 q hq0
      have hm : q % 16 < 16 := by omega
      generalize q % 16 = m at *
      generalize hq2 : q / 16 = q2 at *
      have HQ := Lib.hid hq
      have HQ2 := Lib.hid hq2
      clear hq hq2
      have htl : (List.drop (16 - k) (Sm.digs v)).length ≤ 16 := by rw [List.length_drop, Sm.digs_len]; omega
      generalize List.drop (16 - k) (Sm.digs v) = tl at *
      by_cases h9 : m < 10
      · have e9 := Sm.hx_low m h9
        have hcv := run_conv_bs (wr.alloc (.cells (bytesV [Sm.hx m]) 5)) 22 9 5 Try.underlying22 Try.underlying5 Try.underlying9 (some ⟨wr.heap.size, 0, none⟩) 1 1 _ (Bs.of_blk (Blk.new wr 5 (bytesV [Sm.hx m])))
        have e : bytesV [Sm.hx m] = #[.int .u8 (48 + (m : Int))] := by unfold bytesV; rw [List.map_singleton, e9]
        rw [e] at hcv
        clear e
        go_wp2
        go_roundw
        case rel => exact ⟨k + 1, by omega, by go_num, congrArg (Value.int .u64) (by rw [← HP.out, ← HQ2.out]; omega), congrArg Value.string (by rw [HD.out]; exact cons_str _ _), hbel.alloc hbel.size _⟩
        case measure => simp [intOf]; omega
      · have e9 := Sm.hx_high m h9 hm
        have hcv := run_conv_bs (wr.alloc (.cells (bytesV [Sm.hx m]) 5)) 22 9 5 Try.underlying22 Try.underlying5 Try.underlying9 (some ⟨wr.heap.size, 0, none⟩) 1 1 _ (Bs.of_blk (Blk.new wr 5 (bytesV [Sm.hx m])))
        have e : bytesV [Sm.hx m] = #[.int .u8 (97 + (m : Int) - 10)] := by unfold bytesV; rw [List.map_singleton, e9]
        rw [e] at hcv
        clear e
        go_wp2
        go_roundw
        case rel => exact ⟨k + 1, by omega, by go_num, congrArg (Value.int .u64) (by rw [← HP.out, ← HQ2.out]; omega), congrArg Value.string (by rw [HD.out]; exact cons_str _ _), hbel.alloc hbel.size _⟩
        case measure => simp [intOf]; omega
    · have : k = 16 := by omega
      subst this
      go_wp2
      go_ret
      exact ⟨by simp, hbel⟩
end Go.Proofs.Ytejoionamkmeeaa
