/- The walk of the law SumsFolds. -/
import Derived.Test.YtejoionamkmeeaaW8
namespace Go.Proofs.Ytejoionamkmeeaa
open Go.RowKit

theorem folds_any (h : Int) (A : Option Addr) (len cap : Nat) (bs : List UInt8) (w : World) (hr : Bs w A len bs) :
    Calls Try.prog 3 #[.int .i64 h, .slice A len cap] w fun e w' => e = .returned (.bool true) ∧ Below w.heap.size w w' := by
  by_cases hl : len ≤ 300
  · obtain ⟨i0, hi, hz0, hz1, hz2⟩ := info_parts Try.info5
    have HI := Lib.hid hi
    have HZ0 := Lib.hid hz0
    have HZ1 := Lib.hid hz1
    have HZ2 := Lib.hid hz2
    clear hi hz0 hz1 hz2
    go_enter Try.func3, Try.ntmps3
    go_wp2_with (first
      | (at_make; refine wpList_make_own _ rfl _ _ 22 rfl w.heap.size 5 i0 (.int .u8 0) 1 Try.underlying22 HI.out HZ0.out HZ1.out .i64 .i64 _ (len + 4) rfl rfl (by omega) (by rw [HZ2.out]; omega) (by unfold maxLen; omega) (Nat.le_refl _) ?_; intro w1 ho1 hg1; have hb1 := (Below.refl w.heap.size w).grown hg1 (Nat.le_refl _) (by intro k hk; cases hk))
      | (at_builtin; refine wpList_append_bs rfl _ _ 22 5 rfl i0 Try.underlying22 HI.out HZ0.out HZ1.out HZ2.out w.heap.size _ 0 [] rfl ho1 A len cap bs rfl (hr.below hb1) len (by omega) (by omega) hb1.size ?_; intro A2 cap2 w2 ho2 hg2; have hb2 := hb1.grown hg2 hb1.size (fun k hk => (ho1.lt k hk).1); have hs2 := own_bs ho2; have hr2 := hr.below hb2; have hc1 := run_conv_bs w2 22 9 5 Try.underlying22 Try.underlying5 Try.underlying9 A2 len cap2 bs hs2; have hc2 := run_conv_bs w2 22 9 5 Try.underlying22 Try.underlying5 Try.underlying9 A len cap bs hr2)
      | (go_at_call 10; refine (fold_any _ _ _ _ _ _ hs2 (by omega)).mono ?_; rintro e w' ⟨rfl, rfl⟩)
      | (go_at_call 11; refine (rfold_any _ _ _ _ _ _ hr2 (by omega)).mono ?_; rintro e w' ⟨rfl, rfl⟩)
      | (go_at_call 12; refine (sum_any _ _ _ _ _ hs2 (by omega)).mono ?_; rintro e w' ⟨rfl, rfl⟩)
      | (go_at_call 13; refine (rsum_any _ _ _ _ _ hr2 (by omega)).mono ?_; rintro e w' ⟨rfl, rfl⟩)
      | (go_at_call 9; refine (lives_any _).mono ?_; rintro e w5 ⟨rfl, hb5⟩))
    go_ret
    exact ⟨rfl, hb2.trans (hb5.mono hb2.size)⟩
  · have hl2 : 300 < len := by omega
    go_enter Try.func3, Try.ntmps3
    go_wp2_with (go_at_call 9; refine (lives_any _).mono ?_; rintro e w5 ⟨rfl, hb5⟩)
    go_ret
    exact ⟨rfl, hb5⟩
end Go.Proofs.Ytejoionamkmeeaa
