/- The walk of the law SumsParts. -/
import Derived.Test.YtejoionamkmeeaaW8
import Derived.Deep.RegionWith
namespace Go.Proofs.Ytejoionamkmeeaa
open Go.RowKit

theorem ret_nat {a b : Nat} (h : a = b) : Ending.returned (.int .i64 (a : Int)) = .returned (.int .i64 (b : Int)) := by rw [h]
theorem fold_nat (n : Nat) (A : Option Addr) (len cap : Nat) (bs : List UInt8) (w : World) (hn : n < 4611686018427387904) (hr : Bs w A len bs) (hlen : len ≤ 1000) :
    Calls Try.prog 10 #[.int .i64 n, .slice A len cap] w fun e w' => e = .returned (.int .i64 (Sm.fold n bs)) ∧ w = w' :=
  (fold_any n A len cap bs w hr hlen).mono fun e w' ⟨h1, h2⟩ => ⟨h1.trans (by rw [Sm.cut_nat n hn]), h2⟩
theorem fold_two (h : Int) (A : Option Addr) (len cap : Nat) (xs ys : List UInt8) (w : World) (hr : Bs w A len (xs ++ ys)) (hlen : len ≤ 1000) :
    Calls Try.prog 10 #[.int .i64 h, .slice A len cap] w fun e w' => e = .returned (.int .i64 (Sm.fold (Sm.fold (Sm.cut h) xs) ys)) ∧ w = w' :=
  (fold_any h A len cap _ w hr hlen).mono fun e w' ⟨h1, h2⟩ => ⟨h1.trans (ret_nat (Sm.fold_append _ _ _)), h2⟩
theorem sum_two (A : Option Addr) (len cap : Nat) (xs ys : List UInt8) (w : World) (hr : Bs w A len (xs ++ ys)) (hlen : len ≤ 1000) :
    Calls Try.prog 12 #[.slice A len cap] w fun e w' => e = .returned (.int .i64 (Sm.fold (Sm.fold (Sm.cut 860922984064492325) xs) ys)) ∧ w = w' :=
  (sum_any A len cap _ w hr hlen).mono fun e w' ⟨h1, h2⟩ => ⟨h1.trans (ret_nat (Sm.fold_append _ _ _)), h2⟩

theorem parts_any (h : Int) (A : Option Addr) (len cap : Nat) (xs : List UInt8) (A2 : Option Addr) (len2 cap2 : Nat) (ys : List UInt8) (w : World) (hr : Bs w A len xs) (hr2 : Bs w A2 len2 ys) :
    Calls Try.prog 4 #[.int .i64 h, .slice A len cap, .slice A2 len2 cap2] w fun e w' => e = .returned (.bool true) ∧ Below w.heap.size w w' := by
  by_cases hl : len ≤ 300
  · by_cases hl2 : len2 ≤ 300
    · obtain ⟨i0, hi, hz0, hz1, hz2⟩ := info_parts Try.info5
      have HI := Lib.hid hi
      have HZ0 := Lib.hid hz0
      have HZ1 := Lib.hid hz1
      have HZ2 := Lib.hid hz2
      have hX := Sm.fold_lt xs _ (Sm.cut_lt h)
      have hY := Sm.fold_lt ys _ hX
      have hX2 := Sm.fold_lt xs _ (Sm.cut_lt 860922984064492325)
      have d1 : decide (300 < (len : Int)) = false := decide_eq_false (by omega)
      have d2 : decide (300 < (len2 : Int)) = false := decide_eq_false (by omega)
      clear hi hz0 hz1 hz2
      have ho0 := World.ownsRow_made (base := w.heap.size) (e := 5) (size := 1) w #[] 0 (Nat.le_refl _) (by decide) rfl
      have hb0 := (Below.refl w.heap.size w).alloc (Nat.le_refl _) (.cells #[] 5)
      go_enter Try.func4, Try.ntmps4
      go_wp2_with (first
        | (at_builtin; refine wpList_append_bs rfl _ _ 22 5 rfl i0 Try.underlying22 HI.out HZ0.out HZ1.out HZ2.out w.heap.size _ len xs rfl ho3 A2 len2 cap2 ys rfl (hr2.below hb3) (len + len2) rfl (by omega) hb3.size ?_; intro A4 cap4 w4 ho4 hg4; have hb4 := hb3.grown hg4 hb3.size (fun k hk => (ho3.lt k hk).1); have hs4 := own_bs ho4; have hr4 := hr.below hb4; have hr24 := hr2.below hb4)
        | (at_builtin; refine wpList_append_bs rfl _ _ 22 5 rfl i0 Try.underlying22 HI.out HZ0.out HZ1.out HZ2.out w.heap.size _ 0 [] rfl ho0 A len cap xs rfl (hr.below hb0) len (by omega) (by omega) hb0.size ?_; intro A3 cap3 w3 ho3 hg3; have hb3 := hb0.grown hg3 hb0.size (fun k hk => (ho0.lt k hk).1))
        | (go_at_call_of 10 (Value.slice A4 (len + len2) cap4); refine (fold_two _ _ _ _ xs ys _ hs4 (by omega)).mono ?_; rintro e w' ⟨rfl, rfl⟩)
        | (go_at_call_of 10 (Value.slice A len cap); refine (fold_any _ _ _ _ _ _ hr4 (by omega)).mono ?_; rintro e w' ⟨rfl, rfl⟩)
        | (go_at_call_of 10 (Sm.fold (Sm.cut h) xs); refine (fold_nat _ _ _ _ _ _ hX hr24 (by omega)).mono ?_; rintro e w' ⟨rfl, rfl⟩)
        | (go_at_call_of 10 (Sm.fold (Sm.cut 860922984064492325) xs); refine (fold_nat _ _ _ _ _ _ hX2 hr24 (by omega)).mono ?_; rintro e w' ⟨rfl, rfl⟩)
        | (go_at_call_of 12 (Value.slice A len cap); refine (sum_any _ _ _ _ _ hr4 (by omega)).mono ?_; rintro e w' ⟨rfl, rfl⟩)
        | (go_at_call 12; refine (sum_two _ _ _ xs ys _ hs4 (by omega)).mono ?_; rintro e w' ⟨rfl, rfl⟩)
        | (go_at_call 14; refine (within_any _ _ hY).mono ?_; rintro e w' ⟨rfl, rfl⟩)
        | (go_at_call 9; refine (lives_any _).mono ?_; rintro e w5 ⟨rfl, hb5⟩))
      go_ret
      exact ⟨rfl, hb4.trans (hb5.mono hb4.size)⟩
    · have d1 : decide (300 < (len : Int)) = false := decide_eq_false (by omega)
      have d2 : decide (300 < (len2 : Int)) = true := decide_eq_true (by omega)
      go_enter Try.func4, Try.ntmps4
      go_wp2_with (go_at_call 9; refine (lives_any _).mono ?_; rintro e w5 ⟨rfl, hb5⟩)
      go_ret
      exact ⟨rfl, hb5⟩
  · have d1 : decide (300 < (len : Int)) = true := decide_eq_true (by omega)
    go_enter Try.func4, Try.ntmps4
    go_wp2_with (go_at_call 9; refine (lives_any _).mono ?_; rintro e w5 ⟨rfl, hb5⟩)
    go_ret
    exact ⟨rfl, hb5⟩
end Go.Proofs.Ytejoionamkmeeaa
