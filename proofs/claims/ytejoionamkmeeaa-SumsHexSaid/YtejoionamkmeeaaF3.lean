/- The walks of the laws SumsBytes and SumsApart. -/
import Derived.Test.YtejoionamkmeeaaF2
import Derived.Test.YtejoionamkmeeaaInj
namespace Go.Proofs.Ytejoionamkmeeaa
open Go.RowKit
set_option linter.unusedVariables false

theorem fold_byte (h : Int) (A : Option Addr) (c : UInt8) (w : World) (hr : Bs w A 1 [c]) :
    Calls Try.prog 10 #[.int .i64 h, .slice A 1 1] w fun e w' => e = .returned (.int .i64 (Sm.fstep (Sm.cut h) c)) ∧ w = w' :=
  (fold_any h A 1 1 [c] w hr (by omega)).mono fun e w' ⟨h1, h2⟩ => ⟨h1.trans (ret_nat (Sm.fold_one _ _)), h2⟩
theorem fold_nil (h : Int) (w : World) :
    Calls Try.prog 10 #[.int .i64 h, .slice none 0 0] w fun e w' => e = .returned (.int .i64 (Sm.cut h)) ∧ w = w' :=
  (fold_any h none 0 0 [] w ⟨rfl, fun j hj => absurd hj (by omega)⟩ (by omega)).mono fun e w' ⟨h1, h2⟩ => ⟨h1, h2⟩

theorem bytes_law (h : Int) (a b : UInt8) (w : World) :
    Calls Try.prog 5 #[.int .i64 h, .int .u8 (a.toNat : Int), .int .u8 (b.toNat : Int)] w fun e w' => e = .returned (.bool true) ∧ Below w.heap.size w w' := by
  have hx := Sm.fstep_lt (Sm.cut h) a
  have hiff := Sm.bytes_iff (Sm.cut h) a b (Sm.cut_lt h)
  have hc : ((((Sm.fstep (Sm.cut h) a : Nat) : Int) == ((Sm.fstep (Sm.cut h) b : Nat) : Int)) == ((a.toNat : Int) == (b.toNat : Int))) = true := by
    rw [beq_iff_eq, Bool.eq_iff_iff, beq_iff_eq, beq_iff_eq]
    constructor
    · intro e; rw [hiff.1 (by omega)]
    · intro e; rw [hiff.2 (UInt8.toNat_inj.1 (by omega))]
  clear hiff
  go_enter Try.func5, Try.ntmps5
  go_wp2_with fail
  refine (fold_byte _ _ a _ (Bs.of_blk (Blk.new _ 5 (bytesV [a])))).mono ?_; rintro e w' ⟨rfl, rfl⟩
  go_wp2_with fail
  refine (fold_byte _ _ b _ (Bs.of_mark (bs := [b]) (by simp))).mono ?_; rintro e w' ⟨rfl, rfl⟩
  go_wp2_with (first
    | (go_at_call 14; refine (within_any _ _ hx).mono ?_; rintro e w' ⟨rfl, rfl⟩)
    | (go_at_call 9; refine (lives_any _).mono ?_; rintro e w5 ⟨rfl, hb5⟩))
  go_ret
  exact ⟨rfl, (((Below.refl _ _).alloc (Nat.le_refl _) _).alloc (by simp) _).trans (hb5.mono (by simp; omega))⟩

theorem apart_any (h g : Int) (A : Option Addr) (len cap : Nat) (bs : List UInt8) (w : World) (hr : Bs w A len bs) :
    Calls Try.prog 6 #[.int .i64 h, .int .i64 g, .slice A len cap] w fun e w' => e = .returned (.bool true) ∧ Below w.heap.size w w' := by
  by_cases hl : len ≤ 300
  · have hc : ((((Sm.fold (Sm.cut h) bs : Nat) : Int) == ((Sm.fold (Sm.cut g) bs : Nat) : Int)) == (((Sm.cut h : Nat) : Int) == ((Sm.cut g : Nat) : Int))) = true := by
      rw [beq_iff_eq, Bool.eq_iff_iff, beq_iff_eq, beq_iff_eq]
      constructor
      · intro e; rw [Sm.fold_sum bs _ _ (Sm.cut_lt h) (Sm.cut_lt g) (by omega)]
      · intro e
        have e2 : Sm.cut h = Sm.cut g := by omega
        rw [e2]
    have hlen : len ≤ 1000 := by omega
    go_enter Try.func6, Try.ntmps6
    go_wp2_with fail
    refine (fold_any _ _ _ _ _ _ hr hlen).mono ?_; rintro e w' ⟨rfl, rfl⟩
    go_wp2_with fail
    refine (fold_any _ _ _ _ _ _ hr hlen).mono ?_; rintro e w' ⟨rfl, rfl⟩
    go_wp2_with fail
    refine (fold_nil _ _).mono ?_; rintro e w' ⟨rfl, rfl⟩
    go_wp2_with fail
    refine (fold_nil _ _).mono ?_; rintro e w' ⟨rfl, rfl⟩
    go_wp2_with (go_at_call 9; refine (lives_any _).mono ?_; rintro e w5 ⟨rfl, hb5⟩)
    go_ret
    exact ⟨rfl, hb5⟩
  · have d1 : decide (300 < (len : Int)) = true := decide_eq_true (by omega)
    go_enter Try.func6, Try.ntmps6
    go_wp2_with (go_at_call 9; refine (lives_any _).mono ?_; rintro e w5 ⟨rfl, hb5⟩)
    go_ret
    exact ⟨rfl, hb5⟩
end Go.Proofs.Ytejoionamkmeeaa
