/- The walk of the worked examples. -/
import Derived.Test.YtejoionamkmeeaaW6
import Derived.Lib.SlBytesConst
import Derived.Lib.SmallJoins
namespace Go.Proofs.Ytejoionamkmeeaa
open Go.RowKit

theorem foldA : Sm.fold (Sm.cut 860922984064492325) [97] = 3414815163700866188 := by decide +kernel
theorem unA : Sm.un [48, 48, 48, 48, 48, 48, 48, 48, 48, 48, 48, 48, 48, 49, 48, 50] = some 258 := by decide +kernel
theorem digsA : (⟨(Sm.digs (Sm.cut 258)).toArray⟩ : ByteArray) = ⟨#[48, 48, 48, 48, 48, 48, 48, 48, 48, 48, 48, 48, 48, 49, 48, 50]⟩ := by
  have : Sm.digs (Sm.cut 258) = [48, 48, 48, 48, 48, 48, 48, 48, 48, 48, 48, 48, 48, 49, 48, 50] := by decide +kernel
  rw [this]
theorem int_cast_lit {n : Nat} {z : Int} (h : (n : Int) = z) : Ending.returned (.int .i64 (n : Int)) = .returned (.int .i64 z) := by rw [h]
theorem foldA' : ((Sm.fold (Sm.cut 860922984064492325) [97] : Nat) : Int) = 3414815163700866188 := by rw [foldA]; rfl
theorem fold_A (A : Option Addr) (w : World) (hr : Bs w A 1 [97]) :
    Calls Try.prog 10 #[.int .i64 860922984064492325, .slice A 1 1] w fun e w' => e = .returned (.int .i64 3414815163700866188) ∧ w = w' :=
  (fold_any 860922984064492325 A 1 1 [97] w hr (by omega)).mono fun e w' ⟨h1, h2⟩ => ⟨h1.trans (int_cast_lit foldA'), h2⟩
theorem sum_A (A : Option Addr) (w : World) (hr : Bs w A 1 [97]) :
    Calls Try.prog 12 #[.slice A 1 1] w fun e w' => e = .returned (.int .i64 3414815163700866188) ∧ w = w' :=
  (sum_any A 1 1 [97] w hr (by omega)).mono fun e w' ⟨h1, h2⟩ => ⟨h1.trans (int_cast_lit foldA'), h2⟩
theorem unhex_A (w : World) : Calls Try.prog 16 #[.string ⟨#[48, 48, 48, 48, 48, 48, 48, 48, 48, 48, 48, 48, 48, 49, 48, 50]⟩] w fun e w' => e = .returned (.tuple #[.int .i64 258, .bool true]) ∧ Below w.heap.size w w' :=
  (unhex_any _ w (by decide)).mono fun e w' ⟨h1, h2⟩ => ⟨h1.trans (ret_un (Sm.unN_some unA) (Sm.unB_some unA)), h2⟩
theorem hex_A (w : World) : Calls Try.prog 15 #[.int .i64 258] w fun e w' => e = .returned (.string ⟨#[48, 48, 48, 48, 48, 48, 48, 48, 48, 48, 48, 48, 48, 49, 48, 50]⟩) ∧ Below w.heap.size w w' :=
  (hex_any 258 w).mono fun e w' ⟨h1, h2⟩ => ⟨h1.trans (by rw [digsA]), h2⟩

theorem Bs.of_mark {w : World} {n : Nat} {t : TypeId} {fr : Nat × Nat} {bs : List UInt8} (hn : n = w.heap.size) : Bs (w.alloc (.cells (bytesV bs) t fr)) (some ⟨n, 0, none⟩) bs.length bs := by
  refine ⟨rfl, fun j hj => ⟨n, 0, bs[j], rfl, List.getElem?_eq_getElem hj, ?_⟩⟩
  rw [Nat.zero_add, Joins.cell_alloc_mark_at w _ t fr n j hn]
  simp [bytesV, hj]
theorem conv_one (w : World) (C : Array Value) (n c : Nat) : (convert 22 22 (.slice (some ⟨w.heap.size, 0, none⟩) n c)).run Try.prog (w.alloc (.cells C 5)) = .ok (.slice (some ⟨w.heap.size, 0, none⟩) n c) (w.alloc (.cells C 5 (C.size, C.size + 1))) :=
  Lib.run_convert_bytes_const (P := Try.prog) w 22 5 C n c Try.underlying22 Try.underlying5
theorem conv_two (w : World) (o : Obj) (C : Array Value) (n c : Nat) : (convert 22 22 (.slice (some ⟨w.heap.size + 1, 0, none⟩) n c)).run Try.prog ((w.alloc o).alloc (.cells C 5)) = .ok (.slice (some ⟨w.heap.size + 1, 0, none⟩) n c) ((w.alloc o).alloc (.cells C 5 (C.size, C.size + 1))) :=
  Joins.run_convert_bytes_const_at (P := Try.prog) (w.alloc o) 22 5 C n c _ (by simp) Try.underlying22 Try.underlying5

theorem lives_any (w : World) : Calls Try.prog 9 #[] w fun e w' => e = .returned (.bool true) ∧ Below w.heap.size w w' := by
  have k1 := conv_one
  have k2 := conv_two
  go_enter Try.func9, Try.ntmps9
  go_wp2_with (first | (go_at_call 16; refine (unhex_A _).mono ?_; rintro e w1 ⟨rfl, hb1⟩) | (go_at_call 19; refine (start_any _).mono ?_; rintro e w' ⟨rfl, rfl⟩) | (go_at_call 12; refine (sum_A _ _ (Bs.of_mark (bs := [97]) rfl)).mono ?_; rintro e w' ⟨rfl, rfl⟩) | (go_at_call 10; refine (fold_A _ _ (Bs.of_mark (bs := [97]) (by simp))).mono ?_; rintro e w' ⟨rfl, rfl⟩) | (go_at_call 15; refine (hex_A _).mono ?_; rintro e w4 ⟨rfl, hb4⟩))
  go_ret
  have s1 := hb1.size
  exact ⟨rfl, (((hb1.alloc s1 _).alloc (by simp; omega) _)).trans (hb4.mono (by simp; omega))⟩
end Go.Proofs.Ytejoionamkmeeaa
