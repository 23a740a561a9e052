/- The walks of the laws SumsHex and SumsUnhex. -/
import Derived.Test.YtejoionamkmeeaaF3
namespace Go.Proofs.Ytejoionamkmeeaa
open Go.RowKit
set_option linter.unusedVariables false

def hexS (n : Nat) : ByteArray := ⟨(Sm.digs n).toArray⟩
theorem hexS_list (n : Nat) : (hexS n).data.toList = Sm.digs n := rfl
theorem hexS_size (n : Nat) : (hexS n).size = 16 := by rw [str_size, hexS_list, Sm.digs_len]
theorem hex_s (n : Int) (w : World) : Calls Try.prog 15 #[.int .i64 n] w fun e w' => e = .returned (.string (hexS (Sm.cut n))) ∧ Below w.heap.size w w' := hex_any n w
theorem rhex_s (n : Int) (w : World) : Calls Try.prog 17 #[.int .i64 n] w fun e w' => e = .returned (.string (hexS (Sm.cut n))) ∧ Below w.heap.size w w' := rhex_any n w
theorem unhex_s (n : Nat) (w : World) (hn : n < 4611686018427387904) : Calls Try.prog 16 #[.string (hexS n)] w fun e w' => e = .returned (.tuple #[.int .i64 n, .bool true]) ∧ Below w.heap.size w w' :=
  (unhex_any _ w (by rw [hexS_size]; omega)).mono fun e w' ⟨h1, h2⟩ => ⟨h1.trans (ret_un (Sm.unN_some (Sm.un_digs n hn)) (Sm.unB_some (Sm.un_digs n hn))), h2⟩

theorem hexlaw_any (n : Int) (w : World) : Calls Try.prog 7 #[.int .i64 n] w fun e w' => e = .returned (.bool true) ∧ Below w.heap.size w w' := by
  have hlt := Sm.cut_lt n
  have hrem := Sm.start_rem n
  have hwr : IntKind.u64.wrap ((Sm.cut n : Nat) : Int) = ((Sm.cut n : Nat) : Int) := by rw [IntKind.wrap_u64]; omega
  go_enter Try.func7, Try.ntmps7
  go_wp2_with (first
    | (go_at_call 15; refine (hex_s _ _).mono ?_; rintro e w1 ⟨rfl, hb1⟩)
    | (go_at_call 16; refine (unhex_s _ _ hlt).mono ?_; rintro e w2 ⟨rfl, hb2⟩)
    | (go_at_call 17; refine (rhex_s _ _).mono ?_; rintro e w3 ⟨rfl, hb3⟩)
    | (go_at_call 14; refine (within_any _ _ hlt).mono ?_; rintro e w' ⟨rfl, rfl⟩)
    | (go_at_call 9; refine (lives_any _).mono ?_; rintro e w5 ⟨rfl, hb5⟩))
  go_ret
  have s1 := hb1.size
  have s2 := hb2.size
  have s3 := hb3.size
  exact ⟨rfl, ((hb1.trans (hb2.mono (by omega))).trans (hb3.mono (by omega))).trans (hb5.mono (by omega))⟩

theorem str_beq (a b : ByteArray) (h : a.data.toList = b.data.toList) : a = b := by
  cases a; cases b; congr 1; exact Array.toList_inj.1 h
theorem hex_of (s : ByteArray) (n : Nat) (w : World) (hn : n < 4611686018427387904) (h : Sm.digs n = s.data.toList) : Calls Try.prog 15 #[.int .i64 n] w fun e w' => e = .returned (.string s) ∧ Below w.heap.size w w' :=
  (hex_s n w).mono fun e w' ⟨h1, h2⟩ => ⟨h1.trans (by rw [Sm.cut_nat n hn, str_beq (hexS n) s (by rw [hexS_list, h])]), h2⟩

theorem unhexlaw_any (s : ByteArray) (w : World) (hs : s.size ≤ 9223372036854775807) : Calls Try.prog 8 #[.string s] w fun e w' => e = .returned (.bool true) ∧ Below w.heap.size w w' := by
  cases hu : Sm.un s.data.toList with
  | none =>
    have c1 : ∀ w, Calls Try.prog 16 #[.string s] w fun e w' => e = .returned (.tuple #[.int .i64 0, .bool false]) ∧ Below w.heap.size w w' := fun w =>
      (unhex_any s w hs).mono fun e w' ⟨h1, h2⟩ => ⟨h1.trans (ret_un (Sm.unN_none hu) (Sm.unB_none hu)), h2⟩
    have c2 : ∀ w, Calls Try.prog 18 #[.string s] w fun e w' => e = .returned (.tuple #[.int .i64 0, .bool false]) ∧ w = w' := fun w =>
      (runhex_any s w hs).mono fun e w' ⟨h1, h2⟩ => ⟨h1.trans (ret_un (Sm.unN_none hu) (Sm.unB_none hu)), h2⟩
    have C1 := Lib.hid c1
    have C2 := Lib.hid c2
    clear c1 c2 hu
    go_enter Try.func8, Try.ntmps8
    go_wp2_with (first
      | (go_at_call 16; refine (C1.out _).mono ?_; rintro e w1 ⟨rfl, hb1⟩)
      | (go_at_call 18; refine (C2.out _).mono ?_; rintro e w' ⟨rfl, rfl⟩)
      | (go_at_call 9; refine (lives_any _).mono ?_; rintro e w5 ⟨rfl, hb5⟩))
    go_ret
    exact ⟨rfl, hb1.trans (hb5.mono hb1.size)⟩
  | some n =>
    have c1 : ∀ w, Calls Try.prog 16 #[.string s] w fun e w' => e = .returned (.tuple #[.int .i64 n, .bool true]) ∧ Below w.heap.size w w' := fun w =>
      (unhex_any s w hs).mono fun e w' ⟨h1, h2⟩ => ⟨h1.trans (ret_un (Sm.unN_some hu) (Sm.unB_some hu)), h2⟩
    have c2 : ∀ w, Calls Try.prog 18 #[.string s] w fun e w' => e = .returned (.tuple #[.int .i64 n, .bool true]) ∧ w = w' := fun w =>
      (runhex_any s w hs).mono fun e w' ⟨h1, h2⟩ => ⟨h1.trans (ret_un (Sm.unN_some hu) (Sm.unB_some hu)), h2⟩
    have c3 : ∀ w, Calls Try.prog 15 #[.int .i64 n] w fun e w' => e = .returned (.string s) ∧ Below w.heap.size w w' := by
      intro w
      unfold Sm.un at hu
      by_cases c : s.data.toList.length = 16 ∧ Sm.digs (Sm.pval s.data.toList % 4611686018427387904) = s.data.toList
      · rw [if_pos c] at hu
        injection hu with hu
        exact hex_of s n w (by omega) (by rw [← hu]; exact c.2)
      · rw [if_neg c] at hu
        cases hu
    have C1 := Lib.hid c1
    have C2 := Lib.hid c2
    have C3 := Lib.hid c3
    clear c1 c2 c3 hu
    go_enter Try.func8, Try.ntmps8
    go_wp2_with (first
      | (go_at_call 16; refine (C1.out _).mono ?_; rintro e w1 ⟨rfl, hb1⟩)
      | (go_at_call 18; refine (C2.out _).mono ?_; rintro e w' ⟨rfl, rfl⟩)
      | (go_at_call 15; refine (C3.out _).mono ?_; rintro e w3 ⟨rfl, hb3⟩)
      | (go_at_call 9; refine (lives_any _).mono ?_; rintro e w5 ⟨rfl, hb5⟩))
    go_ret
    have s1 := hb1.size
    have s3 := hb3.size
    exact ⟨rfl, (hb1.trans (hb3.mono (by omega))).trans (hb5.mono (by omega))⟩
end Go.Proofs.Ytejoionamkmeeaa
