/- The texts At1, As3, As4, Al1, Ap0, Ap1, Ap2 of this proof, one behind the other. -/
import Derived.Deep.RegionHeld3
import Derived.Test.YteadlcncnhbmjaaGreatDoorMaj
import Derived.Test.YteadlcncnhbmjaaGreatDoorMad
import Derived.Test.YteadlcncnhbmjaaGreatDoorMap
import Derived.Test.YteadlcncnhbmjaaGreatDoorMam
import Derived.Test.YteadlcncnhbmjaaGreatDoorMaf
import Derived.Test.YteadlcncnhbmjaaGreatDoorMan
set_option linter.unusedSimpArgs false
set_option maxHeartbeats 16000000
set_option maxRecDepth 100000
/- The text At1. -/
namespace Go.Proofs.YteadlcncnhbmjaaGreatDoor
open Go.RowKit Go.Lib
set_option linter.unusedVariables false
def Nx (w w' : World) : Prop := Below w.heap.size w w'
theorem keep_b {w w' : World} {a : Addr} {v : Value} (hb : Nx w w') (h : w.cell? a = some v) : w'.cell? a = some v := (Below.cell hb (block_lt h)).trans h
theorem below_b {w0 w w' : World} (hb : Nx w w') (h : Below w0.heap.size w0 w) : Below w0.heap.size w0 w' := h.trans (Below.mono hb h.size)
theorem one_any (b : Bool) (w : World) : Calls Tryz.prog 75 #[.bool b] w fun e w' => e = .returned (.int .i64 (if b then 1 else 0)) ∧ w = w' := by
 cases b with
 | true =>
  go_enter Tryz.func75, Tryz.ntmps75
  go_wp2_with fail
  go_ret
  exact ⟨rfl, rfl⟩
 | false =>
  go_enter Tryz.func75, Tryz.ntmps75
  go_wp2_with fail
  go_ret
  exact ⟨rfl, rfl⟩
theorem after_str (a b : List UInt8) (h : b ≠ []) : (bstr a ++ (⟨#[32]⟩ : ByteArray)) ++ bstr b = bstr (Ar.after a b) := str_eq (by unfold Ar.after; rw [if_neg h]; simp [bstr])
theorem after_any (a b : List UInt8) (w : World) (ha : a.length ≤ 1000000) (hb : b.length ≤ 100000000) :
  Calls Tryz.prog 63 #[.string (bstr a), .string (bstr b)] w fun e w' => e = .returned (.string (bstr (Ar.after a b))) ∧ w = w' := by
 by_cases h : b = []
 ·subst h
  have he : Ar.after a [] = a := if_pos rfl
  have h0 : (bstr []).toList.isEmpty = true := by rw [Lib.toList_data]; rfl
  rw [he]
  generalize bstr a = sa at *
  generalize bstr [] = sb at *
  go_enter Tryz.func63, Tryz.ntmps63
  go_wp2_with fail
  go_ret
  exact ⟨rfl, rfl⟩
 ·have HE := hid (after_str a b h)
  have h0 : (bstr b).toList.isEmpty = false := by
   rw [Lib.toList_data]
   show b.isEmpty = false
   cases b with
   | nil => exact absurd rfl h
   | cons c b => rfl
  have hsa : (bstr a).size ≤ 1000000 := by rw [bstr_size]; exact ha
  have hsb : (bstr b).size ≤ 100000000 := by rw [bstr_size]; exact hb
  have h1 : (⟨#[32]⟩ : ByteArray).size = 1 := rfl
  generalize bstr (Ar.after a b) = R at *
  generalize bstr a = sa at *
  generalize bstr b = sb at *
  go_enter Tryz.func63, Tryz.ntmps63
  go_wp2_with fail
  go_ret
  exact ⟨ret_str HE.out, rfl⟩
theorem entryline_any_eq (a : Int) (b : List UInt8) (c : Int) : ((((((⟨#[101, 110, 116, 114, 121, 32]⟩ : ByteArray) ++ bstr (Ar.itoa a)) ++ (⟨#[32]⟩ : ByteArray)) ++ bstr (Ar.quote b)) ++ (⟨#[32]⟩ : ByteArray)) ++ bstr (Ar.itoa c)) = bstr (Ar.entryLine (a, b, c)) := str_eq (by simp [bstr, Ar.entryLine, Ar.entryW])
theorem entryline_any (a : Int) (b : List UInt8) (c : Int) (w : World) (h0 : Ar.inInt a) (h1 : b.length ≤ 1000000) (h2 : Ar.inInt c) :
  Calls Tryz.prog 69 #[.agg #[.int .i64 a, .string (bstr b), .int .i64 c]] w fun e w' => e = .returned (.string (bstr (Ar.entryLine (a, b, c)))) ∧ Below w.heap.size w w' := by
 have hk := Blk.new w 103 #[.int .i64 a, .string (bstr b), .int .i64 c]
 have hc0 := hk.cell 0
 rw [show (#[.int .i64 a, .string (bstr b), .int .i64 c] : Array Value)[0]? = some (.int .i64 a) from rfl] at hc0
 have hc1 := hk.cell 1
 rw [show (#[.int .i64 a, .string (bstr b), .int .i64 c] : Array Value)[1]? = some (.string (bstr b)) from rfl] at hc1
 have hc2 := hk.cell 2
 rw [show (#[.int .i64 a, .string (bstr b), .int .i64 c] : Array Value)[2]? = some (.int .i64 c) from rfl] at hc2
 have hB := (Below.refl w.heap.size w).alloc (Nat.le_refl _) (.cells #[.int .i64 a, .string (bstr b), .int .i64 c] 103)
 have H0 := hid (fun W => ntext_any a W h0)
 have hl0 : (bstr (Ar.itoa a)).size ≤ 20 := by rw [bstr_size]; exact itoa_len a h0
 have H1 := hid (fun W => quote_any (bstr b) W (by rw [bstr_size]; exact h1))
 rw [show (bstr b).data.toList = b from rfl] at H1
 have hl1 : (bstr (Ar.quote b)).size ≤ 4000002 := by rw [bstr_size]; have := Ar.quote_len b; omega
 have H2 := hid (fun W => ntext_any c W h2)
 have hl2 : (bstr (Ar.itoa c)).size ≤ 20 := by rw [bstr_size]; exact itoa_len c h2
 have hz0 : (⟨#[101, 110, 116, 114, 121, 32]⟩ : ByteArray).size = 6 := rfl
 have hz1 : (⟨#[32]⟩ : ByteArray).size = 1 := rfl
 have HE := hid (entryline_any_eq a b c)
 clear hk h0 h1 h2
 generalize bstr (Ar.entryLine (a, b, c)) = R at *
 generalize bstr (Ar.itoa a) = T0 at *
 generalize bstr (Ar.quote b) = T1 at *
 generalize bstr (Ar.itoa c) = T2 at *
 generalize bstr b = S1 at *
 have hp1 : ¬ 9223372036854775807 < 6 + T0.size := by omega
 have hp2 : ¬ 9223372036854775807 < 6 + T0.size + 1 := by omega
 have hp3 : ¬ 9223372036854775807 < 6 + T0.size + 1 + T1.size := by omega
 have hp4 : ¬ 9223372036854775807 < 6 + T0.size + 1 + T1.size + 1 := by omega
 have hp5 : ¬ 9223372036854775807 < 6 + T0.size + 1 + T1.size + 1 + T2.size := by omega
 generalize hw1 : w.alloc (.cells #[.int .i64 a, .string S1, .int .i64 c] 103) = w1 at *
 go_enter Tryz.func69, Tryz.ntmps69
 go_wp2_with fail
 go_region_held3 (fun W => W.cell? ⟨w.heap.size, 0, none⟩ = some (.int .i64 a) ∧ W.cell? ⟨w.heap.size, 1, none⟩ = some (.string S1) ∧ W.cell? ⟨w.heap.size, 2, none⟩ = some (.int .i64 c) ∧ Below w.heap.size w W) (first | with_reducible exact ⟨hc0, hc1, hc2, hB⟩ | with_reducible exact ⟨keep_drew hc0, keep_drew hc1, keep_drew hc2, hB.drew⟩ | (go_split_ands; with_reducible exact ⟨keep_b (by assumption) (by assumption), keep_b (by assumption) (by assumption), keep_b (by assumption) (by assumption), below_b (by assumption) (by assumption)⟩)) (first | (go_at_call_of 89 (Value.int .i64 a); refine (H0.out _).mono ?_; rintro e wA ⟨rfl, hbA⟩; replace hbA : Nx _ _ := hbA) | (go_at_call_of 14 (Value.string S1); refine (H1.out _).mono ?_; rintro e wB ⟨rfl, hbB⟩; replace hbB : Nx _ _ := hbB) | (go_at_call_of 89 (Value.int .i64 c); refine (H2.out _).mono ?_; rintro e wC ⟨rfl, hbC⟩; replace hbC : Nx _ _ := hbC))
 all_goals
  go_wp2_with fail
  go_ret
  go_split_ands
  exact ⟨ret_str HE.out, by assumption⟩
theorem receiptline_any_eq (a : List UInt8) (b c d : Int) : ((((((((⟨#[114, 101, 99, 101, 105, 112, 116, 32]⟩ : ByteArray) ++ bstr (Ar.quote a)) ++ (⟨#[32]⟩ : ByteArray)) ++ bstr (Ar.itoa b)) ++ (⟨#[32]⟩ : ByteArray)) ++ bstr (Ar.itoa c)) ++ (⟨#[32]⟩ : ByteArray)) ++ bstr (Ar.itoa d)) = bstr (Ar.receiptLine (a, b, c, d)) := str_eq (by simp [bstr, Ar.receiptLine, Ar.receiptW])
theorem receiptline_any (a : List UInt8) (b c d : Int) (w : World) (h0 : a.length ≤ 1000000) (h1 : Ar.inInt b) (h2 : Ar.inInt c) (h3 : Ar.inInt d) :
  Calls Tryz.prog 71 #[.agg #[.string (bstr a), .int .i64 b, .int .i64 c, .int .i64 d]] w fun e w' => e = .returned (.string (bstr (Ar.receiptLine (a, b, c, d)))) ∧ Below w.heap.size w w' := by
 have hk := Blk.new w 105 #[.string (bstr a), .int .i64 b, .int .i64 c, .int .i64 d]
 have hc0 := hk.cell 0
 rw [show (#[.string (bstr a), .int .i64 b, .int .i64 c, .int .i64 d] : Array Value)[0]? = some (.string (bstr a)) from rfl] at hc0
 have hc1 := hk.cell 1
 rw [show (#[.string (bstr a), .int .i64 b, .int .i64 c, .int .i64 d] : Array Value)[1]? = some (.int .i64 b) from rfl] at hc1
 have hc2 := hk.cell 2
 rw [show (#[.string (bstr a), .int .i64 b, .int .i64 c, .int .i64 d] : Array Value)[2]? = some (.int .i64 c) from rfl] at hc2
 have hc3 := hk.cell 3
 rw [show (#[.string (bstr a), .int .i64 b, .int .i64 c, .int .i64 d] : Array Value)[3]? = some (.int .i64 d) from rfl] at hc3
 have hB := (Below.refl w.heap.size w).alloc (Nat.le_refl _) (.cells #[.string (bstr a), .int .i64 b, .int .i64 c, .int .i64 d] 105)
 have H0 := hid (fun W => quote_any (bstr a) W (by rw [bstr_size]; exact h0))
 rw [show (bstr a).data.toList = a from rfl] at H0
 have hl0 : (bstr (Ar.quote a)).size ≤ 4000002 := by rw [bstr_size]; have := Ar.quote_len a; omega
 have H1 := hid (fun W => ntext_any b W h1)
 have hl1 : (bstr (Ar.itoa b)).size ≤ 20 := by rw [bstr_size]; exact itoa_len b h1
 have H2 := hid (fun W => ntext_any c W h2)
 have hl2 : (bstr (Ar.itoa c)).size ≤ 20 := by rw [bstr_size]; exact itoa_len c h2
 have H3 := hid (fun W => ntext_any d W h3)
 have hl3 : (bstr (Ar.itoa d)).size ≤ 20 := by rw [bstr_size]; exact itoa_len d h3
 have hz0 : (⟨#[114, 101, 99, 101, 105, 112, 116, 32]⟩ : ByteArray).size = 8 := rfl
 have hz1 : (⟨#[32]⟩ : ByteArray).size = 1 := rfl
 have HE := hid (receiptline_any_eq a b c d)
 clear hk h0 h1 h2 h3
 generalize bstr (Ar.receiptLine (a, b, c, d)) = R at *
 generalize bstr (Ar.quote a) = T0 at *
 generalize bstr (Ar.itoa b) = T1 at *
 generalize bstr (Ar.itoa c) = T2 at *
 generalize bstr (Ar.itoa d) = T3 at *
 generalize bstr a = S0 at *
 have hp1 : ¬ 9223372036854775807 < 8 + T0.size := by omega
 have hp2 : ¬ 9223372036854775807 < 8 + T0.size + 1 := by omega
 have hp3 : ¬ 9223372036854775807 < 8 + T0.size + 1 + T1.size := by omega
 have hp4 : ¬ 9223372036854775807 < 8 + T0.size + 1 + T1.size + 1 := by omega
 have hp5 : ¬ 9223372036854775807 < 8 + T0.size + 1 + T1.size + 1 + T2.size := by omega
 have hp6 : ¬ 9223372036854775807 < 8 + T0.size + 1 + T1.size + 1 + T2.size + 1 := by omega
 have hp7 : ¬ 9223372036854775807 < 8 + T0.size + 1 + T1.size + 1 + T2.size + 1 + T3.size := by omega
 generalize hw1 : w.alloc (.cells #[.string S0, .int .i64 b, .int .i64 c, .int .i64 d] 105) = w1 at *
 go_enter Tryz.func71, Tryz.ntmps71
 go_wp2_with fail
 go_region_held3 (fun W => W.cell? ⟨w.heap.size, 0, none⟩ = some (.string S0) ∧ W.cell? ⟨w.heap.size, 1, none⟩ = some (.int .i64 b) ∧ W.cell? ⟨w.heap.size, 2, none⟩ = some (.int .i64 c) ∧ W.cell? ⟨w.heap.size, 3, none⟩ = some (.int .i64 d) ∧ Below w.heap.size w W) (first | with_reducible exact ⟨hc0, hc1, hc2, hc3, hB⟩ | with_reducible exact ⟨keep_drew hc0, keep_drew hc1, keep_drew hc2, keep_drew hc3, hB.drew⟩ | (go_split_ands; with_reducible exact ⟨keep_b (by assumption) (by assumption), keep_b (by assumption) (by assumption), keep_b (by assumption) (by assumption), keep_b (by assumption) (by assumption), below_b (by assumption) (by assumption)⟩)) (first | (go_at_call_of 14 (Value.string S0); refine (H0.out _).mono ?_; rintro e wA ⟨rfl, hbA⟩; replace hbA : Nx _ _ := hbA) | (go_at_call_of 89 (Value.int .i64 b); refine (H1.out _).mono ?_; rintro e wB ⟨rfl, hbB⟩; replace hbB : Nx _ _ := hbB) | (go_at_call_of 89 (Value.int .i64 c); refine (H2.out _).mono ?_; rintro e wC ⟨rfl, hbC⟩; replace hbC : Nx _ _ := hbC) | (go_at_call_of 89 (Value.int .i64 d); refine (H3.out _).mono ?_; rintro e wD ⟨rfl, hbD⟩; replace hbD : Nx _ _ := hbD))
 all_goals
  go_wp2_with fail
  go_ret
  go_split_ands
  exact ⟨ret_str HE.out, by assumption⟩
theorem typingline_any_eq (a : List UInt8) (b : Int) : ((((⟨#[116, 121, 112, 105, 110, 103, 32]⟩ : ByteArray) ++ bstr (Ar.quote a)) ++ (⟨#[32]⟩ : ByteArray)) ++ bstr (Ar.itoa b)) = bstr (Ar.typingLine (a, b)) := str_eq (by simp [bstr, Ar.typingLine, Ar.typingW])
theorem typingline_any (a : List UInt8) (b : Int) (w : World) (h0 : a.length ≤ 1000000) (h1 : Ar.inInt b) :
  Calls Tryz.prog 73 #[.agg #[.string (bstr a), .int .i64 b]] w fun e w' => e = .returned (.string (bstr (Ar.typingLine (a, b)))) ∧ Below w.heap.size w w' := by
 have hk := Blk.new w 107 #[.string (bstr a), .int .i64 b]
 have hc0 := hk.cell 0
 rw [show (#[.string (bstr a), .int .i64 b] : Array Value)[0]? = some (.string (bstr a)) from rfl] at hc0
 have hc1 := hk.cell 1
 rw [show (#[.string (bstr a), .int .i64 b] : Array Value)[1]? = some (.int .i64 b) from rfl] at hc1
 have hB := (Below.refl w.heap.size w).alloc (Nat.le_refl _) (.cells #[.string (bstr a), .int .i64 b] 107)
 have H0 := hid (fun W => quote_any (bstr a) W (by rw [bstr_size]; exact h0))
 rw [show (bstr a).data.toList = a from rfl] at H0
 have hl0 : (bstr (Ar.quote a)).size ≤ 4000002 := by rw [bstr_size]; have := Ar.quote_len a; omega
 have H1 := hid (fun W => ntext_any b W h1)
 have hl1 : (bstr (Ar.itoa b)).size ≤ 20 := by rw [bstr_size]; exact itoa_len b h1
 have hz0 : (⟨#[116, 121, 112, 105, 110, 103, 32]⟩ : ByteArray).size = 7 := rfl
 have hz1 : (⟨#[32]⟩ : ByteArray).size = 1 := rfl
 have HE := hid (typingline_any_eq a b)
 clear hk h0 h1
 generalize bstr (Ar.typingLine (a, b)) = R at *
 generalize bstr (Ar.quote a) = T0 at *
 generalize bstr (Ar.itoa b) = T1 at *
 generalize bstr a = S0 at *
 have hp1 : ¬ 9223372036854775807 < 7 + T0.size := by omega
 have hp2 : ¬ 9223372036854775807 < 7 + T0.size + 1 := by omega
 have hp3 : ¬ 9223372036854775807 < 7 + T0.size + 1 + T1.size := by omega
 generalize hw1 : w.alloc (.cells #[.string S0, .int .i64 b] 107) = w1 at *
 go_enter Tryz.func73, Tryz.ntmps73
 go_wp2_with fail
 go_region_held3 (fun W => W.cell? ⟨w.heap.size, 0, none⟩ = some (.string S0) ∧ W.cell? ⟨w.heap.size, 1, none⟩ = some (.int .i64 b) ∧ Below w.heap.size w W) (first | with_reducible exact ⟨hc0, hc1, hB⟩ | with_reducible exact ⟨keep_drew hc0, keep_drew hc1, hB.drew⟩ | (go_split_ands; with_reducible exact ⟨keep_b (by assumption) (by assumption), keep_b (by assumption) (by assumption), below_b (by assumption) (by assumption)⟩)) (first | (go_at_call_of 14 (Value.string S0); refine (H0.out _).mono ?_; rintro e wA ⟨rfl, hbA⟩; replace hbA : Nx _ _ := hbA) | (go_at_call_of 89 (Value.int .i64 b); refine (H1.out _).mono ?_; rintro e wB ⟨rfl, hbB⟩; replace hbB : Nx _ _ := hbB))
 all_goals
  go_wp2_with fail
  go_ret
  go_split_ands
  exact ⟨ret_str HE.out, by assumption⟩
theorem row_eq1 (a b c : Int) : (((((⟨#[114, 111, 119, 32]⟩ : ByteArray) ++ bstr (Ar.itoa a)) ++ (⟨#[32]⟩ : ByteArray)) ++ bstr (Ar.itoa b)) ++ (⟨#[32]⟩ : ByteArray)) ++ bstr (Ar.itoa c) = bstr (Ar.rowLine (a, b, c, false)) := str_eq (by simp [bstr, Ar.rowLine, Ar.rowW])
theorem row_eq2 (a b c : Int) : bstr (Ar.rowLine (a, b, c, false)) ++ (⟨#[32, 103, 111, 110, 101]⟩ : ByteArray) = bstr (Ar.rowLine (a, b, c, true)) := str_eq (by simp [bstr, Ar.rowLine, Ar.rowW, Ar.goneW])
theorem rowline_any (a b c : Int) (d : Bool) (w : World) (h0 : Ar.inInt a) (h1 : Ar.inInt b) (h2 : Ar.inInt c) :
  Calls Tryz.prog 65 #[.agg #[.int .i64 a, .int .i64 b, .int .i64 c, .bool d]] w fun e w' => e = .returned (.string (bstr (Ar.rowLine (a, b, c, d)))) ∧ Below w.heap.size w w' := by
 have hk := Blk.new w 114 #[.int .i64 a, .int .i64 b, .int .i64 c, .bool d]
 have hc0 := hk.cell 0
 rw [show (#[.int .i64 a, .int .i64 b, .int .i64 c, .bool d] : Array Value)[0]? = some (.int .i64 a) from rfl] at hc0
 have hc1 := hk.cell 1
 rw [show (#[.int .i64 a, .int .i64 b, .int .i64 c, .bool d] : Array Value)[1]? = some (.int .i64 b) from rfl] at hc1
 have hc2 := hk.cell 2
 rw [show (#[.int .i64 a, .int .i64 b, .int .i64 c, .bool d] : Array Value)[2]? = some (.int .i64 c) from rfl] at hc2
 have hc3 := hk.cell 3
 rw [show (#[.int .i64 a, .int .i64 b, .int .i64 c, .bool d] : Array Value)[3]? = some (.bool d) from rfl] at hc3
 have hB := (Below.refl w.heap.size w).alloc (Nat.le_refl _) (.cells #[.int .i64 a, .int .i64 b, .int .i64 c, .bool d] 114)
 have H0 := hid (fun W => ntext_any a W h0)
 have hl0 : (bstr (Ar.itoa a)).size ≤ 20 := by rw [bstr_size]; exact itoa_len a h0
 have H1 := hid (fun W => ntext_any b W h1)
 have hl1 : (bstr (Ar.itoa b)).size ≤ 20 := by rw [bstr_size]; exact itoa_len b h1
 have H2 := hid (fun W => ntext_any c W h2)
 have hl2 : (bstr (Ar.itoa c)).size ≤ 20 := by rw [bstr_size]; exact itoa_len c h2
 have HE1 := row_eq1 a b c
 have HE2 := hid (row_eq2 a b c)
 have hls : (bstr (Ar.rowLine (a, b, c, false))).size ≤ 100 := by rw [← HE1]; simp only [ByteArray.size_append, bstr_size] at *; show 4 + _ + 1 + _ + 1 + _ ≤ 100; omega
 have hz0 : (⟨#[114, 111, 119, 32]⟩ : ByteArray).size = 4 := rfl
 have hz1 : (⟨#[32]⟩ : ByteArray).size = 1 := rfl
 have hz2 : (⟨#[32, 103, 111, 110, 101]⟩ : ByteArray).size = 5 := rfl
 have HE := hid HE1
 clear hk h0 h1 h2 HE1
 generalize hRR : bstr (Ar.rowLine (a, b, c, false)) = R at *
 have HRR := hid hRR
 clear hRR
 generalize bstr (Ar.itoa a) = T0 at *
 generalize bstr (Ar.itoa b) = T1 at *
 generalize bstr (Ar.itoa c) = T2 at *
 have hp1 : ¬ 9223372036854775807 < 4 + T0.size := by omega
 have hp2 : ¬ 9223372036854775807 < 4 + T0.size + 1 := by omega
 have hp3 : ¬ 9223372036854775807 < 4 + T0.size + 1 + T1.size := by omega
 have hp4 : ¬ 9223372036854775807 < 4 + T0.size + 1 + T1.size + 1 := by omega
 have hp5 : ¬ 9223372036854775807 < 4 + T0.size + 1 + T1.size + 1 + T2.size := by omega
 have hp6 : ¬ 9223372036854775807 < R.size + 5 := by omega
 generalize hw1 : w.alloc (.cells #[.int .i64 a, .int .i64 b, .int .i64 c, .bool d] 114) = w1 at *
 have HREST : Hid (∀ (W : World), W.cell? ⟨w.heap.size, 3, none⟩ = some (.bool d) → Below w.heap.size w W → True) := hid (fun _ _ _ => trivial)
 go_enter Tryz.func65, Tryz.ntmps65
 go_wp2_with fail
 go_region_held3 (fun W => W.cell? ⟨w.heap.size, 0, none⟩ = some (.int .i64 a) ∧ W.cell? ⟨w.heap.size, 1, none⟩ = some (.int .i64 b) ∧ W.cell? ⟨w.heap.size, 2, none⟩ = some (.int .i64 c) ∧ W.cell? ⟨w.heap.size, 3, none⟩ = some (.bool d) ∧ Below w.heap.size w W) (first | with_reducible exact ⟨hc0, hc1, hc2, hc3, hB⟩ | with_reducible exact ⟨keep_drew hc0, keep_drew hc1, keep_drew hc2, keep_drew hc3, hB.drew⟩ | (go_split_ands; with_reducible exact ⟨keep_b (by assumption) (by assumption), keep_b (by assumption) (by assumption), keep_b (by assumption) (by assumption), keep_b (by assumption) (by assumption), below_b (by assumption) (by assumption)⟩)) (first | (go_at_call_of 89 (Value.int .i64 a); refine (H0.out _).mono ?_; rintro e wA ⟨rfl, hbA⟩; replace hbA : Nx _ _ := hbA) | (go_at_call_of 89 (Value.int .i64 b); refine (H1.out _).mono ?_; rintro e wB ⟨rfl, hbB⟩; replace hbB : Nx _ _ := hbB) | (go_at_call_of 89 (Value.int .i64 c); refine (H2.out _).mono ?_; rintro e wC ⟨rfl, hbC⟩; replace hbC : Nx _ _ := hbC))
 all_goals
  go_split_ands
  rw [HE.out]
  cases d with
  | true =>
   go_wp2_with fail
   go_ret
   exact ⟨ret_str HE2.out, by assumption⟩
  | false =>
   go_wp2_with fail
   go_ret
   exact ⟨ret_str HRR.out.symm, by assumption⟩
theorem heads_eq (l : List Int) : (⟨#[104, 101, 97, 100, 115, 32]⟩ : ByteArray) ++ bstr (Ar.join [44] (l.map Ar.itoa)) = bstr (Ar.headsLine l) := str_eq (by simp [bstr, Ar.headsLine, Ar.headsW])
theorem headsline_any (A : Option Addr) (cap : Nat) (xs : List Int) (w : World) (hR : Rd w A xs.length (intL xs)) (hx : ∀ x ∈ xs, Ar.inInt x) (hl : xs.length ≤ 1000000) (hj : (Ar.join [44] (xs.map Ar.itoa)).length ≤ 100000000) :
  Calls Tryz.prog 67 #[.slice A xs.length cap] w fun e w' => e = .returned (.string (bstr (Ar.headsLine xs))) ∧ Below w.heap.size w w' := by
 have HJ := hid (joined_int A cap xs w hR hx hl hj)
 have hz : (⟨#[104, 101, 97, 100, 115, 32]⟩ : ByteArray).size = 6 := rfl
 have hs : (bstr (Ar.join [44] (xs.map Ar.itoa))).size ≤ 100000000 := by rw [bstr_size]; exact hj
 have HE := hid (heads_eq xs)
 clear hR hx hj
 generalize bstr (Ar.headsLine xs) = R at *
 generalize bstr (Ar.join [44] (xs.map Ar.itoa)) = T at *
 go_enter Tryz.func67, Tryz.ntmps67
 go_wp2_with fail
 refine HJ.out.mono ?_
 rintro e w1 ⟨rfl, hb⟩
 go_wp2_with fail
 go_ret
 exact ⟨ret_str HE.out, hb⟩
def rmCells (id : ByteArray) (vE vR vW vH vS : Value) (next : Int) (vC vT : Value) : Array Value := #[.string id, vE, vR, vW, vH, vS, .int .i64 next, vC, vT]
theorem head_eq1 (id : List UInt8) : (⟨#[114, 111, 111, 109, 32]⟩ : ByteArray) ++ bstr (Ar.quote id) = bstr (Ar.headLine id 0) := str_eq (by simp [bstr, Ar.headLine, Ar.headW])
theorem head_eq2 (id : List UInt8) (n : Int) (h : n ≠ 0) : ((⟨#[114, 111, 111, 109, 32]⟩ : ByteArray) ++ bstr (Ar.quote id)) ++ ((⟨#[32, 110, 101, 120, 116, 61]⟩ : ByteArray) ++ bstr (Ar.itoa n)) = bstr (Ar.headLine id n) := str_eq (by simp [bstr, Ar.headLine, Ar.headW, Ar.nextW, h])
theorem headline_any (id : List UInt8) (vE vR vW vH vS : Value) (next : Int) (vC vT : Value) (w : World) (h0 : id.length ≤ 1000000) (h1 : Ar.inInt next) :
  Calls Tryz.prog 60 #[.agg #[.string (bstr id), vE, vR, vW, vH, vS, .int .i64 next, vC, vT]] w fun e w' => e = .returned (.string (bstr (Ar.headLine id next))) ∧ Below w.heap.size w w' := by
 have hk := Blk.new w 55 #[.string (bstr id), vE, vR, vW, vH, vS, .int .i64 next, vC, vT]
 have hc0 := hk.cell 0
 rw [show (#[.string (bstr id), vE, vR, vW, vH, vS, .int .i64 next, vC, vT] : Array Value)[0]? = some (.string (bstr id)) from rfl] at hc0
 have hc6 := hk.cell 6
 rw [show (#[.string (bstr id), vE, vR, vW, vH, vS, .int .i64 next, vC, vT] : Array Value)[6]? = some (.int .i64 next) from rfl] at hc6
 have HB := hid ((Below.refl w.heap.size w).alloc (Nat.le_refl _) (.cells #[.string (bstr id), vE, vR, vW, vH, vS, .int .i64 next, vC, vT] 55))
 have HQ := hid (fun W => quote_any (bstr id) W (by rw [bstr_size]; exact h0))
 rw [show (bstr id).data.toList = id from rfl] at HQ
 have HT := hid (fun W => ntext_any next W h1)
 have hl0 : (bstr (Ar.quote id)).size ≤ 4000002 := by rw [bstr_size]; have := Ar.quote_len id; omega
 have hl1 : (bstr (Ar.itoa next)).size ≤ 20 := by rw [bstr_size]; exact itoa_len next h1
 have hz0 : (⟨#[114, 111, 111, 109, 32]⟩ : ByteArray).size = 5 := rfl
 have hz1 : (⟨#[32, 110, 101, 120, 116, 61]⟩ : ByteArray).size = 6 := rfl
 have HE1 := hid (head_eq1 id)
 have hls : (bstr (Ar.headLine id 0)).size ≤ 5000000 := by rw [← head_eq1, ByteArray.size_append, hz0]; omega
 clear hk h0
 by_cases hn : next = 0
 ·subst hn
  generalize bstr (Ar.headLine id 0) = R at *
  generalize bstr (Ar.quote id) = Q at *
  generalize bstr id = S at *
  generalize hw1 : w.alloc (.cells #[.string S, vE, vR, vW, vH, vS, .int .i64 0, vC, vT] 55) = w1 at *
  go_enter Tryz.func60, Tryz.ntmps60
  go_wp2_with fail
  refine (HQ.out _).mono ?_
  rintro e w2 ⟨rfl, hb2⟩
  have hc62 := keep_below hc6 hb2
  have HB2 := hid (HB.out.trans (hb2.mono HB.out.size))
  clear hb2
  go_wp2_with fail
  go_ret
  exact ⟨ret_str HE1.out, HB2.out⟩
 ·have HE2 := hid (head_eq2 id next hn)
  have hn1 : (next == 0) = false := by rw [beq_eq_false_iff_ne]; exact hn
  have hn2 : (next != 0) = true := by rw [bne_iff_ne]; exact hn
  generalize bstr (Ar.headLine id 0) = R at *
  generalize bstr (Ar.headLine id next) = R2 at *
  generalize bstr (Ar.quote id) = Q at *
  generalize bstr (Ar.itoa next) = T at *
  generalize bstr id = S at *
  generalize hw1 : w.alloc (.cells #[.string S, vE, vR, vW, vH, vS, .int .i64 next, vC, vT] 55) = w1 at *
  go_enter Tryz.func60, Tryz.ntmps60
  go_wp2_with fail
  refine (HQ.out _).mono ?_
  rintro e w2 ⟨rfl, hb2⟩
  have hc62 := keep_below hc6 hb2
  have HB2 := hid (HB.out.trans (hb2.mono HB.out.size))
  clear hb2
  go_wp2_with fail
  refine (HT.out _).mono ?_
  rintro e w3 ⟨rfl, hb3⟩
  have HB3 := hid (HB2.out.trans (hb3.mono HB2.out.size))
  clear hb3
  go_wp2_with fail
  go_ret
  exact ⟨ret_str HE2.out, HB3.out⟩
end Go.Proofs.YteadlcncnhbmjaaGreatDoor
/- The text As3. -/
namespace Go.Proofs.YteadlcncnhbmjaaGreatDoor
open Go.RowKit Go.Lib
set_option linter.unusedVariables false
theorem keep_drewN {w : World} {a : Addr} {v : Value} (h : w.cell? a = some v) (q : Nat) : (w.drewN q).cell? a = some v := h
theorem sameC_any (t0 : List UInt8) (n1 : Int) (n2 : Int) (f3 : Bool) (t4 : List UInt8) (al : List (List UInt8)) (dn : List (List UInt8)) (us : List (List UInt8 × Int)) (ks : List (Int × Int)) (l1 : Int) (l2 : Int) (l3 : Int) (l4 : Int) (l5 : Int) (l6 : Int) (l7 : Int) (Axal : Option Addr) (cxal : Nat) (Axdn : Option Addr) (cxdn : Nat) (Axus : Option Addr) (cxus : Nat) (Axks : Option Addr) (cxks : Nat) (Ayal : Option Addr) (cyal : Nat) (Aydn : Option Addr) (cydn : Nat) (Ayus : Option Addr) (cyus : Nat) (Ayks : Option Addr) (cyks : Nat) (w : World) (hxal : Rd w Axal al.length (strL al)) (hyal : Rd w Ayal al.length (strL al)) (hnal : al.length ≤ 1000000) (hxdn : Rd w Axdn dn.length (strL dn)) (hydn : Rd w Aydn dn.length (strL dn)) (hndn : dn.length ≤ 1000000) (hxus : Rd w Axus (us.length * 2) (usrL us)) (hyus : Rd w Ayus (us.length * 2) (usrL us)) (hnus : us.length ≤ 1000000) (hxks : Rd w Axks (ks.length * 2) (kndL ks)) (hyks : Rd w Ayks (ks.length * 2) (kndL ks)) (hnks : ks.length ≤ 1000000) :
  Calls Tryz.prog 54 #[.agg #[.string (bstr t0), .int .i64 n1, .int .i64 n2, .bool f3, .string (bstr t4), .slice Axal al.length cxal, .slice Axdn dn.length cxdn, .slice Axus us.length cxus, .slice Axks ks.length cxks, .int .i64 l1, .int .i64 l2, .int .i64 l3, .int .i64 l4, .int .i64 l5, .int .i64 l6, .int .i64 l7], .agg #[.string (bstr t0), .int .i64 n1, .int .i64 n2, .bool f3, .string (bstr t4), .slice Ayal al.length cyal, .slice Aydn dn.length cydn, .slice Ayus us.length cyus, .slice Ayks ks.length cyks, .int .i64 l1, .int .i64 l2, .int .i64 l3, .int .i64 l4, .int .i64 l5, .int .i64 l6, .int .i64 l7]] w fun e w' => e = .returned (.bool true) ∧ Below w.heap.size w w' := by
 have hb1 := (Below.refl w.heap.size w).alloc (Nat.le_refl _) (.cells #[.string (bstr t0), .int .i64 n1, .int .i64 n2, .bool f3, .string (bstr t4), .slice Axal al.length cxal, .slice Axdn dn.length cxdn, .slice Axus us.length cxus, .slice Axks ks.length cxks, .int .i64 l1, .int .i64 l2, .int .i64 l3, .int .i64 l4, .int .i64 l5, .int .i64 l6, .int .i64 l7] 36)
 have hb2 := hb1.alloc hb1.size (.cells #[.string (bstr t0), .int .i64 n1, .int .i64 n2, .bool f3, .string (bstr t4), .slice Ayal al.length cyal, .slice Aydn dn.length cydn, .slice Ayus us.length cyus, .slice Ayks ks.length cyks, .int .i64 l1, .int .i64 l2, .int .i64 l3, .int .i64 l4, .int .i64 l5, .int .i64 l6, .int .i64 l7] 36)
 have HB := hid hb2
 have Hxal := hid (hxal.below hb2)
 have Hyal := hid (hyal.below hb2)
 have Hxdn := hid (hxdn.below hb2)
 have Hydn := hid (hydn.below hb2)
 have Hxus := hid (hxus.below hb2)
 have Hyus := hid (hyus.below hb2)
 have Hxks := hid (hxks.below hb2)
 have Hyks := hid (hyks.below hb2)
 have hk1 := (Blk.new w 36 #[.string (bstr t0), .int .i64 n1, .int .i64 n2, .bool f3, .string (bstr t4), .slice Axal al.length cxal, .slice Axdn dn.length cxdn, .slice Axus us.length cxus, .slice Axks ks.length cxks, .int .i64 l1, .int .i64 l2, .int .i64 l3, .int .i64 l4, .int .i64 l5, .int .i64 l6, .int .i64 l7]).alloc (.cells #[.string (bstr t0), .int .i64 n1, .int .i64 n2, .bool f3, .string (bstr t4), .slice Ayal al.length cyal, .slice Aydn dn.length cydn, .slice Ayus us.length cyus, .slice Ayks ks.length cyks, .int .i64 l1, .int .i64 l2, .int .i64 l3, .int .i64 l4, .int .i64 l5, .int .i64 l6, .int .i64 l7] 36)
 have hk2 := Blk.new (w.alloc (.cells #[.string (bstr t0), .int .i64 n1, .int .i64 n2, .bool f3, .string (bstr t4), .slice Axal al.length cxal, .slice Axdn dn.length cxdn, .slice Axus us.length cxus, .slice Axks ks.length cxks, .int .i64 l1, .int .i64 l2, .int .i64 l3, .int .i64 l4, .int .i64 l5, .int .i64 l6, .int .i64 l7] 36)) 36 #[.string (bstr t0), .int .i64 n1, .int .i64 n2, .bool f3, .string (bstr t4), .slice Ayal al.length cyal, .slice Aydn dn.length cydn, .slice Ayus us.length cyus, .slice Ayks ks.length cyks, .int .i64 l1, .int .i64 l2, .int .i64 l3, .int .i64 l4, .int .i64 l5, .int .i64 l6, .int .i64 l7]
 rw [World.size_alloc] at hk2
 generalize hw2 : (w.alloc (.cells #[.string (bstr t0), .int .i64 n1, .int .i64 n2, .bool f3, .string (bstr t4), .slice Axal al.length cxal, .slice Axdn dn.length cxdn, .slice Axus us.length cxus, .slice Axks ks.length cxks, .int .i64 l1, .int .i64 l2, .int .i64 l3, .int .i64 l4, .int .i64 l5, .int .i64 l6, .int .i64 l7] 36)).alloc (.cells #[.string (bstr t0), .int .i64 n1, .int .i64 n2, .bool f3, .string (bstr t4), .slice Ayal al.length cyal, .slice Aydn dn.length cydn, .slice Ayus us.length cyus, .slice Ayks ks.length cyks, .int .i64 l1, .int .i64 l2, .int .i64 l3, .int .i64 l4, .int .i64 l5, .int .i64 l6, .int .i64 l7] 36) = w2 at *
 have p0 := hk1.cell 0
 change _ = some (Value.string (bstr t0)) at p0
 have p1 := hk1.cell 1
 change _ = some (Value.int .i64 n1) at p1
 have p2 := hk1.cell 2
 change _ = some (Value.int .i64 n2) at p2
 have p3 := hk1.cell 3
 change _ = some (Value.bool f3) at p3
 have p4 := hk1.cell 4
 change _ = some (Value.string (bstr t4)) at p4
 have p5 := hk1.cell 5
 change _ = some (Value.slice Axal al.length cxal) at p5
 have p6 := hk1.cell 6
 change _ = some (Value.slice Axdn dn.length cxdn) at p6
 have p7 := hk1.cell 7
 change _ = some (Value.slice Axus us.length cxus) at p7
 have p8 := hk1.cell 8
 change _ = some (Value.slice Axks ks.length cxks) at p8
 have p9 := hk1.cell 9
 change _ = some (Value.int .i64 l1) at p9
 have p10 := hk1.cell 10
 change _ = some (Value.int .i64 l2) at p10
 have p11 := hk1.cell 11
 change _ = some (Value.int .i64 l3) at p11
 have p12 := hk1.cell 12
 change _ = some (Value.int .i64 l4) at p12
 have p13 := hk1.cell 13
 change _ = some (Value.int .i64 l5) at p13
 have p14 := hk1.cell 14
 change _ = some (Value.int .i64 l6) at p14
 have p15 := hk1.cell 15
 change _ = some (Value.int .i64 l7) at p15
 have q0 := hk2.cell 0
 change _ = some (Value.string (bstr t0)) at q0
 have q1 := hk2.cell 1
 change _ = some (Value.int .i64 n1) at q1
 have q2 := hk2.cell 2
 change _ = some (Value.int .i64 n2) at q2
 have q3 := hk2.cell 3
 change _ = some (Value.bool f3) at q3
 have q4 := hk2.cell 4
 change _ = some (Value.string (bstr t4)) at q4
 have q5 := hk2.cell 5
 change _ = some (Value.slice Ayal al.length cyal) at q5
 have q6 := hk2.cell 6
 change _ = some (Value.slice Aydn dn.length cydn) at q6
 have q7 := hk2.cell 7
 change _ = some (Value.slice Ayus us.length cyus) at q7
 have q8 := hk2.cell 8
 change _ = some (Value.slice Ayks ks.length cyks) at q8
 have q9 := hk2.cell 9
 change _ = some (Value.int .i64 l1) at q9
 have q10 := hk2.cell 10
 change _ = some (Value.int .i64 l2) at q10
 have q11 := hk2.cell 11
 change _ = some (Value.int .i64 l3) at q11
 have q12 := hk2.cell 12
 change _ = some (Value.int .i64 l4) at q12
 have q13 := hk2.cell 13
 change _ = some (Value.int .i64 l5) at q13
 have q14 := hk2.cell 14
 change _ = some (Value.int .i64 l6) at q14
 have q15 := hk2.cell 15
 change _ = some (Value.int .i64 l7) at q15
 clear hk1 hk2 hb1 hb2 hxal hyal hxdn hydn hxus hyus hxks hyks
 have bt0 : ((bstr t0).toList == (bstr t0).toList) = true := beq_self_eq_true _
 generalize bstr t0 = st0 at *
 have bn1 : (n1 == n1) = true := beq_self_eq_true _
 have bn2 : (n2 == n2) = true := beq_self_eq_true _
 have bf3 : (f3 == f3) = true := beq_self_eq_true _
 have bt4 : ((bstr t4).toList == (bstr t4).toList) = true := beq_self_eq_true _
 generalize bstr t4 = st4 at *
 have bl1 : (l1 == l1) = true := beq_self_eq_true _
 have bl2 : (l2 == l2) = true := beq_self_eq_true _
 have bl3 : (l3 == l3) = true := beq_self_eq_true _
 have bl4 : (l4 == l4) = true := beq_self_eq_true _
 have bl5 : (l5 == l5) = true := beq_self_eq_true _
 have bl6 : (l6 == l6) = true := beq_self_eq_true _
 have bl7 : (l7 == l7) = true := beq_self_eq_true _
 go_enter Tryz.func54, Tryz.ntmps54
 go_wp2_with fail
 refine (sameT6_any Axal Ayal cxal cyal al _ Hxal.out Hyal.out hnal).mono ?_
 rintro e w3 ⟨rfl, n3, rfl⟩
 go_wp2_with fail
 refine (sameT6_any Axdn Aydn cxdn cydn dn (w2.drewN n3) (Hxdn.out.drewN n3) (Hydn.out.drewN n3) hndn).mono ?_
 rintro e w4 ⟨rfl, n4, rfl⟩
 go_wp2_with fail
 try rw [World.drewN_drewN]
 refine (sameL_any Axus Axks Ayus Ayks cxus cxks cyus cyks us ks l1 l2 l3 l4 l5 l6 l7 (w2.drewN _) (Hxus.out.drewN _) (Hyus.out.drewN _) (Hxks.out.drewN _) (Hyks.out.drewN _) hnus hnks).mono ?_
 rintro e w5 ⟨rfl, hb5⟩
 have HB5 := hid ((below_drewN HB.out _).trans (hb5.mono (below_drewN HB.out _).size))
 clear hb5
 go_wp2_with fail
 go_ret
 exact ⟨rfl, HB5.out⟩
theorem same7_any (e0 : Int) (e1 : List UInt8) (e2 : List UInt8) (e3 : Int) (e4 : Bool) (e5 : List UInt8) (e6 : Int) (e7 : Int) (pv : List Int) (au : List Int) (t0 : List UInt8) (n1 : Int) (n2 : Int) (f3 : Bool) (t4 : List UInt8) (al : List (List UInt8)) (dn : List (List UInt8)) (us : List (List UInt8 × Int)) (ks : List (Int × Int)) (l1 : Int) (l2 : Int) (l3 : Int) (l4 : Int) (l5 : Int) (l6 : Int) (l7 : Int) (hs : Int) (sv : List UInt8) (sm : Int) (Axpv : Option Addr) (cxpv : Nat) (Axau : Option Addr) (cxau : Nat) (Axal : Option Addr) (cxal : Nat) (Axdn : Option Addr) (cxdn : Nat) (Axus : Option Addr) (cxus : Nat) (Axks : Option Addr) (cxks : Nat) (Aypv : Option Addr) (cypv : Nat) (Ayau : Option Addr) (cyau : Nat) (Ayal : Option Addr) (cyal : Nat) (Aydn : Option Addr) (cydn : Nat) (Ayus : Option Addr) (cyus : Nat) (Ayks : Option Addr) (cyks : Nat) (w : World) (hxpv : Rd w Axpv pv.length (intL pv)) (hypv : Rd w Aypv pv.length (intL pv)) (hnpv : pv.length ≤ 1000000) (hxau : Rd w Axau au.length (intL au)) (hyau : Rd w Ayau au.length (intL au)) (hnau : au.length ≤ 1000000) (hxal : Rd w Axal al.length (strL al)) (hyal : Rd w Ayal al.length (strL al)) (hnal : al.length ≤ 1000000) (hxdn : Rd w Axdn dn.length (strL dn)) (hydn : Rd w Aydn dn.length (strL dn)) (hndn : dn.length ≤ 1000000) (hxus : Rd w Axus (us.length * 2) (usrL us)) (hyus : Rd w Ayus (us.length * 2) (usrL us)) (hnus : us.length ≤ 1000000) (hxks : Rd w Axks (ks.length * 2) (kndL ks)) (hyks : Rd w Ayks (ks.length * 2) (kndL ks)) (hnks : ks.length ≤ 1000000) :
  Calls Tryz.prog 22 #[.agg #[.int .i64 e0, .string (bstr e1), .string (bstr e2), .int .i64 e3, .bool e4, .string (bstr e5), .int .i64 e6, .int .i64 e7, .slice Axpv pv.length cxpv, .slice Axau au.length cxau, .string (bstr t0), .int .i64 n1, .int .i64 n2, .bool f3, .string (bstr t4), .slice Axal al.length cxal, .slice Axdn dn.length cxdn, .slice Axus us.length cxus, .slice Axks ks.length cxks, .int .i64 l1, .int .i64 l2, .int .i64 l3, .int .i64 l4, .int .i64 l5, .int .i64 l6, .int .i64 l7, .int .i64 hs, .string (bstr sv), .int .i64 sm], .agg #[.int .i64 e0, .string (bstr e1), .string (bstr e2), .int .i64 e3, .bool e4, .string (bstr e5), .int .i64 e6, .int .i64 e7, .slice Aypv pv.length cypv, .slice Ayau au.length cyau, .string (bstr t0), .int .i64 n1, .int .i64 n2, .bool f3, .string (bstr t4), .slice Ayal al.length cyal, .slice Aydn dn.length cydn, .slice Ayus us.length cyus, .slice Ayks ks.length cyks, .int .i64 l1, .int .i64 l2, .int .i64 l3, .int .i64 l4, .int .i64 l5, .int .i64 l6, .int .i64 l7, .int .i64 hs, .string (bstr sv), .int .i64 sm]] w fun e w' => e = .returned (.bool true) ∧ Below w.heap.size w w' := by
 have hb1 := (Below.refl w.heap.size w).alloc (Nat.le_refl _) (.cells #[.int .i64 e0, .string (bstr e1), .string (bstr e2), .int .i64 e3, .bool e4, .string (bstr e5), .int .i64 e6, .int .i64 e7, .slice Axpv pv.length cxpv, .slice Axau au.length cxau, .string (bstr t0), .int .i64 n1, .int .i64 n2, .bool f3, .string (bstr t4), .slice Axal al.length cxal, .slice Axdn dn.length cxdn, .slice Axus us.length cxus, .slice Axks ks.length cxks, .int .i64 l1, .int .i64 l2, .int .i64 l3, .int .i64 l4, .int .i64 l5, .int .i64 l6, .int .i64 l7, .int .i64 hs, .string (bstr sv), .int .i64 sm] 40)
 have hb2 := hb1.alloc hb1.size (.cells #[.int .i64 e0, .string (bstr e1), .string (bstr e2), .int .i64 e3, .bool e4, .string (bstr e5), .int .i64 e6, .int .i64 e7, .slice Aypv pv.length cypv, .slice Ayau au.length cyau, .string (bstr t0), .int .i64 n1, .int .i64 n2, .bool f3, .string (bstr t4), .slice Ayal al.length cyal, .slice Aydn dn.length cydn, .slice Ayus us.length cyus, .slice Ayks ks.length cyks, .int .i64 l1, .int .i64 l2, .int .i64 l3, .int .i64 l4, .int .i64 l5, .int .i64 l6, .int .i64 l7, .int .i64 hs, .string (bstr sv), .int .i64 sm] 40)
 have HB := hid hb2
 have Hxpv := hid (hxpv.below hb2)
 have Hypv := hid (hypv.below hb2)
 have Hxau := hid (hxau.below hb2)
 have Hyau := hid (hyau.below hb2)
 have Hxal := hid (hxal.below hb2)
 have Hyal := hid (hyal.below hb2)
 have Hxdn := hid (hxdn.below hb2)
 have Hydn := hid (hydn.below hb2)
 have Hxus := hid (hxus.below hb2)
 have Hyus := hid (hyus.below hb2)
 have Hxks := hid (hxks.below hb2)
 have Hyks := hid (hyks.below hb2)
 have hk1 := (Blk.new w 40 #[.int .i64 e0, .string (bstr e1), .string (bstr e2), .int .i64 e3, .bool e4, .string (bstr e5), .int .i64 e6, .int .i64 e7, .slice Axpv pv.length cxpv, .slice Axau au.length cxau, .string (bstr t0), .int .i64 n1, .int .i64 n2, .bool f3, .string (bstr t4), .slice Axal al.length cxal, .slice Axdn dn.length cxdn, .slice Axus us.length cxus, .slice Axks ks.length cxks, .int .i64 l1, .int .i64 l2, .int .i64 l3, .int .i64 l4, .int .i64 l5, .int .i64 l6, .int .i64 l7, .int .i64 hs, .string (bstr sv), .int .i64 sm]).alloc (.cells #[.int .i64 e0, .string (bstr e1), .string (bstr e2), .int .i64 e3, .bool e4, .string (bstr e5), .int .i64 e6, .int .i64 e7, .slice Aypv pv.length cypv, .slice Ayau au.length cyau, .string (bstr t0), .int .i64 n1, .int .i64 n2, .bool f3, .string (bstr t4), .slice Ayal al.length cyal, .slice Aydn dn.length cydn, .slice Ayus us.length cyus, .slice Ayks ks.length cyks, .int .i64 l1, .int .i64 l2, .int .i64 l3, .int .i64 l4, .int .i64 l5, .int .i64 l6, .int .i64 l7, .int .i64 hs, .string (bstr sv), .int .i64 sm] 40)
 have hk2 := Blk.new (w.alloc (.cells #[.int .i64 e0, .string (bstr e1), .string (bstr e2), .int .i64 e3, .bool e4, .string (bstr e5), .int .i64 e6, .int .i64 e7, .slice Axpv pv.length cxpv, .slice Axau au.length cxau, .string (bstr t0), .int .i64 n1, .int .i64 n2, .bool f3, .string (bstr t4), .slice Axal al.length cxal, .slice Axdn dn.length cxdn, .slice Axus us.length cxus, .slice Axks ks.length cxks, .int .i64 l1, .int .i64 l2, .int .i64 l3, .int .i64 l4, .int .i64 l5, .int .i64 l6, .int .i64 l7, .int .i64 hs, .string (bstr sv), .int .i64 sm] 40)) 40 #[.int .i64 e0, .string (bstr e1), .string (bstr e2), .int .i64 e3, .bool e4, .string (bstr e5), .int .i64 e6, .int .i64 e7, .slice Aypv pv.length cypv, .slice Ayau au.length cyau, .string (bstr t0), .int .i64 n1, .int .i64 n2, .bool f3, .string (bstr t4), .slice Ayal al.length cyal, .slice Aydn dn.length cydn, .slice Ayus us.length cyus, .slice Ayks ks.length cyks, .int .i64 l1, .int .i64 l2, .int .i64 l3, .int .i64 l4, .int .i64 l5, .int .i64 l6, .int .i64 l7, .int .i64 hs, .string (bstr sv), .int .i64 sm]
 rw [World.size_alloc] at hk2
 generalize hw2 : (w.alloc (.cells #[.int .i64 e0, .string (bstr e1), .string (bstr e2), .int .i64 e3, .bool e4, .string (bstr e5), .int .i64 e6, .int .i64 e7, .slice Axpv pv.length cxpv, .slice Axau au.length cxau, .string (bstr t0), .int .i64 n1, .int .i64 n2, .bool f3, .string (bstr t4), .slice Axal al.length cxal, .slice Axdn dn.length cxdn, .slice Axus us.length cxus, .slice Axks ks.length cxks, .int .i64 l1, .int .i64 l2, .int .i64 l3, .int .i64 l4, .int .i64 l5, .int .i64 l6, .int .i64 l7, .int .i64 hs, .string (bstr sv), .int .i64 sm] 40)).alloc (.cells #[.int .i64 e0, .string (bstr e1), .string (bstr e2), .int .i64 e3, .bool e4, .string (bstr e5), .int .i64 e6, .int .i64 e7, .slice Aypv pv.length cypv, .slice Ayau au.length cyau, .string (bstr t0), .int .i64 n1, .int .i64 n2, .bool f3, .string (bstr t4), .slice Ayal al.length cyal, .slice Aydn dn.length cydn, .slice Ayus us.length cyus, .slice Ayks ks.length cyks, .int .i64 l1, .int .i64 l2, .int .i64 l3, .int .i64 l4, .int .i64 l5, .int .i64 l6, .int .i64 l7, .int .i64 hs, .string (bstr sv), .int .i64 sm] 40) = w2 at *
 have HK1 := hid hk1
 have HK2 := hid hk2
 have p0 := hk1.cell 0
 change _ = some (Value.int .i64 e0) at p0
 have p1 := hk1.cell 1
 change _ = some (Value.string (bstr e1)) at p1
 have p2 := hk1.cell 2
 change _ = some (Value.string (bstr e2)) at p2
 have p3 := hk1.cell 3
 change _ = some (Value.int .i64 e3) at p3
 have p4 := hk1.cell 4
 change _ = some (Value.bool e4) at p4
 have p5 := hk1.cell 5
 change _ = some (Value.string (bstr e5)) at p5
 have p6 := hk1.cell 6
 change _ = some (Value.int .i64 e6) at p6
 have p7 := hk1.cell 7
 change _ = some (Value.int .i64 e7) at p7
 have p8 := hk1.cell 8
 change _ = some (Value.slice Axpv pv.length cxpv) at p8
 have p9 := hk1.cell 9
 change _ = some (Value.slice Axau au.length cxau) at p9
 have p10 := hk1.cell 10
 change _ = some (Value.string (bstr t0)) at p10
 have p11 := hk1.cell 11
 change _ = some (Value.int .i64 n1) at p11
 have p12 := hk1.cell 12
 change _ = some (Value.int .i64 n2) at p12
 have p13 := hk1.cell 13
 change _ = some (Value.bool f3) at p13
 have p14 := hk1.cell 14
 change _ = some (Value.string (bstr t4)) at p14
 have p15 := hk1.cell 15
 change _ = some (Value.slice Axal al.length cxal) at p15
 have p16 := hk1.cell 16
 change _ = some (Value.slice Axdn dn.length cxdn) at p16
 have p17 := hk1.cell 17
 change _ = some (Value.slice Axus us.length cxus) at p17
 have p18 := hk1.cell 18
 change _ = some (Value.slice Axks ks.length cxks) at p18
 have p19 := hk1.cell 19
 change _ = some (Value.int .i64 l1) at p19
 have p20 := hk1.cell 20
 change _ = some (Value.int .i64 l2) at p20
 have p21 := hk1.cell 21
 change _ = some (Value.int .i64 l3) at p21
 have p22 := hk1.cell 22
 change _ = some (Value.int .i64 l4) at p22
 have p23 := hk1.cell 23
 change _ = some (Value.int .i64 l5) at p23
 have p24 := hk1.cell 24
 change _ = some (Value.int .i64 l6) at p24
 have p25 := hk1.cell 25
 change _ = some (Value.int .i64 l7) at p25
 have p26 := hk1.cell 26
 change _ = some (Value.int .i64 hs) at p26
 have p27 := hk1.cell 27
 change _ = some (Value.string (bstr sv)) at p27
 have p28 := hk1.cell 28
 change _ = some (Value.int .i64 sm) at p28
 have q0 := hk2.cell 0
 change _ = some (Value.int .i64 e0) at q0
 have q1 := hk2.cell 1
 change _ = some (Value.string (bstr e1)) at q1
 have q2 := hk2.cell 2
 change _ = some (Value.string (bstr e2)) at q2
 have q3 := hk2.cell 3
 change _ = some (Value.int .i64 e3) at q3
 have q4 := hk2.cell 4
 change _ = some (Value.bool e4) at q4
 have q5 := hk2.cell 5
 change _ = some (Value.string (bstr e5)) at q5
 have q6 := hk2.cell 6
 change _ = some (Value.int .i64 e6) at q6
 have q7 := hk2.cell 7
 change _ = some (Value.int .i64 e7) at q7
 have q8 := hk2.cell 8
 change _ = some (Value.slice Aypv pv.length cypv) at q8
 have q9 := hk2.cell 9
 change _ = some (Value.slice Ayau au.length cyau) at q9
 have q10 := hk2.cell 10
 change _ = some (Value.string (bstr t0)) at q10
 have q11 := hk2.cell 11
 change _ = some (Value.int .i64 n1) at q11
 have q12 := hk2.cell 12
 change _ = some (Value.int .i64 n2) at q12
 have q13 := hk2.cell 13
 change _ = some (Value.bool f3) at q13
 have q14 := hk2.cell 14
 change _ = some (Value.string (bstr t4)) at q14
 have q15 := hk2.cell 15
 change _ = some (Value.slice Ayal al.length cyal) at q15
 have q16 := hk2.cell 16
 change _ = some (Value.slice Aydn dn.length cydn) at q16
 have q17 := hk2.cell 17
 change _ = some (Value.slice Ayus us.length cyus) at q17
 have q18 := hk2.cell 18
 change _ = some (Value.slice Ayks ks.length cyks) at q18
 have q19 := hk2.cell 19
 change _ = some (Value.int .i64 l1) at q19
 have q20 := hk2.cell 20
 change _ = some (Value.int .i64 l2) at q20
 have q21 := hk2.cell 21
 change _ = some (Value.int .i64 l3) at q21
 have q22 := hk2.cell 22
 change _ = some (Value.int .i64 l4) at q22
 have q23 := hk2.cell 23
 change _ = some (Value.int .i64 l5) at q23
 have q24 := hk2.cell 24
 change _ = some (Value.int .i64 l6) at q24
 have q25 := hk2.cell 25
 change _ = some (Value.int .i64 l7) at q25
 have q26 := hk2.cell 26
 change _ = some (Value.int .i64 hs) at q26
 have q27 := hk2.cell 27
 change _ = some (Value.string (bstr sv)) at q27
 have q28 := hk2.cell 28
 change _ = some (Value.int .i64 sm) at q28
 clear hk1 hk2 hb1 hb2 hxpv hypv hxau hyau hxal hyal hxdn hydn hxus hyus hxks hyks
 have be0 : (e0 == e0) = true := beq_self_eq_true _
 have be1 : ((bstr e1).toList == (bstr e1).toList) = true := beq_self_eq_true _
 have be2 : ((bstr e2).toList == (bstr e2).toList) = true := beq_self_eq_true _
 have be3 : (e3 == e3) = true := beq_self_eq_true _
 have be4 : (e4 == e4) = true := beq_self_eq_true _
 have be5 : ((bstr e5).toList == (bstr e5).toList) = true := beq_self_eq_true _
 have be6 : (e6 == e6) = true := beq_self_eq_true _
 have be7 : (e7 == e7) = true := beq_self_eq_true _
 have bt0 : ((bstr t0).toList == (bstr t0).toList) = true := beq_self_eq_true _
 have bn1 : (n1 == n1) = true := beq_self_eq_true _
 have bn2 : (n2 == n2) = true := beq_self_eq_true _
 have bf3 : (f3 == f3) = true := beq_self_eq_true _
 have bt4 : ((bstr t4).toList == (bstr t4).toList) = true := beq_self_eq_true _
 have bl1 : (l1 == l1) = true := beq_self_eq_true _
 have bl2 : (l2 == l2) = true := beq_self_eq_true _
 have bl3 : (l3 == l3) = true := beq_self_eq_true _
 have bl4 : (l4 == l4) = true := beq_self_eq_true _
 have bl5 : (l5 == l5) = true := beq_self_eq_true _
 have bl6 : (l6 == l6) = true := beq_self_eq_true _
 have bl7 : (l7 == l7) = true := beq_self_eq_true _
 have bhs : (hs == hs) = true := beq_self_eq_true _
 have bsv : ((bstr sv).toList == (bstr sv).toList) = true := beq_self_eq_true _
 have bsm : (sm == sm) = true := beq_self_eq_true _
 go_enter Tryz.func22, Tryz.ntmps22
 go_wp2_with fail
 refine (sameI_any Axpv Aypv cxpv cypv pv _ Hxpv.out Hypv.out hnpv).mono ?_
 rintro e w3 ⟨rfl, n3, rfl⟩
 go_wp2_with fail
 refine (sameI_any Axau Ayau cxau cyau au (w2.drewN n3) (Hxau.out.drewN n3) (Hyau.out.drewN n3) hnau).mono ?_
 rintro e w4 ⟨rfl, n4, rfl⟩
 go_wp2_with fail
 try rw [World.drewN_drewN]
 refine (sameC_any t0 n1 n2 f3 t4 al dn us ks l1 l2 l3 l4 l5 l6 l7 Axal cxal Axdn cxdn Axus cxus Axks cxks Ayal cyal Aydn cydn Ayus cyus Ayks cyks (w2.drewN _) (Hxal.out.drewN _) (Hyal.out.drewN _) hnal (Hxdn.out.drewN _) (Hydn.out.drewN _) hndn (Hxus.out.drewN _) (Hyus.out.drewN _) hnus (Hxks.out.drewN _) (Hyks.out.drewN _) hnks).mono ?_
 rintro e w5 ⟨rfl, hb5⟩
 have HB5 := hid ((below_drewN HB.out _).trans (hb5.mono (below_drewN HB.out _).size))
 have r26 := keep_below (keep_drewN p26 _) hb5
 have z26 := keep_below (keep_drewN q26 _) hb5
 have r27 := keep_below (keep_drewN p27 _) hb5
 have z27 := keep_below (keep_drewN q27 _) hb5
 have r28 := keep_below (keep_drewN p28 _) hb5
 have z28 := keep_below (keep_drewN q28 _) hb5
 clear hb5
 go_wp2_with fail
 go_ret
 exact ⟨rfl, HB5.out⟩
end Go.Proofs.YteadlcncnhbmjaaGreatDoor
/- The text As4. -/
namespace Go.Proofs.YteadlcncnhbmjaaGreatDoor
open Go.RowKit Go.Lib
set_option linter.unusedVariables false
theorem kind_num {v : Ar.FV} (h : v.kind = .num) : ∃ x, v = .num x := by cases v <;> first | exact ⟨_, rfl⟩ | cases h
theorem kind_txt {v : Ar.FV} (h : v.kind = .txt) : ∃ x, v = .txt x := by cases v <;> first | exact ⟨_, rfl⟩ | cases h
theorem kind_flg {v : Ar.FV} (h : v.kind = .flg) : ∃ x, v = .flg x := by cases v <;> first | exact ⟨_, rfl⟩ | cases h
theorem kind_nums {v : Ar.FV} (h : v.kind = .nums) : ∃ x, v = .nums x := by cases v <;> first | exact ⟨_, rfl⟩ | cases h
theorem kind_txts {v : Ar.FV} (h : v.kind = .txts) : ∃ x, v = .txts x := by cases v <;> first | exact ⟨_, rfl⟩ | cases h
theorem kind_usrs {v : Ar.FV} (h : v.kind = .usrs) : ∃ x, v = .usrs x := by cases v <;> first | exact ⟨_, rfl⟩ | cases h
theorem kind_knds {v : Ar.FV} (h : v.kind = .knds) : ∃ x, v = .knds x := by cases v <;> first | exact ⟨_, rfl⟩ | cases h
theorem ev29 {e : List Ar.FV} (h : Ar.Fits Ar.NK e) : ∃ (e0 : Int) (e1 : List UInt8) (e2 : List UInt8) (e3 : Int) (e4 : Bool) (e5 : List UInt8) (e6 : Int) (e7 : Int) (pv : List Int) (au : List Int) (t0 : List UInt8) (n1 : Int) (n2 : Int) (f3 : Bool) (t4 : List UInt8) (al : List (List UInt8)) (dn : List (List UInt8)) (us : List (List UInt8 × Int)) (ks : List (Int × Int)) (l1 : Int) (l2 : Int) (l3 : Int) (l4 : Int) (l5 : Int) (l6 : Int) (l7 : Int) (hs : Int) (sv : List UInt8) (sm : Int), e = [.num e0, .txt e1, .txt e2, .num e3, .flg e4, .txt e5, .num e6, .num e7, .nums pv, .nums au, .txt t0, .num n1, .num n2, .flg f3, .txt t4, .txts al, .txts dn, .usrs us, .knds ks, .num l1, .num l2, .num l3, .num l4, .num l5, .num l6, .num l7, .num hs, .txt sv, .num sm] := by
 have hl : e.length = 29 := h.1
 have g0 : e[0]? = some (e[0]'(by omega)) := List.getElem?_eq_getElem (by omega)
 obtain ⟨e0, v0⟩ := kind_num (h.2 0 _ _ rfl g0).1
 rw [v0] at g0
 have g1 : e[1]? = some (e[1]'(by omega)) := List.getElem?_eq_getElem (by omega)
 obtain ⟨e1, v1⟩ := kind_txt (h.2 1 _ _ rfl g1).1
 rw [v1] at g1
 have g2 : e[2]? = some (e[2]'(by omega)) := List.getElem?_eq_getElem (by omega)
 obtain ⟨e2, v2⟩ := kind_txt (h.2 2 _ _ rfl g2).1
 rw [v2] at g2
 have g3 : e[3]? = some (e[3]'(by omega)) := List.getElem?_eq_getElem (by omega)
 obtain ⟨e3, v3⟩ := kind_num (h.2 3 _ _ rfl g3).1
 rw [v3] at g3
 have g4 : e[4]? = some (e[4]'(by omega)) := List.getElem?_eq_getElem (by omega)
 obtain ⟨e4, v4⟩ := kind_flg (h.2 4 _ _ rfl g4).1
 rw [v4] at g4
 have g5 : e[5]? = some (e[5]'(by omega)) := List.getElem?_eq_getElem (by omega)
 obtain ⟨e5, v5⟩ := kind_txt (h.2 5 _ _ rfl g5).1
 rw [v5] at g5
 have g6 : e[6]? = some (e[6]'(by omega)) := List.getElem?_eq_getElem (by omega)
 obtain ⟨e6, v6⟩ := kind_num (h.2 6 _ _ rfl g6).1
 rw [v6] at g6
 have g7 : e[7]? = some (e[7]'(by omega)) := List.getElem?_eq_getElem (by omega)
 obtain ⟨e7, v7⟩ := kind_num (h.2 7 _ _ rfl g7).1
 rw [v7] at g7
 have g8 : e[8]? = some (e[8]'(by omega)) := List.getElem?_eq_getElem (by omega)
 obtain ⟨pv, v8⟩ := kind_nums (h.2 8 _ _ rfl g8).1
 rw [v8] at g8
 have g9 : e[9]? = some (e[9]'(by omega)) := List.getElem?_eq_getElem (by omega)
 obtain ⟨au, v9⟩ := kind_nums (h.2 9 _ _ rfl g9).1
 rw [v9] at g9
 have g10 : e[10]? = some (e[10]'(by omega)) := List.getElem?_eq_getElem (by omega)
 obtain ⟨t0, v10⟩ := kind_txt (h.2 10 _ _ rfl g10).1
 rw [v10] at g10
 have g11 : e[11]? = some (e[11]'(by omega)) := List.getElem?_eq_getElem (by omega)
 obtain ⟨n1, v11⟩ := kind_num (h.2 11 _ _ rfl g11).1
 rw [v11] at g11
 have g12 : e[12]? = some (e[12]'(by omega)) := List.getElem?_eq_getElem (by omega)
 obtain ⟨n2, v12⟩ := kind_num (h.2 12 _ _ rfl g12).1
 rw [v12] at g12
 have g13 : e[13]? = some (e[13]'(by omega)) := List.getElem?_eq_getElem (by omega)
 obtain ⟨f3, v13⟩ := kind_flg (h.2 13 _ _ rfl g13).1
 rw [v13] at g13
 have g14 : e[14]? = some (e[14]'(by omega)) := List.getElem?_eq_getElem (by omega)
 obtain ⟨t4, v14⟩ := kind_txt (h.2 14 _ _ rfl g14).1
 rw [v14] at g14
 have g15 : e[15]? = some (e[15]'(by omega)) := List.getElem?_eq_getElem (by omega)
 obtain ⟨al, v15⟩ := kind_txts (h.2 15 _ _ rfl g15).1
 rw [v15] at g15
 have g16 : e[16]? = some (e[16]'(by omega)) := List.getElem?_eq_getElem (by omega)
 obtain ⟨dn, v16⟩ := kind_txts (h.2 16 _ _ rfl g16).1
 rw [v16] at g16
 have g17 : e[17]? = some (e[17]'(by omega)) := List.getElem?_eq_getElem (by omega)
 obtain ⟨us, v17⟩ := kind_usrs (h.2 17 _ _ rfl g17).1
 rw [v17] at g17
 have g18 : e[18]? = some (e[18]'(by omega)) := List.getElem?_eq_getElem (by omega)
 obtain ⟨ks, v18⟩ := kind_knds (h.2 18 _ _ rfl g18).1
 rw [v18] at g18
 have g19 : e[19]? = some (e[19]'(by omega)) := List.getElem?_eq_getElem (by omega)
 obtain ⟨l1, v19⟩ := kind_num (h.2 19 _ _ rfl g19).1
 rw [v19] at g19
 have g20 : e[20]? = some (e[20]'(by omega)) := List.getElem?_eq_getElem (by omega)
 obtain ⟨l2, v20⟩ := kind_num (h.2 20 _ _ rfl g20).1
 rw [v20] at g20
 have g21 : e[21]? = some (e[21]'(by omega)) := List.getElem?_eq_getElem (by omega)
 obtain ⟨l3, v21⟩ := kind_num (h.2 21 _ _ rfl g21).1
 rw [v21] at g21
 have g22 : e[22]? = some (e[22]'(by omega)) := List.getElem?_eq_getElem (by omega)
 obtain ⟨l4, v22⟩ := kind_num (h.2 22 _ _ rfl g22).1
 rw [v22] at g22
 have g23 : e[23]? = some (e[23]'(by omega)) := List.getElem?_eq_getElem (by omega)
 obtain ⟨l5, v23⟩ := kind_num (h.2 23 _ _ rfl g23).1
 rw [v23] at g23
 have g24 : e[24]? = some (e[24]'(by omega)) := List.getElem?_eq_getElem (by omega)
 obtain ⟨l6, v24⟩ := kind_num (h.2 24 _ _ rfl g24).1
 rw [v24] at g24
 have g25 : e[25]? = some (e[25]'(by omega)) := List.getElem?_eq_getElem (by omega)
 obtain ⟨l7, v25⟩ := kind_num (h.2 25 _ _ rfl g25).1
 rw [v25] at g25
 have g26 : e[26]? = some (e[26]'(by omega)) := List.getElem?_eq_getElem (by omega)
 obtain ⟨hs, v26⟩ := kind_num (h.2 26 _ _ rfl g26).1
 rw [v26] at g26
 have g27 : e[27]? = some (e[27]'(by omega)) := List.getElem?_eq_getElem (by omega)
 obtain ⟨sv, v27⟩ := kind_txt (h.2 27 _ _ rfl g27).1
 rw [v27] at g27
 have g28 : e[28]? = some (e[28]'(by omega)) := List.getElem?_eq_getElem (by omega)
 obtain ⟨sm, v28⟩ := kind_num (h.2 28 _ _ rfl g28).1
 rw [v28] at g28
 refine ⟨e0, e1, e2, e3, e4, e5, e6, e7, pv, au, t0, n1, n2, f3, t4, al, dn, us, ks, l1, l2, l3, l4, l5, l6, l7, hs, sv, sm, ?_⟩
 apply List.ext_getElem?
 intro i
 by_cases hi : i < 29
 ·match i, hi with
  | 0, _ => exact g0
  | 1, _ => exact g1
  | 2, _ => exact g2
  | 3, _ => exact g3
  | 4, _ => exact g4
  | 5, _ => exact g5
  | 6, _ => exact g6
  | 7, _ => exact g7
  | 8, _ => exact g8
  | 9, _ => exact g9
  | 10, _ => exact g10
  | 11, _ => exact g11
  | 12, _ => exact g12
  | 13, _ => exact g13
  | 14, _ => exact g14
  | 15, _ => exact g15
  | 16, _ => exact g16
  | 17, _ => exact g17
  | 18, _ => exact g18
  | 19, _ => exact g19
  | 20, _ => exact g20
  | 21, _ => exact g21
  | 22, _ => exact g22
  | 23, _ => exact g23
  | 24, _ => exact g24
  | 25, _ => exact g25
  | 26, _ => exact g26
  | 27, _ => exact g27
  | 28, _ => exact g28
  | n + 29, hi => exact absurd hi (by omega)
 ·rw [List.getElem?_eq_none (by omega), List.getElem?_eq_none (by simp; omega)]
theorem ev_same {ok1 ok2 : Nat → Prop} {w : World} {X Y : Array Value} {e : List Ar.FV} (hx : EvOf ok1 w X e) (hy : EvOf ok2 w Y e) (hw : ∀ v ∈ e, v.WOk) :
  Calls Tryz.prog 22 #[.agg X, .agg Y] w fun e w' => e = .returned (.bool true) ∧ Below w.heap.size w w' := by
 obtain ⟨e0, e1, e2, e3, e4, e5, e6, e7, pv, au, t0, n1, n2, f3, t4, al, dn, us, ks, l1, l2, l3, l4, l5, l6, l7, hs, sv, sm, rfl⟩ := ev29 hx.fits
 obtain ⟨_, gx0, rfl⟩ := hx.cell 0 _ rfl
 obtain ⟨_, gx1, rfl⟩ := hx.cell 1 _ rfl
 obtain ⟨_, gx2, rfl⟩ := hx.cell 2 _ rfl
 obtain ⟨_, gx3, rfl⟩ := hx.cell 3 _ rfl
 obtain ⟨_, gx4, rfl⟩ := hx.cell 4 _ rfl
 obtain ⟨_, gx5, rfl⟩ := hx.cell 5 _ rfl
 obtain ⟨_, gx6, rfl⟩ := hx.cell 6 _ rfl
 obtain ⟨_, gx7, rfl⟩ := hx.cell 7 _ rfl
 obtain ⟨_, gx8, Axpv, cxpv, rfl, hxpv, -⟩ := hx.cell 8 _ rfl
 obtain ⟨_, gx9, Axau, cxau, rfl, hxau, -⟩ := hx.cell 9 _ rfl
 obtain ⟨_, gx10, rfl⟩ := hx.cell 10 _ rfl
 obtain ⟨_, gx11, rfl⟩ := hx.cell 11 _ rfl
 obtain ⟨_, gx12, rfl⟩ := hx.cell 12 _ rfl
 obtain ⟨_, gx13, rfl⟩ := hx.cell 13 _ rfl
 obtain ⟨_, gx14, rfl⟩ := hx.cell 14 _ rfl
 obtain ⟨_, gx15, Axal, cxal, rfl, hxal, -⟩ := hx.cell 15 _ rfl
 obtain ⟨_, gx16, Axdn, cxdn, rfl, hxdn, -⟩ := hx.cell 16 _ rfl
 obtain ⟨_, gx17, Axus, cxus, rfl, hxus, -⟩ := hx.cell 17 _ rfl
 obtain ⟨_, gx18, Axks, cxks, rfl, hxks, -⟩ := hx.cell 18 _ rfl
 obtain ⟨_, gx19, rfl⟩ := hx.cell 19 _ rfl
 obtain ⟨_, gx20, rfl⟩ := hx.cell 20 _ rfl
 obtain ⟨_, gx21, rfl⟩ := hx.cell 21 _ rfl
 obtain ⟨_, gx22, rfl⟩ := hx.cell 22 _ rfl
 obtain ⟨_, gx23, rfl⟩ := hx.cell 23 _ rfl
 obtain ⟨_, gx24, rfl⟩ := hx.cell 24 _ rfl
 obtain ⟨_, gx25, rfl⟩ := hx.cell 25 _ rfl
 obtain ⟨_, gx26, rfl⟩ := hx.cell 26 _ rfl
 obtain ⟨_, gx27, rfl⟩ := hx.cell 27 _ rfl
 obtain ⟨_, gx28, rfl⟩ := hx.cell 28 _ rfl
 have EX : X = #[.int .i64 e0, .string (bstr e1), .string (bstr e2), .int .i64 e3, .bool e4, .string (bstr e5), .int .i64 e6, .int .i64 e7, .slice Axpv pv.length cxpv, .slice Axau au.length cxau, .string (bstr t0), .int .i64 n1, .int .i64 n2, .bool f3, .string (bstr t4), .slice Axal al.length cxal, .slice Axdn dn.length cxdn, .slice Axus us.length cxus, .slice Axks ks.length cxks, .int .i64 l1, .int .i64 l2, .int .i64 l3, .int .i64 l4, .int .i64 l5, .int .i64 l6, .int .i64 l7, .int .i64 hs, .string (bstr sv), .int .i64 sm] := by
  apply Array.ext_getElem?
  intro i
  by_cases hi : i < 29
  ·match i, hi with
   | 0, _ => exact gx0
   | 1, _ => exact gx1
   | 2, _ => exact gx2
   | 3, _ => exact gx3
   | 4, _ => exact gx4
   | 5, _ => exact gx5
   | 6, _ => exact gx6
   | 7, _ => exact gx7
   | 8, _ => exact gx8
   | 9, _ => exact gx9
   | 10, _ => exact gx10
   | 11, _ => exact gx11
   | 12, _ => exact gx12
   | 13, _ => exact gx13
   | 14, _ => exact gx14
   | 15, _ => exact gx15
   | 16, _ => exact gx16
   | 17, _ => exact gx17
   | 18, _ => exact gx18
   | 19, _ => exact gx19
   | 20, _ => exact gx20
   | 21, _ => exact gx21
   | 22, _ => exact gx22
   | 23, _ => exact gx23
   | 24, _ => exact gx24
   | 25, _ => exact gx25
   | 26, _ => exact gx26
   | 27, _ => exact gx27
   | 28, _ => exact gx28
   | n + 29, hi => exact absurd hi (by omega)
  ·rw [Array.getElem?_eq_none (by have := hx.size; omega), Array.getElem?_eq_none (by simp; omega)]
 obtain ⟨_, gy0, rfl⟩ := hy.cell 0 _ rfl
 obtain ⟨_, gy1, rfl⟩ := hy.cell 1 _ rfl
 obtain ⟨_, gy2, rfl⟩ := hy.cell 2 _ rfl
 obtain ⟨_, gy3, rfl⟩ := hy.cell 3 _ rfl
 obtain ⟨_, gy4, rfl⟩ := hy.cell 4 _ rfl
 obtain ⟨_, gy5, rfl⟩ := hy.cell 5 _ rfl
 obtain ⟨_, gy6, rfl⟩ := hy.cell 6 _ rfl
 obtain ⟨_, gy7, rfl⟩ := hy.cell 7 _ rfl
 obtain ⟨_, gy8, Aypv, cypv, rfl, hypv, -⟩ := hy.cell 8 _ rfl
 obtain ⟨_, gy9, Ayau, cyau, rfl, hyau, -⟩ := hy.cell 9 _ rfl
 obtain ⟨_, gy10, rfl⟩ := hy.cell 10 _ rfl
 obtain ⟨_, gy11, rfl⟩ := hy.cell 11 _ rfl
 obtain ⟨_, gy12, rfl⟩ := hy.cell 12 _ rfl
 obtain ⟨_, gy13, rfl⟩ := hy.cell 13 _ rfl
 obtain ⟨_, gy14, rfl⟩ := hy.cell 14 _ rfl
 obtain ⟨_, gy15, Ayal, cyal, rfl, hyal, -⟩ := hy.cell 15 _ rfl
 obtain ⟨_, gy16, Aydn, cydn, rfl, hydn, -⟩ := hy.cell 16 _ rfl
 obtain ⟨_, gy17, Ayus, cyus, rfl, hyus, -⟩ := hy.cell 17 _ rfl
 obtain ⟨_, gy18, Ayks, cyks, rfl, hyks, -⟩ := hy.cell 18 _ rfl
 obtain ⟨_, gy19, rfl⟩ := hy.cell 19 _ rfl
 obtain ⟨_, gy20, rfl⟩ := hy.cell 20 _ rfl
 obtain ⟨_, gy21, rfl⟩ := hy.cell 21 _ rfl
 obtain ⟨_, gy22, rfl⟩ := hy.cell 22 _ rfl
 obtain ⟨_, gy23, rfl⟩ := hy.cell 23 _ rfl
 obtain ⟨_, gy24, rfl⟩ := hy.cell 24 _ rfl
 obtain ⟨_, gy25, rfl⟩ := hy.cell 25 _ rfl
 obtain ⟨_, gy26, rfl⟩ := hy.cell 26 _ rfl
 obtain ⟨_, gy27, rfl⟩ := hy.cell 27 _ rfl
 obtain ⟨_, gy28, rfl⟩ := hy.cell 28 _ rfl
 have EY : Y = #[.int .i64 e0, .string (bstr e1), .string (bstr e2), .int .i64 e3, .bool e4, .string (bstr e5), .int .i64 e6, .int .i64 e7, .slice Aypv pv.length cypv, .slice Ayau au.length cyau, .string (bstr t0), .int .i64 n1, .int .i64 n2, .bool f3, .string (bstr t4), .slice Ayal al.length cyal, .slice Aydn dn.length cydn, .slice Ayus us.length cyus, .slice Ayks ks.length cyks, .int .i64 l1, .int .i64 l2, .int .i64 l3, .int .i64 l4, .int .i64 l5, .int .i64 l6, .int .i64 l7, .int .i64 hs, .string (bstr sv), .int .i64 sm] := by
  apply Array.ext_getElem?
  intro i
  by_cases hi : i < 29
  ·match i, hi with
   | 0, _ => exact gy0
   | 1, _ => exact gy1
   | 2, _ => exact gy2
   | 3, _ => exact gy3
   | 4, _ => exact gy4
   | 5, _ => exact gy5
   | 6, _ => exact gy6
   | 7, _ => exact gy7
   | 8, _ => exact gy8
   | 9, _ => exact gy9
   | 10, _ => exact gy10
   | 11, _ => exact gy11
   | 12, _ => exact gy12
   | 13, _ => exact gy13
   | 14, _ => exact gy14
   | 15, _ => exact gy15
   | 16, _ => exact gy16
   | 17, _ => exact gy17
   | 18, _ => exact gy18
   | 19, _ => exact gy19
   | 20, _ => exact gy20
   | 21, _ => exact gy21
   | 22, _ => exact gy22
   | 23, _ => exact gy23
   | 24, _ => exact gy24
   | 25, _ => exact gy25
   | 26, _ => exact gy26
   | 27, _ => exact gy27
   | 28, _ => exact gy28
   | n + 29, hi => exact absurd hi (by omega)
  ·rw [Array.getElem?_eq_none (by have := hy.size; omega), Array.getElem?_eq_none (by simp; omega)]
 rw [EX, EY]
 exact same7_any e0 e1 e2 e3 e4 e5 e6 e7 pv au t0 n1 n2 f3 t4 al dn us ks l1 l2 l3 l4 l5 l6 l7 hs sv sm Axpv cxpv Axau cxau Axal cxal Axdn cxdn Axus cxus Axks cxks Aypv cypv Ayau cyau Ayal cyal Aydn cydn Ayus cyus Ayks cyks w (by have h := hxpv; rw [Nat.mul_one] at h; exact h) (by have h := hypv; rw [Nat.mul_one] at h; exact h) ((hw (.nums pv) (List.mem_of_getElem? (i := 8) rfl)).2.2) (by have h := hxau; rw [Nat.mul_one] at h; exact h) (by have h := hyau; rw [Nat.mul_one] at h; exact h) ((hw (.nums au) (List.mem_of_getElem? (i := 9) rfl)).2.2) (by have h := hxal; rw [Nat.mul_one] at h; exact h) (by have h := hyal; rw [Nat.mul_one] at h; exact h) ((hw (.txts al) (List.mem_of_getElem? (i := 15) rfl)).2.2.1) (by have h := hxdn; rw [Nat.mul_one] at h; exact h) (by have h := hydn; rw [Nat.mul_one] at h; exact h) ((hw (.txts dn) (List.mem_of_getElem? (i := 16) rfl)).2.2.1) (by have h := hxus; exact h) (by have h := hyus; exact h) ((hw (.usrs us) (List.mem_of_getElem? (i := 17) rfl)).2.2.1) (by have h := hxks; exact h) (by have h := hyks; exact h) ((hw (.knds ks) (List.mem_of_getElem? (i := 18) rfl)).2.2)
end Go.Proofs.YteadlcncnhbmjaaGreatDoor
/- The text Al1. -/
namespace Ar
def e0 : List FV := ((((zeros NK).set 0 (.num 5)).set 3 (.num 11)).set 8 (.nums [3, 4])).set 10 (.txt [104, 105])
def line0 : Str := [105, 100, 61, 53, 32, 107, 105, 110, 100, 61, 49, 49, 32, 112, 114, 101, 118, 61, 51, 44, 52, 32, 116, 101, 120, 116, 61, 34, 104, 105, 34]
theorem line_e0 : line e0 = line0 := by decide
theorem e0_fits : Fits NK e0 := by
 unfold e0
 refine Fits.set (Fits.set (Fits.set (Fits.set zeros_fits ⟨rfl, ?_⟩) ⟨rfl, ?_⟩) ⟨rfl, ?_⟩) ⟨rfl, trivial⟩
 ·show inInt 5; unfold inInt; omega
 ·show inInt 11; unfold inInt; omega
 ·intro n hn
  simp only [List.mem_cons, List.not_mem_nil, or_false] at hn
  unfold inInt
  rcases hn with rfl | rfl <;> omega
theorem zeros_wok : ∀ v ∈ zeros NK, v.WOk := by
 intro v hv
 obtain ⟨p, _, rfl⟩ := List.mem_map.1 hv
 exact (zero_fine p.2 0).1
theorem set_wok {e : List FV} (h : ∀ v ∈ e, v.WOk) (i : Nat) {u : FV} (hu : u.WOk) : ∀ v ∈ e.set i u, v.WOk := by
 intro v hv
 rcases List.mem_or_eq_of_mem_set hv with hv | rfl
 ·exact h v hv
 ·exact hu
theorem e0_wok : ∀ v ∈ e0, v.WOk := by
 unfold e0
 refine set_wok (u := .txt [104, 105]) (set_wok (u := .nums [3, 4]) (set_wok (u := .num 11) (set_wok (u := .num 5) zeros_wok 0 ⟨?_, by decide, trivial⟩) 3 ⟨?_, by decide, trivial⟩) 8 ⟨?_, by decide, show (2 : Nat) ≤ 1000000 by decide⟩) 10 ⟨trivial, by decide, show (2 : Nat) ≤ 1000000 by decide⟩
 ·show inInt 5; unfold inInt; omega
 ·show inInt 11; unfold inInt; omega
 ·intro n hn
  simp only [List.mem_cons, List.not_mem_nil, or_false] at hn
  unfold inInt
  rcases hn with rfl | rfl <;> omega
theorem parse_line0 : parse line0 = some e0 := by rw [← line_e0]; exact parse_line e0 e0_fits
def ta : Str := [97, 10, 98, 10, 99]
def tb : Str := [97, 10, 99, 10, 100]
def td : List Str := [[61, 32, 49], [45, 32, 98], [61, 32, 49], [43, 32, 100]]
theorem ta_lines : lines ta = [[97], [98], [99]] := by decide
theorem tb_lines : lines tb = [[97], [99], [100]] := by decide
theorem dis1 : dis [[98], [99]] [[99], [100]] = 2 := by
 rw [dis_ne _ _ (by decide), dis_eq, dis_nil, dis_ne _ _ (by decide), dis_ne _ _ (by decide), dis_nil2, dis_nil2]
 rw [dis_nil]
 decide
theorem diff_ab : diff (lines ta) (lines tb) = [.keep 1, .del [98], .keep 1, .add [100]] := by
 rw [ta_lines, tb_lines]
 unfold diff
 rw [dl_eq, dl_del _ _ _ (by decide) (by rw [dis1, dis_eq, dis_nil]; rfl), dl_eq, dl_add0, dl_end]
 rfl
theorem diff_td : (diff (lines ta) (lines tb)).map Ed.enc = td := by rw [diff_ab]; decide
theorem apply_td : apply ta td = some tb := by decide
theorem write0 : write room0 = some text0 := by decide
theorem quote0 : quote [97, 10, 255] = [34, 97, 92, 110, 92, 120, 102, 102, 34] := by decide
theorem unq0 : unquote [34, 98, 34, 99] = some ([98], [99]) := by decide
end Ar
/- The text Ap0. -/
namespace Ar
def disA (x y : List Str) (i j : Nat) : Nat := dis (x.drop i) (y.drop j)
theorem disA_i (x y : List Str) (j : Nat) : disA x y x.length j = y.length - j := by unfold disA; rw [List.drop_length, dis_nil, List.length_drop]
theorem disA_j (x y : List Str) (i : Nat) : disA x y i y.length = x.length - i := by unfold disA; rw [List.drop_length, dis_nil2, List.length_drop]
theorem drop_at {x : List Str} {i : Nat} {a : Str} (h : x[i]? = some a) : x.drop i = a :: x.drop (i + 1) := by
 obtain ⟨h1, h2⟩ := List.getElem?_eq_some_iff.1 h
 rw [List.drop_eq_getElem_cons h1, h2]
theorem disA_eq {x y : List Str} {i j : Nat} {a b : Str} (hx : x[i]? = some a) (hy : y[j]? = some b) (h : a = b) : disA x y i j = disA x y (i + 1) (j + 1) := by
 unfold disA
 rw [drop_at hx, drop_at hy, h, dis_eq]
theorem disA_ne {x y : List Str} {i j : Nat} {a b : Str} (hx : x[i]? = some a) (hy : y[j]? = some b) (h : a ≠ b) : disA x y i j = 1 + min (disA x y (i + 1) j) (disA x y i (j + 1)) := by
 unfold disA
 rw [drop_at hx, drop_at hy, dis_ne _ _ h]
theorem disA_le (x y : List Str) (i j : Nat) : disA x y i j ≤ x.length + y.length := by
 unfold disA
 have := dis_le (x.drop i) (y.drop j)
 rw [List.length_drop, List.length_drop] at this
 omega
def dlA (x y : List Str) (i j n : Nat) : List Ed := dl (x.drop i) (y.drop j) n
theorem dlA_end (x y : List Str) (n : Nat) : dlA x y x.length y.length n = flush n := by unfold dlA; rw [List.drop_length, List.drop_length, dl_end]
theorem dlA_eq {x y : List Str} {i j : Nat} {a b : Str} (n : Nat) (hx : x[i]? = some a) (hy : y[j]? = some b) (h : a = b) : dlA x y i j n = dlA x y (i + 1) (j + 1) (n + 1) := by
 unfold dlA
 rw [drop_at hx, drop_at hy, h, dl_eq]
theorem dlA_del0 {x y : List Str} {i : Nat} {a : Str} (n : Nat) (hx : x[i]? = some a) : dlA x y i y.length n = flush n ++ .del a :: dlA x y (i + 1) y.length 0 := by
 unfold dlA
 rw [drop_at hx, List.drop_length, dl_del0]
theorem dlA_add0 {x y : List Str} {j : Nat} {b : Str} (n : Nat) (hy : y[j]? = some b) : dlA x y x.length j n = flush n ++ .add b :: dlA x y x.length (j + 1) 0 := by
 unfold dlA
 rw [drop_at hy, List.drop_length, dl_add0]
theorem dlA_del {x y : List Str} {i j : Nat} {a b : Str} (n : Nat) (hx : x[i]? = some a) (hy : y[j]? = some b) (h : a ≠ b) (h2 : disA x y (i + 1) j + 1 = disA x y i j) : dlA x y i j n = flush n ++ .del a :: dlA x y (i + 1) j 0 := by
 unfold dlA
 have e2 := drop_at hy
 unfold disA at h2
 rw [drop_at hx, e2] at h2
 rw [drop_at hx, e2, dl_del _ _ _ h h2]
theorem dlA_add {x y : List Str} {i j : Nat} {a b : Str} (n : Nat) (hx : x[i]? = some a) (hy : y[j]? = some b) (h : a ≠ b) (h2 : ¬ disA x y (i + 1) j + 1 = disA x y i j) : dlA x y i j n = flush n ++ .add b :: dlA x y i (j + 1) 0 := by
 unfold dlA
 have e1 := drop_at hx
 unfold disA at h2
 rw [e1, drop_at hy] at h2
 rw [e1, drop_at hy, dl_add _ _ _ h h2]
end Ar
/- The text Ap1. -/
namespace Go.Proofs.YteadlcncnhbmjaaGreatDoor
open Go.RowKit Go.Lib
set_option linter.unusedVariables false
def DRow (w : World) (g : Nat) (x y : List (List UInt8)) (i j : Nat) : Prop :=
 ∃ rc, Blk w g 3 rc ∧ rc.size = y.length + 1 ∧ ∀ j', j ≤ j' → j' ≤ y.length → rc[j']? = some (.int .i64 (Ar.disA x y i j' : Nat))
def DTab (w : World) (D : Nat) (x y : List (List UInt8)) (k : Nat) : Prop :=
 ∃ cur, Blk w D 29 cur ∧ cur.size = x.length + 1 ∧ ∀ i, k ≤ i → i ≤ x.length → ∃ g, cur[i]? = some (.slice (some ⟨g, 0, none⟩) (y.length + 1) (y.length + 1)) ∧ D < g ∧ DRow w g x y i 0
theorem DRow.at {w : World} {g : Nat} {x y : List (List UInt8)} {i j : Nat} (h : DRow w g x y i j) {j' : Nat} (h1 : j ≤ j') (h2 : j' ≤ y.length) : w.cell? ⟨g, j', none⟩ = some (.int .i64 (Ar.disA x y i j' : Nat)) := by
 obtain ⟨rc, hb, hs, hv⟩ := h
 rw [hb.cell]
 exact hv j' h1 h2
theorem DRow.any {w : World} {g : Nat} {x y : List (List UInt8)} {i j : Nat} (h : DRow w g x y i j) {j' : Nat} (h2 : j' ≤ y.length) : ∃ v, w.cell? ⟨g, j', none⟩ = some v := by
 obtain ⟨rc, hb, hs, hv⟩ := h
 rw [hb.cell]
 exact ⟨_, Array.getElem?_eq_getElem (by omega)⟩
theorem DRow.frozen {w : World} {g : Nat} {x y : List (List UInt8)} {i j : Nat} (h : DRow w g x y i j) (j' : Nat) : w.frozen? ⟨g, j', none⟩ = false := by
 obtain ⟨rc, hb, hs, hv⟩ := h
 exact hb.frozen j'
theorem DRow.lt {w : World} {g : Nat} {x y : List (List UInt8)} {i j : Nat} (h : DRow w g x y i j) : g < w.heap.size := by
 obtain ⟨rc, hb, _⟩ := h
 exact hb.lt
theorem DRow.grown {w w' : World} {g : Nat} {x y : List (List UInt8)} {i j : Nat} {row : Option Nat} (h : DRow w g x y i j) (hg : w.grownBy w' row) (hne : some g ≠ row) : DRow w' g x y i j := by
 obtain ⟨rc, hb, hs, hv⟩ := h
 exact ⟨rc, hb.grown hg hne, hs, hv⟩
theorem DRow.set {w : World} {g : Nat} {x y : List (List UInt8)} {i j : Nat} (h : DRow w g x y i (j + 1)) (hj : j ≤ y.length) {n : Int} (hn : n = (Ar.disA x y i j : Nat)) : DRow (w.setCell ⟨g, j, none⟩ (.int .i64 n)) g x y i j := by
 obtain ⟨rc, hb, hs, hv⟩ := h
 refine ⟨rc.setIfInBounds j (.int .i64 n), hb.set_ j _, by rw [Array.size_setIfInBounds]; exact hs, fun j' h1 h2 => ?_⟩
 rw [Array.getElem?_setIfInBounds]
 by_cases e : j = j'
 ·subst e
  rw [if_pos rfl, if_pos (by omega), hn]
 ·rw [if_neg e]
  exact hv j' (by omega) h2
theorem DTab.grown {w w' : World} {D : Nat} {x y : List (List UInt8)} {k : Nat} {row : Option Nat} (h : DTab w D x y k) (hg : w.grownBy w' row) (hne : ∀ g, row = some g → g ≠ D ∧ ∀ i, k ≤ i → i ≤ x.length → ∀ g', w.cell? ⟨D, i, none⟩ = some (.slice (some ⟨g', 0, none⟩) (y.length + 1) (y.length + 1)) → g' ≠ g) : DTab w' D x y k := by
 obtain ⟨cur, hb, hs, hv⟩ := h
 refine ⟨cur, hb.grown hg (fun e => (hne _ e.symm).1 rfl), hs, fun i h1 h2 => ?_⟩
 obtain ⟨g, hc, hlt, hr⟩ := hv i h1 h2
 exact ⟨g, hc, hlt, hr.grown hg (fun e => (hne _ e.symm).2 i h1 h2 g (by rw [hb.cell]; exact hc) rfl)⟩
theorem DTab.below {w w' : World} {D : Nat} {x y : List (List UInt8)} {k : Nat} (h : DTab w D x y k) (hb : Below w.heap.size w w') : DTab w' D x y k := h.grown (grown_below hb none) (fun g e => by cases e)
theorem DTab.at {w : World} {D : Nat} {x y : List (List UInt8)} {k : Nat} (h : DTab w D x y k) {i : Nat} (h1 : k ≤ i) (h2 : i ≤ x.length) : ∃ g, w.cell? ⟨D, i, none⟩ = some (.slice (some ⟨g, 0, none⟩) (y.length + 1) (y.length + 1)) ∧ D < g ∧ DRow w g x y i 0 := by
 obtain ⟨cur, hb, hs, hv⟩ := h
 obtain ⟨g, hc, hr⟩ := hv i h1 h2
 exact ⟨g, by rw [hb.cell]; exact hc, hr⟩
theorem DTab.any {w : World} {D : Nat} {x y : List (List UInt8)} {k : Nat} (h : DTab w D x y k) {i : Nat} (h2 : i ≤ x.length) : ∃ v, w.cell? ⟨D, i, none⟩ = some v := by
 obtain ⟨cur, hb, hs, hv⟩ := h
 rw [hb.cell]
 exact ⟨_, Array.getElem?_eq_getElem (by omega)⟩
theorem DTab.frozen {w : World} {D : Nat} {x y : List (List UInt8)} {k : Nat} (h : DTab w D x y k) (i : Nat) : w.frozen? ⟨D, i, none⟩ = false := by
 obtain ⟨cur, hb, hs, hv⟩ := h
 exact hb.frozen i
theorem DTab.lt {w : World} {D : Nat} {x y : List (List UInt8)} {k : Nat} (h : DTab w D x y k) : D < w.heap.size := by
 obtain ⟨cur, hb, _⟩ := h
 exact hb.lt
theorem DTab.put {w : World} {D : Nat} {x y : List (List UInt8)} {i g : Nat} (h : DTab w D x y (i + 1)) (hi : i ≤ x.length) (hg : D < g) (hw : w.cell? ⟨D, i, none⟩ = some (.slice (some ⟨g, 0, none⟩) (y.length + 1) (y.length + 1))) (hr : DRow w g x y i 0) : DTab w D x y i := by
 obtain ⟨cur, hb, hs, hv⟩ := h
 refine ⟨cur, hb, hs, fun j h1 h2 => ?_⟩
 by_cases e : j = i
 ·subst e
  exact ⟨g, by rw [← hb.cell]; exact hw, hg, hr⟩
 ·exact hv j (by omega) h2
theorem DTab.setD {w : World} {D : Nat} {x y : List (List UInt8)} {i : Nat} (h : DTab w D x y (i + 1)) (v : Value) : DTab (w.setCell ⟨D, i, none⟩ v) D x y (i + 1) := by
 obtain ⟨cur, hb, hs, hv⟩ := h
 refine ⟨cur.setIfInBounds i v, hb.set_ i v, by rw [Array.size_setIfInBounds]; exact hs, fun j h1 h2 => ?_⟩
 obtain ⟨g, hc, hlt, hr⟩ := hv j h1 h2
 refine ⟨g, ?_, hlt, hr.grown (grown_set w D i v) (by intro e; injection e with e; omega)⟩
 rw [Array.getElem?_setIfInBounds, if_neg (by omega)]
 exact hc
theorem DRow.drewN {w : World} {g : Nat} {x y : List (List UInt8)} {i j : Nat} (h : DRow w g x y i j) (n : Nat) : DRow (w.drewN n) g x y i j := h
theorem grown_drewN {w w' : World} {row : Option Nat} (h : w.grownBy w' row) (n : Nat) : w.grownBy (w'.drewN n) row := ⟨h.os, h.tape, h.output, h.size, h.block⟩
theorem min_wrap (a b : Nat) (ha : a ≤ 4000) (hb : b ≤ 4000) : wrap64 (1 + min (a : Int) (b : Int)) = ((1 + min a b : Nat) : Int) := by
 unfold wrap64
 omega
theorem info_ints : (Tryz.prog.info? 29).map (fun i => (i.zero, i.size, i.bytes)) = some (some (.slice none 0 0), 1, 24) := by kernel_rfl
theorem made_at (z : Value) (n i : Nat) (h : i < n) : (madeCells #[z] n)[i]? = some z := by
 unfold madeCells
 rw [Array.getElem?_map, Array.getElem?_range, if_pos h]
 simp [Nat.mod_one]
theorem distances_any (A B : Option Addr) (ca cb : Nat) (x y : List (List UInt8)) (w : World) (hx : Rd w A x.length (strL x)) (hy : Rd w B y.length (strL y)) (hxl : x.length ≤ 2000) (hyl : y.length ≤ 2000) :
  Calls Tryz.prog 87 #[.slice A x.length ca, .slice B y.length cb] w fun e w' => e = .returned (.slice (some ⟨w.heap.size, 0, none⟩) (x.length + 1) (x.length + 1)) ∧ DTab w' w.heap.size x y 0 ∧ Below w.heap.size w w' := by
 have HX := hid hx
 have HY := hid hy
 clear hx hy
 have hmk1 : ∀ W : World, (Instr.makeSlice 134 (.int .i64 ((x.length : Int) + 1)) (.int .i64 ((x.length : Int) + 1))).run Tryz.prog W = .ok (.slice (some ⟨W.heap.size, 0, none⟩) (x.length + 1) (x.length + 1)) (W.alloc (.cells (madeCells #[.slice none 0 0] (x.length + 1)) 29)) := fun W => by
  obtain ⟨iI, hi, hz0, hz1, hz2⟩ := info_parts info_ints
  have h := run_make (P := Tryz.prog) W 134 29 iI (.slice none 0 0) Tryz.underlying134 hi hz0 .i64 .i64 ((x.length : Int) + 1) ((x.length : Int) + 1) (by omega) (by omega) (by rw [hz2]; omega) (by omega)
  rw [show ((x.length : Int) + 1).toNat = x.length + 1 from by omega, hz1, Nat.mul_one] at h
  exact h
 have hmk2 : ∀ W : World, (Instr.makeSlice 29 (.int .i64 ((y.length : Int) + 1)) (.int .i64 ((y.length : Int) + 1))).run Tryz.prog W = .ok (.slice (some ⟨W.heap.size, 0, none⟩) (y.length + 1) (y.length + 1)) (W.alloc (.cells (madeCells #[.int .i64 0] (y.length + 1)) 3)) := fun W => by
  obtain ⟨iI, hi, hz0, hz1, hz2⟩ := info_parts info_int
  have h := run_make (P := Tryz.prog) W 29 3 iI (.int .i64 0) Tryz.underlying29 hi hz0 .i64 .i64 ((y.length : Int) + 1) ((y.length : Int) + 1) (by omega) (by omega) (by rw [hz2]; omega) (by omega)
  rw [show ((y.length : Int) + 1).toNat = y.length + 1 from by omega, hz1, Nat.mul_one] at h
  exact h
 have HT0 : Hid (DTab (w.alloc (.cells (madeCells #[.slice none 0 0] (x.length + 1)) 29)) w.heap.size x y (x.length + 1)) := hid ⟨_, Blk.new _ _ _, size_madeCells _ _, fun i h1 h2 => by omega⟩
 have HB0 := hid ((Below.refl w.heap.size w).alloc (Nat.le_refl _) (.cells (madeCells #[.slice none 0 0] (x.length + 1)) 29))
 go_enter Tryz.func87, Tryz.ntmps87
 go_wp2_with fail
 go_loopw [6] (fun ix wr => ∃ k : Nat, k ≤ x.length + 1 ∧ ix = .int .i64 ((k : Int) - 1) ∧ DTab wr w.heap.size x y k ∧ Below w.heap.size w wr) (fun ix _ => (RowKit.intOf ix + 1).toNat)
 case atStart => exact ⟨x.length + 1, by omega, by go_num, HT0.out, HB0.out⟩
 case round =>
  obtain ⟨k, hk, hix, ht, hb⟩ := hrel
  have HT := hid ht
  have HB := hid hb
  have hbs := hb.size
  have hDlt := ht.lt
  clear ht hb
  rcases k with _ | i
  ·rw [show ((0 : Nat) : Int) - 1 = -1 from rfl] at hix
   subst hix
   clear hmk1 hmk2
   go_wp2_with fail
   go_ret
   exact ⟨rfl, HT.out, HB.out⟩
  ·rw [show ((i + 1 : Nat) : Int) - 1 = (i : Int) from by omega] at hix
   subst hix
   obtain ⟨c0, hc0⟩ := HT.out.any (i := i) (by omega)
   have hf0 := HT.out.frozen i
   go_wp2_with fail
   have HDG : Hid (w.heap.size < wr.heap.size) := hid hDlt
   have hbA : Below wr.heap.size (wr.setCell ⟨w.heap.size, i, none⟩ (Value.slice (some ⟨wr.heap.size, 0, none⟩) (y.length + 1) (y.length + 1))) ((wr.setCell ⟨w.heap.size, i, none⟩ (Value.slice (some ⟨wr.heap.size, 0, none⟩) (y.length + 1) (y.length + 1))).alloc (.cells (madeCells #[.int .i64 0] (y.length + 1)) 3)) := by
    have := (Below.refl (wr.setCell ⟨w.heap.size, i, none⟩ (Value.slice (some ⟨wr.heap.size, 0, none⟩) (y.length + 1) (y.length + 1))).heap.size (wr.setCell ⟨w.heap.size, i, none⟩ (Value.slice (some ⟨wr.heap.size, 0, none⟩) (y.length + 1) (y.length + 1)))).alloc (Nat.le_refl _) (.cells (madeCells #[.int .i64 0] (y.length + 1)) 3)
    rwa [World.size_setCell] at this
   have hcells : ∀ i', i' ≠ i → ((wr.setCell ⟨w.heap.size, i, none⟩ (Value.slice (some ⟨wr.heap.size, 0, none⟩) (y.length + 1) (y.length + 1))).alloc (.cells (madeCells #[.int .i64 0] (y.length + 1)) 3)).cell? ⟨w.heap.size, i', none⟩ = wr.cell? ⟨w.heap.size, i', none⟩ := fun i' hi => by
    rw [hbA.cell hDlt, World.cell?_setCell_other _ _ _ _ (by intro e; injection e with e1 e2; exact hi e2.symm)]
   have HT1 : Hid (DTab ((wr.setCell ⟨w.heap.size, i, none⟩ (Value.slice (some ⟨wr.heap.size, 0, none⟩) (y.length + 1) (y.length + 1))).alloc (.cells (madeCells #[.int .i64 0] (y.length + 1)) 3)) w.heap.size x y (i + 1)) := hid (((HT.out).setD (Value.slice (some ⟨wr.heap.size, 0, none⟩) (y.length + 1) (y.length + 1))).below (by rw [World.size_setCell]; exact hbA))
   have HDI : Hid (((wr.setCell ⟨w.heap.size, i, none⟩ (Value.slice (some ⟨wr.heap.size, 0, none⟩) (y.length + 1) (y.length + 1))).alloc (.cells (madeCells #[.int .i64 0] (y.length + 1)) 3)).cell? ⟨w.heap.size, i, none⟩ = some (Value.slice (some ⟨wr.heap.size, 0, none⟩) (y.length + 1) (y.length + 1))) := hid (by rw [hbA.cell hDlt]; exact World.cell?_setCell_same _ _ _ hc0)
   have HNE : Hid (∀ i', i + 1 ≤ i' → i' ≤ x.length → ∀ g', ((wr.setCell ⟨w.heap.size, i, none⟩ (Value.slice (some ⟨wr.heap.size, 0, none⟩) (y.length + 1) (y.length + 1))).alloc (.cells (madeCells #[.int .i64 0] (y.length + 1)) 3)).cell? ⟨w.heap.size, i', none⟩ = some (.slice (some ⟨g', 0, none⟩) (y.length + 1) (y.length + 1)) → g' ≠ wr.heap.size) := hid (fun i' h1 h2 g' hc => by
    rw [hcells i' (by omega)] at hc
    obtain ⟨g3, hc3, _, hr3⟩ := HT.out.at h1 h2
    rw [hc3] at hc
    injection hc with hc
    injection hc with hc
    injection hc with hc
    injection hc with hc
    have := hr3.lt
    omega)
   have HR0 : Hid (DRow ((wr.setCell ⟨w.heap.size, i, none⟩ (Value.slice (some ⟨wr.heap.size, 0, none⟩) (y.length + 1) (y.length + 1))).alloc (.cells (madeCells #[.int .i64 0] (y.length + 1)) 3)) wr.heap.size x y i (y.length + 1)) := hid (by
    have hb := Blk.new (wr.setCell ⟨w.heap.size, i, none⟩ (Value.slice (some ⟨wr.heap.size, 0, none⟩) (y.length + 1) (y.length + 1))) 3 (madeCells #[.int .i64 0] (y.length + 1))
    rw [World.size_setCell] at hb
    exact ⟨_, hb, size_madeCells _ _, fun j' h1 h2 => by omega⟩)
   have HBW : Hid (Below w.heap.size w ((wr.setCell ⟨w.heap.size, i, none⟩ (Value.slice (some ⟨wr.heap.size, 0, none⟩) (y.length + 1) (y.length + 1))).alloc (.cells (madeCells #[.int .i64 0] (y.length + 1)) 3))) := hid (by
    have h1 := HB.out.grown (grown_set wr w.heap.size i (Value.slice (some ⟨wr.heap.size, 0, none⟩) (y.length + 1) (y.length + 1))) hbs (fun g e => by injection e with e; omega)
    exact h1.alloc (by rw [World.size_setCell]; exact hbs) _)
   have hsz : ((wr.setCell ⟨w.heap.size, i, none⟩ (Value.slice (some ⟨wr.heap.size, 0, none⟩) (y.length + 1) (y.length + 1))).alloc (.cells (madeCells #[.int .i64 0] (y.length + 1)) 3)).heap.size = wr.heap.size + 1 := by rw [World.size_alloc, World.size_setCell]
   clear hcells hbA HT HB hbs hDlt hc0 hf0
   generalize ((wr.setCell ⟨w.heap.size, i, none⟩ (Value.slice (some ⟨wr.heap.size, 0, none⟩) (y.length + 1) (y.length + 1))).alloc (.cells (madeCells #[.int .i64 0] (y.length + 1)) 3)) = w2 at *
   generalize wr.heap.size = g at *
   clear wr
   go_loopw [7] (fun jx x2 => ∃ j0 : Nat, j0 ≤ y.length + 1 ∧ jx = .int .i64 ((j0 : Int) - 1) ∧ DRow x2 g x y i j0 ∧ w2.grownBy x2 (some g)) (fun jx _ => (RowKit.intOf jx + 1).toNat)
   case atStart => exact ⟨y.length + 1, by omega, by go_num, HR0.out, ⟨rfl, rfl, rfl, Nat.le_refl _, fun _ _ _ => rfl⟩⟩
   case round =>
    obtain ⟨j0, hj, hjx, hrw, hg⟩ := hrel
    have HRW := hid hrw
    have HG := hid hg
    have hgs := hg.size
    have hDi : wr.cell? ⟨w.heap.size, i, none⟩ = some (Value.slice (some ⟨g, 0, none⟩) (y.length + 1) (y.length + 1)) := hg.cell HDI.out (by have := HDG.out; intro e; injection e with e; exact absurd e (Nat.ne_of_lt this))
    clear hrw hg
    rcases j0 with _ | j
    ·rw [show ((0 : Nat) : Int) - 1 = -1 from rfl] at hjx
     subst hjx
     have HT2 : Hid (DTab wr w.heap.size x y i) := hid ((HT1.out.grown HG.out (fun g' e => by injection e with e; subst e; exact ⟨by have := HDG.out; omega, HNE.out⟩)).put (by omega) HDG.out hDi HRW.out)
     have HB2 : Hid (Below w.heap.size w wr) := hid (HBW.out.grown HG.out HBW.out.size (fun g' e => by injection e with e; have := HDG.out; omega))
     go_wp2_with fail
     go_roundw
     case rel => exact ⟨i, by omega, by go_num, HT2.out, HB2.out⟩
     case measure => simp [RowKit.intOf] <;> omega
    ·rw [show ((j + 1 : Nat) : Int) - 1 = (j : Int) from by omega] at hjx
     subst hjx
     obtain ⟨cv, hcv⟩ := HRW.out.any (j' := j) (by omega)
     have hfv := HRW.out.frozen j
     by_cases hin : i = x.length
     ·subst hin
      go_wp2_with fail
      go_roundw
      case rel => exact ⟨j, by omega, by go_num, HRW.out.set (by omega) (by rw [Ar.disA_i]; omega), World.grownBy.trans HG.out (grown_set _ _ _ _)⟩
      case measure => simp [RowKit.intOf] <;> omega
     ·by_cases hjm : j = y.length
      ·subst hjm
       go_wp2_with fail
       go_roundw
       case rel => exact ⟨y.length, by omega, by go_num, HRW.out.set (by omega) (by rw [Ar.disA_j]; omega), World.grownBy.trans HG.out (grown_set _ _ _ _)⟩
       case measure => simp [RowKit.intOf] <;> omega
      ·obtain ⟨g1, hd1, hg1, hr1⟩ := HT1.out.at (i := i + 1) (by omega) (by omega)
       have hne1 := HNE.out (i + 1) (by omega) (by omega) g1 hd1
       have hd1w := HG.out.cell hd1 (by have := HDG.out; intro e; injection e with e; exact absurd e (Nat.ne_of_lt this))
       have hr1w := hr1.grown HG.out (by intro e; injection e with e; exact hne1 e)
       have hv1 := hr1w.at (j' := j) (Nat.zero_le _) (by omega)
       have hv2 := hr1w.at (j' := j + 1) (Nat.zero_le _) (by omega)
       have hv3 := HRW.out.at (j' := j + 1) (Nat.le_refl _) (by omega)
       have hBWR : Below w.heap.size w wr := HBW.out.grown HG.out HBW.out.size (fun g' e => by injection e with e; have := HDG.out; omega)
       obtain ⟨ba, oa, a, rfl, hxa, hca⟩ := (HX.out.below hBWR).str_at (k := i) (by omega)
       obtain ⟨bb, ob, b, rfl, hyb, hcb⟩ := (HY.out.below hBWR).str_at (k := j) (by omega)
       have HXA := hid hxa
       have HYB := hid hyb
       have hsb := str_beq a b
       clear hxa hyb hBWR hr1 hr1w hd1 hne1
       by_cases hab : a = b
       ·have h1 : ((bstr a).toList == (bstr b).toList) = true := by rw [hsb, hab]; exact beq_self_eq_true _
        have HE := hid (Ar.disA_eq HXA.out HYB.out hab)
        clear hsb hab
        generalize bstr a = sa at *
        generalize bstr b = sb at *
        go_wp2_with fail
        go_quiet (fail)
        go_wp2_with fail
        go_region
        all_goals
         go_wp2_with fail
         go_roundw
         case rel => exact ⟨j, by omega, by go_num, (HRW.out.drewN _).set (by omega) (by rw [HE.out]), World.grownBy.trans (grown_drewN HG.out _) (grown_set _ _ _ _)⟩
         case measure => simp [RowKit.intOf] <;> omega
       ·have h1 : ((bstr a).toList == (bstr b).toList) = false := by rw [hsb]; simpa using hab
        have HE := hid (Ar.disA_ne HXA.out HYB.out hab)
        clear hsb hab
        generalize bstr a = sa at *
        generalize bstr b = sb at *
        go_wp2_with fail
        go_quiet (fail)
        go_wp2_with fail
        go_region
        all_goals
         go_wp2_with fail
         go_roundw
         case rel => exact ⟨j, by omega, by go_num, (HRW.out.drewN _).set (by omega) (by rw [HE.out]; exact min_wrap _ _ (Nat.le_trans (Ar.disA_le x y (i + 1) j) (by omega)) (Nat.le_trans (Ar.disA_le x y i (j + 1)) (by omega))), World.grownBy.trans (grown_drewN HG.out _) (grown_set _ _ _ _)⟩
         case measure => simp [RowKit.intOf] <;> omega
end Go.Proofs.YteadlcncnhbmjaaGreatDoor
/- The text Ap2. -/
namespace Go.Proofs.YteadlcncnhbmjaaGreatDoor
open Go.RowKit Go.Lib
set_option linter.unusedVariables false
def sgn (c : UInt8) (s : List UInt8) : List UInt8 := c :: 32 :: s
theorem sgn_str (c : UInt8) (s : List UInt8) : (⟨#[c]⟩ : ByteArray) ++ (⟨#[32]⟩ : ByteArray) ++ bstr s = bstr (sgn c s) := str_eq (by simp [bstr, sgn])
theorem Rd.low {w w' : World} {A : Option Addr} {n B : Nat} {vs : List Value} (h : Rd w A n vs) (hb : Below B w w') (hl : ∀ a, A = some a → a.block < B) : Rd w' A n vs :=
 ⟨h.1, fun j v hj => by
  obtain ⟨g, o, e, hc⟩ := h.2 j v hj
  refine ⟨g, o, e, ?_⟩
  rw [← hc]
  exact World.cell?_of_block (hb.block g (hl _ e))⟩
theorem signed_any (v : Value) (us : List (List UInt8)) (c : UInt8) (A : Option Addr) (ca : Nat) (l : List (List UInt8)) (base : Nat) (w : World) (ho : OwnS base w v us) (hr : Rd w A l.length (strL l)) (hbs : base ≤ w.heap.size)
  (hl : ∀ a, A = some a → a.block < base) (h1 : us.length + l.length ≤ 1000000) (hx1 : ∀ x ∈ l, x.length ≤ 1000000) :
  Calls Tryz.prog 86 #[v, .string ⟨#[c]⟩, .slice A l.length ca] w fun e w' => ∃ v', e = .returned v' ∧ OwnS base w' v' (us ++ l.map (sgn c)) ∧ Below base w w' := by
 obtain ⟨A0, cap0, rfl⟩ := own_any ho
 have HR := hid hr
 have HO := hid ho
 have HL := hid hl
 have HX1 := hid hx1
 have hcs : ((⟨#[c]⟩ : ByteArray) ++ (⟨#[32]⟩ : ByteArray)).size = 2 := rfl
 clear hr ho hl hx1
 go_enter Tryz.func86, Tryz.ntmps86
 go_wp2_with fail
 go_loopw [0, 11] (fun out ix wr => ∃ k : Nat, k ≤ l.length ∧ ix = .int .i64 k ∧ OwnS base wr out (us ++ (l.take k).map (sgn c)) ∧ Below base w wr) (fun _ ix _ => l.length - (RowKit.intOf ix).toNat)
 case atStart => exact ⟨0, by omega, rfl, by simpa using HO.out, Below.refl _ _⟩
 case round =>
  obtain ⟨k, hk, rfl, ho, hb⟩ := hrel
  have HO2 := hid ho
  have HB := hid hb
  have hws := hb.size
  clear ho hb
  by_cases hlt : k < l.length
  ·obtain ⟨ba, oa, x, rfl, hx, hc0⟩ := (HR.out.low HB.out HL.out).str_at hlt
   have HXK := hid hx
   have HS := hid (sgn_str c x)
   have HLEN : Hid ((us ++ (l.take k).map (sgn c)).length = us.length + k) := hid (by rw [List.length_append, List.length_map, List.length_take]; omega)
   have hXs : (bstr x).size ≤ 1000000 := by rw [bstr_size]; exact HX1.out x (List.mem_of_getElem? hx)
   clear hx
   generalize bstr x = X at *
   go_wp2_with (at_builtin; refine app_lit rowStr rfl _ _ rfl wr [.string ((⟨#[c]⟩ : ByteArray) ++ (⟨#[32]⟩ : ByteArray) ++ X)] 1 rfl (by rw [HS.out]; exact one_strs [sgn c x]) u0 (us.length + k) (strL (us ++ (l.take k).map (sgn c))) base rfl (by have := HO2.out; unfold OwnS at this; rw [HLEN.out] at this; exact this) rfl (by omega) (by omega) ?_; intro v4 w4 ho4 hg4 hb4)
   go_roundw
   case rel =>
    refine ⟨k + 1, by omega, by go_num, ?_, hb4 w HB.out⟩
    unfold OwnS
    rw [map_take_snoc HXK.out, ← List.append_assoc, List.length_append, HLEN.out, strL_append]
    rw [HS.out] at ho4
    exact ho4
   case measure => simp [RowKit.intOf]; omega
  ·obtain rfl : k = l.length := by omega
   have HOE : Hid (OwnS base wr u0 (us ++ l.map (sgn c))) := hid (by have := HO2.out; rwa [List.take_length] at this)
   go_wp2_with fail
   go_ret
   exact ⟨_, rfl, HOE.out, HB.out⟩
theorem own_set {w : World} {base n size g i : Nat} {e : TypeId} {v u : Value} {xs : List Value} (h : w.ownsRow base e size v n xs) (hg : g < base) : (w.setCell ⟨g, i, none⟩ u).ownsRow base e size v n xs := by
 obtain ⟨h1, h2⟩ := h
 refine ⟨h1, ?_⟩
 rcases h2 with h2 | ⟨k, cap, cur, hv, hk, hh, hn, hcap, hsz, ht⟩
 ·exact .inl h2
 ·exact .inr ⟨k, cap, cur, hv, hk, (heap_setCell_other _ _ _ _ (show k ≠ g by omega)).trans hh, hn, hcap, hsz, ht⟩
def flushS (n : Nat) : List (List UInt8) := (Ar.flush n).map Ar.Ed.enc
theorem flush_pos {n : Nat} (h : 0 < n) : flushS n = [Ar.Ed.enc (.keep n)] := by unfold flushS Ar.flush; rw [if_neg (by omega)]; rfl
theorem keep_str (n : Nat) : (⟨#[61, 32]⟩ : ByteArray) ++ bstr (Ar.itoa n) = bstr (Ar.Ed.enc (.keep n)) := str_eq (by simp [bstr, Ar.Ed.enc])
theorem flush_any (bk bo base B : Nat) (v : Value) (us : List (List UInt8)) (n : Nat) (w : World) (hk : Blk w bk 3 #[.int .i64 n]) (hob : Blk w bo 30 #[v]) (ho : OwnS base w v us)
  (hBk : B ≤ bk) (hBo : B ≤ bo) (hkb : bk < base) (hbb : bo < base) (hne : bk ≠ bo) (hn : n ≤ 1000000) (hu : us.length ≤ 1000000) (hbase : base ≤ w.heap.size) :
  Calls Tryz.prog 88 #[.pointer (some ⟨bk, 0, none⟩), .pointer (some ⟨bo, 0, none⟩)] w fun e w' => e = .returned (.tuple #[]) ∧ Blk w' bk 3 #[.int .i64 0] ∧ (∃ v', Blk w' bo 30 #[v'] ∧ OwnS base w' v' (us ++ flushS n)) ∧ Below B w w' := by
 obtain ⟨A0, cap0, rfl⟩ := own_any ho
 have HK := hid hk
 have HOB := hid hob
 have HO := hid ho
 have hck := hk.cell 0
 have hco := hob.cell 0
 have hfk := hk.frozen 0
 have hfo := hob.frozen 0
 rw [show (#[Value.int .i64 n] : Array Value)[0]? = some (.int .i64 n) from rfl] at hck
 rw [show (#[Value.slice A0 us.length cap0] : Array Value)[0]? = some (.slice A0 us.length cap0) from rfl] at hco
 clear hk hob ho
 rcases Nat.eq_zero_or_pos n with h0 | h0
 ·subst h0
  have HE : Hid (us ++ flushS 0 = us) := hid (by simp [flushS, Ar.flush])
  go_enter Tryz.func88, Tryz.ntmps88
  go_wp2_with fail
  go_end0
  exact ⟨rfl, HK.out.set_ 0 _, ⟨_, HOB.out.grown (grown_set _ _ _ _) (by intro e; injection e with e; omega), by rw [HE.out]; exact own_set HO.out hkb⟩, (Below.refl B w).grown (grown_set _ _ _ _) (by omega) (fun g e => by injection e with e; omega)⟩
 ·have HF := hid (flush_pos h0)
  have HT := hid (fun W => ntext_any n W ⟨by omega, by omega⟩)
  have HS := hid (keep_str n)
  have hTl : (bstr (Ar.itoa n)).size ≤ 100 := by rw [bstr_size]; have := itoa_len (n : Int) ⟨by omega, by omega⟩; omega
  have hS := keep_str n
  have hlen9 : ¬ 9223372036854775807 < 2 + (bstr (Ar.itoa n)).size := by omega
  clear HS
  go_enter Tryz.func88, Tryz.ntmps88
  go_wp2_with fail
  go_region_law (first
   | (go_simp; go_at_call 89; refine (HT.out _).mono ?_; rintro e wA ⟨rfl, hbA⟩; have HOA := HOB.out.drew.below hbA HOB.out.lt; have HKA := HK.out.drew.below hbA HK.out.lt; have hcoA := HOA.cell 0; rw [show (#[Value.slice A0 us.length cap0] : Array Value)[0]? = some (.slice A0 us.length cap0) from rfl] at hcoA; have hfoA := HOA.frozen 0; have hcoB := (HOA.alloc (.cells #[.string (bstr (Ar.Ed.enc (.keep n)))] 9)).cell 0; rw [show (#[Value.slice A0 us.length cap0] : Array Value)[0]? = some (.slice A0 us.length cap0) from rfl] at hcoB; have hsA : w.heap.size ≤ wA.heap.size := hbA.size; have hBA := (Below.refl B w).drew.trans (hbA.mono (by show B ≤ w.heap.size; omega)); have HWA := own_below (HO.out.drew) hbA (Nat.le_refl _))
   | (refine step_appS rfl _ _ rfl _ (.slice A0 us.length cap0) us [Ar.Ed.enc (.keep n)] base rfl (some ⟨wA.heap.size, 0, none⟩) 1 rfl (HWA.alloc _) (Rd.litS wA [Ar.Ed.enc (.keep n)]) (by simp; omega) (by simp; omega) ?_; intro v2 w2 ho2 hg2 hb2; obtain ⟨A2, cap2, rfl⟩ := own_any ho2; have hno : ∀ b, b < base → some b ≠ (Value.slice A0 us.length cap0).ownBlock := (fun b hb e => by have := (HO.out.lt b e.symm).1; omega); have HO2 := (HOA.alloc (.cells #[.string (bstr (Ar.Ed.enc (.keep n)))] 9)).grown hg2 (hno bo hbb); have HK2 := (HKA.alloc (.cells #[.string (bstr (Ar.Ed.enc (.keep n)))] 9)).grown hg2 (hno bk hkb); have hco2 := HO2.cell 0; rw [show (#[Value.slice A0 us.length cap0] : Array Value)[0]? = some (.slice A0 us.length cap0) from rfl] at hco2; have hfo2 := HO2.frozen 0; have hck2 := HK2.cell 0; rw [show (#[Value.int .i64 n] : Array Value)[0]? = some (.int .i64 n) from rfl] at hck2; have hfk2 := HK2.frozen 0))
  all_goals
   have HB2 : Hid (Below B w w2) := hid ((hBA.alloc (by omega) (.cells #[.string (bstr (Ar.Ed.enc (.keep n)))] 9)).grown hg2 (by rw [World.size_alloc]; omega) (fun g e => by have := (HO.out.lt g e).1; omega))
   have HS2 : Hid (B ≤ w2.heap.size) := hid (by have := HO2.lt; omega)
   have HW2 : Hid (OwnS base w2 (.slice A2 (us.length + 1) cap2) (us ++ [Ar.Ed.enc (.keep n)])) := hid (by have h := ho2; rw [show (Value.slice A2 (us ++ [Ar.Ed.enc (.keep n)]).length cap2) = .slice A2 (us.length + 1) cap2 from by rw [List.length_append]; rfl] at h; exact h)
   clear hg2 hb2 ho2 hno hbA hBA hS hTl hlen9 hco hck hfk hfo HOA HKA HWA hcoA hfoA hcoB
   go_wp2_with fail
   go_end0
   exact ⟨rfl, (HK2.grown (grown_set _ _ _ _) (by intro e; injection e with e; omega)).set_ 0 _, ⟨_, (HO2.set_ 0 _).grown (grown_set _ _ _ _) (by intro e; injection e with e; omega), by rw [HF.out]; exact own_set (own_set HW2.out hbb) hkb⟩, (HB2.out.grown (grown_set _ _ _ _) HS2.out (fun g e => by injection e with e; omega)).grown (grown_set _ _ _ _) (by rw [World.size_setCell]; exact HS2.out) (fun g e => by injection e with e; omega)⟩
end Go.Proofs.YteadlcncnhbmjaaGreatDoor
