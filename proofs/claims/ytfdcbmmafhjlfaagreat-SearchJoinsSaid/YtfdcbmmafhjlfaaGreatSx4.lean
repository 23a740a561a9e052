/- The examples of the chapter hold. -/
import Derived.Test.YtfdcbmmafhjlfaaGreatSx2
import Derived.Test.YtfdcbmmafhjlfaaGreatSx3
import Derived.Test.YtfdcbmmafhjlfaaGreatSe4
namespace Go.Proofs.YtfdcbmmafhjlfaaGreat
open Go.RowKit Go.Lib
set_option linter.unusedVariables false

theorem ex_words : Sr.words (⟨#[72, 105, 44, 32, 104, 105, 32, 66, 111, 98, 45, 50, 33]⟩ : ByteArray).data.toList = [[50], [98, 111, 98], [104, 105]] := by decide +kernel
theorem ex_score : Sr.score (⟨#[72, 105, 44, 32, 104, 105, 32, 66, 111, 98, 45, 50, 33]⟩ : ByteArray).data.toList (⟨#[98, 111, 98, 32, 97, 110, 110]⟩ : ByteArray).data.toList = 1 := by decide +kernel
def exL : List (Int × ByteArray) := [(11, ⟨#[97, 32, 98]⟩), (11, ⟨#[98]⟩), (7, ⟨#[98]⟩)]
theorem ex_counts : Sr.counts (allW exL) = [([97], 1), ([98], 2)] := by decide +kernel

def exC : Array Value := #[.int .i64 0, .string ⟨#[]⟩, .string ⟨#[]⟩, .int .i64 11, .bool false, .string ⟨#[]⟩, .int .i64 0, .int .i64 0, .slice none 0 0, .slice none 0 0, .string ⟨#[97, 32, 98]⟩, .int .i64 0, .int .i64 0, .bool false, .string ⟨#[]⟩, .slice none 0 0, .slice none 0 0, .slice none 0 0, .slice none 0 0, .int .i64 0, .int .i64 0, .int .i64 0, .int .i64 0, .int .i64 0, .int .i64 0, .int .i64 0, .int .i64 0, .string ⟨#[]⟩, .int .i64 0, .int .i64 0, .string ⟨#[]⟩, .string ⟨#[]⟩, .int .i64 11, .bool false, .string ⟨#[]⟩, .int .i64 0, .int .i64 0, .slice none 0 0, .slice none 0 0, .string ⟨#[98]⟩, .int .i64 0, .int .i64 0, .bool false, .string ⟨#[]⟩, .slice none 0 0, .slice none 0 0, .slice none 0 0, .slice none 0 0, .int .i64 0, .int .i64 0, .int .i64 0, .int .i64 0, .int .i64 0, .int .i64 0, .int .i64 0, .int .i64 0, .string ⟨#[]⟩, .int .i64 0, .int .i64 0, .string ⟨#[]⟩, .string ⟨#[]⟩, .int .i64 7, .bool false, .string ⟨#[]⟩, .int .i64 0, .int .i64 0, .slice none 0 0, .slice none 0 0, .string ⟨#[98]⟩, .int .i64 0, .int .i64 0, .bool false, .string ⟨#[]⟩, .slice none 0 0, .slice none 0 0, .slice none 0 0, .slice none 0 0, .int .i64 0, .int .i64 0, .int .i64 0, .int .i64 0, .int .i64 0, .int .i64 0, .int .i64 0, .int .i64 0, .string ⟨#[]⟩, .int .i64 0]
theorem evs_ex (w : World) (g : Nat) (h : Blk w g 41 exC) : Evs w (some ⟨g, 0, none⟩) exL := by
  intro i p hp
  match i, hp with
  | 0, hp =>
    cases hp
    exact ⟨g, 0, [.int .i64 0, .string ⟨#[]⟩, .string ⟨#[]⟩, .int .i64 11, .bool false, .string ⟨#[]⟩, .int .i64 0, .int .i64 0, .slice none 0 0, .slice none 0 0, .string ⟨#[97, 32, 98]⟩, .int .i64 0, .int .i64 0, .bool false, .string ⟨#[]⟩, .slice none 0 0, .slice none 0 0, .slice none 0 0, .slice none 0 0, .int .i64 0, .int .i64 0, .int .i64 0, .int .i64 0, .int .i64 0, .int .i64 0, .int .i64 0, .int .i64 0, .string ⟨#[]⟩, .int .i64 0], rfl, ⟨rfl, List.all_eq_true.1 rfl, rfl, rfl⟩, World.rangeAt_of_block h 0 29⟩
  | 1, hp =>
    cases hp
    exact ⟨g, 0, [.int .i64 0, .string ⟨#[]⟩, .string ⟨#[]⟩, .int .i64 11, .bool false, .string ⟨#[]⟩, .int .i64 0, .int .i64 0, .slice none 0 0, .slice none 0 0, .string ⟨#[98]⟩, .int .i64 0, .int .i64 0, .bool false, .string ⟨#[]⟩, .slice none 0 0, .slice none 0 0, .slice none 0 0, .slice none 0 0, .int .i64 0, .int .i64 0, .int .i64 0, .int .i64 0, .int .i64 0, .int .i64 0, .int .i64 0, .int .i64 0, .string ⟨#[]⟩, .int .i64 0], rfl, ⟨rfl, List.all_eq_true.1 rfl, rfl, rfl⟩, World.rangeAt_of_block h 29 29⟩
  | 2, hp =>
    cases hp
    exact ⟨g, 0, [.int .i64 0, .string ⟨#[]⟩, .string ⟨#[]⟩, .int .i64 7, .bool false, .string ⟨#[]⟩, .int .i64 0, .int .i64 0, .slice none 0 0, .slice none 0 0, .string ⟨#[98]⟩, .int .i64 0, .int .i64 0, .bool false, .string ⟨#[]⟩, .slice none 0 0, .slice none 0 0, .slice none 0 0, .slice none 0 0, .int .i64 0, .int .i64 0, .int .i64 0, .int .i64 0, .int .i64 0, .int .i64 0, .int .i64 0, .int .i64 0, .string ⟨#[]⟩, .int .i64 0], rfl, ⟨rfl, List.all_eq_true.1 rfl, rfl, rfl⟩, World.rangeAt_of_block h 58 29⟩
  | i + 3, hp => simp [exL] at hp
theorem words_ex (w : World) : Calls Tryz.prog 8 #[.string ⟨#[72, 105, 44, 32, 104, 105, 32, 66, 111, 98, 45, 50, 33]⟩] w fun e w' => (∃ A c, e = .returned (.slice A 3 c) ∧ Rd w' A 3 (strL [[50], [98, 111, 98], [104, 105]])) ∧ Below w.heap.size w w' := by
  refine (words_any _ w (by decide)).mono ?_
  rintro e w1 ⟨⟨v, rfl, A, cap, rfl, ho⟩, hb1⟩
  rw [ex_words] at ho ⊢
  exact ⟨⟨A, cap, rfl, Rd.of_own ho⟩, hb1⟩
theorem score_ex (w : World) : Calls Tryz.prog 10 #[.string ⟨#[72, 105, 44, 32, 104, 105, 32, 66, 111, 98, 45, 50, 33]⟩, .string ⟨#[98, 111, 98, 32, 97, 110, 110]⟩] w fun e w' => e = .returned (.int .i64 1) ∧ Below w.heap.size w w' := by
  refine (score_any _ _ w (by decide) (by decide)).mono ?_
  rintro e w1 ⟨rfl, hb1⟩
  exact ⟨ret_int (by rw [ex_score]; rfl), hb1⟩
theorem index_ex (A0 : Option Addr) (w : World) (he : Evs w A0 exL) : Calls Tryz.prog 14 #[.slice A0 3 3] w fun e w' => (∃ A c, e = .returned (.slice A 2 c) ∧ Rc w' A [([97], 1), ([98], 2)]) ∧ Below w.heap.size w w' := by
  refine (index_any A0 3 3 exL w he rfl (by decide) (by decide)).mono ?_
  rintro e w1 ⟨⟨v, rfl, A, cap, rfl, ho⟩, hb1⟩
  rw [ex_counts] at ho ⊢
  exact ⟨⟨A, cap, rfl, Rc.of_own ho rfl⟩, hb1⟩
set_option maxRecDepth 100000 in
theorem awake_any (w : World) : Calls Tryz.prog 6 #[] w fun e w' => e = .returned (.bool true) ∧ Below w.heap.size w w' := by
  go_enter Tryz.func6, Tryz.ntmps6
  go_wp2_with fail
  refine (new_ra _).mono ?_
  rintro e w1 ⟨rfl, hb1⟩
  go_wp2_with fail
  have hR := Room0.new ⟨#[33, 114, 58, 97]⟩ w1
  have hR2 := hR.below ((Below.refl _ _).alloc (Nat.le_refl _) (.cells exC 41)) (by simp)
  have hE := evs_ex _ _ (Blk.new (w1.alloc (.cells #[.string ⟨#[33, 114, 58, 97]⟩, .slice none 0 0, .slice none 0 0, .slice none 0 0, .slice none 0 0, .slice none 0 0, .int .i64 0, .slice none 0 0, .slice none 0 0] 55)) 41 exC)
  rw [World.size_alloc] at hE
  have hb2 : Below w.heap.size w ((w1.alloc (.cells #[.string ⟨#[33, 114, 58, 97]⟩, .slice none 0 0, .slice none 0 0, .slice none 0 0, .slice none 0 0, .slice none 0 0, .int .i64 0, .slice none 0 0, .slice none 0 0] 55)).alloc (.cells exC 41)) := (hb1.alloc hb1.size _).alloc (by have := hb1.size; simp; omega) _
  have hz2 : w1.heap.size < ((w1.alloc (.cells #[.string ⟨#[33, 114, 58, 97]⟩, .slice none 0 0, .slice none 0 0, .slice none 0 0, .slice none 0 0, .slice none 0 0, .int .i64 0, .slice none 0 0, .slice none 0 0] 55)).alloc (.cells exC 41)).heap.size := by simp; omega
  have hzz : w.heap.size ≤ w1.heap.size := hb1.size
  clear hR hb1
  unfold exC at *
  generalize ((w1.alloc (.cells #[.string ⟨#[33, 114, 58, 97]⟩, .slice none 0 0, .slice none 0 0, .slice none 0 0, .slice none 0 0, .slice none 0 0, .int .i64 0, .slice none 0 0, .slice none 0 0] 55)).alloc (.cells #[.int .i64 0, .string ⟨#[]⟩, .string ⟨#[]⟩, .int .i64 11, .bool false, .string ⟨#[]⟩, .int .i64 0, .int .i64 0, .slice none 0 0, .slice none 0 0, .string ⟨#[97, 32, 98]⟩, .int .i64 0, .int .i64 0, .bool false, .string ⟨#[]⟩, .slice none 0 0, .slice none 0 0, .slice none 0 0, .slice none 0 0, .int .i64 0, .int .i64 0, .int .i64 0, .int .i64 0, .int .i64 0, .int .i64 0, .int .i64 0, .int .i64 0, .string ⟨#[]⟩, .int .i64 0, .int .i64 0, .string ⟨#[]⟩, .string ⟨#[]⟩, .int .i64 11, .bool false, .string ⟨#[]⟩, .int .i64 0, .int .i64 0, .slice none 0 0, .slice none 0 0, .string ⟨#[98]⟩, .int .i64 0, .int .i64 0, .bool false, .string ⟨#[]⟩, .slice none 0 0, .slice none 0 0, .slice none 0 0, .slice none 0 0, .int .i64 0, .int .i64 0, .int .i64 0, .int .i64 0, .int .i64 0, .int .i64 0, .int .i64 0, .int .i64 0, .string ⟨#[]⟩, .int .i64 0, .int .i64 0, .string ⟨#[]⟩, .string ⟨#[]⟩, .int .i64 7, .bool false, .string ⟨#[]⟩, .int .i64 0, .int .i64 0, .slice none 0 0, .slice none 0 0, .string ⟨#[98]⟩, .int .i64 0, .int .i64 0, .bool false, .string ⟨#[]⟩, .slice none 0 0, .slice none 0 0, .slice none 0 0, .slice none 0 0, .int .i64 0, .int .i64 0, .int .i64 0, .int .i64 0, .int .i64 0, .int .i64 0, .int .i64 0, .int .i64 0, .string ⟨#[]⟩, .int .i64 0] 41)) = w2 at *
  refine (words_ex _).mono ?_
  rintro e w3 ⟨⟨A3, c3, rfl, hr3⟩, hb3⟩
  have hR3 := hR2.below hb3 hz2
  have hE3 := hE.below hb3
  have hz3 : w1.heap.size < w3.heap.size := Nat.lt_of_lt_of_le hz2 hb3.size
  have hB3 := hb2.trans (hb3.mono (by omega))
  clear hR2 hE hz2 hb2 hb3
  go_wp2_with fail
  have hk4 := Blk.new w3 9 (strL [[50], [98, 111, 98], [104, 105]]).toArray
  have hb4 : Below w3.heap.size w3 (w3.alloc (.cells (strL [[50], [98, 111, 98], [104, 105]]).toArray 9)) := (Below.refl _ _).alloc (Nat.le_refl _) _
  refine (rsame_any A3 (some ⟨w3.heap.size, 0, none⟩) 3 3 c3 3 [[50], [98, 111, 98], [104, 105]] [[50], [98, 111, 98], [104, 105]] _ (hr3.below hb4) (Rd.of_blk hk4) (by decide) (by decide)).mono ?_
  rintro e w4 ⟨rfl, q, rfl⟩
  rw [show decide ([[50], [98, 111, 98], [104, 105]] = ([[50], [98, 111, 98], [104, 105]] : List (List UInt8))) = true from by decide]
  have hb5 := below_drewN hb4 q
  clear hk4 hb4 hr3
  have hR5 := hR3.below hb5 hz3
  have hE5 := hE3.below hb5
  have hz5 : w1.heap.size < ((w3.alloc (.cells (strL [[50], [98, 111, 98], [104, 105]]).toArray 9)).drewN q).heap.size := Nat.lt_of_lt_of_le hz3 hb5.size
  have hB5 := hB3.trans (hb5.mono (by omega))
  clear hb5 hR3 hE3 hz3 hB3
  generalize ((w3.alloc (.cells (strL [[50], [98, 111, 98], [104, 105]]).toArray 9)).drewN q) = w5 at *
  go_wp2_with fail
  refine (score_ex _).mono ?_
  rintro e w6 ⟨rfl, hb6⟩
  have hR6 := hR5.below hb6 hz5
  have hE6 := hE5.below hb6
  have hz6 : w1.heap.size < w6.heap.size := Nat.lt_of_lt_of_le hz5 hb6.size
  have hB6 := hB5.trans (hb6.mono (by omega))
  clear hb6 hR5 hE5 hz5 hB5
  go_wp2_with fail
  refine (index_ex _ _ hE6).mono ?_
  rintro e w7 ⟨⟨A7, c7, rfl, hr7⟩, hb7⟩
  have hR7 := hR6.below hb7 hz6
  have hz7 : w1.heap.size < w7.heap.size := Nat.lt_of_lt_of_le hz6 hb7.size
  have hB7 := hB6.trans (hb7.mono (by omega))
  clear hb7 hR6 hE6 hz6 hB6
  go_wp2_with fail
  have hk8 := Blk.new w7 60 (cntL [([97], 1), ([98], 2)]).toArray
  have hb8 : Below w7.heap.size w7 (w7.alloc (.cells (cntL [([97], 1), ([98], 2)]).toArray 60)) := (Below.refl _ _).alloc (Nat.le_refl _) _
  refine (samecounts_any A7 (some ⟨w7.heap.size, 0, none⟩) 2 c7 2 [([97], 1), ([98], 2)] _ (hr7.below hb8) (Rc.of_blk hk8) rfl (by decide)).mono ?_
  rintro e w8 ⟨rfl, q2, rfl⟩
  have hb9 := below_drewN hb8 q2
  clear hk8 hb8 hr7
  have hR9 := hR7.below hb9 hz7
  have hz9 : w1.heap.size < ((w7.alloc (.cells (cntL [([97], 1), ([98], 2)]).toArray 60)).drewN q2).heap.size := Nat.lt_of_lt_of_le hz7 hb9.size
  have hB9 := hB7.trans (hb9.mono (by omega))
  clear hb9 hR7 hz7 hB7
  generalize ((w7.alloc (.cells (cntL [([97], 1), ([98], 2)]).toArray 60)).drewN q2) = w9 at *
  obtain ⟨q0, q1, q2', q3, q4, q5, q6, q7, q8⟩ := hR9
  go_wp2_with fail
  refine (find0 _ _ _).mono ?_
  rintro e w10 ⟨rfl, hb10⟩
  have hB10 := hB9.trans (hb10.mono (by omega))
  go_wp2_with fail
  go_ret
  exact ⟨rfl, hB10⟩
end Go.Proofs.YtfdcbmmafhjlfaaGreat
