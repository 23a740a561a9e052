/- The walk of the law of the words. -/
import Derived.Test.YtfdcbmmafhjlfaaGreatSx4
namespace Go.Proofs.YtfdcbmmafhjlfaaGreat
open Go.RowKit Go.Lib
set_option linter.unusedVariables false

set_option maxRecDepth 100000 in
theorem searchwords_any (s q : ByteArray) (w : World) : Calls Tryz.prog 3 #[.string s, .string q] w fun e w' => e = .returned (.bool true) ∧ Below w.heap.size w w' := by
  by_cases hs : s.size ≤ 500
  · by_cases hq : q.size ≤ 500
    · go_enter Tryz.func3, Tryz.ntmps3
      go_wp2_with fail
      refine (words_any s _ (by omega)).mono ?_
      rintro e w1 ⟨⟨v1, rfl, A1, c1, rfl, ho1⟩, hb1⟩
      go_wp2_with fail
      refine (rwords_any s _ (by omega)).mono ?_
      rintro e w2 ⟨⟨v2, rfl, A2, c2, rfl, ho2⟩, hb2⟩
      have hr1 := (Rd.of_own ho1).below hb2
      have hr2 := Rd.of_own ho2
      have hl := words_len s.data.toList
      rw [← str_size] at hl
      have hB2 := hb1.trans (hb2.mono hb1.size)
      clear ho1 ho2 hb1 hb2
      generalize Sr.words s.data.toList = ws at *
      go_wp2_with fail
      refine (rsame_any _ _ _ _ _ _ ws ws _ hr1 hr2 (by omega) (by omega)).mono ?_
      rintro e w3 ⟨rfl, q1, rfl⟩
      rw [show decide (ws = ws) = true from decide_eq_true rfl]
      have hB3 := below_drewN hB2 q1
      clear hB2 hr1 hr2
      generalize w2.drewN q1 = w3 at *
      go_wp2_with fail
      refine (score_any s q _ (by omega) (by omega)).mono ?_
      rintro e w4 ⟨rfl, hb4⟩
      have hB4 := hB3.trans (hb4.mono hB3.size)
      clear hB3 hb4
      go_wp2_with fail
      refine (rscore_any s q _ (by omega) (by omega)).mono ?_
      rintro e w5 ⟨rfl, hb5⟩
      have hB5 := hB4.trans (hb5.mono hB4.size)
      clear hB4 hb5
      go_wp2_with fail
      refine (awake_any _).mono ?_
      rintro e w6 ⟨rfl, hb6⟩
      have hB6 := hB5.trans (hb6.mono hB5.size)
      go_wp2_with fail
      go_ret
      exact ⟨rfl, hB6⟩
    · go_enter Tryz.func3, Tryz.ntmps3
      go_wp2_with (go_at_call 6; refine (awake_any _).mono ?_; rintro e w6 ⟨rfl, hb6⟩)
      go_ret
      exact ⟨rfl, hb6⟩
  · go_enter Tryz.func3, Tryz.ntmps3
    go_wp2_with (go_at_call 6; refine (awake_any _).mono ?_; rintro e w6 ⟨rfl, hb6⟩)
    go_ret
    exact ⟨rfl, hb6⟩
end Go.Proofs.YtfdcbmmafhjlfaaGreat
