/- The walks of the reference's Long and Great: some truth value; not great: few events. -/
import Derived.Test.YtfdcbmmafhjlfaaGreatEv
import Derived.Test.YtfdcbmmafhjlfaaGreatSx1
namespace Go.Proofs.YtfdcbmmafhjlfaaGreat
open Go.RowKit Go.Lib
set_option linter.unusedVariables false

theorem Strs.below {w w' : World} {A : Option Addr} {n : Nat} (h : Strs w A n) (hb : Below w.heap.size w w') : Strs w' A n := by
  intro k hk
  obtain ⟨b, off, s, e, h1⟩ := h k hk
  exact ⟨b, off, s, e, (hb.cell (p := ⟨b, off + k, none⟩) (block_lt h1)).trans h1⟩
theorem Usrs.below {w w' : World} {A : Option Addr} {n : Nat} (h : Usrs w A n) (hb : Below w.heap.size w w') : Usrs w' A n := by
  intro k hk
  obtain ⟨b, off, s, e, h1⟩ := h k hk
  exact ⟨b, off, s, e, (hb.cell (p := ⟨b, off + k * 2, none⟩) (block_lt h1)).trans h1⟩
theorem EvForm.below {w w' : World} {cs : List Value} (h : EvForm w cs) (hb : Below w.heap.size w w') : EvForm w' cs := by
  unfold EvForm at h ⊢
  obtain ⟨x0, x1, x2, x3, x4, x5, x6, x7, A8, n8, c8, A9, n9, c9, x10, x11, x12, x13, x14, A15, n15, c15, A16, n16, c16, A17, n17, c17, A18, n18, c18, x19, x20, x21, x22, x23, x24, x25, x26, x27, x28, e, h1, h2, h3⟩ := h
  exact ⟨x0, x1, x2, x3, x4, x5, x6, x7, A8, n8, c8, A9, n9, c9, x10, x11, x12, x13, x14, A15, n15, c15, A16, n16, c16, A17, n17, c17, A18, n18, c18, x19, x20, x21, x22, x23, x24, x25, x26, x27, x28, e, h1.below hb, h2.below hb, h3.below hb⟩
/-- the events of an argument -/
def Evf (w : World) (A : Option Addr) (n : Nat) : Prop := ∀ i, i < n → ∃ b off cs, A = some ⟨b, off, none⟩ ∧ EvForm w cs ∧ w.rangeAt b (off + i * 29) cs
theorem EvForm.len {w : World} {cs : List Value} (h : EvForm w cs) : cs.length = 29 := by
  unfold EvForm at h
  obtain ⟨x0, x1, x2, x3, x4, x5, x6, x7, A8, n8, c8, A9, n9, c9, x10, x11, x12, x13, x14, A15, n15, c15, A16, n16, c16, A17, n17, c17, A18, n18, c18, x19, x20, x21, x22, x23, x24, x25, x26, x27, x28, rfl, h1, h2, h3⟩ := h
  rfl
theorem Evf.below {w w' : World} {A : Option Addr} {n : Nat} (h : Evf w A n) (hb : Below w.heap.size w w') : Evf w' A n := by
  intro i hi
  obtain ⟨b, off, cs, e, ho, hr⟩ := h i hi
  exact ⟨b, off, cs, e, ho.below hb, rangeAt_below hr hb (rangeAt_lt hr (by intro e; have := ho.len; rw [e] at this; simp at this))⟩
theorem EvForm.ok {w : World} {cs : List Value} (h : EvForm w cs) : ∃ p, EvOk cs p := by
  unfold EvForm at h
  obtain ⟨x0, x1, x2, x3, x4, x5, x6, x7, A8, n8, c8, A9, n9, c9, x10, x11, x12, x13, x14, A15, n15, c15, A16, n16, c16, A17, n17, c17, A18, n18, c18, x19, x20, x21, x22, x23, x24, x25, x26, x27, x28, rfl, h1, h2, h3⟩ := h
  exact ⟨(x3, x10), rfl, List.all_eq_true.1 rfl, rfl, rfl⟩

/-- some truth value -/
def SomeB (e : Ending) : Prop := ∃ b, e = .returned (.bool b)
set_option maxRecDepth 100000 in
set_option maxHeartbeats 4000000 in
theorem long_any (cs : List Value) (w : World) (h : EvForm w cs) : Calls Tryz.prog 28 #[.agg cs.toArray] w fun e w' => SomeB e ∧ Below w.heap.size w w' := by
  unfold EvForm at h
  obtain ⟨x0, x1, x2, x3, x4, x5, x6, x7, A8, n8, c8, A9, n9, c9, x10, x11, x12, x13, x14, A15, n15, c15, A16, n16, c16, A17, n17, c17, A18, n18, c18, x19, x20, x21, x22, x23, x24, x25, x26, x27, x28, rfl, h15, h16, h17⟩ := h
  have hB : Below w.heap.size w ((w.alloc (.cells #[.int .i64 x0, .string x1, .string x2, .int .i64 x3, .bool x4, .string x5, .int .i64 x6, .int .i64 x7, .slice A8 n8 c8, .slice A9 n9 c9, .string x10, .int .i64 x11, .int .i64 x12, .bool x13, .string x14, .slice A15 n15 c15, .slice A16 n16 c16, .slice A17 n17 c17, .slice A18 n18 c18, .int .i64 x19, .int .i64 x20, .int .i64 x21, .int .i64 x22, .int .i64 x23, .int .i64 x24, .int .i64 x25, .int .i64 x26, .string x27, .int .i64 x28] 41)).alloc (.cells #[.string x10, .int .i64 x11, .int .i64 x12, .bool x13, .string x14, .slice A15 n15 c15, .slice A16 n16 c16, .slice A17 n17 c17, .slice A18 n18 c18, .int .i64 x19, .int .i64 x20, .int .i64 x21, .int .i64 x22, .int .i64 x23, .int .i64 x24, .int .i64 x25] 35)) := ((Below.refl _ w).alloc (Nat.le_refl _) _).alloc (by simp) _
  have hb1 : Below w.heap.size w ((w.alloc (.cells #[.int .i64 x0, .string x1, .string x2, .int .i64 x3, .bool x4, .string x5, .int .i64 x6, .int .i64 x7, .slice A8 n8 c8, .slice A9 n9 c9, .string x10, .int .i64 x11, .int .i64 x12, .bool x13, .string x14, .slice A15 n15 c15, .slice A16 n16 c16, .slice A17 n17 c17, .slice A18 n18 c18, .int .i64 x19, .int .i64 x20, .int .i64 x21, .int .i64 x22, .int .i64 x23, .int .i64 x24, .int .i64 x25, .int .i64 x26, .string x27, .int .i64 x28] 41)).alloc (.cells #[.string x10, .int .i64 x11, .int .i64 x12, .bool x13, .string x14, .slice A15 n15 c15, .slice A16 n16 c16, .slice A17 n17 c17, .slice A18 n18 c18, .int .i64 x19, .int .i64 x20, .int .i64 x21, .int .i64 x22, .int .i64 x23, .int .i64 x24, .int .i64 x25] 35)) := hB
  replace h15 := h15.below hB
  replace h16 := h16.below hB
  replace h17 := h17.below hB
  have hk := Blk.new (w.alloc (.cells #[.int .i64 x0, .string x1, .string x2, .int .i64 x3, .bool x4, .string x5, .int .i64 x6, .int .i64 x7, .slice A8 n8 c8, .slice A9 n9 c9, .string x10, .int .i64 x11, .int .i64 x12, .bool x13, .string x14, .slice A15 n15 c15, .slice A16 n16 c16, .slice A17 n17 c17, .slice A18 n18 c18, .int .i64 x19, .int .i64 x20, .int .i64 x21, .int .i64 x22, .int .i64 x23, .int .i64 x24, .int .i64 x25, .int .i64 x26, .string x27, .int .i64 x28] 41)) 35 #[.string x10, .int .i64 x11, .int .i64 x12, .bool x13, .string x14, .slice A15 n15 c15, .slice A16 n16 c16, .slice A17 n17 c17, .slice A18 n18 c18, .int .i64 x19, .int .i64 x20, .int .i64 x21, .int .i64 x22, .int .i64 x23, .int .i64 x24, .int .i64 x25]
  rw [World.size_alloc] at hk
  go_enter Tryz.func28, Tryz.ntmps28
  go_wp2_with fail
  all_goals try (go_ret; exact ⟨⟨_, rfl⟩, hB⟩)
  have e5 := hk.cell 5
  have e6 := hk.cell 6
  have e7 := hk.cell 7
  simp only [List.getElem?_toArray, List.getElem?_cons_succ, List.getElem?_cons_zero] at e5 e6 e7
  clear hk hb1
  obtain ⟨W0, hW0⟩ : ∃ W0 : World, ((w.alloc (.cells #[.int .i64 x0, .string x1, .string x2, .int .i64 x3, .bool x4, .string x5, .int .i64 x6, .int .i64 x7, .slice A8 n8 c8, .slice A9 n9 c9, .string x10, .int .i64 x11, .int .i64 x12, .bool x13, .string x14, .slice A15 n15 c15, .slice A16 n16 c16, .slice A17 n17 c17, .slice A18 n18 c18, .int .i64 x19, .int .i64 x20, .int .i64 x21, .int .i64 x22, .int .i64 x23, .int .i64 x24, .int .i64 x25, .int .i64 x26, .string x27, .int .i64 x28] 41)).alloc (.cells #[.string x10, .int .i64 x11, .int .i64 x12, .bool x13, .string x14, .slice A15 n15 c15, .slice A16 n16 c16, .slice A17 n17 c17, .slice A18 n18 c18, .int .i64 x19, .int .i64 x20, .int .i64 x21, .int .i64 x22, .int .i64 x23, .int .i64 x24, .int .i64 x25] 35)) = W0 := ⟨_, rfl⟩
  rw [hW0] at hB h15 h16 h17 e5 e6 e7
  go_loopw [4] (fun i wr => ∃ k : Nat, k ≤ n15 ∧ i = .int .i64 (k : Int) ∧ wr = W0) (fun i _ => n15 - (intOf i).toNat)
  case atStart => exact ⟨0, Nat.zero_le _, rfl, hW0⟩
  case round =>
    obtain ⟨k, hk, rfl, rfl⟩ := hrel
    clear hW0
    by_cases hlt : k < n15
    · obtain ⟨bb, ob, s, rfl, hcs⟩ := h15 k hlt
      by_cases hsz : s.size ≤ 2000
      · go_wp2_with fail
        go_roundw
        case rel => exact ⟨k + 1, by omega, by go_num, by trivial⟩
        case measure => simp [intOf]; omega
      · go_wp2_with fail
        go_ret
        exact ⟨⟨_, rfl⟩, hB⟩
    · obtain rfl : k = n15 := by omega
      go_wp2_with fail
      go_loopw [5] (fun i wq => ∃ k : Nat, k ≤ n16 ∧ i = .int .i64 (k : Int) ∧ wq = wr) (fun i _ => n16 - (intOf i).toNat)
      case atStart => exact ⟨0, Nat.zero_le _, rfl, rfl⟩
      case round =>
        obtain ⟨k, hk, rfl, rfl⟩ := hrel
        by_cases hlt : k < n16
        · obtain ⟨bb, ob, s, rfl, hcs⟩ := h16 k hlt
          by_cases hsz : s.size ≤ 2000
          · go_wp2_with fail
            go_roundw
            case rel => exact ⟨k + 1, by omega, by go_num, by trivial⟩
            case measure => simp [intOf]; omega
          · go_wp2_with fail
            go_ret
            exact ⟨⟨_, rfl⟩, hB⟩
        · obtain rfl : k = n16 := by omega
          go_wp2_with fail
          go_loopw [6] (fun i wq => ∃ k : Nat, k ≤ n17 ∧ i = .int .i64 (k : Int) ∧ wq = wr) (fun i _ => n17 - (intOf i).toNat)
          case atStart => exact ⟨0, Nat.zero_le _, rfl, rfl⟩
          case round =>
            obtain ⟨k, hk, rfl, rfl⟩ := hrel
            by_cases hlt : k < n17
            · obtain ⟨bb, ob, s, rfl, hcs⟩ := h17 k hlt
              by_cases hsz : s.size ≤ 2000
              · go_wp2_with fail
                go_roundw
                case rel => exact ⟨k + 1, by omega, by go_num, by trivial⟩
                case measure => simp [intOf]; omega
              · go_wp2_with fail
                go_ret
                exact ⟨⟨_, rfl⟩, hB⟩
            · obtain rfl : k = n17 := by omega
              go_wp2_with fail
              go_ret
              exact ⟨⟨_, rfl⟩, hB⟩
end Go.Proofs.YtfdcbmmafhjlfaaGreat
