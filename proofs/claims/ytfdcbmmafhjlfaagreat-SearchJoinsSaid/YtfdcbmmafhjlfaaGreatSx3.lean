/- The walk of room.New at the name of a room. -/
import Derived.Laws.ResultCell
import Derived.Laws.Rows
import Derived.Test.YtfdcbmmafhjlfaaGreatSw8
namespace Go.Proofs.YtfdcbmmafhjlfaaGreat
open Go.RowKit Go.Lib
set_option linter.unusedVariables false

theorem letter_small (c : Int) (h1 : 97 ≤ c) (h2 : c ≤ 122) (w : World) : Calls Tryz.prog 97 #[.int .u8 c] w fun e w' => e = .returned (.bool true) ∧ w' = w := by
  go_enter Tryz.func97, Tryz.ntmps97
  go_wp2_with fail
  go_ret
  exact ⟨rfl, rfl⟩
set_option maxRecDepth 100000 in
theorem valid_r (f : Value) (w : World) : Calls Tryz.prog 94 #[.string ⟨#[114]⟩, f] w fun e w' => e = .returned (.bool true) ∧ w' = w := by
  go_enter Tryz.func94, Tryz.ntmps94
  go_wp2_with fail
  go_loopw [16] (fun i wr => ∃ k : Nat, k ≤ 1 ∧ i = .int .i64 k ∧ wr = w) (fun i _ => 1 - (intOf i).toNat)
  case atStart => exact ⟨0, by omega, rfl, rfl⟩
  case round =>
    obtain ⟨k, hk, rfl, rfl⟩ := hrel
    rcases (show k = 0 ∨ k = 1 by omega) with rfl | rfl
    · go_wp2_with (go_at_call 97; refine (letter_small _ (by decide) (by decide) _).mono ?_; rintro e w' ⟨rfl, rfl⟩)
      go_roundw
      case rel => exact ⟨1, by omega, rfl, by trivial⟩
      case measure => decide
    · go_wp2_with fail
      go_ret
      exact ⟨rfl, rfl⟩
set_option maxRecDepth 100000 in
theorem valid_a (f : Value) (w : World) : Calls Tryz.prog 94 #[.string ⟨#[97]⟩, f] w fun e w' => e = .returned (.bool true) ∧ w' = w := by
  go_enter Tryz.func94, Tryz.ntmps94
  go_wp2_with fail
  go_loopw [16] (fun i wr => ∃ k : Nat, k ≤ 1 ∧ i = .int .i64 k ∧ wr = w) (fun i _ => 1 - (intOf i).toNat)
  case atStart => exact ⟨0, by omega, rfl, rfl⟩
  case round =>
    obtain ⟨k, hk, rfl, rfl⟩ := hrel
    rcases (show k = 0 ∨ k = 1 by omega) with rfl | rfl
    · go_wp2_with (go_at_call 97; refine (letter_small _ (by decide) (by decide) _).mono ?_; rintro e w' ⟨rfl, rfl⟩)
      go_roundw
      case rel => exact ⟨1, by omega, rfl, by trivial⟩
      case measure => decide
    · go_wp2_with fail
      go_ret
      exact ⟨rfl, rfl⟩
theorem local_r (w : World) : Calls Tryz.prog 78 #[.string ⟨#[114]⟩] w fun e w' => e = .returned (.bool true) ∧ w' = w := by
  go_enter Tryz.func78, Tryz.ntmps78
  go_wp2_with (go_at_call 94; refine (valid_r _ _).mono ?_; rintro e w' ⟨rfl, rfl⟩)
  go_ret
  exact ⟨rfl, rfl⟩
theorem server_a (w : World) : Calls Tryz.prog 79 #[.string ⟨#[97]⟩] w fun e w' => e = .returned (.bool true) ∧ w' = w := by
  go_enter Tryz.func79, Tryz.ntmps79
  go_wp2_with (first
    | (go_at_call 94; refine (valid_a _ _).mono ?_; rintro e w' ⟨rfl, rfl⟩)
    | (go_at_call 97; refine (letter_small _ (by decide) (by decide) _).mono ?_; rintro e w' ⟨rfl, rfl⟩))
  go_ret
  exact ⟨rfl, rfl⟩
theorem lcut_ra (w : World) : Calls Tryz.prog 93 #[.string ⟨#[114, 58, 97]⟩, .string ⟨#[58]⟩] w fun e w' => e = .returned (.tuple #[.string ⟨#[114]⟩, .string ⟨#[97]⟩, .bool true]) ∧ ∃ q, w' = w.drewN q := by
  have hi : Lib.indexByte (⟨#[114, 58, 97]⟩ : ByteArray).data.toList 58 = 1 := by decide
  go_enter Tryz.func93, Tryz.ntmps93
  go_wp2_with (go_at_call 121; refine (Tryz.stringslite_Index_one _ 58 _).mono ?_; rintro e w' ⟨rfl, rfl⟩; rw [hi])
  go_quiet (fail)
  go_wp2_with fail
  go_ret3
  exact ⟨rfl, _, rfl⟩
theorem cut_ra (w : World) : Calls Tryz.prog 77 #[.string ⟨#[114, 58, 97]⟩, .string ⟨#[58]⟩] w fun e w' => e = .returned (.tuple #[.string ⟨#[114]⟩, .string ⟨#[97]⟩, .bool true]) ∧ ∃ q, w' = w.drewN q := by
  go_enter Tryz.func77, Tryz.ntmps77
  go_wp2_with (go_at_call 93; refine (lcut_ra _).mono ?_; rintro e w' ⟨rfl, q, rfl⟩)
  go_ret3
  exact ⟨rfl, _, rfl⟩
theorem idx33 (c : Int) (hc : c = 33) (w : World) : Calls Tryz.prog 76 #[.string ⟨#[33]⟩, .int .u8 c] w fun e w' => e = .returned (.int .i64 0) ∧ w' = w := by
  subst hc
  refine (Tryz.strings_IndexByte _ _ _).mono ?_
  rintro e w' ⟨rfl, rfl⟩
  exact ⟨rfl, rfl⟩
set_option maxRecDepth 100000 in
theorem split_ra (w : World) : Calls Tryz.prog 58 #[.string ⟨#[33, 114, 58, 97]⟩, .string ⟨#[33]⟩] w fun e w' => e = .returned (.tuple #[.string ⟨#[114]⟩, .string ⟨#[97]⟩, .bool true]) ∧ ∃ q, w' = w.drewN q := by
  go_enter Tryz.func58, Tryz.ntmps58
  go_wp2_with (first
    | (go_at_call 76; refine (idx33 _ (by decide) _).mono ?_; rintro e w' ⟨rfl, rfl⟩)
    | (go_at_call 77; refine (cut_ra _).mono ?_; rintro e w' ⟨rfl, q, rfl⟩)
    | (go_at_call 78; refine (local_r _).mono ?_; rintro e w' ⟨rfl, rfl⟩)
    | (go_at_call 79; refine (server_a _).mono ?_; rintro e w' ⟨rfl, rfl⟩))
  go_ret3
  exact ⟨rfl, _, rfl⟩
theorem identifies_ra (w : World) : Calls Tryz.prog 37 #[.string ⟨#[33, 114, 58, 97]⟩, .string ⟨#[33]⟩] w fun e w' => e = .returned (.int .i64 0) ∧ ∃ q, w' = w.drewN q := by
  go_enter Tryz.func37, Tryz.ntmps37
  go_wp2_with (go_at_call 58; refine (split_ra _).mono ?_; rintro e w' ⟨rfl, q, rfl⟩)
  go_ret
  exact ⟨rfl, _, rfl⟩
theorem room_ra (w : World) : Calls Tryz.prog 29 #[.string ⟨#[33, 114, 58, 97]⟩] w fun e w' => e = .returned (.int .i64 0) ∧ ∃ q, w' = w.drewN q := by
  go_enter Tryz.func29, Tryz.ntmps29
  go_wp2_with (go_at_call 37; refine (identifies_ra _).mono ?_; rintro e w' ⟨rfl, q, rfl⟩)
  go_ret
  exact ⟨rfl, _, rfl⟩
theorem results_row_tmp {P : Program} {fn : Func} {p u : Tmp} {ty : TypeId} (h : fn.results = #[.cell p ty, .tmp u]) (tmps : Array Value) (w : World) (g : Nat) (t : TypeId) (cs : Array Value) (d : TypeDesc)
    (hp : tmps.getD p undef = .pointer (some ⟨g, 0, none⟩)) (hg : Blk w g t cs)
    (hu : P.underlying ty = some d) (hd : (match d with | .struct _ | .array _ _ => true | _ => false) = true) (hi : (P.info? ty).map (·.size) = some cs.size) :
    (results fn tmps).run P w = .ok (.tuple #[.agg cs, tmps.getD u undef]) w := by
  rw [results_cell_tmp h]
  simp only [hp, asAddr, Sem.run_pure, Result.andThen_ok]
  rw [run_loadVar_row w g t ty cs (0, 0) d hg hu hd hi]
  rfl
theorem size_room : (Tryz.prog.info? 55).map (·.size) = some 9 := by kernel_rfl
set_option maxRecDepth 100000 in
theorem new_ra (w : World) : Calls Tryz.prog 19 #[.string ⟨#[33, 114, 58, 97]⟩] w fun e w' => e = .returned (.tuple #[.agg #[.string ⟨#[33, 114, 58, 97]⟩, .slice none 0 0, .slice none 0 0, .slice none 0 0, .slice none 0 0, .slice none 0 0, .int .i64 0, .slice none 0 0, .slice none 0 0], .int .i64 0]) ∧ Below w.heap.size w w' := by
  go_enter Tryz.func19, Tryz.ntmps19
  go_wp2_with fail
  refine (room_ra _).mono ?_
  rintro e w' ⟨rfl, q, rfl⟩
  have e1 : (w.alloc (.cells #[.string ⟨#[]⟩, .slice none 0 0, .slice none 0 0, .slice none 0 0, .slice none 0 0, .slice none 0 0, .int .i64 0, .slice none 0 0, .slice none 0 0] 55)).drewN q = (w.drewN q).alloc (.cells #[.string ⟨#[]⟩, .slice none 0 0, .slice none 0 0, .slice none 0 0, .slice none 0 0, .slice none 0 0, .int .i64 0, .slice none 0 0, .slice none 0 0] 55) := rfl
  have e2 : w.heap.size = (w.drewN q).heap.size := rfl
  have hb : Below w.heap.size w (w.drewN q) := below_drewN (Below.refl _ _) q
  rw [e1, e2]
  generalize w.drewN q = w0 at *
  clear e1
  go_wp2_with fail
  have hk2 := Blk.new w0 55 #[.string ⟨#[33, 114, 58, 97]⟩, .slice none 0 0, .slice none 0 0, .slice none 0 0, .slice none 0 0, .slice none 0 0, .int .i64 0, .slice none 0 0, .slice none 0 0]
  exact ⟨rfl, _, results_row_tmp rfl _ _ w0.heap.size 55 _ _ rfl hk2 Tryz.underlying55 rfl size_room, rfl, hb.alloc (Nat.le_of_eq e2) _⟩
end Go.Proofs.YtfdcbmmafhjlfaaGreat
