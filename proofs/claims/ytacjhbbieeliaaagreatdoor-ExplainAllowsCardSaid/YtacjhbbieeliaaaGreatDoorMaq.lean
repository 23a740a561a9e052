/- The texts Jb, Jc, Jd of this proof, one behind the other. -/
import Derived.Deep.CutBlock
import Derived.Test.YtacjhbbieeliaaaGreatDoorMap
set_option linter.unusedSimpArgs false
set_option maxHeartbeats 16000000
set_option maxRecDepth 100000
/- The text Jb. -/
namespace Rn
theorem strip_at (s : Str) : (strip s).2 = s.drop (2 * (strip s).1) := by
 have h := strip_inv s
 have : s.drop (2 * (strip s).1) = (List.replicate (2 * (strip s).1) 32 ++ (strip s).2).drop (2 * (strip s).1) := congrArg _ h
 rw [this, List.drop_append_of_le_length (by simp), List.drop_of_length_le (by simp)]
 rfl
theorem pre_two {s : Str} {p : Nat} : [32, 32] <+: s.drop p ↔ s[p]? = some 32 ∧ s[p + 1]? = some 32 := by
 constructor
 ·rintro ⟨t, h⟩
  have h0 : (s.drop p)[0]? = some 32 := by rw [← h]; rfl
  have h1 : (s.drop p)[1]? = some 32 := by rw [← h]; rfl
  rw [List.getElem?_drop] at h0 h1
  exact ⟨h0, h1⟩
 ·rintro ⟨h0, h1⟩
  obtain ⟨l0, e0⟩ := List.getElem?_eq_some_iff.1 h0
  obtain ⟨l1, e1⟩ := List.getElem?_eq_some_iff.1 h1
  exact ⟨s.drop (p + 2), by rw [List.drop_eq_getElem_cons l0, List.drop_eq_getElem_cons l1, e0, e1]; rfl⟩
def rowA (lv : Nat) (a r : Str) : Option Rw := if ruled a then match cutB 32 r with
  | none => none
  | some (b, c) => match Sm.un b, code c with
   | some i, some e => some ⟨lv, a, (i : Int), e⟩
   | _, _ => none
  else none
end Rn
namespace Go.Proofs.YtacjhbbieeliaaaGreatDoor
open Go.RowKit Go.Lib
set_option linter.unusedVariables false
set_option linter.unusedSimpArgs false
def rxC (x : Rn.Rw) : List Value := [.int .i64 (x.lv : Int), .string (bstr x.rule), .int .i64 x.id, .int .i64 x.err, .slice none 0 0]
abbrev zRx : Array Value := #[.int .i64 0, .string ⟨#[]⟩, .int .i64 0, .int .i64 0, .slice none 0 0]
def RRowA (s : List UInt8) (e : Ending) : Prop := (∃ x, Rn.row s = some x ∧ e = .returned (.tuple #[.agg (rxC x).toArray, .bool true])) ∨
 (Rn.row s = none ∧ ∃ V, e = .returned (.tuple #[.agg V, .bool false]) ∧ V.size = 5 ∧ V.all (·.oneCell') = true)
end Go.Proofs.YtacjhbbieeliaaaGreatDoor
/- The text Jc. -/
namespace Go.Proofs.YtacjhbbieeliaaaGreatDoor
open Go.RowKit Go.Lib
set_option linter.unusedVariables false
set_option linter.unusedSimpArgs false
def RxS : Shp Rn.Rw where
 sz := 5
 V := fun _ _ X x => X = rxC x
 pos := by decide
 len := fun h => by rw [h]; rfl
 one := fun h u hu => by
  rw [h] at hu
  unfold rxC at hu
  simp only [List.mem_cons, List.not_mem_nil, or_false] at hu
  rcases hu with rfl | rfl | rfl | rfl | rfl <;> rfl
 keep := fun h _ => h
theorem range_suf {w : World} {b o : Nat} {x : Rn.Rw} (h : w.rangeAt b o (rxC x)) : w.rangeAt b (o + 1) [Value.string (bstr x.rule), .int .i64 x.id, .int .i64 x.err, .slice none 0 0] := fun j v hj => by
 rw [Nat.add_assoc, Nat.add_comm 1 j]
 exact h (j + 1) v hj
def GrownA (base : Nat) (L : List Rn.Rw) (t : Rn.Tr) (rest : List Rn.Rw) (e : Ending) (w' : World) : Prop := ∃ (V : Array Value) (k : Nat), e = .returned (.tuple #[.agg V, .int .i64 (k : Int)]) ∧ L.drop k = rest ∧ k ≤ L.length ∧ RnV w' (fun b => base ≤ b) V t
end Go.Proofs.YtacjhbbieeliaaaGreatDoor
/- The text Jd. -/
namespace Go.Proofs.YtacjhbbieeliaaaGreatDoor
open Go.RowKit Go.Lib
set_option linter.unusedVariables false
set_option linter.unusedSimpArgs false
theorem RRowA.no {s : List UInt8} {e : Ending} (h : RRowA s e) (hr : Rn.row s = none) : ∃ V, e = .returned (.tuple #[.agg V, .bool false]) ∧ V.size = 5 ∧ V.all (·.oneCell') = true := by
 rcases h with ⟨x, h1, -⟩ | ⟨-, V, rfl, h1, h2⟩
 ·rw [hr] at h1; cases h1
 ·exact ⟨V, rfl, h1, h2⟩
theorem RRowA.yes {s : List UInt8} {e : Ending} (h : RRowA s e) {x : Rn.Rw} (hr : Rn.row s = some x) : e = .returned (.tuple #[.agg #[.int .i64 (x.lv : Int), .string (bstr x.rule), .int .i64 x.id, .int .i64 x.err, .slice none 0 0], .bool true]) := by
 rcases h with ⟨y, h1, rfl⟩ | ⟨h1, -⟩
 ·rw [hr] at h1; injection h1 with h1; rw [h1]; rfl
 ·rw [hr] at h1; cases h1
end Go.Proofs.YtacjhbbieeliaaaGreatDoor
