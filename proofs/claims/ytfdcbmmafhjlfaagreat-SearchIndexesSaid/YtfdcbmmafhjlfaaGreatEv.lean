/- An event that came in, opened to its 29 cells. -/
import Derived.Deep.Slices
import Derived.ChangeArms
import Derived.Deep.MidRow
import Derived.Test.YtfdcbmmafhjlfaaGreatProg
namespace Go.Proofs.YtfdcbmmafhjlfaaGreat
open Go.ChangeShapes Go.WideShapes Go.Deep
set_option linter.unusedVariables false

/-- a row of strings, to be read -/
def Strs (w : World) (A : Option Addr) (n : Nat) : Prop := ∀ k, k < n → ∃ (b off : Nat) (s : ByteArray), A = some ⟨b, off, none⟩ ∧ w.cell? ⟨b, off + k, none⟩ = some (.string s)
/-- a row of strings with a number each, to be read -/
def Usrs (w : World) (A : Option Addr) (n : Nat) : Prop := ∀ k, k < n → ∃ (b off : Nat) (s : ByteArray), A = some ⟨b, off, none⟩ ∧ w.cell? ⟨b, off + k * 2, none⟩ = some (.string s)
def EvForm (w : World) (cs : List Value) : Prop := ∃ (x0 : Int) (x1 : ByteArray) (x2 : ByteArray) (x3 : Int) (x4 : Bool) (x5 : ByteArray) (x6 : Int) (x7 : Int) (A8 : Option Addr) (n8 c8 : Nat) (A9 : Option Addr) (n9 c9 : Nat) (x10 : ByteArray) (x11 : Int) (x12 : Int) (x13 : Bool) (x14 : ByteArray) (A15 : Option Addr) (n15 c15 : Nat) (A16 : Option Addr) (n16 c16 : Nat) (A17 : Option Addr) (n17 c17 : Nat) (A18 : Option Addr) (n18 c18 : Nat) (x19 : Int) (x20 : Int) (x21 : Int) (x22 : Int) (x23 : Int) (x24 : Int) (x25 : Int) (x26 : Int) (x27 : ByteArray) (x28 : Int), cs = [.int .i64 x0, .string x1, .string x2, .int .i64 x3, .bool x4, .string x5, .int .i64 x6, .int .i64 x7, .slice A8 n8 c8, .slice A9 n9 c9, .string x10, .int .i64 x11, .int .i64 x12, .bool x13, .string x14, .slice A15 n15 c15, .slice A16 n16 c16, .slice A17 n17 c17, .slice A18 n18 c18, .int .i64 x19, .int .i64 x20, .int .i64 x21, .int .i64 x22, .int .i64 x23, .int .i64 x24, .int .i64 x25, .int .i64 x26, .string x27, .int .i64 x28] ∧ Strs w A15 n15 ∧ Strs w A16 n16 ∧ Usrs w A17 n17

theorem take_one {cs : List Value} {k : Nat} {v : Value} (h : (cs.drop k).take 1 = [v]) : cs[k]? = some v := by
  have h1 : ((cs.drop k).take 1)[0]? = some v := by rw [h]; rfl
  rw [List.getElem?_take_of_lt (by omega), List.getElem?_drop, Nat.add_zero] at h1
  exact h1
theorem take_part {cs : List Value} {o n k : Nat} {v : Value} (h : ((cs.drop o).take n)[k]? = some v) : cs[o + k]? = some v := by
  rw [List.getElem?_take] at h
  split at h
  · rwa [List.getElem?_drop] at h
  · cases h
section
variable {H : Type} {enc : TypeId × Value → H} {w : World} {base fuel : Nat} {held : Bool} {cs : List Value} {x : DataW H × List MemPlace}
abbrev Tr (enc : TypeId × Value → H) (w : World) (base : Nat) (held : Bool) (fuel : Nat) (t : TypeId) (cs : List Value) (x : DataW H × List MemPlace) : Prop := DataW.trod enc Tryz.prog w base (fun _ => true) held fuel t cs = some x
theorem spot_none {a : Addr} {k : Nat} {v0 v : Value} (h0 : w.cell? (a.add 0) = some v0) (h : w.cell? (a.add k) = some v) : ∃ b off, a = ⟨b, off, none⟩ ∧ w.cell? ⟨b, off + k, none⟩ = some v := by
  obtain ⟨b, off, sp⟩ := a
  have hsp : sp = none := World.cell?_spot h0
  subst hsp
  rw [Addr.add_mid] at h
  exact ⟨b, off, rfl, h⟩
theorem open_strs (h : Tr enc w base held fuel 24 cs x) : ∃ A n c, cs = [.slice A n c] ∧ Strs w A n := by
  rcases open_slice1 Tryz.underlying24 (by kernel_rfl) h with ⟨h0, _⟩ | ⟨a, len, cap, m, n, V, D, Pl, hcs, _, hl, _, hm, _, hi⟩
  · exact ⟨none, 0, 0, h0, fun k hk => by omega⟩
  · refine ⟨some a, len, cap, hcs, fun k hk => ?_⟩
    obtain ⟨h1, h2⟩ := hi k (by rw [hm]; simp; omega)
    obtain ⟨s, h3, _⟩ := DataW.trod_string Tryz.underlying9 h2
    obtain ⟨b, off, rfl, h4⟩ := spot_none (hi 0 (by rw [hm]; simp; omega)).1 h1
    injection h3 with h3
    exact ⟨b, off, s, rfl, by rw [h4, h3]⟩
theorem open_usrs (h : Tr enc w base held fuel 30 cs x) : ∃ A n c, cs = [.slice A n c] ∧ Usrs w A n := by
  rcases open_slice Tryz.underlying30 h with ⟨h0, _⟩ | ⟨a, len, cap, m, n, D, Pl, hcs, _, hl, _, hm, _, hi⟩
  · exact ⟨none, 0, 0, h0, fun k hk => by omega⟩
  · refine ⟨some a, len, cap, hcs, fun k hk => ?_⟩
    have key : ∀ k, k < len → ∃ s : ByteArray, w.cell? (a.add (k * 2)) = some (.string s) := by
      intro k hk
      obtain ⟨cs', h1, h2⟩ := hi k (by rw [hm]; simp; omega)
      have hC : Tryz.prog.cellsOf 82 = 2 := by kernel_rfl
      rw [hC] at h1
      obtain ⟨_, hcl, hat⟩ := World.cells?_some h1
      obtain ⟨ys, n', _, _, _, hyl, hf⟩ := DataW.trod_struct Tryz.underlying82 h2
      have h3 := hf 0 _ rfl
      obtain ⟨y, hy⟩ : ∃ y, ys[0]? = some y := ⟨_, List.getElem?_eq_getElem (by rw [hyl]; decide)⟩
      rw [hy] at h3
      obtain ⟨s, h4, _⟩ := DataW.trod_string Tryz.underlying9 h3
      have hS : Tryz.prog.cellsOf 9 = 1 := by kernel_rfl
      have h5 : (cs'.drop 0).take 1 = [.string s] := by rw [← hS]; exact h4
      have h6 := (hat 0 (by omega)).trans (take_one h5)
      rw [Go.Deep.add_add, Nat.add_zero] at h6
      exact ⟨s, h6⟩
    obtain ⟨s, h1⟩ := key k hk
    obtain ⟨s0, h0⟩ := key 0 (by omega)
    rw [Nat.zero_mul] at h0
    obtain ⟨b, off, rfl, h7⟩ := spot_none h0 h1
    exact ⟨b, off, s, rfl, h7⟩
theorem open_slice_any {t e : TypeId} (ht : Tryz.prog.underlying t = some (.slice e)) (h : Tr enc w base held fuel t cs x) : ∃ A n c, cs = [.slice A n c] := by
  rcases open_slice ht h with ⟨h0, _⟩ | ⟨a, len, cap, m, n, D, Pl, hcs, _⟩
  · exact ⟨none, 0, 0, h0⟩
  · exact ⟨some a, len, cap, hcs⟩
/-- a field of a struct: its part of the cells -/
theorem part {t : TypeId} {fs : Array Field} (ht : Tryz.prog.underlying t = some (.struct fs)) (h : Tr enc w base held fuel t cs x) (i : Nat) (f : Field) (hf : fs[i]? = some f) (o n : Nat) (ho : f.offset = o) (hn : Tryz.prog.cellsOf f.type = n) :
    ∃ fuel' y, Tr enc w base held fuel' f.type ((cs.drop o).take n) y := by
  obtain ⟨ys, n', _, _, _, hyl, h2⟩ := DataW.trod_struct ht h
  have h3 := h2 i f hf
  have hi : i < ys.length := by rw [hyl]; exact (Array.getElem?_eq_some_iff.1 hf).1
  rw [List.getElem?_eq_getElem hi, ho, hn] at h3
  exact ⟨n', _, h3⟩
theorem part_int {t : TypeId} (ht : Tryz.prog.underlying t = some (.int .i64)) {k : Nat} {y : DataW H × List MemPlace} (h : Tr enc w base held fuel t ((cs.drop k).take 1) y) : ∃ n, cs[k]? = some (.int .i64 n) := by
  obtain ⟨n, h1, _⟩ := DataW.trod_int ht h
  exact ⟨n, take_one h1⟩
theorem part_str {t : TypeId} (ht : Tryz.prog.underlying t = some .string) {k : Nat} {y : DataW H × List MemPlace} (h : Tr enc w base held fuel t ((cs.drop k).take 1) y) : ∃ s, cs[k]? = some (.string s) := by
  obtain ⟨n, h1, _⟩ := DataW.trod_string ht h
  exact ⟨n, take_one h1⟩
theorem part_bool {t : TypeId} (ht : Tryz.prog.underlying t = some .bool) {k : Nat} {y : DataW H × List MemPlace} (h : Tr enc w base held fuel t ((cs.drop k).take 1) y) : ∃ b, cs[k]? = some (.bool b) := by
  obtain ⟨n, h1, _⟩ := DataW.trod_bool ht h
  exact ⟨n, take_one h1⟩
theorem part_slice {t e : TypeId} (ht : Tryz.prog.underlying t = some (.slice e)) {k : Nat} {y : DataW H × List MemPlace} (h : Tr enc w base held fuel t ((cs.drop k).take 1) y) : ∃ A n c, cs[k]? = some (.slice A n c) := by
  obtain ⟨A, n, c, h1⟩ := open_slice_any ht h
  exact ⟨A, n, c, take_one h1⟩
theorem part_strs {k : Nat} {y : DataW H × List MemPlace} (h : Tr enc w base held fuel 24 ((cs.drop k).take 1) y) : ∃ A n c, cs[k]? = some (.slice A n c) ∧ Strs w A n := by
  obtain ⟨A, n, c, h1, h2⟩ := open_strs h
  exact ⟨A, n, c, take_one h1, h2⟩
theorem part_usrs {k : Nat} {y : DataW H × List MemPlace} (h : Tr enc w base held fuel 30 ((cs.drop k).take 1) y) : ∃ A n c, cs[k]? = some (.slice A n c) ∧ Usrs w A n := by
  obtain ⟨A, n, c, h1, h2⟩ := open_usrs h
  exact ⟨A, n, c, take_one h1, h2⟩
theorem ev_open (h : Tr enc w base held fuel 41 cs x) (hl : cs.length = 29) : EvForm w cs := by
  obtain ⟨_, _, g0⟩ := part Tryz.underlying41 h 0 _ rfl 0 1 rfl (by kernel_rfl)
  obtain ⟨x0, h0⟩ := part_int Tryz.underlying3 g0
  obtain ⟨_, _, g1⟩ := part Tryz.underlying41 h 1 _ rfl 1 1 rfl (by kernel_rfl)
  obtain ⟨x1, h1⟩ := part_str Tryz.underlying9 g1
  obtain ⟨_, _, g2⟩ := part Tryz.underlying41 h 2 _ rfl 2 1 rfl (by kernel_rfl)
  obtain ⟨x2, h2⟩ := part_str Tryz.underlying9 g2
  obtain ⟨_, _, g3⟩ := part Tryz.underlying41 h 3 _ rfl 3 1 rfl (by kernel_rfl)
  obtain ⟨x3, h3⟩ := part_int Tryz.underlying36 g3
  obtain ⟨_, _, g4⟩ := part Tryz.underlying41 h 4 _ rfl 4 1 rfl (by kernel_rfl)
  obtain ⟨x4, h4⟩ := part_bool Tryz.underlying4 g4
  obtain ⟨_, _, g5⟩ := part Tryz.underlying41 h 5 _ rfl 5 1 rfl (by kernel_rfl)
  obtain ⟨x5, h5⟩ := part_str Tryz.underlying9 g5
  obtain ⟨_, _, g6⟩ := part Tryz.underlying41 h 6 _ rfl 6 1 rfl (by kernel_rfl)
  obtain ⟨x6, h6⟩ := part_int Tryz.underlying3 g6
  obtain ⟨_, _, g7⟩ := part Tryz.underlying41 h 7 _ rfl 7 1 rfl (by kernel_rfl)
  obtain ⟨x7, h7⟩ := part_int Tryz.underlying3 g7
  obtain ⟨_, _, g8⟩ := part Tryz.underlying41 h 8 _ rfl 8 1 rfl (by kernel_rfl)
  obtain ⟨A8, n8, c8, h8⟩ := part_slice Tryz.underlying37 g8
  obtain ⟨_, _, g9⟩ := part Tryz.underlying41 h 9 _ rfl 9 1 rfl (by kernel_rfl)
  obtain ⟨A9, n9, c9, h9⟩ := part_slice Tryz.underlying37 g9
  obtain ⟨_, _, gc⟩ := part Tryz.underlying41 h 10 _ rfl 10 16 rfl (by kernel_rfl)
  obtain ⟨_, _, g26⟩ := part Tryz.underlying41 h 11 _ rfl 26 1 rfl (by kernel_rfl)
  obtain ⟨x26, h26⟩ := part_int Tryz.underlying3 g26
  obtain ⟨_, _, gs⟩ := part Tryz.underlying41 h 12 _ rfl 27 2 rfl (by kernel_rfl)
  obtain ⟨_, _, g10⟩ := part Tryz.underlying35 gc 0 _ rfl 0 1 rfl (by kernel_rfl)
  obtain ⟨x10, h10⟩ := part_str Tryz.underlying9 g10
  replace h10 := take_part h10
  obtain ⟨_, _, g11⟩ := part Tryz.underlying35 gc 1 _ rfl 1 1 rfl (by kernel_rfl)
  obtain ⟨x11, h11⟩ := part_int Tryz.underlying3 g11
  replace h11 := take_part h11
  obtain ⟨_, _, g12⟩ := part Tryz.underlying35 gc 2 _ rfl 2 1 rfl (by kernel_rfl)
  obtain ⟨x12, h12⟩ := part_int Tryz.underlying3 g12
  replace h12 := take_part h12
  obtain ⟨_, _, g13⟩ := part Tryz.underlying35 gc 3 _ rfl 3 1 rfl (by kernel_rfl)
  obtain ⟨x13, h13⟩ := part_bool Tryz.underlying4 g13
  replace h13 := take_part h13
  obtain ⟨_, _, g14⟩ := part Tryz.underlying35 gc 4 _ rfl 4 1 rfl (by kernel_rfl)
  obtain ⟨x14, h14⟩ := part_str Tryz.underlying9 g14
  replace h14 := take_part h14
  obtain ⟨_, _, g15⟩ := part Tryz.underlying35 gc 5 _ rfl 5 1 rfl (by kernel_rfl)
  obtain ⟨A15, n15, c15, h15, k15⟩ := part_strs g15
  replace h15 := take_part h15
  obtain ⟨_, _, g16⟩ := part Tryz.underlying35 gc 6 _ rfl 6 1 rfl (by kernel_rfl)
  obtain ⟨A16, n16, c16, h16, k16⟩ := part_strs g16
  replace h16 := take_part h16
  obtain ⟨_, _, gl⟩ := part Tryz.underlying35 gc 7 _ rfl 7 9 rfl (by kernel_rfl)
  obtain ⟨_, _, g17⟩ := part Tryz.underlying33 gl 0 _ rfl 0 1 rfl (by kernel_rfl)
  obtain ⟨A17, n17, c17, h17, k17⟩ := part_usrs g17
  replace h17 := take_part (take_part h17)
  obtain ⟨_, _, g18⟩ := part Tryz.underlying33 gl 1 _ rfl 1 1 rfl (by kernel_rfl)
  obtain ⟨A18, n18, c18, h18⟩ := part_slice Tryz.underlying31 g18
  replace h18 := take_part (take_part h18)
  obtain ⟨_, _, g19⟩ := part Tryz.underlying33 gl 2 _ rfl 2 1 rfl (by kernel_rfl)
  obtain ⟨x19, h19⟩ := part_int Tryz.underlying3 g19
  replace h19 := take_part (take_part h19)
  obtain ⟨_, _, g20⟩ := part Tryz.underlying33 gl 3 _ rfl 3 1 rfl (by kernel_rfl)
  obtain ⟨x20, h20⟩ := part_int Tryz.underlying3 g20
  replace h20 := take_part (take_part h20)
  obtain ⟨_, _, g21⟩ := part Tryz.underlying33 gl 4 _ rfl 4 1 rfl (by kernel_rfl)
  obtain ⟨x21, h21⟩ := part_int Tryz.underlying3 g21
  replace h21 := take_part (take_part h21)
  obtain ⟨_, _, g22⟩ := part Tryz.underlying33 gl 5 _ rfl 5 1 rfl (by kernel_rfl)
  obtain ⟨x22, h22⟩ := part_int Tryz.underlying3 g22
  replace h22 := take_part (take_part h22)
  obtain ⟨_, _, g23⟩ := part Tryz.underlying33 gl 6 _ rfl 6 1 rfl (by kernel_rfl)
  obtain ⟨x23, h23⟩ := part_int Tryz.underlying3 g23
  replace h23 := take_part (take_part h23)
  obtain ⟨_, _, g24⟩ := part Tryz.underlying33 gl 7 _ rfl 7 1 rfl (by kernel_rfl)
  obtain ⟨x24, h24⟩ := part_int Tryz.underlying3 g24
  replace h24 := take_part (take_part h24)
  obtain ⟨_, _, g25⟩ := part Tryz.underlying33 gl 8 _ rfl 8 1 rfl (by kernel_rfl)
  obtain ⟨x25, h25⟩ := part_int Tryz.underlying3 g25
  replace h25 := take_part (take_part h25)
  obtain ⟨_, _, g27⟩ := part Tryz.underlying39 gs 0 _ rfl 0 1 rfl (by kernel_rfl)
  obtain ⟨x27, h27⟩ := part_str Tryz.underlying9 g27
  replace h27 := take_part h27
  obtain ⟨_, _, g28⟩ := part Tryz.underlying39 gs 1 _ rfl 1 1 rfl (by kernel_rfl)
  obtain ⟨x28, h28⟩ := part_int Tryz.underlying3 g28
  replace h28 := take_part h28
  refine ⟨x0, x1, x2, x3, x4, x5, x6, x7, A8, n8, c8, A9, n9, c9, x10, x11, x12, x13, x14, A15, n15, c15, A16, n16, c16, A17, n17, c17, A18, n18, c18, x19, x20, x21, x22, x23, x24, x25, x26, x27, x28, ?_, k15, k16, k17⟩
  refine List.ext_getElem? fun i => ?_
  match i with
  | 0 => exact h0
  | 1 => exact h1
  | 2 => exact h2
  | 3 => exact h3
  | 4 => exact h4
  | 5 => exact h5
  | 6 => exact h6
  | 7 => exact h7
  | 8 => exact h8
  | 9 => exact h9
  | 10 => exact h10
  | 11 => exact h11
  | 12 => exact h12
  | 13 => exact h13
  | 14 => exact h14
  | 15 => exact h15
  | 16 => exact h16
  | 17 => exact h17
  | 18 => exact h18
  | 19 => exact h19
  | 20 => exact h20
  | 21 => exact h21
  | 22 => exact h22
  | 23 => exact h23
  | 24 => exact h24
  | 25 => exact h25
  | 26 => exact h26
  | 27 => exact h27
  | 28 => exact h28
  | i + 29 => rw [List.getElem?_eq_none (by rw [hl]; omega), List.getElem?_eq_none (by simp)]
end
end Go.Proofs.YtfdcbmmafhjlfaaGreat
