/- The texts By1, By2 of this proof, one behind the other. -/
import Derived.ChangeArms
import Derived.Deep.MidRow
import Derived.Deep.Slices
import Derived.Test.YteadlcncnhbmjaaGreatDoorMal
set_option linter.unusedSimpArgs false
set_option maxHeartbeats 16000000
set_option maxRecDepth 100000
set_option linter.unusedVariables false
/- The text By1. -/
namespace Go.Proofs.YteadlcncnhbmjaaGreatDoor
open Go.ChangeShapes Go.WideShapes Go.Deep Go.RowKit Go.Lib
set_option linter.unusedVariables false
theorem list_of {α : Type} {p : Nat → α → Prop} : ∀ n : Nat, (∀ i, i < n → ∃ x, p i x) → ∃ l : List α, l.length = n ∧ ∀ i x, l[i]? = some x → p i x
 | 0, _ => ⟨[], rfl, fun i x h => by simp at h⟩
 | n + 1, h => by
  obtain ⟨l, hl, hp⟩ := list_of n (fun i hi => h i (by omega))
  obtain ⟨x, hx⟩ := h n (by omega)
  refine ⟨l ++ [x], by rw [List.length_append, hl]; rfl, fun i y hy => ?_⟩
  by_cases hi : i < n
  ·rw [List.getElem?_append_left (by omega)] at hy
   exact hp i y hy
  ·have hlt := (List.getElem?_eq_some_iff.1 hy).1
   rw [List.length_append, List.length_singleton] at hlt
   obtain rfl : i = n := by omega
   rw [List.getElem?_append_right (by omega), hl, Nat.sub_self] at hy
   injection hy with hy
   rw [← hy]
   exact hx
theorem flat_at {α : Type} (el : α → List Value) (sz : Nat) (hsz : ∀ x, (el x).length = sz) : ∀ (l : List α) (k : Nat) (v : Value), (l.flatMap el)[k]? = some v → ∃ i j x, l[i]? = some x ∧ (el x)[j]? = some v ∧ k = i * sz + j
 | [], k, v, h => by simp at h
 | a :: l, k, v, h => by
  rw [List.flatMap_cons] at h
  by_cases hk : k < sz
  ·rw [List.getElem?_append_left (by rw [hsz]; exact hk)] at h
   exact ⟨0, k, a, rfl, h, by omega⟩
  ·rw [List.getElem?_append_right (by rw [hsz]; omega), hsz] at h
   obtain ⟨i, j, x, h1, h2, h3⟩ := flat_at el sz hsz l _ v h
   exact ⟨i + 1, j, x, h1, h2, by rw [Nat.add_mul]; omega⟩
theorem spot_none {w : World} {a : Addr} {k : Nat} {v0 v : Value} (h0 : w.cell? (a.add 0) = some v0) (h : w.cell? (a.add k) = some v) : ∃ b off, a = ⟨b, off, none⟩ ∧ w.cell? ⟨b, off + k, none⟩ = some v := by
 obtain ⟨b, off, sp⟩ := a
 have hsp : sp = none := World.cell?_spot h0
 subst hsp
 rw [Addr.add_mid] at h
 exact ⟨b, off, rfl, h⟩
theorem row_of {α : Type} (el : α → List Value) (sz : Nat) (hsz : ∀ x, (el x).length = sz) (hs0 : 0 < sz) (q : α → Prop) (w : World) (a : Addr) (n : Nat) (h : ∀ i, i < n → ∃ x, q x ∧ ∀ j v, (el x)[j]? = some v → w.cell? (a.add (i * sz + j)) = some v) :
  ∃ l : List α, l.length = n ∧ (∀ x ∈ l, q x) ∧ Rd w (some a) (n * sz) (l.flatMap el) := by
 obtain ⟨l, hl, hp⟩ := list_of n h
 have hlen : ∀ l : List α, (l.flatMap el).length = l.length * sz := by
  intro l
  induction l with
  | nil => simp
  | cons x l ih => rw [List.flatMap_cons, List.length_append, ih, hsz, List.length_cons, Nat.add_mul]; omega
 refine ⟨l, hl, fun x hx => ?_, by rw [hlen, hl], fun k v hk => ?_⟩
 ·obtain ⟨i, hi⟩ := List.mem_iff_getElem?.1 hx
  exact (hp i x hi).1
 ·obtain ⟨i, j, x, h1, h2, rfl⟩ := flat_at el sz hsz l k v hk
  have hv := (hp i x h1).2 j v h2
  have hl0 : 0 < l.length := by have := (List.getElem?_eq_some_iff.1 h1).1; omega
  obtain ⟨v0, hv0⟩ : ∃ v0, (el (l[0]'hl0))[0]? = some v0 := ⟨_, List.getElem?_eq_getElem (by rw [hsz (l[0]'hl0)]; exact hs0)⟩
  have h00 := (hp 0 (l[0]'hl0) (List.getElem?_eq_getElem hl0)).2 0 v0 hv0
  rw [Nat.zero_mul, Nat.zero_add] at h00
  obtain ⟨b, off, e, hc⟩ := spot_none h00 hv
  exact ⟨b, off, by rw [e], hc⟩
theorem intL_flat (l : List Int) : intL l = l.flatMap (fun n => [Value.int .i64 n]) := by
 unfold intL
 induction l with
 | nil => rfl
 | cons x l ih => rw [List.map_cons, List.flatMap_cons, ih]; rfl
theorem strL_flat (l : List (List UInt8)) : strL l = l.flatMap (fun s => [Value.string (bstr s)]) := by
 unfold strL
 induction l with
 | nil => rfl
 | cons x l ih => rw [List.map_cons, List.flatMap_cons, ih]; rfl
theorem wf_in {n : Int} (h : (Lit.int .i64 n).wf = true) : Ar.inInt n := by
 unfold Lit.wf at h
 simp only [Bool.and_eq_true, decide_eq_true_eq] at h
 obtain ⟨h1, h2⟩ := h
 have e1 : IntKind.i64.min = -9223372036854775808 := rfl
 have e2 : IntKind.i64.max = 9223372036854775807 := rfl
 unfold Ar.inInt
 omega
section
variable {H : Type} {enc : TypeId × Value → H} {w : World} {base fuel : Nat} {held : Bool} {cs : List Value} {x : DataW H × List MemPlace}
abbrev Tr (enc : TypeId × Value → H) (w : World) (base : Nat) (held : Bool) (fuel : Nat) (t : TypeId) (cs : List Value) (x : DataW H × List MemPlace) : Prop := DataW.trod enc Tryz.prog w base (fun _ => true) held fuel t cs = some x
abbrev okB : Nat → Prop := fun _ => True
theorem one_at {α : Type} {f : α → Value} {y : α} {j : Nat} {v : Value} (h : ([f y] : List Value)[j]? = some v) : j = 0 ∧ v = f y := by
 rcases j with _ | j
 ·injection h with h; exact ⟨rfl, h.symm⟩
 ·simp at h
theorem open_ints (h : Tr enc w base held fuel 29 cs x) : ∃ c l, cs = [c] ∧ SlcOf okB w c l.length 1 (intL l) ∧ ∀ n ∈ l, Ar.inInt n := by
 rcases open_slice1 Tryz.underlying29 (by kernel_rfl) h with ⟨h0, _⟩ | ⟨a, len, cap, m, n, V, D, Pl, hcs, _, hl, _, hm, _, hi⟩
 ·exact ⟨_, [], h0, ⟨none, 0, rfl, ⟨rfl, fun j v hj => by cases hj⟩, fun _ _ _ => trivial⟩, fun n hn => by cases hn⟩
 ·obtain ⟨l, h1, h2, h3⟩ := row_of (fun n => [Value.int .i64 n]) 1 (fun _ => rfl) (by omega) Ar.inInt w a len (fun i hi' => by
   obtain ⟨h1, h2⟩ := hi i (by rw [hm]; simp; omega)
   obtain ⟨n, h3, _, h4⟩ := DataW.trod_int Tryz.underlying3 h2
   injection h3 with h3
   refine ⟨n, wf_in h4, fun j v hj => ?_⟩
   obtain ⟨rfl, rfl⟩ := one_at (f := fun n => Value.int .i64 n) hj
   rw [Nat.mul_one, Nat.add_zero, h1, h3])
  refine ⟨_, l, hcs, ⟨some a, cap, by rw [h1], by rw [h1, intL_flat]; exact h3, fun _ _ _ => trivial⟩, h2⟩
theorem open_strs (h : Tr enc w base held fuel 30 cs x) : ∃ c l, cs = [c] ∧ SlcOf okB w c l.length 1 (strL l) := by
 rcases open_slice1 Tryz.underlying30 (by kernel_rfl) h with ⟨h0, _⟩ | ⟨a, len, cap, m, n, V, D, Pl, hcs, _, hl, _, hm, _, hi⟩
 ·exact ⟨_, [], h0, ⟨none, 0, rfl, ⟨rfl, fun j v hj => by cases hj⟩, fun _ _ _ => trivial⟩⟩
 ·obtain ⟨l, h1, _, h3⟩ := row_of (fun s => [Value.string (bstr s)]) 1 (fun _ => rfl) (by omega) (fun _ => True) w a len (fun i hi' => by
   obtain ⟨h1, h2⟩ := hi i (by rw [hm]; simp; omega)
   obtain ⟨s, h3, _⟩ := DataW.trod_string Tryz.underlying9 h2
   injection h3 with h3
   refine ⟨s.data.toList, trivial, fun j v hj => ?_⟩
   obtain ⟨rfl, rfl⟩ := one_at (f := fun s => Value.string (bstr s)) hj
   rw [Nat.mul_one, Nat.add_zero, h1, h3]
   rfl)
  exact ⟨_, l, hcs, ⟨some a, cap, by rw [h1], by rw [h1, strL_flat]; exact h3, fun _ _ _ => trivial⟩⟩
theorem take_one {cs : List Value} {k : Nat} {v : Value} (h : (cs.drop k).take 1 = [v]) : cs[k]? = some v := by
 have h1 : ((cs.drop k).take 1)[0]? = some v := by rw [h]; rfl
 rw [List.getElem?_take_of_lt (by omega), List.getElem?_drop, Nat.add_zero] at h1
 exact h1
theorem take_part {cs : List Value} {o n k : Nat} {v : Value} (h : ((cs.drop o).take n)[k]? = some v) : cs[o + k]? = some v := by
 rw [List.getElem?_take] at h
 split at h
 ·rwa [List.getElem?_drop] at h
 ·cases h
theorem part {t : TypeId} {fs : Array Field} (ht : Tryz.prog.underlying t = some (.struct fs)) (h : Tr enc w base held fuel t cs x) (i : Nat) (f : Field) (hf : fs[i]? = some f) (o n : Nat) (ho : f.offset = o) (hn : Tryz.prog.cellsOf f.type = n) :
  ∃ fuel' y, Tr enc w base held fuel' f.type ((cs.drop o).take n) y := by
 obtain ⟨ys, n', _, _, _, hyl, h2⟩ := DataW.trod_struct ht h
 have h3 := h2 i f hf
 have hi : i < ys.length := by rw [hyl]; exact (Array.getElem?_eq_some_iff.1 hf).1
 rw [List.getElem?_eq_getElem hi, ho, hn] at h3
 exact ⟨n', _, h3⟩
theorem part_num {t : TypeId} (ht : Tryz.prog.underlying t = some (.int .i64)) {k : Nat} {y : DataW H × List MemPlace} (h : Tr enc w base held fuel t ((cs.drop k).take 1) y) : ∃ c v, cs[k]? = some c ∧ CellOf okB w c (.num v) ∧ Ar.inInt v := by
 obtain ⟨n, h1, _, h2⟩ := DataW.trod_int ht h
 exact ⟨_, n, take_one h1, rfl, wf_in h2⟩
theorem part_txt {k : Nat} {y : DataW H × List MemPlace} (h : Tr enc w base held fuel 9 ((cs.drop k).take 1) y) : ∃ c v, cs[k]? = some c ∧ CellOf okB w c (.txt v) := by
 obtain ⟨s, h1, _⟩ := DataW.trod_string Tryz.underlying9 h
 exact ⟨_, s.data.toList, take_one h1, rfl⟩
theorem part_flg {k : Nat} {y : DataW H × List MemPlace} (h : Tr enc w base held fuel 4 ((cs.drop k).take 1) y) : ∃ c v, cs[k]? = some c ∧ CellOf okB w c (.flg v) := by
 obtain ⟨b, h1, _⟩ := DataW.trod_bool Tryz.underlying4 h
 exact ⟨_, b, take_one h1, rfl⟩
theorem part_nums {k : Nat} {y : DataW H × List MemPlace} (h : Tr enc w base held fuel 29 ((cs.drop k).take 1) y) : ∃ c v, cs[k]? = some c ∧ CellOf okB w c (.nums v) ∧ ∀ n ∈ v, Ar.inInt n := by
 obtain ⟨c, l, h1, h2, h3⟩ := open_ints h
 exact ⟨c, l, take_one h1, h2, h3⟩
theorem part_txts {k : Nat} {y : DataW H × List MemPlace} (h : Tr enc w base held fuel 30 ((cs.drop k).take 1) y) : ∃ c v, cs[k]? = some c ∧ CellOf okB w c (.txts v) := by
 obtain ⟨c, l, h1, h2⟩ := open_strs h
 exact ⟨c, l, take_one h1, h2⟩
theorem open_usrs (h : Tr enc w base held fuel 31 cs x) : ∃ c l, cs = [c] ∧ SlcOf okB w c l.length 2 (usrL l) ∧ ∀ p ∈ l, Ar.inInt p.2 := by
 rcases open_slice Tryz.underlying31 h with ⟨h0, _⟩ | ⟨a, len, cap, m, n, D, Pl, hcs, _, hl, _, hm, _, hi⟩
 ·exact ⟨_, [], h0, ⟨none, 0, rfl, ⟨rfl, fun j v hj => by cases hj⟩, fun _ _ _ => trivial⟩, fun n hn => by cases hn⟩
 ·obtain ⟨l, h1, h2, h3⟩ := row_of (fun p : List UInt8 × Int => [Value.string (bstr p.1), .int .i64 p.2]) 2 (fun _ => rfl) (by omega) (fun p => Ar.inInt p.2) w a len (fun i hi' => by
   obtain ⟨cs', h1, h2⟩ := hi i (by rw [hm]; simp; omega)
   have hC : Tryz.prog.cellsOf 77 = 2 := by kernel_rfl
   rw [hC] at h1
   obtain ⟨_, hcl, hat⟩ := World.cells?_some h1
   obtain ⟨_, _, g0⟩ := part Tryz.underlying77 h2 0 _ rfl 0 1 rfl (by kernel_rfl)
   obtain ⟨_, _, g1⟩ := part Tryz.underlying77 h2 1 _ rfl 1 1 rfl (by kernel_rfl)
   obtain ⟨c0, v0, k0, e0⟩ := part_txt g0
   obtain ⟨c1, v1, k1, e1, i1⟩ := part_num Tryz.underlying3 g1
   have e0' : c0 = .string (bstr v0) := e0
   have e1' : c1 = .int .i64 v1 := e1
   subst e0' e1'
   refine ⟨(v0, v1), i1, fun j v hj => ?_⟩
   rcases j with _ | _ | j
   ·injection hj with hj
    have h5 := (hat 0 (by omega)).trans k0
    rw [Go.Deep.add_add] at h5
    rw [← hj]
    exact h5
   ·injection hj with hj
    have h5 := (hat 1 (by omega)).trans k1
    rw [Go.Deep.add_add] at h5
    rw [← hj]
    exact h5
   ·simp at hj)
  exact ⟨_, l, hcs, ⟨some a, cap, by rw [h1], by rw [h1]; exact h3, fun _ _ _ => trivial⟩, h2⟩
theorem part_usrs {k : Nat} {y : DataW H × List MemPlace} (h : Tr enc w base held fuel 31 ((cs.drop k).take 1) y) : ∃ c v, cs[k]? = some c ∧ CellOf okB w c (.usrs v) ∧ ∀ p ∈ v, Ar.inInt p.2 := by
 obtain ⟨c, l, h1, h2, h3⟩ := open_usrs h
 exact ⟨c, l, take_one h1, h2, h3⟩
theorem open_knds (h : Tr enc w base held fuel 32 cs x) : ∃ c l, cs = [c] ∧ SlcOf okB w c l.length 2 (kndL l) ∧ ∀ p ∈ l, Ar.inInt p.1 ∧ Ar.inInt p.2 := by
 rcases open_slice Tryz.underlying32 h with ⟨h0, _⟩ | ⟨a, len, cap, m, n, D, Pl, hcs, _, hl, _, hm, _, hi⟩
 ·exact ⟨_, [], h0, ⟨none, 0, rfl, ⟨rfl, fun j v hj => by cases hj⟩, fun _ _ _ => trivial⟩, fun n hn => by cases hn⟩
 ·obtain ⟨l, h1, h2, h3⟩ := row_of (fun p : Int × Int => [Value.int .i64 p.1, .int .i64 p.2]) 2 (fun _ => rfl) (by omega) (fun p => Ar.inInt p.1 ∧ Ar.inInt p.2) w a len (fun i hi' => by
   obtain ⟨cs', h1, h2⟩ := hi i (by rw [hm]; simp; omega)
   have hC : Tryz.prog.cellsOf 211 = 2 := by kernel_rfl
   rw [hC] at h1
   obtain ⟨_, hcl, hat⟩ := World.cells?_some h1
   obtain ⟨_, _, g0⟩ := part Tryz.underlying211 h2 0 _ rfl 0 1 rfl (by kernel_rfl)
   obtain ⟨_, _, g1⟩ := part Tryz.underlying211 h2 1 _ rfl 1 1 rfl (by kernel_rfl)
   obtain ⟨c0, v0, k0, e0, i0⟩ := part_num Tryz.underlying28 g0
   obtain ⟨c1, v1, k1, e1, i1⟩ := part_num Tryz.underlying3 g1
   have e0' : c0 = .int .i64 v0 := e0
   have e1' : c1 = .int .i64 v1 := e1
   subst e0' e1'
   refine ⟨(v0, v1), ⟨i0, i1⟩, fun j v hj => ?_⟩
   rcases j with _ | _ | j
   ·injection hj with hj
    have h5 := (hat 0 (by omega)).trans k0
    rw [Go.Deep.add_add] at h5
    rw [← hj]
    exact h5
   ·injection hj with hj
    have h5 := (hat 1 (by omega)).trans k1
    rw [Go.Deep.add_add] at h5
    rw [← hj]
    exact h5
   ·simp at hj)
  exact ⟨_, l, hcs, ⟨some a, cap, by rw [h1], by rw [h1]; exact h3, fun _ _ _ => trivial⟩, h2⟩
theorem part_knds {k : Nat} {y : DataW H × List MemPlace} (h : Tr enc w base held fuel 32 ((cs.drop k).take 1) y) : ∃ c v, cs[k]? = some c ∧ CellOf okB w c (.knds v) ∧ ∀ p ∈ v, Ar.inInt p.1 ∧ Ar.inInt p.2 := by
 obtain ⟨c, l, h1, h2, h3⟩ := open_knds h
 exact ⟨c, l, take_one h1, h2, h3⟩
end
end Go.Proofs.YteadlcncnhbmjaaGreatDoor
/- The text By2. -/
namespace Go.Proofs.YteadlcncnhbmjaaGreatDoor
open Go.ChangeShapes Go.WideShapes Go.Deep Go.RowKit Go.Lib
set_option linter.unusedVariables false
theorem ev_open {H : Type} {enc : TypeId × Value → H} {w : World} {base fuel : Nat} {held : Bool} {cs : List Value} {x : DataW H × List MemPlace} (h : Tr enc w base held fuel 40 cs x) (hl : cs.length = 29) : ∃ e, EvOf okB w cs.toArray e := by
 obtain ⟨_, _, g0⟩ := part Tryz.underlying40 h 0 _ rfl 0 1 rfl (by kernel_rfl)
 obtain ⟨c0, v0, h0, k0, o0⟩ := part_num Tryz.underlying3 g0
 obtain ⟨_, _, g1⟩ := part Tryz.underlying40 h 1 _ rfl 1 1 rfl (by kernel_rfl)
 obtain ⟨c1, v1, h1, k1⟩ := part_txt g1
 obtain ⟨_, _, g2⟩ := part Tryz.underlying40 h 2 _ rfl 2 1 rfl (by kernel_rfl)
 obtain ⟨c2, v2, h2, k2⟩ := part_txt g2
 obtain ⟨_, _, g3⟩ := part Tryz.underlying40 h 3 _ rfl 3 1 rfl (by kernel_rfl)
 obtain ⟨c3, v3, h3, k3, o3⟩ := part_num Tryz.underlying28 g3
 obtain ⟨_, _, g4⟩ := part Tryz.underlying40 h 4 _ rfl 4 1 rfl (by kernel_rfl)
 obtain ⟨c4, v4, h4, k4⟩ := part_flg g4
 obtain ⟨_, _, g5⟩ := part Tryz.underlying40 h 5 _ rfl 5 1 rfl (by kernel_rfl)
 obtain ⟨c5, v5, h5, k5⟩ := part_txt g5
 obtain ⟨_, _, g6⟩ := part Tryz.underlying40 h 6 _ rfl 6 1 rfl (by kernel_rfl)
 obtain ⟨c6, v6, h6, k6, o6⟩ := part_num Tryz.underlying3 g6
 obtain ⟨_, _, g7⟩ := part Tryz.underlying40 h 7 _ rfl 7 1 rfl (by kernel_rfl)
 obtain ⟨c7, v7, h7, k7, o7⟩ := part_num Tryz.underlying3 g7
 obtain ⟨_, _, g8⟩ := part Tryz.underlying40 h 8 _ rfl 8 1 rfl (by kernel_rfl)
 obtain ⟨c8, v8, h8, k8, o8⟩ := part_nums g8
 obtain ⟨_, _, g9⟩ := part Tryz.underlying40 h 9 _ rfl 9 1 rfl (by kernel_rfl)
 obtain ⟨c9, v9, h9, k9, o9⟩ := part_nums g9
 obtain ⟨_, _, gc⟩ := part Tryz.underlying40 h 10 _ rfl 10 16 rfl (by kernel_rfl)
 obtain ⟨_, _, g26⟩ := part Tryz.underlying40 h 11 _ rfl 26 1 rfl (by kernel_rfl)
 obtain ⟨c26, v26, h26, k26, o26⟩ := part_num Tryz.underlying3 g26
 obtain ⟨_, _, gs⟩ := part Tryz.underlying40 h 12 _ rfl 27 2 rfl (by kernel_rfl)
 obtain ⟨_, _, g10⟩ := part Tryz.underlying36 gc 0 _ rfl 0 1 rfl (by kernel_rfl)
 obtain ⟨c10, v10, h10, k10⟩ := part_txt g10
 replace h10 := take_part h10
 obtain ⟨_, _, g11⟩ := part Tryz.underlying36 gc 1 _ rfl 1 1 rfl (by kernel_rfl)
 obtain ⟨c11, v11, h11, k11, o11⟩ := part_num Tryz.underlying3 g11
 replace h11 := take_part h11
 obtain ⟨_, _, g12⟩ := part Tryz.underlying36 gc 2 _ rfl 2 1 rfl (by kernel_rfl)
 obtain ⟨c12, v12, h12, k12, o12⟩ := part_num Tryz.underlying3 g12
 replace h12 := take_part h12
 obtain ⟨_, _, g13⟩ := part Tryz.underlying36 gc 3 _ rfl 3 1 rfl (by kernel_rfl)
 obtain ⟨c13, v13, h13, k13⟩ := part_flg g13
 replace h13 := take_part h13
 obtain ⟨_, _, g14⟩ := part Tryz.underlying36 gc 4 _ rfl 4 1 rfl (by kernel_rfl)
 obtain ⟨c14, v14, h14, k14⟩ := part_txt g14
 replace h14 := take_part h14
 obtain ⟨_, _, g15⟩ := part Tryz.underlying36 gc 5 _ rfl 5 1 rfl (by kernel_rfl)
 obtain ⟨c15, v15, h15, k15⟩ := part_txts g15
 replace h15 := take_part h15
 obtain ⟨_, _, g16⟩ := part Tryz.underlying36 gc 6 _ rfl 6 1 rfl (by kernel_rfl)
 obtain ⟨c16, v16, h16, k16⟩ := part_txts g16
 replace h16 := take_part h16
 obtain ⟨_, _, gl⟩ := part Tryz.underlying36 gc 7 _ rfl 7 9 rfl (by kernel_rfl)
 obtain ⟨_, _, g17⟩ := part Tryz.underlying34 gl 0 _ rfl 0 1 rfl (by kernel_rfl)
 obtain ⟨c17, v17, h17, k17, o17⟩ := part_usrs g17
 replace h17 := take_part h17
 replace h17 := take_part h17
 obtain ⟨_, _, g18⟩ := part Tryz.underlying34 gl 1 _ rfl 1 1 rfl (by kernel_rfl)
 obtain ⟨c18, v18, h18, k18, o18⟩ := part_knds g18
 replace h18 := take_part h18
 replace h18 := take_part h18
 obtain ⟨_, _, g19⟩ := part Tryz.underlying34 gl 2 _ rfl 2 1 rfl (by kernel_rfl)
 obtain ⟨c19, v19, h19, k19, o19⟩ := part_num Tryz.underlying3 g19
 replace h19 := take_part h19
 replace h19 := take_part h19
 obtain ⟨_, _, g20⟩ := part Tryz.underlying34 gl 3 _ rfl 3 1 rfl (by kernel_rfl)
 obtain ⟨c20, v20, h20, k20, o20⟩ := part_num Tryz.underlying3 g20
 replace h20 := take_part h20
 replace h20 := take_part h20
 obtain ⟨_, _, g21⟩ := part Tryz.underlying34 gl 4 _ rfl 4 1 rfl (by kernel_rfl)
 obtain ⟨c21, v21, h21, k21, o21⟩ := part_num Tryz.underlying3 g21
 replace h21 := take_part h21
 replace h21 := take_part h21
 obtain ⟨_, _, g22⟩ := part Tryz.underlying34 gl 5 _ rfl 5 1 rfl (by kernel_rfl)
 obtain ⟨c22, v22, h22, k22, o22⟩ := part_num Tryz.underlying3 g22
 replace h22 := take_part h22
 replace h22 := take_part h22
 obtain ⟨_, _, g23⟩ := part Tryz.underlying34 gl 6 _ rfl 6 1 rfl (by kernel_rfl)
 obtain ⟨c23, v23, h23, k23, o23⟩ := part_num Tryz.underlying3 g23
 replace h23 := take_part h23
 replace h23 := take_part h23
 obtain ⟨_, _, g24⟩ := part Tryz.underlying34 gl 7 _ rfl 7 1 rfl (by kernel_rfl)
 obtain ⟨c24, v24, h24, k24, o24⟩ := part_num Tryz.underlying3 g24
 replace h24 := take_part h24
 replace h24 := take_part h24
 obtain ⟨_, _, g25⟩ := part Tryz.underlying34 gl 8 _ rfl 8 1 rfl (by kernel_rfl)
 obtain ⟨c25, v25, h25, k25, o25⟩ := part_num Tryz.underlying3 g25
 replace h25 := take_part h25
 replace h25 := take_part h25
 obtain ⟨_, _, g27⟩ := part Tryz.underlying38 gs 0 _ rfl 0 1 rfl (by kernel_rfl)
 obtain ⟨c27, v27, h27, k27⟩ := part_txt g27
 replace h27 := take_part h27
 obtain ⟨_, _, g28⟩ := part Tryz.underlying38 gs 1 _ rfl 1 1 rfl (by kernel_rfl)
 obtain ⟨c28, v28, h28, k28, o28⟩ := part_num Tryz.underlying3 g28
 replace h28 := take_part h28
 refine ⟨[.num v0, .txt v1, .txt v2, .num v3, .flg v4, .txt v5, .num v6, .num v7, .nums v8, .nums v9, .txt v10, .num v11, .num v12, .flg v13, .txt v14, .txts v15, .txts v16, .usrs v17, .knds v18, .num v19, .num v20, .num v21, .num v22, .num v23, .num v24, .num v25, .num v26, .txt v27, .num v28], by rw [List.size_toArray, hl], ⟨rfl, fun i nk v h1 h2 => ?_⟩, fun i v hv => ?_⟩
 ·match i, h1, h2 with
  | 0, h1, h2 => injection h1 with h1; injection h2 with h2; subst h1 h2; exact ⟨rfl, o0⟩
  | 1, h1, h2 => injection h1 with h1; injection h2 with h2; subst h1 h2; exact ⟨rfl, trivial⟩
  | 2, h1, h2 => injection h1 with h1; injection h2 with h2; subst h1 h2; exact ⟨rfl, trivial⟩
  | 3, h1, h2 => injection h1 with h1; injection h2 with h2; subst h1 h2; exact ⟨rfl, o3⟩
  | 4, h1, h2 => injection h1 with h1; injection h2 with h2; subst h1 h2; exact ⟨rfl, trivial⟩
  | 5, h1, h2 => injection h1 with h1; injection h2 with h2; subst h1 h2; exact ⟨rfl, trivial⟩
  | 6, h1, h2 => injection h1 with h1; injection h2 with h2; subst h1 h2; exact ⟨rfl, o6⟩
  | 7, h1, h2 => injection h1 with h1; injection h2 with h2; subst h1 h2; exact ⟨rfl, o7⟩
  | 8, h1, h2 => injection h1 with h1; injection h2 with h2; subst h1 h2; exact ⟨rfl, o8⟩
  | 9, h1, h2 => injection h1 with h1; injection h2 with h2; subst h1 h2; exact ⟨rfl, o9⟩
  | 10, h1, h2 => injection h1 with h1; injection h2 with h2; subst h1 h2; exact ⟨rfl, trivial⟩
  | 11, h1, h2 => injection h1 with h1; injection h2 with h2; subst h1 h2; exact ⟨rfl, o11⟩
  | 12, h1, h2 => injection h1 with h1; injection h2 with h2; subst h1 h2; exact ⟨rfl, o12⟩
  | 13, h1, h2 => injection h1 with h1; injection h2 with h2; subst h1 h2; exact ⟨rfl, trivial⟩
  | 14, h1, h2 => injection h1 with h1; injection h2 with h2; subst h1 h2; exact ⟨rfl, trivial⟩
  | 15, h1, h2 => injection h1 with h1; injection h2 with h2; subst h1 h2; exact ⟨rfl, trivial⟩
  | 16, h1, h2 => injection h1 with h1; injection h2 with h2; subst h1 h2; exact ⟨rfl, trivial⟩
  | 17, h1, h2 => injection h1 with h1; injection h2 with h2; subst h1 h2; exact ⟨rfl, o17⟩
  | 18, h1, h2 => injection h1 with h1; injection h2 with h2; subst h1 h2; exact ⟨rfl, o18⟩
  | 19, h1, h2 => injection h1 with h1; injection h2 with h2; subst h1 h2; exact ⟨rfl, o19⟩
  | 20, h1, h2 => injection h1 with h1; injection h2 with h2; subst h1 h2; exact ⟨rfl, o20⟩
  | 21, h1, h2 => injection h1 with h1; injection h2 with h2; subst h1 h2; exact ⟨rfl, o21⟩
  | 22, h1, h2 => injection h1 with h1; injection h2 with h2; subst h1 h2; exact ⟨rfl, o22⟩
  | 23, h1, h2 => injection h1 with h1; injection h2 with h2; subst h1 h2; exact ⟨rfl, o23⟩
  | 24, h1, h2 => injection h1 with h1; injection h2 with h2; subst h1 h2; exact ⟨rfl, o24⟩
  | 25, h1, h2 => injection h1 with h1; injection h2 with h2; subst h1 h2; exact ⟨rfl, o25⟩
  | 26, h1, h2 => injection h1 with h1; injection h2 with h2; subst h1 h2; exact ⟨rfl, o26⟩
  | 27, h1, h2 => injection h1 with h1; injection h2 with h2; subst h1 h2; exact ⟨rfl, trivial⟩
  | 28, h1, h2 => injection h1 with h1; injection h2 with h2; subst h1 h2; exact ⟨rfl, o28⟩
  | n + 29, h1, h2 => simp at h2
 ·match i, hv with
  | 0, hv => injection hv with hv; subst hv; exact ⟨c0, by rw [List.getElem?_toArray]; exact h0, k0⟩
  | 1, hv => injection hv with hv; subst hv; exact ⟨c1, by rw [List.getElem?_toArray]; exact h1, k1⟩
  | 2, hv => injection hv with hv; subst hv; exact ⟨c2, by rw [List.getElem?_toArray]; exact h2, k2⟩
  | 3, hv => injection hv with hv; subst hv; exact ⟨c3, by rw [List.getElem?_toArray]; exact h3, k3⟩
  | 4, hv => injection hv with hv; subst hv; exact ⟨c4, by rw [List.getElem?_toArray]; exact h4, k4⟩
  | 5, hv => injection hv with hv; subst hv; exact ⟨c5, by rw [List.getElem?_toArray]; exact h5, k5⟩
  | 6, hv => injection hv with hv; subst hv; exact ⟨c6, by rw [List.getElem?_toArray]; exact h6, k6⟩
  | 7, hv => injection hv with hv; subst hv; exact ⟨c7, by rw [List.getElem?_toArray]; exact h7, k7⟩
  | 8, hv => injection hv with hv; subst hv; exact ⟨c8, by rw [List.getElem?_toArray]; exact h8, k8⟩
  | 9, hv => injection hv with hv; subst hv; exact ⟨c9, by rw [List.getElem?_toArray]; exact h9, k9⟩
  | 10, hv => injection hv with hv; subst hv; exact ⟨c10, by rw [List.getElem?_toArray]; exact h10, k10⟩
  | 11, hv => injection hv with hv; subst hv; exact ⟨c11, by rw [List.getElem?_toArray]; exact h11, k11⟩
  | 12, hv => injection hv with hv; subst hv; exact ⟨c12, by rw [List.getElem?_toArray]; exact h12, k12⟩
  | 13, hv => injection hv with hv; subst hv; exact ⟨c13, by rw [List.getElem?_toArray]; exact h13, k13⟩
  | 14, hv => injection hv with hv; subst hv; exact ⟨c14, by rw [List.getElem?_toArray]; exact h14, k14⟩
  | 15, hv => injection hv with hv; subst hv; exact ⟨c15, by rw [List.getElem?_toArray]; exact h15, k15⟩
  | 16, hv => injection hv with hv; subst hv; exact ⟨c16, by rw [List.getElem?_toArray]; exact h16, k16⟩
  | 17, hv => injection hv with hv; subst hv; exact ⟨c17, by rw [List.getElem?_toArray]; exact h17, k17⟩
  | 18, hv => injection hv with hv; subst hv; exact ⟨c18, by rw [List.getElem?_toArray]; exact h18, k18⟩
  | 19, hv => injection hv with hv; subst hv; exact ⟨c19, by rw [List.getElem?_toArray]; exact h19, k19⟩
  | 20, hv => injection hv with hv; subst hv; exact ⟨c20, by rw [List.getElem?_toArray]; exact h20, k20⟩
  | 21, hv => injection hv with hv; subst hv; exact ⟨c21, by rw [List.getElem?_toArray]; exact h21, k21⟩
  | 22, hv => injection hv with hv; subst hv; exact ⟨c22, by rw [List.getElem?_toArray]; exact h22, k22⟩
  | 23, hv => injection hv with hv; subst hv; exact ⟨c23, by rw [List.getElem?_toArray]; exact h23, k23⟩
  | 24, hv => injection hv with hv; subst hv; exact ⟨c24, by rw [List.getElem?_toArray]; exact h24, k24⟩
  | 25, hv => injection hv with hv; subst hv; exact ⟨c25, by rw [List.getElem?_toArray]; exact h25, k25⟩
  | 26, hv => injection hv with hv; subst hv; exact ⟨c26, by rw [List.getElem?_toArray]; exact h26, k26⟩
  | 27, hv => injection hv with hv; subst hv; exact ⟨c27, by rw [List.getElem?_toArray]; exact h27, k27⟩
  | 28, hv => injection hv with hv; subst hv; exact ⟨c28, by rw [List.getElem?_toArray]; exact h28, k28⟩
  | n + 29, hv => simp at hv
end Go.Proofs.YteadlcncnhbmjaaGreatDoor
