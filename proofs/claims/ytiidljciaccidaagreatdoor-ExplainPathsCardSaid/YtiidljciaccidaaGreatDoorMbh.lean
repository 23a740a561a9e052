/- The texts Lp, Kr, Ks, Ol of this proof, one behind the other. -/
import Derived.Below
import Derived.ChangeArms
import Derived.Deep.MidRow
import Derived.Deep.Slices
import Derived.Test.YtiidljciaccidaaGreatDoorMbe
import Derived.Test.YtiidljciaccidaaGreatDoorMbg
import Derived.Test.YtiidljciaccidaaGreatDoorMba
import Derived.Test.YtiidljciaccidaaGreatDoorMbd
set_option linter.unusedSimpArgs false
set_option maxHeartbeats 16000000
set_option maxRecDepth 100000
set_option linter.unusedVariables false
/- The text Lp. -/
namespace Go.Proofs.YtiidljciaccidaaGreatDoor
open Go.ChangeShapes Go.WideShapes Go.Deep Go.RowKit Go.Lib
set_option linter.unusedVariables false
theorem laidOut : laidOutB Tryz.prog = true := by kernel_rfl
theorem list_of {α : Type} {p : Nat → α → Prop} : ∀ n : Nat, (∀ i, i < n → ∃ x, p i x) → ∃ l : List α, l.length = n ∧ ∀ i x, l[i]? = some x → p i x
 | 0, _ => ⟨[], rfl, fun i x h => by simp at h⟩
 | n + 1, h => by
  obtain ⟨l, hl, hp⟩ := list_of n (fun i hi => h i (by omega))
  obtain ⟨x, hx⟩ := h n (by omega)
  refine ⟨l ++ [x], by rw [List.length_append, hl]; rfl, fun i y hy => ?_⟩
  by_cases hi : i < n
  ·rw [List.getElem?_append_left (by omega)] at hy
   exact hp i y hy
  ·have hlt := (List.getElem?_eq_some_iff.1 hy).1
   rw [List.length_append, List.length_singleton] at hlt
   obtain rfl : i = n := by omega
   rw [List.getElem?_append_right (by omega), hl, Nat.sub_self] at hy
   injection hy with hy
   rw [← hy]
   exact hx
theorem flat_at {α : Type} (el : α → List Value) (sz : Nat) (hsz : ∀ x, (el x).length = sz) : ∀ (l : List α) (k : Nat) (v : Value), (l.flatMap el)[k]? = some v → ∃ i j x, l[i]? = some x ∧ (el x)[j]? = some v ∧ k = i * sz + j
 | [], k, v, h => by simp at h
 | a :: l, k, v, h => by
  rw [List.flatMap_cons] at h
  by_cases hk : k < sz
  ·rw [List.getElem?_append_left (by rw [hsz]; exact hk)] at h
   exact ⟨0, k, a, rfl, h, by omega⟩
  ·rw [List.getElem?_append_right (by rw [hsz]; omega), hsz] at h
   obtain ⟨i, j, x, h1, h2, h3⟩ := flat_at el sz hsz l _ v h
   exact ⟨i + 1, j, x, h1, h2, by rw [Nat.add_mul]; omega⟩
theorem spot_none {w : World} {a : Addr} {k : Nat} {v0 v : Value} (h0 : w.cell? (a.add 0) = some v0) (h : w.cell? (a.add k) = some v) : ∃ b off, a = ⟨b, off, none⟩ ∧ w.cell? ⟨b, off + k, none⟩ = some v := by
 obtain ⟨b, off, sp⟩ := a
 have hsp : sp = none := World.cell?_spot h0
 subst hsp
 rw [Addr.add_mid] at h
 exact ⟨b, off, rfl, h⟩
theorem row_of {α : Type} (el : α → List Value) (sz : Nat) (hsz : ∀ x, (el x).length = sz) (hs0 : 0 < sz) (q : α → Prop) (w : World) (a : Addr) (n : Nat) (h : ∀ i, i < n → ∃ x, q x ∧ ∀ j v, (el x)[j]? = some v → w.cell? (a.add (i * sz + j)) = some v) :
  ∃ l : List α, l.length = n ∧ (∀ x ∈ l, q x) ∧ Rd w (some a) (n * sz) (l.flatMap el) := by
 obtain ⟨l, hl, hp⟩ := list_of n h
 have hlen : ∀ l : List α, (l.flatMap el).length = l.length * sz := by
  intro l
  induction l with
  | nil => simp
  | cons x l ih => rw [List.flatMap_cons, List.length_append, ih, hsz, List.length_cons, Nat.add_mul]; omega
 refine ⟨l, hl, fun x hx => ?_, by rw [hlen, hl], fun k v hk => ?_⟩
 ·obtain ⟨i, hi⟩ := List.mem_iff_getElem?.1 hx
  exact (hp i x hi).1
 ·obtain ⟨i, j, x, h1, h2, rfl⟩ := flat_at el sz hsz l k v hk
  have hv := (hp i x h1).2 j v h2
  have hl0 : 0 < l.length := by have := (List.getElem?_eq_some_iff.1 h1).1; omega
  obtain ⟨v0, hv0⟩ : ∃ v0, (el (l[0]'hl0))[0]? = some v0 := ⟨_, List.getElem?_eq_getElem (by rw [hsz (l[0]'hl0)]; exact hs0)⟩
  have h00 := (hp 0 (l[0]'hl0) (List.getElem?_eq_getElem hl0)).2 0 v0 hv0
  rw [Nat.zero_mul, Nat.zero_add] at h00
  obtain ⟨b, off, e, hc⟩ := spot_none h00 hv
  exact ⟨b, off, by rw [e], hc⟩
theorem intL_flat (l : List Int) : intL l = l.flatMap (fun n => [Value.int .i64 n]) := by
 unfold intL
 induction l with
 | nil => rfl
 | cons x l ih => rw [List.map_cons, List.flatMap_cons, ih]; rfl
theorem strL_flat (l : List (List UInt8)) : strL l = l.flatMap (fun s => [Value.string (bstr s)]) := by
 unfold strL
 induction l with
 | nil => rfl
 | cons x l ih => rw [List.map_cons, List.flatMap_cons, ih]; rfl
theorem wf_in {n : Int} (h : (Lit.int .i64 n).wf = true) : W64 n := h
section
variable {H : Type} {enc : TypeId × Value → H} {w : World} {base fuel : Nat} {held : Bool} {cs : List Value} {x : DataW H × List MemPlace}
abbrev Tr (enc : TypeId × Value → H) (w : World) (base : Nat) (held : Bool) (fuel : Nat) (t : TypeId) (cs : List Value) (x : DataW H × List MemPlace) : Prop := DataW.trod enc Tryz.prog w base (fun _ => true) held fuel t cs = some x
abbrev okB : Nat → Prop := fun _ => True
theorem one_at {α : Type} {f : α → Value} {y : α} {j : Nat} {v : Value} (h : ([f y] : List Value)[j]? = some v) : j = 0 ∧ v = f y := by
 rcases j with _ | j
 ·injection h with h; exact ⟨rfl, h.symm⟩
 ·simp at h
theorem open_ints (h : Tr enc w base held fuel 24 cs x) : ∃ c l, cs = [c] ∧ SlcOf okB w c l.length 1 (intL l) ∧ ∀ n ∈ l, W64 n := by
 rcases open_slice1 Tryz.underlying24 (by kernel_rfl) h with ⟨h0, _⟩ | ⟨a, len, cap, m, n, V, D, Pl, hcs, _, hl, _, hm, _, hi⟩
 ·exact ⟨_, [], h0, ⟨none, 0, rfl, ⟨rfl, fun j v hj => by cases hj⟩, fun _ _ _ => trivial⟩, fun n hn => by cases hn⟩
 ·obtain ⟨l, h1, h2, h3⟩ := row_of (fun n => [Value.int .i64 n]) 1 (fun _ => rfl) (by omega) W64 w a len (fun i hi' => by
   obtain ⟨h1, h2⟩ := hi i (by rw [hm]; simp; omega)
   obtain ⟨n, h3, _, h4⟩ := DataW.trod_int Tryz.underlying3 h2
   injection h3 with h3
   refine ⟨n, wf_in h4, fun j v hj => ?_⟩
   obtain ⟨rfl, rfl⟩ := one_at (f := fun n => Value.int .i64 n) hj
   rw [Nat.mul_one, Nat.add_zero, h1, h3])
  refine ⟨_, l, hcs, ⟨some a, cap, by rw [h1], by rw [h1, intL_flat]; exact h3, fun _ _ _ => trivial⟩, h2⟩
theorem open_strs (h : Tr enc w base held fuel 31 cs x) : ∃ c l, cs = [c] ∧ SlcOf okB w c l.length 1 (strL l) := by
 rcases open_slice1 Tryz.underlying31 (by kernel_rfl) h with ⟨h0, _⟩ | ⟨a, len, cap, m, n, V, D, Pl, hcs, _, hl, _, hm, _, hi⟩
 ·exact ⟨_, [], h0, ⟨none, 0, rfl, ⟨rfl, fun j v hj => by cases hj⟩, fun _ _ _ => trivial⟩⟩
 ·obtain ⟨l, h1, _, h3⟩ := row_of (fun s => [Value.string (bstr s)]) 1 (fun _ => rfl) (by omega) (fun _ => True) w a len (fun i hi' => by
   obtain ⟨h1, h2⟩ := hi i (by rw [hm]; simp; omega)
   obtain ⟨s, h3, _⟩ := DataW.trod_string Tryz.underlying9 h2
   injection h3 with h3
   refine ⟨s.data.toList, trivial, fun j v hj => ?_⟩
   obtain ⟨rfl, rfl⟩ := one_at (f := fun s => Value.string (bstr s)) hj
   rw [Nat.mul_one, Nat.add_zero, h1, h3]
   rfl)
  exact ⟨_, l, hcs, ⟨some a, cap, by rw [h1], by rw [h1, strL_flat]; exact h3, fun _ _ _ => trivial⟩⟩
theorem take_one {cs : List Value} {k : Nat} {v : Value} (h : (cs.drop k).take 1 = [v]) : cs[k]? = some v := by
 have h1 : ((cs.drop k).take 1)[0]? = some v := by rw [h]; rfl
 rw [List.getElem?_take_of_lt (by omega), List.getElem?_drop, Nat.add_zero] at h1
 exact h1
theorem take_part {cs : List Value} {o n k : Nat} {v : Value} (h : ((cs.drop o).take n)[k]? = some v) : cs[o + k]? = some v := by
 rw [List.getElem?_take] at h
 split at h
 ·rwa [List.getElem?_drop] at h
 ·cases h
theorem part {t : TypeId} {fs : Array Field} (ht : Tryz.prog.underlying t = some (.struct fs)) (h : Tr enc w base held fuel t cs x) (i : Nat) (f : Field) (hf : fs[i]? = some f) (o n : Nat) (ho : f.offset = o) (hn : Tryz.prog.cellsOf f.type = n) :
  ∃ fuel' y, Tr enc w base held fuel' f.type ((cs.drop o).take n) y := by
 obtain ⟨ys, n', _, _, _, hyl, h2⟩ := DataW.trod_struct ht h
 have h3 := h2 i f hf
 have hi : i < ys.length := by rw [hyl]; exact (Array.getElem?_eq_some_iff.1 hf).1
 rw [List.getElem?_eq_getElem hi, ho, hn] at h3
 exact ⟨n', _, h3⟩
theorem part_num {t : TypeId} (ht : Tryz.prog.underlying t = some (.int .i64)) {k : Nat} {y : DataW H × List MemPlace} (h : Tr enc w base held fuel t ((cs.drop k).take 1) y) : ∃ v, cs[k]? = some (.int .i64 v) ∧ W64 v := by
 obtain ⟨n, h1, _, h2⟩ := DataW.trod_int ht h
 exact ⟨n, take_one h1, wf_in h2⟩
theorem part_txt {k : Nat} {y : DataW H × List MemPlace} (h : Tr enc w base held fuel 9 ((cs.drop k).take 1) y) : ∃ v : List UInt8, cs[k]? = some (.string (bstr v)) := by
 obtain ⟨s, h1, _⟩ := DataW.trod_string Tryz.underlying9 h
 exact ⟨s.data.toList, take_one h1⟩
theorem part_flg {k : Nat} {y : DataW H × List MemPlace} (h : Tr enc w base held fuel 4 ((cs.drop k).take 1) y) : ∃ v, cs[k]? = some (.bool v) := by
 obtain ⟨b, h1, _⟩ := DataW.trod_bool Tryz.underlying4 h
 exact ⟨b, take_one h1⟩
theorem part_nums {k : Nat} {y : DataW H × List MemPlace} (h : Tr enc w base held fuel 24 ((cs.drop k).take 1) y) : ∃ c v, cs[k]? = some c ∧ SlcOf okB w c v.length 1 (intL v) ∧ ∀ n ∈ v, W64 n := by
 obtain ⟨c, l, h1, h2, h3⟩ := open_ints h
 exact ⟨c, l, take_one h1, h2, h3⟩
theorem part_txts {k : Nat} {y : DataW H × List MemPlace} (h : Tr enc w base held fuel 31 ((cs.drop k).take 1) y) : ∃ c v, cs[k]? = some c ∧ SlcOf okB w c v.length 1 (strL v) := by
 obtain ⟨c, l, h1, h2⟩ := open_strs h
 exact ⟨c, l, take_one h1, h2⟩
theorem open_usrs (h : Tr enc w base held fuel 32 cs x) : ∃ c l, cs = [c] ∧ SlcOf okB w c l.length 2 (usrL l) ∧ ∀ p ∈ l, W64 p.2 := by
 rcases open_slice Tryz.underlying32 h with ⟨h0, _⟩ | ⟨a, len, cap, m, n, D, Pl, hcs, _, hl, _, hm, _, hi⟩
 ·exact ⟨_, [], h0, ⟨none, 0, rfl, ⟨rfl, fun j v hj => by cases hj⟩, fun _ _ _ => trivial⟩, fun n hn => by cases hn⟩
 ·obtain ⟨l, h1, h2, h3⟩ := row_of (fun p : List UInt8 × Int => [Value.string (bstr p.1), .int .i64 p.2]) 2 (fun _ => rfl) (by omega) (fun p => W64 p.2) w a len (fun i hi' => by
   obtain ⟨cs', h1, h2⟩ := hi i (by rw [hm]; simp; omega)
   have hC : Tryz.prog.cellsOf 64 = 2 := by kernel_rfl
   rw [hC] at h1
   obtain ⟨_, hcl, hat⟩ := World.cells?_some h1
   obtain ⟨_, _, g0⟩ := part Tryz.underlying64 h2 0 _ rfl 0 1 rfl (by kernel_rfl)
   obtain ⟨_, _, g1⟩ := part Tryz.underlying64 h2 1 _ rfl 1 1 rfl (by kernel_rfl)
   obtain ⟨v0, k0⟩ := part_txt g0
   obtain ⟨v1, k1, i1⟩ := part_num Tryz.underlying3 g1
   refine ⟨(v0, v1), i1, fun j v hj => ?_⟩
   rcases j with _ | _ | j
   ·injection hj with hj
    have h5 := (hat 0 (by omega)).trans k0
    rw [Go.Deep.add_add] at h5
    rw [← hj]
    exact h5
   ·injection hj with hj
    have h5 := (hat 1 (by omega)).trans k1
    rw [Go.Deep.add_add] at h5
    rw [← hj]
    exact h5
   ·simp at hj)
  exact ⟨_, l, hcs, ⟨some a, cap, by rw [h1], by rw [h1]; exact h3, fun _ _ _ => trivial⟩, h2⟩
theorem open_knds (h : Tr enc w base held fuel 33 cs x) : ∃ c l, cs = [c] ∧ SlcOf okB w c l.length 2 (kndL l) ∧ ∀ p ∈ l, W64 p.1 ∧ W64 p.2 := by
 rcases open_slice Tryz.underlying33 h with ⟨h0, _⟩ | ⟨a, len, cap, m, n, D, Pl, hcs, _, hl, _, hm, _, hi⟩
 ·exact ⟨_, [], h0, ⟨none, 0, rfl, ⟨rfl, fun j v hj => by cases hj⟩, fun _ _ _ => trivial⟩, fun n hn => by cases hn⟩
 ·obtain ⟨l, h1, h2, h3⟩ := row_of (fun p : Int × Int => [Value.int .i64 p.1, .int .i64 p.2]) 2 (fun _ => rfl) (by omega) (fun p => W64 p.1 ∧ W64 p.2) w a len (fun i hi' => by
   obtain ⟨cs', h1, h2⟩ := hi i (by rw [hm]; simp; omega)
   have hC : Tryz.prog.cellsOf 123 = 2 := by kernel_rfl
   rw [hC] at h1
   obtain ⟨_, hcl, hat⟩ := World.cells?_some h1
   obtain ⟨_, _, g0⟩ := part Tryz.underlying123 h2 0 _ rfl 0 1 rfl (by kernel_rfl)
   obtain ⟨_, _, g1⟩ := part Tryz.underlying123 h2 1 _ rfl 1 1 rfl (by kernel_rfl)
   obtain ⟨v0, k0, i0⟩ := part_num Tryz.underlying30 g0
   obtain ⟨v1, k1, i1⟩ := part_num Tryz.underlying3 g1
   refine ⟨(v0, v1), ⟨i0, i1⟩, fun j v hj => ?_⟩
   rcases j with _ | _ | j
   ·injection hj with hj
    have h5 := (hat 0 (by omega)).trans k0
    rw [Go.Deep.add_add] at h5
    rw [← hj]
    exact h5
   ·injection hj with hj
    have h5 := (hat 1 (by omega)).trans k1
    rw [Go.Deep.add_add] at h5
    rw [← hj]
    exact h5
   ·simp at hj)
  exact ⟨_, l, hcs, ⟨some a, cap, by rw [h1], by rw [h1]; exact h3, fun _ _ _ => trivial⟩, h2⟩
theorem part_usrs {k : Nat} {y : DataW H × List MemPlace} (h : Tr enc w base held fuel 32 ((cs.drop k).take 1) y) : ∃ c v, cs[k]? = some c ∧ SlcOf okB w c v.length 2 (usrL v) ∧ ∀ p ∈ v, W64 p.2 := by
 obtain ⟨c, l, h1, h2, h3⟩ := open_usrs h
 exact ⟨c, l, take_one h1, h2, h3⟩
theorem part_knds {k : Nat} {y : DataW H × List MemPlace} (h : Tr enc w base held fuel 33 ((cs.drop k).take 1) y) : ∃ c v, cs[k]? = some c ∧ SlcOf okB w c v.length 2 (kndL v) ∧ ∀ p ∈ v, W64 p.1 ∧ W64 p.2 := by
 obtain ⟨c, l, h1, h2, h3⟩ := open_knds h
 exact ⟨c, l, take_one h1, h2, h3⟩
end
def EvW (e : Co.Ev) : Prop := W64 e.id ∧ (∀ n ∈ e.prev, W64 n) ∧ (∀ n ∈ e.auth, W64 n)
theorem ev_open {H : Type} {enc : TypeId × Value → H} {w : World} {base fuel : Nat} {held : Bool} {cs : List Value} {x : DataW H × List MemPlace} (h : Tr enc w base held fuel 41 cs x) (hl : cs.length = 29) : ∃ e, EvV okB w cs e ∧ EvW e := by
 obtain ⟨_, _, g0⟩ := part Tryz.underlying41 h 0 _ rfl 0 1 rfl (by kernel_rfl)
 obtain ⟨v0, h0, o0⟩ := part_num Tryz.underlying3 g0
 obtain ⟨_, _, g1⟩ := part Tryz.underlying41 h 1 _ rfl 1 1 rfl (by kernel_rfl)
 obtain ⟨v1, h1⟩ := part_txt g1
 obtain ⟨_, _, g2⟩ := part Tryz.underlying41 h 2 _ rfl 2 1 rfl (by kernel_rfl)
 obtain ⟨v2, h2⟩ := part_txt g2
 obtain ⟨_, _, g3⟩ := part Tryz.underlying41 h 3 _ rfl 3 1 rfl (by kernel_rfl)
 obtain ⟨v3, h3, o3⟩ := part_num Tryz.underlying30 g3
 obtain ⟨_, _, g4⟩ := part Tryz.underlying41 h 4 _ rfl 4 1 rfl (by kernel_rfl)
 obtain ⟨v4, h4⟩ := part_flg g4
 obtain ⟨_, _, g5⟩ := part Tryz.underlying41 h 5 _ rfl 5 1 rfl (by kernel_rfl)
 obtain ⟨v5, h5⟩ := part_txt g5
 obtain ⟨_, _, g6⟩ := part Tryz.underlying41 h 6 _ rfl 6 1 rfl (by kernel_rfl)
 obtain ⟨v6, h6, o6⟩ := part_num Tryz.underlying3 g6
 obtain ⟨_, _, g7⟩ := part Tryz.underlying41 h 7 _ rfl 7 1 rfl (by kernel_rfl)
 obtain ⟨v7, h7, o7⟩ := part_num Tryz.underlying3 g7
 obtain ⟨_, _, g8⟩ := part Tryz.underlying41 h 8 _ rfl 8 1 rfl (by kernel_rfl)
 obtain ⟨c8, v8, h8, k8, o8⟩ := part_nums g8
 obtain ⟨_, _, g9⟩ := part Tryz.underlying41 h 9 _ rfl 9 1 rfl (by kernel_rfl)
 obtain ⟨c9, v9, h9, k9, o9⟩ := part_nums g9
 obtain ⟨_, _, gc⟩ := part Tryz.underlying41 h 10 _ rfl 10 16 rfl (by kernel_rfl)
 obtain ⟨_, _, g26⟩ := part Tryz.underlying41 h 11 _ rfl 26 1 rfl (by kernel_rfl)
 obtain ⟨v26, h26, o26⟩ := part_num Tryz.underlying3 g26
 obtain ⟨_, _, gs⟩ := part Tryz.underlying41 h 12 _ rfl 27 2 rfl (by kernel_rfl)
 obtain ⟨_, _, g10⟩ := part Tryz.underlying37 gc 0 _ rfl 0 1 rfl (by kernel_rfl)
 obtain ⟨v10, h10⟩ := part_txt g10
 replace h10 := take_part h10
 obtain ⟨_, _, g11⟩ := part Tryz.underlying37 gc 1 _ rfl 1 1 rfl (by kernel_rfl)
 obtain ⟨v11, h11, o11⟩ := part_num Tryz.underlying3 g11
 replace h11 := take_part h11
 obtain ⟨_, _, g12⟩ := part Tryz.underlying37 gc 2 _ rfl 2 1 rfl (by kernel_rfl)
 obtain ⟨v12, h12, o12⟩ := part_num Tryz.underlying3 g12
 replace h12 := take_part h12
 obtain ⟨_, _, g13⟩ := part Tryz.underlying37 gc 3 _ rfl 3 1 rfl (by kernel_rfl)
 obtain ⟨v13, h13⟩ := part_flg g13
 replace h13 := take_part h13
 obtain ⟨_, _, g14⟩ := part Tryz.underlying37 gc 4 _ rfl 4 1 rfl (by kernel_rfl)
 obtain ⟨v14, h14⟩ := part_txt g14
 replace h14 := take_part h14
 obtain ⟨_, _, g15⟩ := part Tryz.underlying37 gc 5 _ rfl 5 1 rfl (by kernel_rfl)
 obtain ⟨c15, v15, h15, k15⟩ := part_txts g15
 replace h15 := take_part h15
 obtain ⟨_, _, g16⟩ := part Tryz.underlying37 gc 6 _ rfl 6 1 rfl (by kernel_rfl)
 obtain ⟨c16, v16, h16, k16⟩ := part_txts g16
 replace h16 := take_part h16
 obtain ⟨_, _, gl⟩ := part Tryz.underlying37 gc 7 _ rfl 7 9 rfl (by kernel_rfl)
 obtain ⟨_, _, g17⟩ := part Tryz.underlying35 gl 0 _ rfl 0 1 rfl (by kernel_rfl)
 obtain ⟨c17, v17, h17, k17, o17⟩ := part_usrs g17
 replace h17 := take_part h17
 replace h17 := take_part h17
 obtain ⟨_, _, g18⟩ := part Tryz.underlying35 gl 1 _ rfl 1 1 rfl (by kernel_rfl)
 obtain ⟨c18, v18, h18, k18, o18⟩ := part_knds g18
 replace h18 := take_part h18
 replace h18 := take_part h18
 obtain ⟨_, _, g19⟩ := part Tryz.underlying35 gl 2 _ rfl 2 1 rfl (by kernel_rfl)
 obtain ⟨v19, h19, o19⟩ := part_num Tryz.underlying3 g19
 replace h19 := take_part h19
 replace h19 := take_part h19
 obtain ⟨_, _, g20⟩ := part Tryz.underlying35 gl 3 _ rfl 3 1 rfl (by kernel_rfl)
 obtain ⟨v20, h20, o20⟩ := part_num Tryz.underlying3 g20
 replace h20 := take_part h20
 replace h20 := take_part h20
 obtain ⟨_, _, g21⟩ := part Tryz.underlying35 gl 4 _ rfl 4 1 rfl (by kernel_rfl)
 obtain ⟨v21, h21, o21⟩ := part_num Tryz.underlying3 g21
 replace h21 := take_part h21
 replace h21 := take_part h21
 obtain ⟨_, _, g22⟩ := part Tryz.underlying35 gl 5 _ rfl 5 1 rfl (by kernel_rfl)
 obtain ⟨v22, h22, o22⟩ := part_num Tryz.underlying3 g22
 replace h22 := take_part h22
 replace h22 := take_part h22
 obtain ⟨_, _, g23⟩ := part Tryz.underlying35 gl 6 _ rfl 6 1 rfl (by kernel_rfl)
 obtain ⟨v23, h23, o23⟩ := part_num Tryz.underlying3 g23
 replace h23 := take_part h23
 replace h23 := take_part h23
 obtain ⟨_, _, g24⟩ := part Tryz.underlying35 gl 7 _ rfl 7 1 rfl (by kernel_rfl)
 obtain ⟨v24, h24, o24⟩ := part_num Tryz.underlying3 g24
 replace h24 := take_part h24
 replace h24 := take_part h24
 obtain ⟨_, _, g25⟩ := part Tryz.underlying35 gl 8 _ rfl 8 1 rfl (by kernel_rfl)
 obtain ⟨v25, h25, o25⟩ := part_num Tryz.underlying3 g25
 replace h25 := take_part h25
 replace h25 := take_part h25
 obtain ⟨_, _, g27⟩ := part Tryz.underlying39 gs 0 _ rfl 0 1 rfl (by kernel_rfl)
 obtain ⟨v27, h27⟩ := part_txt g27
 replace h27 := take_part h27
 obtain ⟨_, _, g28⟩ := part Tryz.underlying39 gs 1 _ rfl 1 1 rfl (by kernel_rfl)
 obtain ⟨v28, h28, o28⟩ := part_num Tryz.underlying3 g28
 replace h28 := take_part h28
 refine ⟨⟨v0, v1, v2, v3, v4, v5, v6, v7, v8, v9, v10, v11, v12, v13, v14, v15, v16, v17, v18, v19, v20, v21, v22, v23, v24, v25, v26, v27, v28⟩, ⟨c8, c9, c15, c16, c17, c18, ?_, ⟨k8, k9, k15, k16, k17, k18⟩⟩, o0, o8, o9⟩
 apply List.ext_getElem?
 intro i
 by_cases hi : i < 29
 ·match i, hi with
  | 0, _ => exact h0
  | 1, _ => exact h1
  | 2, _ => exact h2
  | 3, _ => exact h3
  | 4, _ => exact h4
  | 5, _ => exact h5
  | 6, _ => exact h6
  | 7, _ => exact h7
  | 8, _ => exact h8
  | 9, _ => exact h9
  | 10, _ => exact h10
  | 11, _ => exact h11
  | 12, _ => exact h12
  | 13, _ => exact h13
  | 14, _ => exact h14
  | 15, _ => exact h15
  | 16, _ => exact h16
  | 17, _ => exact h17
  | 18, _ => exact h18
  | 19, _ => exact h19
  | 20, _ => exact h20
  | 21, _ => exact h21
  | 22, _ => exact h22
  | 23, _ => exact h23
  | 24, _ => exact h24
  | 25, _ => exact h25
  | 26, _ => exact h26
  | 27, _ => exact h27
  | 28, _ => exact h28
  | n + 29, hi => exact absurd hi (by omega)
 ·rw [List.getElem?_eq_none (by omega), List.getElem?_eq_none (by show 29 ≤ i; omega)]
theorem cells_event : Tryz.prog.cellsOf 41 = 29 := by kernel_rfl
theorem evs_open {H : Type} {enc : TypeId × Value → H} {w : World} {base fuel : Nat} {held : Bool} {cs : List Value} {x : DataW H × List MemPlace} (h : Tr enc w base held fuel 22 cs x) : ∃ A l cap, cs = [.slice A l.length cap] ∧ l.length ≤ cap ∧ EvRow okB w A l ∧ ∀ e ∈ l, EvW e := by
 rcases open_slice Tryz.underlying22 h with ⟨h0, _⟩ | ⟨a, len, cap, m, n, D, Pl, hcs, _, hl, _, hm, _, hi⟩
 ·exact ⟨none, [], 0, h0, Nat.le_refl _, Shp.Row.nil, fun e he => by cases he⟩
 ·have key : ∀ k, k < len → ∃ x : Co.Ev × List Value, (EvV okB w x.2 x.1 ∧ EvW x.1) ∧ ∀ j, j < 29 → w.cell? (a.add (k * 29 + j)) = x.2[j]? := by
   intro k hk
   obtain ⟨cs', h1, h2⟩ := hi k (by rw [hm]; simp; omega)
   rw [cells_event] at h1
   obtain ⟨_, hcl, hat⟩ := World.cells?_some h1
   obtain ⟨e, he⟩ := ev_open h2 hcl
   exact ⟨(e, cs'), he, fun j hj => by rw [← Go.Deep.add_add]; exact hat j hj⟩
  obtain ⟨l, hll, hp⟩ := list_of len key
  refine ⟨some a, l.map (·.1), cap, by rw [List.length_map, hll]; exact hcs, by rw [List.length_map, hll]; exact hl, fun i e hie => ?_, fun e he => ?_⟩
  ·rw [List.getElem?_map] at hie
   cases hli : l[i]? with
   | none => rw [hli] at hie; cases hie
   | some y =>
    rw [hli] at hie
    injection hie with hie
    subst hie
    obtain ⟨⟨hv, _⟩, hc⟩ := hp i y hli
    have hyl := hv.len
    obtain ⟨z, hz⟩ : ∃ z, l[0]? = some z := ⟨_, List.getElem?_eq_getElem (by have := (List.getElem?_eq_some_iff.1 hli).1; omega)⟩
    obtain ⟨⟨hvz, _⟩, hcz⟩ := hp 0 z hz
    have h0 := hcz 0 (by omega)
    rw [List.getElem?_eq_getElem (by have := hvz.len; omega), Nat.zero_mul, Nat.zero_add] at h0
    obtain ⟨b, off, sp⟩ := a
    have hsp : sp = none := by have := World.cell?_spot h0; simpa [Addr.add] using this
    subst hsp
    refine ⟨b, off, y.2, rfl, trivial, fun j v hj => ?_, hv⟩
    have hj2 : j < 29 := by have := (List.getElem?_eq_some_iff.1 hj).1; omega
    have h2 := (hc j hj2).trans hj
    rw [Addr.add_mid, ← Nat.add_assoc] at h2
    exact h2
  ·obtain ⟨y, hy, rfl⟩ := List.mem_map.1 he
   obtain ⟨i, hi2⟩ := List.mem_iff_getElem?.1 hy
   exact (hp i y hi2).1.2
end Go.Proofs.YtiidljciaccidaaGreatDoor
/- The text Kr. -/
namespace Go.Proofs.YtiidljciaccidaaGreatDoor
open Go.RowKit Go.Lib
set_option linter.unusedVariables false
set_option linter.unusedSimpArgs false
theorem check_form (ok : Nat → Prop) (lv : Value) (c : Rn.Tr) (V : Array Value) (w : World) (hN : Rn.nodes c ≤ 1000000) (ht : Rn.tame 100 c = true) (h : RnV w ok V c) (hr : ((bstr c.rule).toList == [114, 101, 106, 101, 99, 116, 101, 100]) = false) :
  Calls Tryz.prog 24 #[lv, .agg V] w fun e w' => e = .returned (.int .i64 6) ∧ Below w.heap.size w w' := by
 have HSX : Hid ((Tryz.prog.info? 54).map (·.size) = some V.size) := hid (by obtain ⟨A, cap, rfl, -⟩ := h.open; exact size_rn)
 have HPL := hid (pplain_any 1000000 40 1 ok c V (w.alloc (.cells V 54)) hN (Nat.le_refl _) rfl (Nat.le_refl _) ht (h.bel ((Below.refl w.heap.size w).alloc (Nat.le_refl _) (.cells V 54))))
 have HB := hid ((Below.refl w.heap.size w).alloc (Nat.le_refl _) (.cells V 54))
 have HK := hid (Blk.new w 54 V)
 have hk0 : (w.alloc (.cells V 54)).cell? ⟨w.heap.size, 0, none⟩ = some (.string (bstr c.rule)) := by
  obtain ⟨A, cap, rfl, -⟩ := h.open
  exact HK.out.cell 0
 have hws : w.heap.size < (w.alloc (.cells V 54)).heap.size := HK.out.lt
 have HKC := hid hk0
 clear h ht
 generalize Rn.plain 40 c = P at *
 generalize bstr c.rule = S at *
 generalize hw1 : w.alloc (.cells V 54) = w1 at *
 go_enter Tryz.func24, Tryz.ntmps24
 go_wp2_with (refine wpList_load_row rfl 54 _ rfl w.heap.size rfl 54 V (0, 0) _ HK.out Tryz.underlying54 rfl HSX.out ?_)
 refine HPL.out.mono ?_
 rintro e w2 ⟨rfl, hb2⟩
 have HB2 := hid (HB.out.trans (hb2.mono HB.out.size))
 have hc2 : w2.cell? ⟨w.heap.size, 0, none⟩ = some (.string S) := (Below.cell hb2 hws).trans HKC.out
 clear hb2
 cases P with
 | true =>
  go_wp2_with fail
  go_ret
  exact ⟨rfl, HB2.out⟩
 | false =>
  go_wp2_with fail
  go_ret
  exact ⟨rfl, HB2.out⟩
end Go.Proofs.YtiidljciaccidaaGreatDoor
/- The text Ks. -/
namespace Go.Proofs.YtiidljciaccidaaGreatDoor
open Go.RowKit Go.Lib
set_option linter.unusedVariables false
set_option linter.unusedSimpArgs false
def lvE1 : Co.Ev := { (default : Co.Ev) with id := 1, kind := 1, sender := [64, 97, 58, 115] }
def lvE2 : Co.Ev := { (default : Co.Ev) with id := 2, auth := [1] }
def lvE3 : Co.Ev := { (default : Co.Ev) with id := 3, auth := [1] }
def lvE4 : Co.Ev := { (default : Co.Ev) with id := 4, auth := [2, 3] }
def lvE9 : Co.Ev := { (default : Co.Ev) with id := 9, kind := 11, sender := [64, 98, 58, 115] }
def lvY : Rn.Tr := .mk [108, 111, 115, 116] 5 26 [.mk [98, 121] 0 0 []]
def lvT : List UInt8 := [108, 111, 115, 116, 32, 48, 48, 48, 48, 48, 48, 48, 48, 48, 48, 48, 48, 48, 48, 48, 53, 32, 115, 116, 97, 116, 101, 10, 32, 32, 98, 121, 32, 48, 48, 48, 48, 48, 48, 48, 48, 48, 48, 48, 48, 48, 48, 48, 48, 32, 111, 107, 10]
theorem lv_allowed : Co.allowedR lvE9 [lvE1] = .mk [97, 108, 108, 111, 119, 101, 100] 9 18 [.mk [99, 114, 101, 97, 116, 105, 111, 110] 1 0 [], .mk [115, 101, 110, 100, 101, 114, 45, 106, 111, 105, 110, 101, 100] 0 18 []] := by kernel_rfl
theorem lv_text : Rn.text lvY = lvT := by kernel_rfl
theorem lv_parse : Rn.parse lvT = .ok lvY := by kernel_rfl
theorem lv_bad : Rn.parse [97, 32, 48, 32, 111, 107, 10] = .bad 1 10 := by kernel_rfl
theorem lv_same : Rn.same lvY lvY = true := by kernel_rfl
theorem lv_tame : Rn.tame 100 lvY = true := by kernel_rfl
theorem lv_nodes : Rn.nodes lvY = 2 := by kernel_rfl
theorem lv_depth : Rn.depth lvY = 2 := by kernel_rfl
theorem lv_path : Co.pathP [lvE1, lvE2, lvE3, lvE4] 4 1 = [4, 2, 1] := by kernel_rfl
theorem lv_name : Rn.nameOf 30 = [100, 111, 119, 110] := by kernel_rfl
theorem lv_rule : ((bstr lvY.rule).toList == [114, 101, 106, 101, 99, 116, 101, 100]) = false := by kernel_rfl
theorem lv_lines : (Rn.lines 0 lvY).length ≤ 1000000 := by rw [show (Rn.lines 0 lvY).length = 53 by kernel_rfl]; decide
theorem ParseA.ok {base : Nat} {r : Rn.Res} {e : Ending} {w' : World} {x : Rn.Tr} (h : ParseA base r e w') (hr : r = .ok x) : ∃ V, e = .returned (.tuple #[.agg V, .int .i64 0, .int .i64 0]) ∧ RnV w' (fun b => base ≤ b) V x := by
 rcases h with ⟨n, k, h, -⟩ | ⟨y, V, h, h1, h2⟩
 ·rw [hr] at h; cases h
 ·rw [hr] at h; injection h with h; subst h; exact ⟨V, h1, h2⟩
theorem ParseA.bad {base : Nat} {r : Rn.Res} {e : Ending} {w' : World} {n : Nat} {k : Int} (h : ParseA base r e w') (hr : r = .bad n k) : e = .returned (.tuple #[.agg zRn, .int .i64 (n : Int), .int .i64 k]) := by
 rcases h with ⟨m, j, h, h1⟩ | ⟨y, V, h, -⟩
 ·rw [hr] at h; injection h with h2 h3; subst h2; subst h3; exact h1
 ·rw [hr] at h; cases h
theorem range_part {w : World} {g : Nat} {t : TypeId} {P X S : List Value} (h : Blk w g t (P ++ X ++ S).toArray) : w.rangeAt g P.length X := fun j v hj => by
 rw [h.cell, List.getElem?_toArray, List.append_assoc, List.getElem?_append_right (by omega), Nat.add_sub_cancel_left, List.getElem?_append_left (List.getElem?_eq_some_iff.1 hj).1]
 exact hj
def lvC1 : List Value := [.int .i64 1, .string ⟨#[]⟩, .string ⟨#[64, 97, 58, 115]⟩, .int .i64 1, .bool false, .string ⟨#[]⟩, .int .i64 0, .int .i64 0, .slice none 0 0, .slice none 0 0, .string ⟨#[]⟩, .int .i64 0, .int .i64 0, .bool false, .string ⟨#[]⟩, .slice none 0 0, .slice none 0 0, .slice none 0 0, .slice none 0 0, .int .i64 0, .int .i64 0, .int .i64 0, .int .i64 0, .int .i64 0, .int .i64 0, .int .i64 0, .int .i64 0, .string ⟨#[]⟩, .int .i64 0]
def lvC9 : List Value := [.int .i64 9, .string ⟨#[]⟩, .string ⟨#[64, 98, 58, 115]⟩, .int .i64 11, .bool false, .string ⟨#[]⟩, .int .i64 0, .int .i64 0, .slice none 0 0, .slice none 0 0, .string ⟨#[]⟩, .int .i64 0, .int .i64 0, .bool false, .string ⟨#[]⟩, .slice none 0 0, .slice none 0 0, .slice none 0 0, .slice none 0 0, .int .i64 0, .int .i64 0, .int .i64 0, .int .i64 0, .int .i64 0, .int .i64 0, .int .i64 0, .int .i64 0, .string ⟨#[]⟩, .int .i64 0]
def lvC2 (g1 : Nat) : List Value := [.int .i64 2, .string ⟨#[]⟩, .string ⟨#[]⟩, .int .i64 0, .bool false, .string ⟨#[]⟩, .int .i64 0, .int .i64 0, .slice none 0 0, .slice (some ⟨g1, 0, none⟩) 1 1, .string ⟨#[]⟩, .int .i64 0, .int .i64 0, .bool false, .string ⟨#[]⟩, .slice none 0 0, .slice none 0 0, .slice none 0 0, .slice none 0 0, .int .i64 0, .int .i64 0, .int .i64 0, .int .i64 0, .int .i64 0, .int .i64 0, .int .i64 0, .int .i64 0, .string ⟨#[]⟩, .int .i64 0]
def lvC3 (g2 : Nat) : List Value := [.int .i64 3, .string ⟨#[]⟩, .string ⟨#[]⟩, .int .i64 0, .bool false, .string ⟨#[]⟩, .int .i64 0, .int .i64 0, .slice none 0 0, .slice (some ⟨g2, 0, none⟩) 1 1, .string ⟨#[]⟩, .int .i64 0, .int .i64 0, .bool false, .string ⟨#[]⟩, .slice none 0 0, .slice none 0 0, .slice none 0 0, .slice none 0 0, .int .i64 0, .int .i64 0, .int .i64 0, .int .i64 0, .int .i64 0, .int .i64 0, .int .i64 0, .int .i64 0, .string ⟨#[]⟩, .int .i64 0]
def lvC4 (g3 : Nat) : List Value := [.int .i64 4, .string ⟨#[]⟩, .string ⟨#[]⟩, .int .i64 0, .bool false, .string ⟨#[]⟩, .int .i64 0, .int .i64 0, .slice none 0 0, .slice (some ⟨g3, 0, none⟩) 2 2, .string ⟨#[]⟩, .int .i64 0, .int .i64 0, .bool false, .string ⟨#[]⟩, .slice none 0 0, .slice none 0 0, .slice none 0 0, .slice none 0 0, .int .i64 0, .int .i64 0, .int .i64 0, .int .i64 0, .int .i64 0, .int .i64 0, .int .i64 0, .int .i64 0, .string ⟨#[]⟩, .int .i64 0]
def lvBig (g1 g2 g3 : Nat) : Array Value := (lvC1 ++ lvC2 g1 ++ lvC3 g2 ++ lvC4 g3).toArray
abbrev lvOk : Nat → Prop := fun _ => True
theorem slc_blk {w : World} {g n : Nat} {L : List Int} (h : Blk w g 3 (intL L).toArray) (hn : L.length = n) : SlcOf lvOk w (.slice (some ⟨g, 0, none⟩) n n) L.length 1 (intL L) :=
 ⟨_, _, by rw [hn], ⟨by unfold intL; rw [List.length_map, Nat.mul_one], fun j v hj => ⟨g, 0, rfl, by rw [Nat.zero_add, h.cell j, List.getElem?_toArray]; exact hj⟩⟩, fun _ _ _ => trivial⟩
theorem lv_v9 (w : World) : EvV lvOk w lvC9 lvE9 := ⟨_, _, _, _, _, _, rfl, ⟨SlcOf.nil .., SlcOf.nil .., SlcOf.nil .., SlcOf.nil .., SlcOf.nil .., SlcOf.nil ..⟩⟩
theorem lv_row {w : World} {g1 g2 g3 g : Nat} (h1 : Blk w g1 3 #[.int .i64 1]) (h2 : Blk w g2 3 #[.int .i64 1]) (h3 : Blk w g3 3 #[.int .i64 2, .int .i64 3]) (h : Blk w g 41 (lvBig g1 g2 g3)) : EvRow lvOk w (some ⟨g, 0, none⟩) [lvE1, lvE2, lvE3, lvE4] := by
 intro i x hi
 rcases i with _ | _ | _ | _ | i
 ·injection hi with hi
  subst hi
  exact ⟨g, 0, lvC1, rfl, trivial, range_part (P := []) (X := lvC1) (S := lvC2 g1 ++ lvC3 g2 ++ lvC4 g3) (t := 41) (by rw [List.nil_append, ← List.append_assoc, ← List.append_assoc]; exact h), ⟨_, _, _, _, _, _, rfl, ⟨SlcOf.nil .., SlcOf.nil .., SlcOf.nil .., SlcOf.nil .., SlcOf.nil .., SlcOf.nil ..⟩⟩⟩
 ·injection hi with hi
  subst hi
  exact ⟨g, 0, lvC2 g1, rfl, trivial, range_part (P := lvC1) (X := lvC2 g1) (S := lvC3 g2 ++ lvC4 g3) (t := 41) (by rw [← List.append_assoc]; exact h), ⟨_, _, _, _, _, _, rfl, ⟨SlcOf.nil .., slc_blk (L := [1]) h1 rfl, SlcOf.nil .., SlcOf.nil .., SlcOf.nil .., SlcOf.nil ..⟩⟩⟩
 ·injection hi with hi
  subst hi
  exact ⟨g, 0, lvC3 g2, rfl, trivial, range_part (P := lvC1 ++ lvC2 g1) (X := lvC3 g2) (S := lvC4 g3) (t := 41) h, ⟨_, _, _, _, _, _, rfl, ⟨SlcOf.nil .., slc_blk (L := [1]) h2 rfl, SlcOf.nil .., SlcOf.nil .., SlcOf.nil .., SlcOf.nil ..⟩⟩⟩
 ·injection hi with hi
  subst hi
  exact ⟨g, 0, lvC4 g3, rfl, trivial, range_part (P := lvC1 ++ lvC2 g1 ++ lvC3 g2) (X := lvC4 g3) (S := []) (t := 41) (by rw [List.append_nil]; exact h), ⟨_, _, _, _, _, _, rfl, ⟨SlcOf.nil .., slc_blk (L := [2, 3]) h3 rfl, SlcOf.nil .., SlcOf.nil .., SlcOf.nil .., SlcOf.nil ..⟩⟩⟩
 ·simp at hi
theorem live_any (m : Int) (w : World) (hm : w.cell? ⟨0, 0, none⟩ = some (.int .i64 m)) : Calls Tryz.prog 9 #[] w fun e w' => e = .returned (.bool true) ∧ Below w.heap.size w w' := by
 have hk1 := Blk.new w 3 #[.int .i64 1]
 have hk2 := Blk.new (w.alloc (.cells #[.int .i64 1] 3)) 3 #[.int .i64 1]
 have hk3 := Blk.new ((w.alloc (.cells #[.int .i64 1] 3)).alloc (.cells #[.int .i64 1] 3)) 3 #[.int .i64 2, .int .i64 3]
 have hk4 := Blk.new (((w.alloc (.cells #[.int .i64 1] 3)).alloc (.cells #[.int .i64 1] 3)).alloc (.cells #[.int .i64 2, .int .i64 3] 3)) 41 #[.int .i64 1, .string ⟨#[]⟩, .string ⟨#[64, 97, 58, 115]⟩, .int .i64 1, .bool false, .string ⟨#[]⟩, .int .i64 0, .int .i64 0, .slice none 0 0, .slice none 0 0, .string ⟨#[]⟩, .int .i64 0, .int .i64 0, .bool false, .string ⟨#[]⟩, .slice none 0 0, .slice none 0 0, .slice none 0 0, .slice none 0 0, .int .i64 0, .int .i64 0, .int .i64 0, .int .i64 0, .int .i64 0, .int .i64 0, .int .i64 0, .int .i64 0, .string ⟨#[]⟩, .int .i64 0, .int .i64 2, .string ⟨#[]⟩, .string ⟨#[]⟩, .int .i64 0, .bool false, .string ⟨#[]⟩, .int .i64 0, .int .i64 0, .slice none 0 0, .slice (some ⟨w.heap.size, 0, none⟩) 1 1, .string ⟨#[]⟩, .int .i64 0, .int .i64 0, .bool false, .string ⟨#[]⟩, .slice none 0 0, .slice none 0 0, .slice none 0 0, .slice none 0 0, .int .i64 0, .int .i64 0, .int .i64 0, .int .i64 0, .int .i64 0, .int .i64 0, .int .i64 0, .int .i64 0, .string ⟨#[]⟩, .int .i64 0, .int .i64 3, .string ⟨#[]⟩, .string ⟨#[]⟩, .int .i64 0, .bool false, .string ⟨#[]⟩, .int .i64 0, .int .i64 0, .slice none 0 0, .slice (some ⟨w.heap.size + 1, 0, none⟩) 1 1, .string ⟨#[]⟩, .int .i64 0, .int .i64 0, .bool false, .string ⟨#[]⟩, .slice none 0 0, .slice none 0 0, .slice none 0 0, .slice none 0 0, .int .i64 0, .int .i64 0, .int .i64 0, .int .i64 0, .int .i64 0, .int .i64 0, .int .i64 0, .int .i64 0, .string ⟨#[]⟩, .int .i64 0, .int .i64 4, .string ⟨#[]⟩, .string ⟨#[]⟩, .int .i64 0, .bool false, .string ⟨#[]⟩, .int .i64 0, .int .i64 0, .slice none 0 0, .slice (some ⟨w.heap.size + 1 + 1, 0, none⟩) 2 2, .string ⟨#[]⟩, .int .i64 0, .int .i64 0, .bool false, .string ⟨#[]⟩, .slice none 0 0, .slice none 0 0, .slice none 0 0, .slice none 0 0, .int .i64 0, .int .i64 0, .int .i64 0, .int .i64 0, .int .i64 0, .int .i64 0, .int .i64 0, .int .i64 0, .string ⟨#[]⟩, .int .i64 0]
 simp only [World.size_alloc] at hk2 hk3 hk4
 have HROW := hid (lv_row (((hk1.alloc _).alloc _).alloc _) ((hk2.alloc _).alloc _) (hk3.alloc _) hk4)
 have HB4 := hid ((((Below.refl w.heap.size w).alloc (Nat.le_refl _) (.cells #[.int .i64 1] 3)).alloc (by simp) (.cells #[.int .i64 1] 3)).alloc (by simp; omega) (.cells #[.int .i64 2, .int .i64 3] 3) |>.alloc (by simp; omega) (.cells #[.int .i64 1, .string ⟨#[]⟩, .string ⟨#[64, 97, 58, 115]⟩, .int .i64 1, .bool false, .string ⟨#[]⟩, .int .i64 0, .int .i64 0, .slice none 0 0, .slice none 0 0, .string ⟨#[]⟩, .int .i64 0, .int .i64 0, .bool false, .string ⟨#[]⟩, .slice none 0 0, .slice none 0 0, .slice none 0 0, .slice none 0 0, .int .i64 0, .int .i64 0, .int .i64 0, .int .i64 0, .int .i64 0, .int .i64 0, .int .i64 0, .int .i64 0, .string ⟨#[]⟩, .int .i64 0, .int .i64 2, .string ⟨#[]⟩, .string ⟨#[]⟩, .int .i64 0, .bool false, .string ⟨#[]⟩, .int .i64 0, .int .i64 0, .slice none 0 0, .slice (some ⟨w.heap.size, 0, none⟩) 1 1, .string ⟨#[]⟩, .int .i64 0, .int .i64 0, .bool false, .string ⟨#[]⟩, .slice none 0 0, .slice none 0 0, .slice none 0 0, .slice none 0 0, .int .i64 0, .int .i64 0, .int .i64 0, .int .i64 0, .int .i64 0, .int .i64 0, .int .i64 0, .int .i64 0, .string ⟨#[]⟩, .int .i64 0, .int .i64 3, .string ⟨#[]⟩, .string ⟨#[]⟩, .int .i64 0, .bool false, .string ⟨#[]⟩, .int .i64 0, .int .i64 0, .slice none 0 0, .slice (some ⟨w.heap.size + 1, 0, none⟩) 1 1, .string ⟨#[]⟩, .int .i64 0, .int .i64 0, .bool false, .string ⟨#[]⟩, .slice none 0 0, .slice none 0 0, .slice none 0 0, .slice none 0 0, .int .i64 0, .int .i64 0, .int .i64 0, .int .i64 0, .int .i64 0, .int .i64 0, .int .i64 0, .int .i64 0, .string ⟨#[]⟩, .int .i64 0, .int .i64 4, .string ⟨#[]⟩, .string ⟨#[]⟩, .int .i64 0, .bool false, .string ⟨#[]⟩, .int .i64 0, .int .i64 0, .slice none 0 0, .slice (some ⟨w.heap.size + 1 + 1, 0, none⟩) 2 2, .string ⟨#[]⟩, .int .i64 0, .int .i64 0, .bool false, .string ⟨#[]⟩, .slice none 0 0, .slice none 0 0, .slice none 0 0, .slice none 0 0, .int .i64 0, .int .i64 0, .int .i64 0, .int .i64 0, .int .i64 0, .int .i64 0, .int .i64 0, .int .i64 0, .string ⟨#[]⟩, .int .i64 0] 41))
 have HM := hid hm
 have HM0 := hid (block_lt hm)
 clear hk1 hk2 hk3 hk4 hm
 go_enter Tryz.func9, Tryz.ntmps9
 go_wp2_with fail
 generalize hw4 : (((w.alloc (.cells #[.int .i64 1] 3)).alloc (.cells #[.int .i64 1] 3)).alloc (.cells #[.int .i64 2, .int .i64 3] 3)).alloc (.cells #[.int .i64 1, .string ⟨#[]⟩, .string ⟨#[64, 97, 58, 115]⟩, .int .i64 1, .bool false, .string ⟨#[]⟩, .int .i64 0, .int .i64 0, .slice none 0 0, .slice none 0 0, .string ⟨#[]⟩, .int .i64 0, .int .i64 0, .bool false, .string ⟨#[]⟩, .slice none 0 0, .slice none 0 0, .slice none 0 0, .slice none 0 0, .int .i64 0, .int .i64 0, .int .i64 0, .int .i64 0, .int .i64 0, .int .i64 0, .int .i64 0, .int .i64 0, .string ⟨#[]⟩, .int .i64 0, .int .i64 2, .string ⟨#[]⟩, .string ⟨#[]⟩, .int .i64 0, .bool false, .string ⟨#[]⟩, .int .i64 0, .int .i64 0, .slice none 0 0, .slice (some ⟨w.heap.size, 0, none⟩) 1 1, .string ⟨#[]⟩, .int .i64 0, .int .i64 0, .bool false, .string ⟨#[]⟩, .slice none 0 0, .slice none 0 0, .slice none 0 0, .slice none 0 0, .int .i64 0, .int .i64 0, .int .i64 0, .int .i64 0, .int .i64 0, .int .i64 0, .int .i64 0, .int .i64 0, .string ⟨#[]⟩, .int .i64 0, .int .i64 3, .string ⟨#[]⟩, .string ⟨#[]⟩, .int .i64 0, .bool false, .string ⟨#[]⟩, .int .i64 0, .int .i64 0, .slice none 0 0, .slice (some ⟨w.heap.size + 1, 0, none⟩) 1 1, .string ⟨#[]⟩, .int .i64 0, .int .i64 0, .bool false, .string ⟨#[]⟩, .slice none 0 0, .slice none 0 0, .slice none 0 0, .slice none 0 0, .int .i64 0, .int .i64 0, .int .i64 0, .int .i64 0, .int .i64 0, .int .i64 0, .int .i64 0, .int .i64 0, .string ⟨#[]⟩, .int .i64 0, .int .i64 4, .string ⟨#[]⟩, .string ⟨#[]⟩, .int .i64 0, .bool false, .string ⟨#[]⟩, .int .i64 0, .int .i64 0, .slice none 0 0, .slice (some ⟨w.heap.size + 1 + 1, 0, none⟩) 2 2, .string ⟨#[]⟩, .int .i64 0, .int .i64 0, .bool false, .string ⟨#[]⟩, .slice none 0 0, .slice none 0 0, .slice none 0 0, .slice none 0 0, .int .i64 0, .int .i64 0, .int .i64 0, .int .i64 0, .int .i64 0, .int .i64 0, .int .i64 0, .int .i64 0, .string ⟨#[]⟩, .int .i64 0] 41) = w4 at *
 refine (pexp_other lvOk lvE9 lvC9 [lvE1] (some ⟨w.heap.size + 1 + 1 + 1, 0, none⟩) 4 w4 (lv_v9 w4) (HROW.out.take 1) (by decide) (by simp; decide) (by decide) (by decide) (by decide) (fun W hW => pallowed_any lvOk lvE9 [lvE1] _ 4 lvC9 W (lv_v9 W) ((HROW.out.take 1).bel hW) (by decide) (by decide) (fun _ h => absurd h (by decide)) (fun _ _ h => absurd h (by decide)))).mono ?_
 rintro e w5 ⟨⟨V, rfl, hV⟩, hb5⟩
 rw [lv_allowed] at hV
 obtain ⟨Ak, capk, rfl, hrk⟩ := hV.open
 simp only [Rn.Tr.rule, Rn.Tr.id, Rn.Tr.err, Rn.Tr.kids] at hrk
 obtain ⟨bk, ok_, X0, rfl, -, hr0, -, hv0⟩ := hrk 0 _ rfl
 obtain ⟨bk1, ok1, X1, he1, -, hr1, -, hv1⟩ := hrk 1 _ rfl
 have eb : bk1 = bk := by injection he1 with e; injection e with e1 e2 e3; exact e1.symm
 have eo : ok1 = ok_ := by injection he1 with e; injection e with e1 e2 e3; exact e2.symm
 subst eb; subst eo
 obtain ⟨A0, cap0, hX0, -⟩ := hv0.open
 obtain ⟨A1, cap1, hX1, -⟩ := hv1.open
 have hx0 : X0 = _ := congrArg Array.toList hX0
 have hx1 : X1 = _ := congrArg Array.toList hX1
 have hd0 : w5.cell? ⟨bk1, ok1, none⟩ = some (.string ⟨#[99, 114, 101, 97, 116, 105, 111, 110]⟩) := by
  have := hr0 0 (.string ⟨#[99, 114, 101, 97, 116, 105, 111, 110]⟩) (by rw [hx0]; rfl)
  simpa using this
 have hd1 : w5.cell? ⟨bk1, ok1 + 1, none⟩ = some (.int .i64 1) := by
  have := hr0 1 (.int .i64 1) (by rw [hx0]; rfl)
  simpa using this
 have hd4 : w5.cell? ⟨bk1, ok1 + 4, none⟩ = some (.string ⟨#[115, 101, 110, 100, 101, 114, 45, 106, 111, 105, 110, 101, 100]⟩) := by
  have := hr1 0 (.string ⟨#[115, 101, 110, 100, 101, 114, 45, 106, 111, 105, 110, 101, 100]⟩) (by rw [hx1]; rfl)
  simpa using this
 have HD0 := hid hd0
 have HD1 := hid hd1
 have HD4 := hid hd4
 have HB5 := hid (HB4.out.trans (hb5.mono HB4.out.size))
 have HR5 := hid (HROW.out.bel hb5)
 have HM5 := hid ((Below.cell HB5.out HM0.out).trans HM.out)
 have hbk := block_lt hd0
 clear hd0 hd1 hd4 hr0 hr1 hv0 hv1 hrk he1 hX0 hX1 hx0 hx1 hV hb5 HB4 HROW
 have hn5 := Blk.new w5 54 zRn
 have hb6 := below_setRow (g := w5.heap.size) ((Below.refl w5.heap.size w5).alloc (Nat.le_refl _) (.cells zRn 54)) (Nat.le_refl _) #[.string (bstr [97, 108, 108, 111, 119, 101, 100]), .int .i64 9, .int .i64 18, .slice (some ⟨bk1, ok1, none⟩) 2 capk]
 have hk6 : Blk ((w5.alloc (.cells zRn 54)).setRow w5.heap.size #[.string (bstr [97, 108, 108, 111, 119, 101, 100]), .int .i64 9, .int .i64 18, .slice (some ⟨bk1, ok1, none⟩) 2 capk]) w5.heap.size 54 #[.string (bstr [97, 108, 108, 111, 119, 101, 100]), .int .i64 9, .int .i64 18, .slice (some ⟨bk1, ok1, none⟩) 2 capk] := setRow_heap _ _ _ _ _ _ hn5
 have HN5 := hid hn5
 generalize hw6 : (w5.alloc (.cells zRn 54)).setRow w5.heap.size #[.string (bstr [97, 108, 108, 111, 119, 101, 100]), .int .i64 9, .int .i64 18, .slice (some ⟨bk1, ok1, none⟩) 2 capk] = w6 at *
 have HK6 := hid hk6
 have HB56 := hid hb6
 have HB6 := hid (HB5.out.trans (hb6.mono HB5.out.size))
 have HS56 := hid hk6.lt
 have hn7 := Blk.new (w6.alloc (.cells #[.string ⟨#[98, 121]⟩, .int .i64 0, .int .i64 0, .slice none 0 0] 54)) 54 zRn
 rw [World.size_alloc] at hn7
 have hb7 := ((Below.refl w6.heap.size w6).alloc (Nat.le_refl _) (.cells #[.string ⟨#[98, 121]⟩, .int .i64 0, .int .i64 0, .slice none 0 0] 54)).alloc (by rw [World.size_alloc]; omega) (.cells zRn 54)
 have hb8 := below_setRow (g := w6.heap.size + 1) hb7 (by omega) #[.string ⟨#[108, 111, 115, 116]⟩, .int .i64 5, .int .i64 26, .slice (some ⟨w6.heap.size, 0, none⟩) 1 1]
 have hk8 : Blk (((w6.alloc (.cells #[.string ⟨#[98, 121]⟩, .int .i64 0, .int .i64 0, .slice none 0 0] 54)).alloc (.cells zRn 54)).setRow (w6.heap.size + 1) #[.string ⟨#[108, 111, 115, 116]⟩, .int .i64 5, .int .i64 26, .slice (some ⟨w6.heap.size, 0, none⟩) 1 1]) (w6.heap.size + 1) 54 #[.string ⟨#[108, 111, 115, 116]⟩, .int .i64 5, .int .i64 26, .slice (some ⟨w6.heap.size, 0, none⟩) 1 1] := setRow_heap _ _ _ _ _ _ hn7
 have hby : Blk (((w6.alloc (.cells #[.string ⟨#[98, 121]⟩, .int .i64 0, .int .i64 0, .slice none 0 0] 54)).alloc (.cells zRn 54)).setRow (w6.heap.size + 1) #[.string ⟨#[108, 111, 115, 116]⟩, .int .i64 5, .int .i64 26, .slice (some ⟨w6.heap.size, 0, none⟩) 1 1]) w6.heap.size 54 #[.string ⟨#[98, 121]⟩, .int .i64 0, .int .i64 0, .slice none 0 0] := (setRow_other _ _ _ _ (by omega)).trans ((Blk.new w6 54 #[.string ⟨#[98, 121]⟩, .int .i64 0, .int .i64 0, .slice none 0 0]).alloc (.cells zRn 54))
 have HN7 := hid hn7
 generalize hw8 : ((w6.alloc (.cells #[.string ⟨#[98, 121]⟩, .int .i64 0, .int .i64 0, .slice none 0 0] 54)).alloc (.cells zRn 54)).setRow (w6.heap.size + 1) #[.string ⟨#[108, 111, 115, 116]⟩, .int .i64 5, .int .i64 26, .slice (some ⟨w6.heap.size, 0, none⟩) 1 1] = w8 at *
 have HK8 := hid hk8
 have HB68 := hid hb8
 have HB8 := hid (HB6.out.trans (hb8.mono HB6.out.size))
 have HY8 : Hid (RnV w8 lvOk #[.string ⟨#[108, 111, 115, 116]⟩, .int .i64 5, .int .i64 26, .slice (some ⟨w6.heap.size, 0, none⟩) 1 1] lvY) := hid (RnV.make (ks := [.mk [98, 121] 0 0 []]) (fun i c hi => by
  rcases i with _ | i
  ·injection hi with hi
   subst hi
   exact ⟨w6.heap.size, 0, (#[.string ⟨#[98, 121]⟩, .int .i64 0, .int .i64 0, .slice none 0 0]).toList, rfl, trivial, range_of_blk hby, rfl, RnV.make (ks := []) (A := none) (cap := 0) (fun i c hi => by cases hi)⟩
  ·simp at hi))
 have HM8 := hid ((Below.cell HB8.out HM0.out).trans HM.out)
 have HP1 := hid (parse_any (bstr lvT) m w8 (by rw [bstr_size]; decide) HM8.out)
 clear hn5 hb6 hk6 hn7 hb7 hb8 hk8 hby
 go_wp2_with (first
  | ((with_reducible refine store_rowe rfl 54 _ _ rfl w5.heap.size #[.string (bstr [97, 108, 108, 111, 119, 101, 100]), .int .i64 9, .int .i64 18, .slice (some ⟨bk1, ok1, none⟩) 2 capk] ?_ ?_ 54 zRn HN5.out size_rn rfl (by simp [Value.oneCell']) ?_); rfl; rfl; rw [hw6])
  | ((with_reducible refine store_rowe rfl 54 _ _ rfl (w6.heap.size + 1) #[.string ⟨#[108, 111, 115, 116]⟩, .int .i64 5, .int .i64 26, .slice (some ⟨w6.heap.size, 0, none⟩) 1 1] ?_ ?_ 54 zRn HN7.out size_rn rfl (by simp [Value.oneCell']) ?_); rfl; rfl; rw [hw8]))
 refine HP1.out.mono ?_
 rintro e w9 ⟨hp, hb9⟩
 obtain ⟨Vw, rfl, hVz⟩ := hp.ok (by rw [bstr_list]; exact lv_parse)
 obtain ⟨Az, capz, rfl, -⟩ := id hVz.open
 have hvz := hVz.size
 have HSZ : Hid ((Tryz.prog.info? 54).map (·.size) = some (#[.string (bstr lvY.rule), .int .i64 lvY.id, .int .i64 lvY.err, .slice Az lvY.kids.length capz] : Array Value).size) := hid (by rw [hvz]; exact size_rn (x := undef) (y := undef) (z := undef) (v := undef))
 have HSE : Hid (zRn.size = (#[.string (bstr lvY.rule), .int .i64 lvY.id, .int .i64 lvY.err, .slice Az lvY.kids.length capz] : Array Value).size) := hid hvz.symm
 have HOZ : Hid ((#[.string (bstr lvY.rule), .int .i64 lvY.id, .int .i64 lvY.err, .slice Az lvY.kids.length capz] : Array Value).all (·.oneCell') = true) := hid hVz.one
 have hn9 := Blk.new w9 54 zRn
 have hb10 := below_setRow (g := w9.heap.size) ((Below.refl w9.heap.size w9).alloc (Nat.le_refl _) (.cells zRn 54)) (Nat.le_refl _) #[.string (bstr lvY.rule), .int .i64 lvY.id, .int .i64 lvY.err, .slice Az lvY.kids.length capz]
 have hk10 : Blk ((w9.alloc (.cells zRn 54)).setRow w9.heap.size #[.string (bstr lvY.rule), .int .i64 lvY.id, .int .i64 lvY.err, .slice Az lvY.kids.length capz]) w9.heap.size 54 #[.string (bstr lvY.rule), .int .i64 lvY.id, .int .i64 lvY.err, .slice Az lvY.kids.length capz] := setRow_heap _ _ _ _ _ _ hn9
 have HN9 := hid hn9
 generalize hw10 : (w9.alloc (.cells zRn 54)).setRow w9.heap.size #[.string (bstr lvY.rule), .int .i64 lvY.id, .int .i64 lvY.err, .slice Az lvY.kids.length capz] = w10 at *
 have HK10 := hid hk10
 have hb810 := hb9.trans (hb10.mono hb9.size)
 have HB810 := hid hb810
 have HB10 := hid (HB8.out.trans (hb810.mono HB8.out.size))
 have HZ10 := hid (hVz.bel hb10)
 have HM10 := hid ((Below.cell HB10.out HM0.out).trans HM.out)
 have HP2 := hid (parse_any (bstr [97, 32, 48, 32, 111, 107, 10]) m w10 (by rw [bstr_size]; decide) HM10.out)
 clear hp hb9 hVz hvz hn9 hb10 hk10 hb810 HP1
 go_wp2_with ((with_reducible refine store_rowe rfl 54 _ _ rfl w9.heap.size #[.string (bstr lvY.rule), .int .i64 lvY.id, .int .i64 lvY.err, .slice Az lvY.kids.length capz] ?_ ?_ 54 zRn HN9.out HSZ.out HSE.out HOZ.out ?_); rfl; rfl; rw [hw10])
 refine HP2.out.mono ?_
 rintro e w11 ⟨hp, hb11⟩
 obtain rfl := hp.bad (by rw [bstr_list]; exact lv_bad)
 have hn11 := Blk.new w11 54 zRn
 have hb12 := below_setRow (g := w11.heap.size) ((Below.refl w11.heap.size w11).alloc (Nat.le_refl _) (.cells zRn 54)) (Nat.le_refl _) zRn
 have HN11 := hid hn11
 generalize hw12 : (w11.alloc (.cells zRn 54)).setRow w11.heap.size zRn = w12 at *
 have hb1012 := hb11.trans (hb12.mono hb11.size)
 have HB812 := hid (HB810.out.trans (hb1012.mono HB810.out.size))
 have HB612 := hid (HB68.out.trans (HB812.out.mono HB68.out.size))
 have HB512 := hid (HB56.out.trans (HB612.out.mono HB56.out.size))
 have HB12 := hid (HB10.out.trans (hb1012.mono HB10.out.size))
 have HZ12 := hid (HZ10.out.bel hb1012)
 have HKZ12 := hid (HK10.out.below hb1012 HK10.out.lt)
 have HY12 := hid (HY8.out.bel HB812.out)
 have HKY12 := hid (HK8.out.below HB812.out HK8.out.lt)
 have HR12 := hid (HR5.out.bel HB512.out)
 have hcx2 : w12.cell? ⟨w5.heap.size, 2, none⟩ = some (.int .i64 18) := (Below.cell HB612.out HS56.out).trans (HK6.out.cell 2)
 have hcx3 : w12.cell? ⟨w5.heap.size, 3, none⟩ = some (.slice (some ⟨bk1, ok1, none⟩) 2 capk) := (Below.cell HB612.out HS56.out).trans (HK6.out.cell 3)
 have hd0 : w12.cell? ⟨bk1, ok1, none⟩ = some (.string ⟨#[99, 114, 101, 97, 116, 105, 111, 110]⟩) := (Below.cell HB512.out hbk).trans HD0.out
 have hd1 : w12.cell? ⟨bk1, ok1 + 1, none⟩ = some (.int .i64 1) := (Below.cell HB512.out hbk).trans HD1.out
 have hd4 : w12.cell? ⟨bk1, ok1 + 4, none⟩ = some (.string ⟨#[115, 101, 110, 100, 101, 114, 45, 106, 111, 105, 110, 101, 100]⟩) := (Below.cell HB512.out hbk).trans HD4.out
 have HT := hid (ptext_any 1000 lvOk lvY #[.string ⟨#[108, 111, 115, 116]⟩, .int .i64 5, .int .i64 26, .slice (some ⟨w6.heap.size, 0, none⟩) 1 1] w12 (by rw [lv_nodes]; decide) (by decide) lv_tame (fun _ => lv_lines) HY12.out)
 clear hp hb11 hn11 hb12 hb1012 HP2 HK6 HD0 HD1 HD4 hbk
 have hy12_0 : w12.cell? ⟨w6.heap.size + 1, 0, none⟩ = some (.string ⟨#[108, 111, 115, 116]⟩) := HKY12.out.cell 0
 have hy12_1 : w12.cell? ⟨w6.heap.size + 1, 1, none⟩ = some (.int .i64 5) := HKY12.out.cell 1
 have hy12_2 : w12.cell? ⟨w6.heap.size + 1, 2, none⟩ = some (.int .i64 26) := HKY12.out.cell 2
 have hy12_3 : w12.cell? ⟨w6.heap.size + 1, 3, none⟩ = some (.slice (some ⟨w6.heap.size, 0, none⟩) 1 1) := HKY12.out.cell 3
 go_wp2_with ((with_reducible refine store_rowe rfl 54 _ _ rfl w11.heap.size zRn ?_ ?_ 54 zRn HN11.out size_rn rfl (by kernel_rfl) ?_); rfl; rfl; rw [hw12])
 refine HT.out.mono ?_
 rintro e w13 ⟨rfl, hb13⟩
 rw [show bstr (Rn.text lvY) = ⟨#[108, 111, 115, 116, 32, 48, 48, 48, 48, 48, 48, 48, 48, 48, 48, 48, 48, 48, 48, 48, 53, 32, 115, 116, 97, 116, 101, 10, 32, 32, 98, 121, 32, 48, 48, 48, 48, 48, 48, 48, 48, 48, 48, 48, 48, 48, 48, 48, 48, 32, 111, 107, 10]⟩ from by rw [lv_text]; rfl]
 have HB13 := hid (HB12.out.trans (hb13.mono HB12.out.size))
 have HZ13 := hid (HZ12.out.bel hb13)
 have HKZ13 := hid (HKZ12.out.below hb13 HKZ12.out.lt)
 have HY13 := hid (HY12.out.bel hb13)
 have HKY13 := hid (HKY12.out.below hb13 HKY12.out.lt)
 have HR13 := hid (HR12.out.bel hb13)
 clear hb13
 have hy13_0 : w13.cell? ⟨w6.heap.size + 1, 0, none⟩ = some (.string ⟨#[108, 111, 115, 116]⟩) := HKY13.out.cell 0
 have hy13_1 : w13.cell? ⟨w6.heap.size + 1, 1, none⟩ = some (.int .i64 5) := HKY13.out.cell 1
 have hy13_2 : w13.cell? ⟨w6.heap.size + 1, 2, none⟩ = some (.int .i64 26) := HKY13.out.cell 2
 have hy13_3 : w13.cell? ⟨w6.heap.size + 1, 3, none⟩ = some (.slice (some ⟨w6.heap.size, 0, none⟩) 1 1) := HKY13.out.cell 3
 have hz13_0 : w13.cell? ⟨w9.heap.size, 0, none⟩ = some (.string ⟨#[108, 111, 115, 116]⟩) := HKZ13.out.cell 0
 have hz13_1 : w13.cell? ⟨w9.heap.size, 1, none⟩ = some (.int .i64 5) := HKZ13.out.cell 1
 have hz13_2 : w13.cell? ⟨w9.heap.size, 2, none⟩ = some (.int .i64 26) := HKZ13.out.cell 2
 have hz13_3 : w13.cell? ⟨w9.heap.size, 3, none⟩ = some (.slice Az 1 capz) := HKZ13.out.cell 3
 clear hcx2 hcx3 hd0 hd1 hd4
 go_wp2_with fail
 refine (psame_any 1000 lvOk _ lvY lvY #[.string ⟨#[108, 111, 115, 116]⟩, .int .i64 5, .int .i64 26, .slice (some ⟨w6.heap.size, 0, none⟩) 1 1] #[.string (bstr lvY.rule), .int .i64 lvY.id, .int .i64 lvY.err, .slice Az lvY.kids.length capz] w13 (by rw [lv_nodes]; decide) (by decide) HY13.out HZ13.out).mono ?_
 rintro e w14 ⟨rfl, hb14⟩
 rw [lv_same]
 have HB14 := hid (HB13.out.trans (hb14.mono HB13.out.size))
 have HZ14 := hid (HZ13.out.bel hb14)
 have HKZ14 := hid (HKZ13.out.below hb14 HKZ13.out.lt)
 have HY14 := hid (HY13.out.bel hb14)
 have HKY14 := hid (HKY13.out.below hb14 HKY13.out.lt)
 have HR14 := hid (HR13.out.bel hb14)
 clear hb14
 have hy14_0 : w14.cell? ⟨w6.heap.size + 1, 0, none⟩ = some (.string ⟨#[108, 111, 115, 116]⟩) := HKY14.out.cell 0
 have hy14_1 : w14.cell? ⟨w6.heap.size + 1, 1, none⟩ = some (.int .i64 5) := HKY14.out.cell 1
 have hy14_2 : w14.cell? ⟨w6.heap.size + 1, 2, none⟩ = some (.int .i64 26) := HKY14.out.cell 2
 have hy14_3 : w14.cell? ⟨w6.heap.size + 1, 3, none⟩ = some (.slice (some ⟨w6.heap.size, 0, none⟩) 1 1) := HKY14.out.cell 3
 clear hy13_0 hy13_1 hy13_2 hy13_3 hz13_0 hz13_1 hz13_2 hz13_3
 go_wp2_with fail
 refine (psize_any 1000 lvOk lvY #[.string ⟨#[108, 111, 115, 116]⟩, .int .i64 5, .int .i64 26, .slice (some ⟨w6.heap.size, 0, none⟩) 1 1] w14 (by rw [lv_nodes]; decide) (by decide) HY14.out).mono ?_
 rintro e w15 ⟨rfl, hb15⟩
 rw [lv_nodes]
 have HB15 := hid (HB14.out.trans (hb15.mono HB14.out.size))
 have HZ15 := hid (HZ14.out.bel hb15)
 have HKZ15 := hid (HKZ14.out.below hb15 HKZ14.out.lt)
 have HY15 := hid (HY14.out.bel hb15)
 have HKY15 := hid (HKY14.out.below hb15 HKY14.out.lt)
 have HR15 := hid (HR14.out.bel hb15)
 clear hb15
 have hy15_0 : w15.cell? ⟨w6.heap.size + 1, 0, none⟩ = some (.string ⟨#[108, 111, 115, 116]⟩) := HKY15.out.cell 0
 have hy15_1 : w15.cell? ⟨w6.heap.size + 1, 1, none⟩ = some (.int .i64 5) := HKY15.out.cell 1
 have hy15_2 : w15.cell? ⟨w6.heap.size + 1, 2, none⟩ = some (.int .i64 26) := HKY15.out.cell 2
 have hy15_3 : w15.cell? ⟨w6.heap.size + 1, 3, none⟩ = some (.slice (some ⟨w6.heap.size, 0, none⟩) 1 1) := HKY15.out.cell 3
 clear hy14_0 hy14_1 hy14_2 hy14_3
 go_wp2_with fail
 refine (pdepth_any 1000 lvOk lvY #[.string ⟨#[108, 111, 115, 116]⟩, .int .i64 5, .int .i64 26, .slice (some ⟨w6.heap.size, 0, none⟩) 1 1] w15 (by rw [lv_nodes]; decide) (by decide) HY15.out).mono ?_
 rintro e w16 ⟨rfl, hb16⟩
 rw [lv_depth]
 have HB16 := hid (HB15.out.trans (hb16.mono HB15.out.size))
 have HZ16 := hid (HZ15.out.bel hb16)
 have HKZ16 := hid (HKZ15.out.below hb16 HKZ15.out.lt)
 have HY16 := hid (HY15.out.bel hb16)
 have HKY16 := hid (HKY15.out.below hb16 HKY15.out.lt)
 have HR16 := hid (HR15.out.bel hb16)
 clear hb16
 clear hy15_0 hy15_1 hy15_2 hy15_3
 go_wp2_with fail
 refine (path_any lvOk [lvE1, lvE2, lvE3, lvE4] (some ⟨w.heap.size + 1 + 1 + 1, 0, none⟩) 4 4 1 w16 HR16.out (by decide) (by decide) (by simp [lvE1, lvE2, lvE3, lvE4, W64]; decide)).mono ?_
 rintro e w17 ⟨⟨vp, rfl, hp⟩, hb17⟩
 rw [lv_path] at hp
 have hb18 := hb17.alloc hb17.size (.cells #[.int .i64 4, .int .i64 2, .int .i64 1] 3)
 obtain ⟨Ap, capp, rfl, -, hra, -⟩ := own_at hp
 have hra2 : Rd w17 Ap 3 (intL [4, 2, 1]) := hra
 have HRA := hid (hra2.below ((Below.refl w17.heap.size w17).alloc (Nat.le_refl _) (.cells #[.int .i64 4, .int .i64 2, .int .i64 1] 3)))
 have HRB : Hid (Rd (w17.alloc (.cells #[.int .i64 4, .int .i64 2, .int .i64 1] 3)) (some ⟨w17.heap.size, 0, none⟩) 3 (intL [4, 2, 1])) := hid ⟨rfl, fun j u hj => ⟨w17.heap.size, 0, rfl, by rw [Nat.zero_add, (Blk.new w17 3 #[.int .i64 4, .int .i64 2, .int .i64 1]).cell j, List.getElem?_toArray]; exact hj⟩⟩
 generalize hw18 : w17.alloc (.cells #[.int .i64 4, .int .i64 2, .int .i64 1] 3) = w18 at *
 have HB18 := hid (HB16.out.trans (hb18.mono HB16.out.size))
 have HZ18 := hid (HZ16.out.bel hb18)
 have HKZ18 := hid (HKZ16.out.below hb18 HKZ16.out.lt)
 have HY18 := hid (HY16.out.bel hb18)
 have HKY18 := hid (HKY16.out.below hb18 HKY16.out.lt)
 have HR18 := hid (HR16.out.bel hb18)
 clear hb18
 clear hp hra hra2 hb17
 go_wp2_with fail
 refine (rsame_ints [4, 2, 1] [4, 2, 1] 3 3 Ap _ capp 3 w18 rfl rfl HRA.out HRB.out (by decide)).mono ?_
 rintro e w19 ⟨rfl, hb19⟩
 rw [show decide (([4, 2, 1] : List Int) = [4, 2, 1]) = true from rfl]
 have HB19 := hid (HB18.out.trans (hb19.mono HB18.out.size))
 have HZ19 := hid (HZ18.out.bel hb19)
 have HKZ19 := hid (HKZ18.out.below hb19 HKZ18.out.lt)
 have HY19 := hid (HY18.out.bel hb19)
 have HKY19 := hid (HKY18.out.below hb19 HKY18.out.lt)
 have HR19 := hid (HR18.out.bel hb19)
 clear hb19
 go_wp2_with fail
 refine (errno_any 30 w19).mono ?_
 rintro e w20 ⟨rfl, hb20⟩
 rw [show bstr (Rn.nameOf 30) = ⟨#[100, 111, 119, 110]⟩ from by rw [lv_name]; rfl]
 have HB20 := hid (HB19.out.trans (hb20.mono HB19.out.size))
 have HZ20 := hid (HZ19.out.bel hb20)
 have HKZ20 := hid (HKZ19.out.below hb20 HKZ19.out.lt)
 have HY20 := hid (HY19.out.bel hb20)
 have HKY20 := hid (HKY19.out.below hb20 HKY19.out.lt)
 have HR20 := hid (HR19.out.bel hb20)
 clear hb20
 have hy20_0 : w20.cell? ⟨w6.heap.size + 1, 0, none⟩ = some (.string ⟨#[108, 111, 115, 116]⟩) := HKY20.out.cell 0
 have hy20_1 : w20.cell? ⟨w6.heap.size + 1, 1, none⟩ = some (.int .i64 5) := HKY20.out.cell 1
 have hy20_2 : w20.cell? ⟨w6.heap.size + 1, 2, none⟩ = some (.int .i64 26) := HKY20.out.cell 2
 have hy20_3 : w20.cell? ⟨w6.heap.size + 1, 3, none⟩ = some (.slice (some ⟨w6.heap.size, 0, none⟩) 1 1) := HKY20.out.cell 3
 go_wp2_with fail
 refine (check_form lvOk _ lvY #[.string ⟨#[108, 111, 115, 116]⟩, .int .i64 5, .int .i64 26, .slice (some ⟨w6.heap.size, 0, none⟩) 1 1] w20 (by rw [lv_nodes]; decide) lv_tame HY20.out lv_rule).mono ?_
 rintro e w21 ⟨rfl, hb21⟩
 have HB21 := hid (HB20.out.trans (hb21.mono HB20.out.size))
 have HZ21 := hid (HZ20.out.bel hb21)
 have HKZ21 := hid (HKZ20.out.below hb21 HKZ20.out.lt)
 have HY21 := hid (HY20.out.bel hb21)
 have HKY21 := hid (HKY20.out.below hb21 HKY20.out.lt)
 have HR21 := hid (HR20.out.bel hb21)
 clear hb21
 go_wp2_with fail
 go_ret
 exact ⟨rfl, HB21.out⟩
end Go.Proofs.YtiidljciaccidaaGreatDoor
/- The text Ol. -/
namespace Go.Proofs.YtiidljciaccidaaGreatDoor
open Go.RowKit Go.Lib
set_option linter.unusedVariables false
set_option linter.unusedSimpArgs false
theorem downF_len (l : List Co.Ev) (far : Co.Far) : ∀ (n : Nat) (x : Int), (Co.downF l far n x).length = n
 | 0, _ => rfl
 | n + 1, x => by unfold Co.downF; rw [List.length_cons, downF_len l far n]
theorem pathP_len (l : List Co.Ev) (a b : Int) : (Co.pathP l a b).length ≤ l.length + 3 := by
 unfold Co.pathP
 split
 ·cases h : Co.dist l b a with
  | none => simp
  | some n =>
   have := dist_le h
   simp only [List.length_cons, downF_len]
   omega
 ·simp
theorem paths_law (ok : Nat → Prop) (l : List Co.Ev) (A : Option Addr) (cap : Nat) (a b : Int) (w : World) (h : EvRow ok w A l) (hE : ∀ e ∈ l, EvW e) (hb : W64 b) (hm : ∃ m, w.cell? ⟨0, 0, none⟩ = some (.int .i64 m)) :
  Calls Tryz.prog 3 #[.slice A l.length cap, .int .i64 a, .int .i64 b] w fun e w' => e = .returned (.bool true) ∧ Below w.heap.size w w' := by
 obtain ⟨m, hm⟩ := hm
 have HROW := hid h
 have HE := hid hE
 have HBW := hid hb
 have HM := hid hm
 have HM0 := hid (block_lt hm)
 have HGR : Hid (Calls Tryz.prog 4 #[.slice A l.length cap, .int .i64 14] w fun e w' => GreatA 14 l e ∧ Below w.heap.size w w') := hid (rgreat_ev ok l A cap 14 w h (by decide))
 clear h hE hb hm
 go_enter Tryz.func3, Tryz.ntmps3
 go_wp2_with fail
 refine HGR.out.mono ?_
 rintro e w2 ⟨⟨bb, rfl, hbb⟩, hb2⟩
 have HB2 := hid hb2
 clear hb2
 cases bb with
 | true =>
  clear hbb
  go_wp2_with fail
  go_ret
  exact ⟨rfl, HB2.out⟩
 | false =>
  have HG := hid (hbb rfl)
  have HLL : Hid (l.length ≤ 10000) := hid (by have := HG.out.1; omega)
  have HWA : Hid (∀ e ∈ l, e.auth.length ≤ 1000000) := hid (fun e he => by have := (HG.out.2 e he).2; omega)
  have HP := hid (path_any ok l A cap a b w2 (HROW.out.bel HB2.out) HLL.out HBW.out (fun e he => ⟨(HE.out e he).1, HWA.out e he, (HE.out e he).2.2⟩))
  have HPQ := hid (fun (W : World) (hr : EvRow ok W A l) => rpathb_any ok l A cap a b W hr HLL.out HWA.out)
  rw [Co.path_same] at HPQ
  have HRC := hid (fun (W : World) (hr : EvRow ok W A l) => rreach_any ok l A cap a b W hr HLL.out HWA.out)
  have HRI := hid (Co.reached_is l a b)
  have HPL : Hid ((Co.pathP l a b).length ≤ 1000000) := hid (by have := pathP_len l a b; have := HLL.out; omega)
  clear hbb
  generalize Co.pathP l a b = L at *
  generalize Co.reachedB l a b = rb at *
  go_wp2_with fail
  refine HP.out.mono ?_
  rintro e w3 ⟨⟨v, rfl, hv⟩, hb3⟩
  have HB3 := hid (HB2.out.trans (hb3.mono HB2.out.size))
  obtain ⟨C, c3, rfl, _, hr3⟩ := OI.at_ hv
  have HR3 := hid hr3
  clear hb3 hv hr3
  go_wp2_with fail
  refine (HPQ.out w3 (HROW.out.bel HB3.out)).mono ?_
  rintro e w4 ⟨⟨D, c4, rfl, hr4⟩, hb4⟩
  have HB4 := hid (HB3.out.trans (hb4.mono HB3.out.size))
  have HSA := hid (rsame_ints L L L.length L.length C D c3 c4 w4 rfl rfl (HR3.out.below hb4) hr4 HPL.out)
  clear hb4 hr4
  go_wp2_with fail
  refine HSA.out.mono ?_
  rintro e w5 ⟨rfl, hb5⟩
  rw [show decide True = true from rfl]
  have HB5 := hid (HB4.out.trans (hb5.mono HB4.out.size))
  clear hb5
  go_wp2_with fail
  refine (HRC.out w5 (HROW.out.bel HB5.out)).mono ?_
  rintro e w6 ⟨rfl, hb6⟩
  have HB6 := hid (HB5.out.trans (hb6.mono HB5.out.size))
  have HM6 := hid ((Below.cell HB6.out HM0.out).trans HM.out)
  clear hb6
  have hri := HRI.out
  cases rb with
  | true =>
   have hd : decide (0 < L.length) = true := hri
   go_wp2_with fail
   refine (live_any m w6 HM6.out).mono ?_
   rintro e w7 ⟨rfl, hb7⟩
   have HB7 := hid (HB6.out.trans (hb7.mono HB6.out.size))
   go_wp2_with fail
   go_ret
   exact ⟨rfl, HB7.out⟩
  | false =>
   have hd : decide (0 < L.length) = false := hri
   go_wp2_with fail
   refine (live_any m w6 HM6.out).mono ?_
   rintro e w7 ⟨rfl, hb7⟩
   have HB7 := hid (HB6.out.trans (hb7.mono HB6.out.size))
   go_wp2_with fail
   go_ret
   exact ⟨rfl, HB7.out⟩
end Go.Proofs.YtiidljciaccidaaGreatDoor
