/- The text Lp. -/
import Derived.Deep.Slices
import Derived.Below
import Derived.ChangeArms
import Derived.Deep.MidRow
import Derived.Test.YtacjhbbieeliaaaGreatDoorMbg
import Derived.Test.YtacjhbbieeliaaaGreatDoorMbi
set_option linter.unusedSimpArgs false
set_option maxHeartbeats 16000000
set_option maxRecDepth 100000
set_option linter.unusedVariables false
namespace Go.Proofs.YtacjhbbieeliaaaGreatDoor
open Go.ChangeShapes Go.WideShapes Go.Deep Go.RowKit Go.Lib
set_option linter.unusedVariables false
theorem laidOut : laidOutB Tryz.prog = true := by kernel_rfl
theorem list_of {α : Type} {p : Nat → α → Prop} : ∀ n : Nat, (∀ i, i < n → ∃ x, p i x) → ∃ l : List α, l.length = n ∧ ∀ i x, l[i]? = some x → p i x
 | 0, _ => ⟨[], rfl, fun i x h => by simp at h⟩
 | n + 1, h => by
  obtain ⟨l, hl, hp⟩ := list_of n (fun i hi => h i (by omega))
  obtain ⟨x, hx⟩ := h n (by omega)
  refine ⟨l ++ [x], by rw [List.length_append, hl]; rfl, fun i y hy => ?_⟩
  by_cases hi : i < n
  ·rw [List.getElem?_append_left (by omega)] at hy
   exact hp i y hy
  ·have hlt := (List.getElem?_eq_some_iff.1 hy).1
   rw [List.length_append, List.length_singleton] at hlt
   obtain rfl : i = n := by omega
   rw [List.getElem?_append_right (by omega), hl, Nat.sub_self] at hy
   injection hy with hy
   rw [← hy]
   exact hx
theorem flat_at {α : Type} (el : α → List Value) (sz : Nat) (hsz : ∀ x, (el x).length = sz) : ∀ (l : List α) (k : Nat) (v : Value), (l.flatMap el)[k]? = some v → ∃ i j x, l[i]? = some x ∧ (el x)[j]? = some v ∧ k = i * sz + j
 | [], k, v, h => by simp at h
 | a :: l, k, v, h => by
  rw [List.flatMap_cons] at h
  by_cases hk : k < sz
  ·rw [List.getElem?_append_left (by rw [hsz]; exact hk)] at h
   exact ⟨0, k, a, rfl, h, by omega⟩
  ·rw [List.getElem?_append_right (by rw [hsz]; omega), hsz] at h
   obtain ⟨i, j, x, h1, h2, h3⟩ := flat_at el sz hsz l _ v h
   exact ⟨i + 1, j, x, h1, h2, by rw [Nat.add_mul]; omega⟩
theorem spot_none {w : World} {a : Addr} {k : Nat} {v0 v : Value} (h0 : w.cell? (a.add 0) = some v0) (h : w.cell? (a.add k) = some v) : ∃ b off, a = ⟨b, off, none⟩ ∧ w.cell? ⟨b, off + k, none⟩ = some v := by
 obtain ⟨b, off, sp⟩ := a
 have hsp : sp = none := World.cell?_spot h0
 subst hsp
 rw [Addr.add_mid] at h
 exact ⟨b, off, rfl, h⟩
theorem row_of {α : Type} (el : α → List Value) (sz : Nat) (hsz : ∀ x, (el x).length = sz) (hs0 : 0 < sz) (q : α → Prop) (w : World) (a : Addr) (n : Nat) (h : ∀ i, i < n → ∃ x, q x ∧ ∀ j v, (el x)[j]? = some v → w.cell? (a.add (i * sz + j)) = some v) :
  ∃ l : List α, l.length = n ∧ (∀ x ∈ l, q x) ∧ Rd w (some a) (n * sz) (l.flatMap el) := by
 obtain ⟨l, hl, hp⟩ := list_of n h
 have hlen : ∀ l : List α, (l.flatMap el).length = l.length * sz := by
  intro l
  induction l with
  | nil => simp
  | cons x l ih => rw [List.flatMap_cons, List.length_append, ih, hsz, List.length_cons, Nat.add_mul]; omega
 refine ⟨l, hl, fun x hx => ?_, by rw [hlen, hl], fun k v hk => ?_⟩
 ·obtain ⟨i, hi⟩ := List.mem_iff_getElem?.1 hx
  exact (hp i x hi).1
 ·obtain ⟨i, j, x, h1, h2, rfl⟩ := flat_at el sz hsz l k v hk
  have hv := (hp i x h1).2 j v h2
  have hl0 : 0 < l.length := by have := (List.getElem?_eq_some_iff.1 h1).1; omega
  obtain ⟨v0, hv0⟩ : ∃ v0, (el (l[0]'hl0))[0]? = some v0 := ⟨_, List.getElem?_eq_getElem (by rw [hsz (l[0]'hl0)]; exact hs0)⟩
  have h00 := (hp 0 (l[0]'hl0) (List.getElem?_eq_getElem hl0)).2 0 v0 hv0
  rw [Nat.zero_mul, Nat.zero_add] at h00
  obtain ⟨b, off, e, hc⟩ := spot_none h00 hv
  exact ⟨b, off, by rw [e], hc⟩
theorem intL_flat (l : List Int) : intL l = l.flatMap (fun n => [Value.int .i64 n]) := by
 unfold intL
 induction l with
 | nil => rfl
 | cons x l ih => rw [List.map_cons, List.flatMap_cons, ih]; rfl
theorem strL_flat (l : List (List UInt8)) : strL l = l.flatMap (fun s => [Value.string (bstr s)]) := by
 unfold strL
 induction l with
 | nil => rfl
 | cons x l ih => rw [List.map_cons, List.flatMap_cons, ih]; rfl
theorem wf_in {n : Int} (h : (Lit.int .i64 n).wf = true) : W64 n := h
section
variable {H : Type} {enc : TypeId × Value → H} {w : World} {base fuel : Nat} {held : Bool} {cs : List Value} {x : DataW H × List MemPlace}
abbrev Tr (enc : TypeId × Value → H) (w : World) (base : Nat) (held : Bool) (fuel : Nat) (t : TypeId) (cs : List Value) (x : DataW H × List MemPlace) : Prop := DataW.trod enc Tryz.prog w base (fun _ => true) held fuel t cs = some x
abbrev okB : Nat → Prop := fun _ => True
theorem one_at {α : Type} {f : α → Value} {y : α} {j : Nat} {v : Value} (h : ([f y] : List Value)[j]? = some v) : j = 0 ∧ v = f y := by
 rcases j with _ | j
 ·injection h with h; exact ⟨rfl, h.symm⟩
 ·simp at h
theorem open_ints (h : Tr enc w base held fuel 23 cs x) : ∃ c l, cs = [c] ∧ SlcOf okB w c l.length 1 (intL l) ∧ ∀ n ∈ l, W64 n := by
 rcases open_slice1 Tryz.underlying23 (by kernel_rfl) h with ⟨h0, _⟩ | ⟨a, len, cap, m, n, V, D, Pl, hcs, _, hl, _, hm, _, hi⟩
 ·exact ⟨_, [], h0, ⟨none, 0, rfl, ⟨rfl, fun j v hj => by cases hj⟩, fun _ _ _ => trivial⟩, fun n hn => by cases hn⟩
 ·obtain ⟨l, h1, h2, h3⟩ := row_of (fun n => [Value.int .i64 n]) 1 (fun _ => rfl) (by omega) W64 w a len (fun i hi' => by
   obtain ⟨h1, h2⟩ := hi i (by rw [hm]; simp; omega)
   obtain ⟨n, h3, _, h4⟩ := DataW.trod_int Tryz.underlying3 h2
   injection h3 with h3
   refine ⟨n, wf_in h4, fun j v hj => ?_⟩
   obtain ⟨rfl, rfl⟩ := one_at (f := fun n => Value.int .i64 n) hj
   rw [Nat.mul_one, Nat.add_zero, h1, h3])
  refine ⟨_, l, hcs, ⟨some a, cap, by rw [h1], by rw [h1, intL_flat]; exact h3, fun _ _ _ => trivial⟩, h2⟩
theorem open_strs (h : Tr enc w base held fuel 24 cs x) : ∃ c l, cs = [c] ∧ SlcOf okB w c l.length 1 (strL l) := by
 rcases open_slice1 Tryz.underlying24 (by kernel_rfl) h with ⟨h0, _⟩ | ⟨a, len, cap, m, n, V, D, Pl, hcs, _, hl, _, hm, _, hi⟩
 ·exact ⟨_, [], h0, ⟨none, 0, rfl, ⟨rfl, fun j v hj => by cases hj⟩, fun _ _ _ => trivial⟩⟩
 ·obtain ⟨l, h1, _, h3⟩ := row_of (fun s => [Value.string (bstr s)]) 1 (fun _ => rfl) (by omega) (fun _ => True) w a len (fun i hi' => by
   obtain ⟨h1, h2⟩ := hi i (by rw [hm]; simp; omega)
   obtain ⟨s, h3, _⟩ := DataW.trod_string Tryz.underlying9 h2
   injection h3 with h3
   refine ⟨s.data.toList, trivial, fun j v hj => ?_⟩
   obtain ⟨rfl, rfl⟩ := one_at (f := fun s => Value.string (bstr s)) hj
   rw [Nat.mul_one, Nat.add_zero, h1, h3]
   rfl)
  exact ⟨_, l, hcs, ⟨some a, cap, by rw [h1], by rw [h1, strL_flat]; exact h3, fun _ _ _ => trivial⟩⟩
theorem take_one {cs : List Value} {k : Nat} {v : Value} (h : (cs.drop k).take 1 = [v]) : cs[k]? = some v := by
 have h1 : ((cs.drop k).take 1)[0]? = some v := by rw [h]; rfl
 rw [List.getElem?_take_of_lt (by omega), List.getElem?_drop, Nat.add_zero] at h1
 exact h1
theorem take_part {cs : List Value} {o n k : Nat} {v : Value} (h : ((cs.drop o).take n)[k]? = some v) : cs[o + k]? = some v := by
 rw [List.getElem?_take] at h
 split at h
 ·rwa [List.getElem?_drop] at h
 ·cases h
theorem part {t : TypeId} {fs : Array Field} (ht : Tryz.prog.underlying t = some (.struct fs)) (h : Tr enc w base held fuel t cs x) (i : Nat) (f : Field) (hf : fs[i]? = some f) (o n : Nat) (ho : f.offset = o) (hn : Tryz.prog.cellsOf f.type = n) :
  ∃ fuel' y, Tr enc w base held fuel' f.type ((cs.drop o).take n) y := by
 obtain ⟨ys, n', _, _, _, hyl, h2⟩ := DataW.trod_struct ht h
 have h3 := h2 i f hf
 have hi : i < ys.length := by rw [hyl]; exact (Array.getElem?_eq_some_iff.1 hf).1
 rw [List.getElem?_eq_getElem hi, ho, hn] at h3
 exact ⟨n', _, h3⟩
theorem part_num {t : TypeId} (ht : Tryz.prog.underlying t = some (.int .i64)) {k : Nat} {y : DataW H × List MemPlace} (h : Tr enc w base held fuel t ((cs.drop k).take 1) y) : ∃ v, cs[k]? = some (.int .i64 v) ∧ W64 v := by
 obtain ⟨n, h1, _, h2⟩ := DataW.trod_int ht h
 exact ⟨n, take_one h1, wf_in h2⟩
theorem part_txt {k : Nat} {y : DataW H × List MemPlace} (h : Tr enc w base held fuel 9 ((cs.drop k).take 1) y) : ∃ v : List UInt8, cs[k]? = some (.string (bstr v)) := by
 obtain ⟨s, h1, _⟩ := DataW.trod_string Tryz.underlying9 h
 exact ⟨s.data.toList, take_one h1⟩
theorem part_flg {k : Nat} {y : DataW H × List MemPlace} (h : Tr enc w base held fuel 4 ((cs.drop k).take 1) y) : ∃ v, cs[k]? = some (.bool v) := by
 obtain ⟨b, h1, _⟩ := DataW.trod_bool Tryz.underlying4 h
 exact ⟨b, take_one h1⟩
theorem part_nums {k : Nat} {y : DataW H × List MemPlace} (h : Tr enc w base held fuel 23 ((cs.drop k).take 1) y) : ∃ c v, cs[k]? = some c ∧ SlcOf okB w c v.length 1 (intL v) ∧ ∀ n ∈ v, W64 n := by
 obtain ⟨c, l, h1, h2, h3⟩ := open_ints h
 exact ⟨c, l, take_one h1, h2, h3⟩
theorem part_txts {k : Nat} {y : DataW H × List MemPlace} (h : Tr enc w base held fuel 24 ((cs.drop k).take 1) y) : ∃ c v, cs[k]? = some c ∧ SlcOf okB w c v.length 1 (strL v) := by
 obtain ⟨c, l, h1, h2⟩ := open_strs h
 exact ⟨c, l, take_one h1, h2⟩
theorem open_usrs (h : Tr enc w base held fuel 25 cs x) : ∃ c l, cs = [c] ∧ SlcOf okB w c l.length 2 (usrL l) ∧ ∀ p ∈ l, W64 p.2 := by
 rcases open_slice Tryz.underlying25 h with ⟨h0, _⟩ | ⟨a, len, cap, m, n, D, Pl, hcs, _, hl, _, hm, _, hi⟩
 ·exact ⟨_, [], h0, ⟨none, 0, rfl, ⟨rfl, fun j v hj => by cases hj⟩, fun _ _ _ => trivial⟩, fun n hn => by cases hn⟩
 ·obtain ⟨l, h1, h2, h3⟩ := row_of (fun p : List UInt8 × Int => [Value.string (bstr p.1), .int .i64 p.2]) 2 (fun _ => rfl) (by omega) (fun p => W64 p.2) w a len (fun i hi' => by
   obtain ⟨cs', h1, h2⟩ := hi i (by rw [hm]; simp; omega)
   have hC : Tryz.prog.cellsOf 49 = 2 := by kernel_rfl
   rw [hC] at h1
   obtain ⟨_, hcl, hat⟩ := World.cells?_some h1
   obtain ⟨_, _, g0⟩ := part Tryz.underlying49 h2 0 _ rfl 0 1 rfl (by kernel_rfl)
   obtain ⟨_, _, g1⟩ := part Tryz.underlying49 h2 1 _ rfl 1 1 rfl (by kernel_rfl)
   obtain ⟨v0, k0⟩ := part_txt g0
   obtain ⟨v1, k1, i1⟩ := part_num Tryz.underlying3 g1
   refine ⟨(v0, v1), i1, fun j v hj => ?_⟩
   rcases j with _ | _ | j
   ·injection hj with hj
    have h5 := (hat 0 (by omega)).trans k0
    rw [Go.Deep.add_add] at h5
    rw [← hj]
    exact h5
   ·injection hj with hj
    have h5 := (hat 1 (by omega)).trans k1
    rw [Go.Deep.add_add] at h5
    rw [← hj]
    exact h5
   ·simp at hj)
  exact ⟨_, l, hcs, ⟨some a, cap, by rw [h1], by rw [h1]; exact h3, fun _ _ _ => trivial⟩, h2⟩
theorem open_knds (h : Tr enc w base held fuel 26 cs x) : ∃ c l, cs = [c] ∧ SlcOf okB w c l.length 2 (kndL l) ∧ ∀ p ∈ l, W64 p.1 ∧ W64 p.2 := by
 rcases open_slice Tryz.underlying26 h with ⟨h0, _⟩ | ⟨a, len, cap, m, n, D, Pl, hcs, _, hl, _, hm, _, hi⟩
 ·exact ⟨_, [], h0, ⟨none, 0, rfl, ⟨rfl, fun j v hj => by cases hj⟩, fun _ _ _ => trivial⟩, fun n hn => by cases hn⟩
 ·obtain ⟨l, h1, h2, h3⟩ := row_of (fun p : Int × Int => [Value.int .i64 p.1, .int .i64 p.2]) 2 (fun _ => rfl) (by omega) (fun p => W64 p.1 ∧ W64 p.2) w a len (fun i hi' => by
   obtain ⟨cs', h1, h2⟩ := hi i (by rw [hm]; simp; omega)
   have hC : Tryz.prog.cellsOf 93 = 2 := by kernel_rfl
   rw [hC] at h1
   obtain ⟨_, hcl, hat⟩ := World.cells?_some h1
   obtain ⟨_, _, g0⟩ := part Tryz.underlying93 h2 0 _ rfl 0 1 rfl (by kernel_rfl)
   obtain ⟨_, _, g1⟩ := part Tryz.underlying93 h2 1 _ rfl 1 1 rfl (by kernel_rfl)
   obtain ⟨v0, k0, i0⟩ := part_num Tryz.underlying22 g0
   obtain ⟨v1, k1, i1⟩ := part_num Tryz.underlying3 g1
   refine ⟨(v0, v1), ⟨i0, i1⟩, fun j v hj => ?_⟩
   rcases j with _ | _ | j
   ·injection hj with hj
    have h5 := (hat 0 (by omega)).trans k0
    rw [Go.Deep.add_add] at h5
    rw [← hj]
    exact h5
   ·injection hj with hj
    have h5 := (hat 1 (by omega)).trans k1
    rw [Go.Deep.add_add] at h5
    rw [← hj]
    exact h5
   ·simp at hj)
  exact ⟨_, l, hcs, ⟨some a, cap, by rw [h1], by rw [h1]; exact h3, fun _ _ _ => trivial⟩, h2⟩
theorem part_usrs {k : Nat} {y : DataW H × List MemPlace} (h : Tr enc w base held fuel 25 ((cs.drop k).take 1) y) : ∃ c v, cs[k]? = some c ∧ SlcOf okB w c v.length 2 (usrL v) ∧ ∀ p ∈ v, W64 p.2 := by
 obtain ⟨c, l, h1, h2, h3⟩ := open_usrs h
 exact ⟨c, l, take_one h1, h2, h3⟩
theorem part_knds {k : Nat} {y : DataW H × List MemPlace} (h : Tr enc w base held fuel 26 ((cs.drop k).take 1) y) : ∃ c v, cs[k]? = some c ∧ SlcOf okB w c v.length 2 (kndL v) ∧ ∀ p ∈ v, W64 p.1 ∧ W64 p.2 := by
 obtain ⟨c, l, h1, h2, h3⟩ := open_knds h
 exact ⟨c, l, take_one h1, h2, h3⟩
end
def EvW (e : Co.Ev) : Prop := W64 e.id ∧ (∀ n ∈ e.prev, W64 n) ∧ (∀ n ∈ e.auth, W64 n)
theorem ev_open {H : Type} {enc : TypeId × Value → H} {w : World} {base fuel : Nat} {held : Bool} {cs : List Value} {x : DataW H × List MemPlace} (h : Tr enc w base held fuel 34 cs x) (hl : cs.length = 29) : ∃ e, EvV okB w cs e ∧ EvW e := by
 obtain ⟨_, _, g0⟩ := part Tryz.underlying34 h 0 _ rfl 0 1 rfl (by kernel_rfl)
 obtain ⟨v0, h0, o0⟩ := part_num Tryz.underlying3 g0
 obtain ⟨_, _, g1⟩ := part Tryz.underlying34 h 1 _ rfl 1 1 rfl (by kernel_rfl)
 obtain ⟨v1, h1⟩ := part_txt g1
 obtain ⟨_, _, g2⟩ := part Tryz.underlying34 h 2 _ rfl 2 1 rfl (by kernel_rfl)
 obtain ⟨v2, h2⟩ := part_txt g2
 obtain ⟨_, _, g3⟩ := part Tryz.underlying34 h 3 _ rfl 3 1 rfl (by kernel_rfl)
 obtain ⟨v3, h3, o3⟩ := part_num Tryz.underlying22 g3
 obtain ⟨_, _, g4⟩ := part Tryz.underlying34 h 4 _ rfl 4 1 rfl (by kernel_rfl)
 obtain ⟨v4, h4⟩ := part_flg g4
 obtain ⟨_, _, g5⟩ := part Tryz.underlying34 h 5 _ rfl 5 1 rfl (by kernel_rfl)
 obtain ⟨v5, h5⟩ := part_txt g5
 obtain ⟨_, _, g6⟩ := part Tryz.underlying34 h 6 _ rfl 6 1 rfl (by kernel_rfl)
 obtain ⟨v6, h6, o6⟩ := part_num Tryz.underlying3 g6
 obtain ⟨_, _, g7⟩ := part Tryz.underlying34 h 7 _ rfl 7 1 rfl (by kernel_rfl)
 obtain ⟨v7, h7, o7⟩ := part_num Tryz.underlying3 g7
 obtain ⟨_, _, g8⟩ := part Tryz.underlying34 h 8 _ rfl 8 1 rfl (by kernel_rfl)
 obtain ⟨c8, v8, h8, k8, o8⟩ := part_nums g8
 obtain ⟨_, _, g9⟩ := part Tryz.underlying34 h 9 _ rfl 9 1 rfl (by kernel_rfl)
 obtain ⟨c9, v9, h9, k9, o9⟩ := part_nums g9
 obtain ⟨_, _, gc⟩ := part Tryz.underlying34 h 10 _ rfl 10 16 rfl (by kernel_rfl)
 obtain ⟨_, _, g26⟩ := part Tryz.underlying34 h 11 _ rfl 26 1 rfl (by kernel_rfl)
 obtain ⟨v26, h26, o26⟩ := part_num Tryz.underlying3 g26
 obtain ⟨_, _, gs⟩ := part Tryz.underlying34 h 12 _ rfl 27 2 rfl (by kernel_rfl)
 obtain ⟨_, _, g10⟩ := part Tryz.underlying30 gc 0 _ rfl 0 1 rfl (by kernel_rfl)
 obtain ⟨v10, h10⟩ := part_txt g10
 replace h10 := take_part h10
 obtain ⟨_, _, g11⟩ := part Tryz.underlying30 gc 1 _ rfl 1 1 rfl (by kernel_rfl)
 obtain ⟨v11, h11, o11⟩ := part_num Tryz.underlying3 g11
 replace h11 := take_part h11
 obtain ⟨_, _, g12⟩ := part Tryz.underlying30 gc 2 _ rfl 2 1 rfl (by kernel_rfl)
 obtain ⟨v12, h12, o12⟩ := part_num Tryz.underlying3 g12
 replace h12 := take_part h12
 obtain ⟨_, _, g13⟩ := part Tryz.underlying30 gc 3 _ rfl 3 1 rfl (by kernel_rfl)
 obtain ⟨v13, h13⟩ := part_flg g13
 replace h13 := take_part h13
 obtain ⟨_, _, g14⟩ := part Tryz.underlying30 gc 4 _ rfl 4 1 rfl (by kernel_rfl)
 obtain ⟨v14, h14⟩ := part_txt g14
 replace h14 := take_part h14
 obtain ⟨_, _, g15⟩ := part Tryz.underlying30 gc 5 _ rfl 5 1 rfl (by kernel_rfl)
 obtain ⟨c15, v15, h15, k15⟩ := part_txts g15
 replace h15 := take_part h15
 obtain ⟨_, _, g16⟩ := part Tryz.underlying30 gc 6 _ rfl 6 1 rfl (by kernel_rfl)
 obtain ⟨c16, v16, h16, k16⟩ := part_txts g16
 replace h16 := take_part h16
 obtain ⟨_, _, gl⟩ := part Tryz.underlying30 gc 7 _ rfl 7 9 rfl (by kernel_rfl)
 obtain ⟨_, _, g17⟩ := part Tryz.underlying28 gl 0 _ rfl 0 1 rfl (by kernel_rfl)
 obtain ⟨c17, v17, h17, k17, o17⟩ := part_usrs g17
 replace h17 := take_part h17
 replace h17 := take_part h17
 obtain ⟨_, _, g18⟩ := part Tryz.underlying28 gl 1 _ rfl 1 1 rfl (by kernel_rfl)
 obtain ⟨c18, v18, h18, k18, o18⟩ := part_knds g18
 replace h18 := take_part h18
 replace h18 := take_part h18
 obtain ⟨_, _, g19⟩ := part Tryz.underlying28 gl 2 _ rfl 2 1 rfl (by kernel_rfl)
 obtain ⟨v19, h19, o19⟩ := part_num Tryz.underlying3 g19
 replace h19 := take_part h19
 replace h19 := take_part h19
 obtain ⟨_, _, g20⟩ := part Tryz.underlying28 gl 3 _ rfl 3 1 rfl (by kernel_rfl)
 obtain ⟨v20, h20, o20⟩ := part_num Tryz.underlying3 g20
 replace h20 := take_part h20
 replace h20 := take_part h20
 obtain ⟨_, _, g21⟩ := part Tryz.underlying28 gl 4 _ rfl 4 1 rfl (by kernel_rfl)
 obtain ⟨v21, h21, o21⟩ := part_num Tryz.underlying3 g21
 replace h21 := take_part h21
 replace h21 := take_part h21
 obtain ⟨_, _, g22⟩ := part Tryz.underlying28 gl 5 _ rfl 5 1 rfl (by kernel_rfl)
 obtain ⟨v22, h22, o22⟩ := part_num Tryz.underlying3 g22
 replace h22 := take_part h22
 replace h22 := take_part h22
 obtain ⟨_, _, g23⟩ := part Tryz.underlying28 gl 6 _ rfl 6 1 rfl (by kernel_rfl)
 obtain ⟨v23, h23, o23⟩ := part_num Tryz.underlying3 g23
 replace h23 := take_part h23
 replace h23 := take_part h23
 obtain ⟨_, _, g24⟩ := part Tryz.underlying28 gl 7 _ rfl 7 1 rfl (by kernel_rfl)
 obtain ⟨v24, h24, o24⟩ := part_num Tryz.underlying3 g24
 replace h24 := take_part h24
 replace h24 := take_part h24
 obtain ⟨_, _, g25⟩ := part Tryz.underlying28 gl 8 _ rfl 8 1 rfl (by kernel_rfl)
 obtain ⟨v25, h25, o25⟩ := part_num Tryz.underlying3 g25
 replace h25 := take_part h25
 replace h25 := take_part h25
 obtain ⟨_, _, g27⟩ := part Tryz.underlying32 gs 0 _ rfl 0 1 rfl (by kernel_rfl)
 obtain ⟨v27, h27⟩ := part_txt g27
 replace h27 := take_part h27
 obtain ⟨_, _, g28⟩ := part Tryz.underlying32 gs 1 _ rfl 1 1 rfl (by kernel_rfl)
 obtain ⟨v28, h28, o28⟩ := part_num Tryz.underlying3 g28
 replace h28 := take_part h28
 refine ⟨⟨v0, v1, v2, v3, v4, v5, v6, v7, v8, v9, v10, v11, v12, v13, v14, v15, v16, v17, v18, v19, v20, v21, v22, v23, v24, v25, v26, v27, v28⟩, ⟨c8, c9, c15, c16, c17, c18, ?_, ⟨k8, k9, k15, k16, k17, k18⟩⟩, o0, o8, o9⟩
 apply List.ext_getElem?
 intro i
 by_cases hi : i < 29
 ·match i, hi with
  | 0, _ => exact h0
  | 1, _ => exact h1
  | 2, _ => exact h2
  | 3, _ => exact h3
  | 4, _ => exact h4
  | 5, _ => exact h5
  | 6, _ => exact h6
  | 7, _ => exact h7
  | 8, _ => exact h8
  | 9, _ => exact h9
  | 10, _ => exact h10
  | 11, _ => exact h11
  | 12, _ => exact h12
  | 13, _ => exact h13
  | 14, _ => exact h14
  | 15, _ => exact h15
  | 16, _ => exact h16
  | 17, _ => exact h17
  | 18, _ => exact h18
  | 19, _ => exact h19
  | 20, _ => exact h20
  | 21, _ => exact h21
  | 22, _ => exact h22
  | 23, _ => exact h23
  | 24, _ => exact h24
  | 25, _ => exact h25
  | 26, _ => exact h26
  | 27, _ => exact h27
  | 28, _ => exact h28
  | n + 29, hi => exact absurd hi (by omega)
 ·rw [List.getElem?_eq_none (by omega), List.getElem?_eq_none (by show 29 ≤ i; omega)]
theorem cells_event : Tryz.prog.cellsOf 34 = 29 := by kernel_rfl
theorem evs_open {H : Type} {enc : TypeId × Value → H} {w : World} {base fuel : Nat} {held : Bool} {cs : List Value} {x : DataW H × List MemPlace} (h : Tr enc w base held fuel 35 cs x) : ∃ A l cap, cs = [.slice A l.length cap] ∧ l.length ≤ cap ∧ EvRow okB w A l ∧ ∀ e ∈ l, EvW e := by
 rcases open_slice Tryz.underlying35 h with ⟨h0, _⟩ | ⟨a, len, cap, m, n, D, Pl, hcs, _, hl, _, hm, _, hi⟩
 ·exact ⟨none, [], 0, h0, Nat.le_refl _, Shp.Row.nil, fun e he => by cases he⟩
 ·have key : ∀ k, k < len → ∃ x : Co.Ev × List Value, (EvV okB w x.2 x.1 ∧ EvW x.1) ∧ ∀ j, j < 29 → w.cell? (a.add (k * 29 + j)) = x.2[j]? := by
   intro k hk
   obtain ⟨cs', h1, h2⟩ := hi k (by rw [hm]; simp; omega)
   rw [cells_event] at h1
   obtain ⟨_, hcl, hat⟩ := World.cells?_some h1
   obtain ⟨e, he⟩ := ev_open h2 hcl
   exact ⟨(e, cs'), he, fun j hj => by rw [← Go.Deep.add_add]; exact hat j hj⟩
  obtain ⟨l, hll, hp⟩ := list_of len key
  refine ⟨some a, l.map (·.1), cap, by rw [List.length_map, hll]; exact hcs, by rw [List.length_map, hll]; exact hl, fun i e hie => ?_, fun e he => ?_⟩
  ·rw [List.getElem?_map] at hie
   cases hli : l[i]? with
   | none => rw [hli] at hie; cases hie
   | some y =>
    rw [hli] at hie
    injection hie with hie
    subst hie
    obtain ⟨⟨hv, _⟩, hc⟩ := hp i y hli
    have hyl := hv.len
    obtain ⟨z, hz⟩ : ∃ z, l[0]? = some z := ⟨_, List.getElem?_eq_getElem (by have := (List.getElem?_eq_some_iff.1 hli).1; omega)⟩
    obtain ⟨⟨hvz, _⟩, hcz⟩ := hp 0 z hz
    have h0 := hcz 0 (by omega)
    rw [List.getElem?_eq_getElem (by have := hvz.len; omega), Nat.zero_mul, Nat.zero_add] at h0
    obtain ⟨b, off, sp⟩ := a
    have hsp : sp = none := by have := World.cell?_spot h0; simpa [Addr.add] using this
    subst hsp
    refine ⟨b, off, y.2, rfl, trivial, fun j v hj => ?_, hv⟩
    have hj2 : j < 29 := by have := (List.getElem?_eq_some_iff.1 hj).1; omega
    have h2 := (hc j hj2).trans hj
    rw [Addr.add_mid, ← Nat.add_assoc] at h2
    exact h2
  ·obtain ⟨y, hy, rfl⟩ := List.mem_map.1 he
   obtain ⟨i, hi2⟩ := List.mem_iff_getElem?.1 hy
   exact (hp i y hi2).1.2
end Go.Proofs.YtacjhbbieeliaaaGreatDoor
