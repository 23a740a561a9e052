/- The texts Er, Co, Ek, Ea, Eb of this proof, one behind the other. -/
import Derived.Deep.MidRow
import Derived.Test.YtacjhbbieeliaaaGreatDoorMad
set_option linter.unusedSimpArgs false
set_option maxHeartbeats 16000000
set_option maxRecDepth 100000
/- The text Er. -/
namespace Go.Proofs.YtacjhbbieeliaaaGreatDoor
open Go.RowKit Go.Lib
set_option linter.unusedVariables false
set_option linter.unusedSimpArgs false
structure RowU (T e : TypeId) (size bytes : Nat) : Prop where
 und : Tryz.prog.underlying T = some (.slice e)
 info : ∃ z, (Tryz.prog.info? e).map (fun i => (i.zero, i.size, i.bytes)) = some (some z, size, bytes) ∧ z.cells.size = size
 pos : 0 < size
 small : bytes ≤ 1000
section
variable {ops : Array Oper} {rest : List Oper} {o : Oper} {a : Act} {Q : Exit → Act → World → Prop} {K : Act → World → Prop} {T e : TypeId} {size bytes : Nat} {E : Prop}
theorem run_appU (hT : RowU T e size bytes) (ty : TypeId) (w : World) (v : Value) (n : Nat) (xs ys : List Value) (base : Nat) (hown : w.ownsRow base e size v n xs) (A : Option Addr) (m c : Nat) (hr : Rd w A (m * size) ys) (h1 : ∀ u ∈ ys, u.oneCell' = true)
  (hbase : base ≤ w.heap.size) (hlen : n + m ≤ 100000000000) :
  ∃ v' w', (Builtin.append_ #[T, T] ty #[v, .slice A m c]).run Tryz.prog w = .ok v' w' ∧ w'.ownsRow base e size v' (n + m) (xs ++ ys) ∧ w.grownBy w' v.ownBlock ∧ (∀ w0, Below base w0 w → Below base w0 w') ∧ (v'.ownBlock = v.ownBlock ∨ v'.ownBlock = some w.heap.size) := by
 obtain ⟨z, hi, hz⟩ := hT.info
 obtain ⟨i, hu, zu0, zu1, zu2⟩ := info_parts hi
 have hbs : (n + m) * bytes ≤ 140737488355328 := by
  have := Nat.mul_le_mul hlen hT.small
  omega
 cases A with
 | none =>
  obtain ⟨hm, rfl⟩ := hr.none_
  have hm0 : m = 0 := by
   rcases Nat.mul_eq_zero.1 hm with h | h
   ·exact h
   ·have := hT.pos; omega
  subst hm0
  refine ⟨v, w, ?_, by simpa using hown, World.grownBy.refl w _, fun w0 h => h, .inl rfl⟩
  rcases hown.2 with ⟨rfl, hn⟩ | ⟨g, cap, cur, rfl, _, _, hnc, _⟩
  ·simp [Builtin.append_, run_underlying hT.und, sizeOf, typeInfo, hu, Builtin.lenOf, Builtin.firstCells]
  ·simp [Builtin.append_, run_underlying hT.und, sizeOf, typeInfo, hu, Builtin.lenOf, Builtin.firstCells, hnc, storeCells]
 | some ad =>
  obtain ⟨v', w', hrun, h2, h3, _, h5⟩ := run_append_own_at (P := Tryz.prog) w base T ty e i z size bytes hT.und hu zu0 zu1 zu2 hz hT.pos v n xs hown ad m c ys hr.1 hr.add h1 (by unfold maxLen; omega) hbs hbase
  exact ⟨v', w', hrun, h2, h3, fun w0 hb => hb.grown h3 hbase (fun g hg => (hown.lt g hg).1), h5⟩
theorem app_row (hT : RowU T e size bytes) (hgd : o.guard = none) (s x : Operand) (ho : o.op = .call { callee := .builtin .append, args := #[s, x], argTypes := #[T, T] })
  (w : World) (v : Value) (n : Nat) (xs ys : List Value) (base : Nat) (hs : a.eval s = v) (hown : w.ownsRow base e size v n xs) (A : Option Addr) (m c : Nat) (hx : a.eval x = .slice A m c) (hr : Rd w A (m * size) ys) (h1 : ∀ u ∈ ys, u.oneCell' = true)
  (hbase : base ≤ w.heap.size) (hlen : n + m ≤ 100000000000)
  (h : ∀ v' w', w'.ownsRow base e size v' (n + m) (xs ++ ys) → w.grownBy w' v.ownBlock → (∀ w0, Below base w0 w → Below base w0 w') → (v'.ownBlock = v.ownBlock ∨ v'.ownBlock = some w.heap.size) → wpList Tryz.prog ops Q rest (a.put o.dst v') w') :
  wpList Tryz.prog ops Q (o :: rest) a w := by
 refine wpList_plain hgd fun K hK => ?_
 obtain ⟨v', w', hrun, h2, h3, h4, h5⟩ := run_appU hT o.type w v n xs ys base hown A m c hr h1 hbase hlen
 unfold Oper.wp execOp
 simp only [ho, resolve, invoke, builtin, Sem.run_bind, Sem.run_pure, Result.andThen_ok, List.map_toArray, List.map_cons, List.map_nil, hs, hx, hrun]
 exact hK _ _ (h v' w' h2 h3 h4 h5)
theorem step_row (hT : RowU T e size bytes) (hgd : o.guard = none) (s x : Operand) (ho : o.op = .call { callee := .builtin .append, args := #[s, x], argTypes := #[T, T] })
  (w : World) (v : Value) (n : Nat) (xs ys : List Value) (base : Nat) (hs : a.eval s = v) (hown : w.ownsRow base e size v n xs) (A : Option Addr) (m c : Nat) (hx : a.eval x = .slice A m c) (hr : Rd w A (m * size) ys) (h1 : ∀ u ∈ ys, u.oneCell' = true)
  (hbase : base ≤ w.heap.size) (hlen : n + m ≤ 100000000000)
  (h : ∀ v' w', w'.ownsRow base e size v' (n + m) (xs ++ ys) → w.grownBy w' v.ownBlock → (∀ w0, Below base w0 w → Below base w0 w') → (v'.ownBlock = v.ownBlock ∨ v'.ownBlock = some w.heap.size) → K (a.put o.dst v') w') : if Region.wanted o (yielded ops a.tmps) = true then o.wp Tryz.prog a w K Q else E := by
 have hw : Region.wanted o (yielded ops a.tmps) = true := by simp [Region.wanted, hgd]
 rw [if_pos hw]
 obtain ⟨v', w', hrun, h2, h3, h4, h5⟩ := run_appU hT o.type w v n xs ys base hown A m c hr h1 hbase hlen
 unfold Oper.wp execOp
 simp only [ho, resolve, invoke, builtin, Sem.run_bind, Sem.run_pure, Result.andThen_ok, List.map_toArray, List.map_cons, List.map_nil, hs, hx, hrun]
 exact h v' w' h2 h3 h4 h5
end
theorem list_of2 {α : Type} {p : Nat → α → Prop} : ∀ n : Nat, (∀ i, i < n → ∃ x, p i x) → ∃ l : List α, l.length = n ∧ ∀ i x, l[i]? = some x → p i x
 | 0, _ => ⟨[], rfl, fun i x h => by simp at h⟩
 | n + 1, h => by
  obtain ⟨l, hl, hp⟩ := list_of2 n (fun i hi => h i (by omega))
  obtain ⟨x, hx⟩ := h n (by omega)
  refine ⟨l ++ [x], by rw [List.length_append, hl]; rfl, fun i y hy => ?_⟩
  by_cases hi : i < n
  ·rw [List.getElem?_append_left (by omega)] at hy
   exact hp i y hy
  ·have hlt := (List.getElem?_eq_some_iff.1 hy).1
   rw [List.length_append, List.length_singleton] at hlt
   obtain rfl : i = n := by omega
   rw [List.getElem?_append_right (by omega), hl, Nat.sub_self] at hy
   injection hy with hy
   rw [← hy]
   exact hx
theorem own_bel {w w' : World} {base size n : Nat} {e : TypeId} {v : Value} {xs : List Value} (h : w.ownsRow base e size v n xs) (hb : Below w.heap.size w w') : w'.ownsRow base e size v n xs := by
 obtain ⟨h1, h2⟩ := h
 refine ⟨h1, ?_⟩
 rcases h2 with h2 | ⟨k, cap, cur, rfl, hk, hh, hn, hcap, hsz, ht⟩
 ·exact .inl h2
 ·exact .inr ⟨k, cap, cur, rfl, hk, (hb.block k (Array.getElem?_eq_some_iff.1 hh).1).trans hh, hn, hcap, hsz, ht⟩
theorem own_at {w : World} {base size n : Nat} {e : TypeId} {v : Value} {xs : List Value} (h : w.ownsRow base e size v n xs) : ∃ A cap, v = .slice A n cap ∧ n ≤ cap ∧ Rd w A (n * size) xs ∧ ∀ a, A = some a → v.ownBlock = some a.block := by
 obtain ⟨h1, h2⟩ := h
 rcases h2 with ⟨rfl, rfl⟩ | ⟨g, cap, cur, rfl, hg, hh, hn, hcap, hsz, ht⟩
 ·refine ⟨none, 0, rfl, Nat.le_refl _, ⟨h1, fun j u hj => ?_⟩, fun a ha => by cases ha⟩
  rw [Nat.zero_mul] at h1
  rw [List.eq_nil_of_length_eq_zero h1] at hj
  cases hj
 ·refine ⟨some ⟨g, 0, none⟩, cap, rfl, hn, ⟨h1, fun j u hj => ⟨g, 0, rfl, ?_⟩⟩, fun a ha => by injection ha with ha; subst ha; rfl⟩
  have hj2 : cur[j]? = some u := by
   rw [← ht, List.getElem?_take] at hj
   split at hj
   ·rwa [Array.getElem?_toList] at hj
   ·cases hj
  rw [Nat.zero_add]
  exact Blk.cell (show Blk w g e cur from hh) j |>.trans hj2
theorem range_lt {w : World} {b o : Nat} {X : List Value} (h : w.rangeAt b o X) (hX : 0 < X.length) : b < w.heap.size := block_lt (h 0 _ (List.getElem?_eq_getElem hX))
theorem range_keep {w w' : World} {b o : Nat} {X : List Value} (h : w.rangeAt b o X) (hb : w'.heap[b]? = w.heap[b]?) : w'.rangeAt b o X := fun j v hj => by
 rw [← h j v hj]
 exact World.cell?_of_block hb
theorem range_of_blk {w : World} {g : Nat} {t : TypeId} {X : List Value} (h : Blk w g t X.toArray) : w.rangeAt g 0 X := fun j v hj => by
 rw [Nat.zero_add, h.cell, List.getElem?_toArray]
 exact hj
structure Shp (α : Type) where
 sz : Nat
 V : (Nat → Prop) → World → List Value → α → Prop
 pos : 0 < sz
 len : ∀ {ok : Nat → Prop} {w : World} {X : List Value} {x : α}, V ok w X x → X.length = sz
 one : ∀ {ok : Nat → Prop} {w : World} {X : List Value} {x : α}, V ok w X x → ∀ u ∈ X, u.oneCell' = true
 keep : ∀ {ok ok' : Nat → Prop} {w w' : World} {X : List Value} {x : α}, V ok w X x → (∀ b, ok b → b < w.heap.size → ok' b ∧ w'.heap[b]? = w.heap[b]?) → V ok' w' X x
section
variable {α : Type} {S : Shp α} {ok ok' : Nat → Prop} {w w' : World} {A : Option Addr} {L M : List α} {X xs ys : List Value} {x : α} {e : TypeId} {base : Nat} {v v' : Value}
theorem Shp.bel (S : Shp α) (h : S.V ok w X x) (hb : Below w.heap.size w w') : S.V ok w' X x := S.keep h fun b ho hlt => ⟨ho, hb.block b hlt⟩
theorem Shp.all (S : Shp α) (h : S.V ok w X x) : X.toArray.all (·.oneCell') = true := by
 rw [Array.all_eq_true]
 intro i hi
 exact S.one h _ (by simp)
def Shp.Row (S : Shp α) (ok : Nat → Prop) (w : World) (A : Option Addr) (L : List α) : Prop := ∀ i x, L[i]? = some x → ∃ b off X, A = some ⟨b, off, none⟩ ∧ ok b ∧ w.rangeAt b (off + i * S.sz) X ∧ S.V ok w X x
theorem Shp.Row.keep (h : S.Row ok w A L) (hk : ∀ b, ok b → b < w.heap.size → ok' b ∧ w'.heap[b]? = w.heap[b]?) : S.Row ok' w' A L := fun i c hi => by
 obtain ⟨b, off, X, h1, h3, h4, h6⟩ := h i c hi
 obtain ⟨h7, h8⟩ := hk b h3 (range_lt h4 (by rw [S.len h6]; exact S.pos))
 exact ⟨b, off, X, h1, h7, range_keep h4 h8, S.keep h6 hk⟩
theorem Shp.Row.bel (h : S.Row ok w A L) (hb : Below w.heap.size w w') : S.Row ok w' A L := h.keep fun b ho hlt => ⟨ho, hb.block b hlt⟩
theorem Shp.Row.nil : S.Row ok w A [] := fun i e h => by cases h
theorem Shp.Row.drop {b off : Nat} (h : S.Row ok w (some ⟨b, off, none⟩) L) (k : Nat) : S.Row ok w (some ⟨b, off + k * S.sz, none⟩) (L.drop k) := fun i c hi => by
 rw [List.getElem?_drop] at hi
 obtain ⟨b', off', X, h1, h3, h4, h6⟩ := h _ c hi
 injection h1 with h1
 injection h1 with e1 e2 e3
 subst e1 e2
 exact ⟨b, _, X, rfl, h3, by rw [Nat.add_assoc, ← Nat.add_mul]; exact h4, h6⟩
theorem Shp.Row.take (h : S.Row ok w A L) (k : Nat) : S.Row ok w A (L.take k) := fun i c hi => by
 rw [List.getElem?_take] at hi
 split at hi
 ·exact h i c hi
 ·cases hi
theorem Shp.Row.at_ (h : S.Row ok w A L) {i : Nat} (hi : i < L.length) : ∃ x b off X, L[i]? = some x ∧ A = some ⟨b, off, none⟩ ∧ ok b ∧ b < w.heap.size ∧ w.rangeAt b (off + i * S.sz) X ∧ S.V ok w X x := by
 have he : L[i]? = some L[i] := List.getElem?_eq_getElem hi
 obtain ⟨b, off, X, h1, h3, h4, h6⟩ := h i _ he
 exact ⟨L[i], b, off, X, he, h1, h3, range_lt h4 (by rw [S.len h6]; exact S.pos), h4, h6⟩
def Shp.Cells (S : Shp α) (ok : Nat → Prop) (w : World) (xs : List Value) (L : List α) : Prop := ∀ i x, L[i]? = some x → ∃ X, (∀ j u, X[j]? = some u → xs[i * S.sz + j]? = some u) ∧ S.V ok w X x
theorem Shp.Cells.keep (h : S.Cells ok w xs L) (hk : ∀ b, ok b → b < w.heap.size → ok' b ∧ w'.heap[b]? = w.heap[b]?) : S.Cells ok' w' xs L := fun i c hi => by
 obtain ⟨X, a, d⟩ := h i c hi
 exact ⟨X, a, S.keep d hk⟩
theorem Shp.Cells.append (h : S.Cells ok w xs L) (hl : xs.length = L.length * S.sz) (h2 : S.Cells ok w ys M) : S.Cells ok w (xs ++ ys) (L ++ M) := fun i c hi => by
 rcases Nat.lt_or_ge i L.length with hlt | hge
 ·rw [List.getElem?_append_left hlt] at hi
  obtain ⟨X, b, d⟩ := h i c hi
  refine ⟨X, fun j u hj => ?_, d⟩
  have hj2 := b j u hj
  rw [List.getElem?_append_left (List.getElem?_eq_some_iff.1 hj2).1]
  exact hj2
 ·rw [List.getElem?_append_right hge] at hi
  obtain ⟨X, b, d⟩ := h2 _ c hi
  refine ⟨X, fun j u hj => ?_, d⟩
  have hj2 := b j u hj
  have hm : L.length * S.sz ≤ i * S.sz := Nat.mul_le_mul_right _ hge
  rw [List.getElem?_append_right (by omega), hl]
  rw [Nat.sub_mul] at hj2
  rwa [show i * S.sz + j - L.length * S.sz = i * S.sz - L.length * S.sz + j by omega]
theorem Shp.Cells.one (h : S.V ok w X x) : S.Cells ok w X [x] := fun i c hi => by
 cases i with
 | zero =>
  injection hi with hi
  subst hi
  exact ⟨X, fun j u hj => by rw [Nat.zero_mul, Nat.zero_add]; exact hj, h⟩
 | succ i => simp at hi
theorem Shp.Row.rd (h : S.Row ok w A L) : ∃ xs : List Value, Rd w A (L.length * S.sz) xs ∧ (∀ u ∈ xs, u.oneCell' = true) ∧ S.Cells ok w xs L := by
 obtain ⟨css, hl, hp⟩ := list_of2 (p := fun i (cs : List Value) => ∃ e b off, L[i]? = some e ∧ A = some ⟨b, off, none⟩ ∧ w.rangeAt b (off + i * S.sz) cs ∧ S.V ok w cs e) L.length (fun i hi => by
  obtain ⟨b, off, cs, h1, _, h3, h5⟩ := h i _ (List.getElem?_eq_getElem hi)
  exact ⟨cs, _, b, off, List.getElem?_eq_getElem hi, h1, h3, h5⟩)
 have hc4 : ∀ cs ∈ css, cs.length = S.sz := fun cs hcs => by
  obtain ⟨i, hi⟩ := List.mem_iff_getElem?.1 hcs
  obtain ⟨_, _, _, _, _, _, h6⟩ := hp i cs hi
  exact S.len h6
 have key : ∀ l : List (List Value), (∀ cs ∈ l, cs.length = S.sz) → (l.flatMap id).length = l.length * S.sz ∧ ∀ i j cs u, l[i]? = some cs → cs[j]? = some u → (l.flatMap id)[i * S.sz + j]? = some u := by
  intro l
  induction l with
  | nil => intro _; exact ⟨by simp, fun i j cs u h => by cases h⟩
  | cons c l ih =>
   intro hc
   obtain ⟨i1, i2⟩ := ih (fun cs h => hc cs (List.mem_cons_of_mem _ h))
   have hc0 : c.length = S.sz := hc c (List.mem_cons_self ..)
   refine ⟨by rw [List.flatMap_cons, List.length_append, i1, List.length_cons, Nat.succ_mul]; show c.length + _ = _; omega, fun i j cs u h1 h2 => ?_⟩
   show (c ++ l.flatMap id)[i * S.sz + j]? = some u
   cases i with
   | zero =>
    injection h1 with h1
    subst h1
    rw [Nat.zero_mul, Nat.zero_add, List.getElem?_append_left (List.getElem?_eq_some_iff.1 h2).1]
    exact h2
   | succ i =>
    rw [Nat.succ_mul, List.getElem?_append_right (by omega), show i * S.sz + S.sz + j - c.length = i * S.sz + j by omega]
    exact i2 i j cs u h1 h2
 obtain ⟨k1, k2⟩ := key css hc4
 have hpos := S.pos
 have back : ∀ k u, (css.flatMap id)[k]? = some u → ∃ i j cs, css[i]? = some cs ∧ cs[j]? = some u ∧ k = i * S.sz + j := by
  intro k u hk
  have hk2 := (List.getElem?_eq_some_iff.1 hk).1
  rw [k1] at hk2
  have hi : k / S.sz < css.length := Nat.div_lt_of_lt_mul (by rw [Nat.mul_comm]; exact hk2)
  have hj : k % S.sz < (css[k / S.sz]).length := by rw [hc4 _ (List.getElem_mem hi)]; exact Nat.mod_lt _ hpos
  have h3 := k2 (k / S.sz) (k % S.sz) _ _ (List.getElem?_eq_getElem hi) (List.getElem?_eq_getElem hj)
  have e : k / S.sz * S.sz + k % S.sz = k := Nat.div_add_mod' k S.sz
  rw [e, hk] at h3
  exact ⟨k / S.sz, k % S.sz, _, List.getElem?_eq_getElem hi, (List.getElem?_eq_getElem hj).trans h3.symm, e.symm⟩
 refine ⟨css.flatMap id, ⟨by rw [k1, hl], fun k u hk => ?_⟩, fun u hu => ?_, fun i e hi => ?_⟩
 ·obtain ⟨i, j, cs, h1, h2, rfl⟩ := back k u hk
  obtain ⟨e, b, off, _, h4, h5, _⟩ := hp i cs h1
  refine ⟨b, off, h4, ?_⟩
  rw [← Nat.add_assoc]
  exact h5 j u h2
 ·obtain ⟨k, hk⟩ := List.mem_iff_getElem?.1 hu
  obtain ⟨i, j, cs, h1, h2, rfl⟩ := back k u hk
  obtain ⟨e, b, off, _, h4, h5, h6⟩ := hp i cs h1
  exact S.one h6 u (List.mem_of_getElem? h2)
 ·have hlt : i < css.length := by rw [hl]; exact (List.getElem?_eq_some_iff.1 hi).1
  obtain ⟨e', b, off, h3, h4, h5, h6⟩ := hp i _ (List.getElem?_eq_getElem hlt)
  rw [hi] at h3
  injection h3 with h3
  subst h3
  exact ⟨_, fun j u hj => k2 i j _ u (List.getElem?_eq_getElem hlt) hj, h6⟩
def Shp.Own (S : Shp α) (e : TypeId) (ok : Nat → Prop) (w : World) (base : Nat) (v : Value) (L : List α) : Prop := ∃ xs, w.ownsRow base e S.sz v L.length xs ∧ S.Cells (fun b => ok b ∧ some b ≠ v.ownBlock) w xs L
theorem Shp.Own.nil : S.Own e ok w base (.slice none 0 0) [] := ⟨[], World.ownsRow_nil .., fun i c h => by cases h⟩
theorem Shp.Own.bel (h : S.Own e ok w base v L) (hb : Below w.heap.size w w') : S.Own e ok w' base v L := by
 obtain ⟨xs, h1, h2⟩ := h
 exact ⟨xs, own_bel h1 hb, h2.keep fun b ho hlt => ⟨ho, hb.block b hlt⟩⟩
theorem Shp.Own.app (h0 : w.ownsRow base e S.sz v L.length xs) (h : S.Cells (fun b => ok b ∧ some b ≠ v.ownBlock) w xs L) (hM : S.Cells (fun b => ok b ∧ some b ≠ v.ownBlock) w ys M)
  (ho : w'.ownsRow base e S.sz v' (L.length + M.length) (xs ++ ys)) (hg : w.grownBy w' v.ownBlock) (hw : v'.ownBlock = v.ownBlock ∨ v'.ownBlock = some w.heap.size) : S.Own e ok w' base v' (L ++ M) := by
 refine ⟨xs ++ ys, by rw [List.length_append]; exact ho, ((h.append h0.1 hM).keep fun b hb hlt => ⟨⟨hb.1, fun e => ?_⟩, hg.block b hlt hb.2⟩)⟩
 rcases hw with hw | hw
 ·exact hb.2 (e.trans hw)
 ·rw [hw] at e
  injection e with e
  omega
theorem Shp.Own.row (h : S.Own e ok w base v L) (hk : ∀ b, ok b → ok' b) (hv : ∀ k, v.ownBlock = some k → ok' k) : ∃ A cap, v = .slice A L.length cap ∧ L.length ≤ cap ∧ S.Row ok' w A L := by
 obtain ⟨xs, h1, h2⟩ := h
 obtain ⟨A, cap, rfl, hcap, hr, ha⟩ := own_at h1
 refine ⟨A, cap, rfl, hcap, fun i c hi => ?_⟩
 obtain ⟨cs, h4, h5⟩ := h2 i c hi
 obtain ⟨u0, hu0⟩ : ∃ u, cs[0]? = some u := ⟨_, List.getElem?_eq_getElem (by rw [S.len h5]; exact S.pos)⟩
 obtain ⟨b, off, rfl, hc⟩ := hr.2 _ u0 (h4 0 u0 hu0)
 refine ⟨b, off, cs, rfl, hv b (ha _ rfl), fun j u hj => ?_, S.keep h5 fun b hb hlt => ⟨hk b hb.1, rfl⟩⟩
 obtain ⟨b', off', e2, hc2⟩ := hr.2 _ u (h4 j u hj)
 injection e2 with e2
 injection e2 with e3 e4 e5
 subst e3 e4
 rw [Nat.add_assoc]
 exact hc2
theorem Shp.Own.len (h : S.Own e ok w base v L) : ∃ A cap, v = .slice A L.length cap ∧ L.length ≤ cap := by
 obtain ⟨xs, h1, h2⟩ := h
 obtain ⟨A, cap, e, hcap, -⟩ := own_at h1
 exact ⟨A, cap, e, hcap⟩
theorem Shp.Own.lt (h : S.Own e ok w base v L) : ∀ k, v.ownBlock = some k → base ≤ k ∧ k < w.heap.size := fun k hk => by
 obtain ⟨xs, h1, h2⟩ := h
 exact h1.lt k hk
end
end Go.Proofs.YtacjhbbieeliaaaGreatDoor
/- The text Co. -/
namespace Co
abbrev Str := List UInt8
structure Ev where
 id : Int
 room : Str
 sender : Str
 kind : Int
 state : Bool
 key : Str
 time : Int
 depth : Int
 prev : List Int
 auth : List Int
 text : Str
 n : Int
 target : Int
 thread : Bool
 via : Str
 allow : List Str
 deny : List Str
 users : List (Str × Int)
 kinds : List (Int × Int)
 lu : Int
 lm : Int
 ls : Int
 li : Int
 lk : Int
 lb : Int
 lr : Int
 hash : Int
 sigS : Str
 sigN : Int
deriving DecidableEq
instance : Inhabited Ev := ⟨⟨0, [], [], 0, false, [], 0, 0, [], [], [], 0, 0, false, [], [], [], [], [], 0, 0, 0, 0, 0, 0, 0, 0, [], 0⟩⟩
theorem find_some {α : Type} {p : α → Bool} {l : List α} {x : α} (h : l.find? p = some x) : ∃ i : Nat, l[i]? = some x ∧ p x = true ∧ ∀ (j : Nat) (y : α), j < i → l[j]? = some y → p y = false := by
 induction l with
 | nil => cases h
 | cons a r ih =>
  rw [List.find?_cons] at h
  cases ha : p a with
  | true =>
   rw [ha] at h
   injection h with h
   subst h
   exact ⟨0, rfl, ha, fun j y hj => absurd hj (Nat.not_lt_zero _)⟩
  | false =>
   rw [ha] at h
   obtain ⟨i, h1, h2, h3⟩ := ih h
   refine ⟨i + 1, h1, h2, fun j y hj hy => ?_⟩
   cases j with
   | zero => injection hy with hy; subst hy; exact ha
   | succ j => exact h3 j y (by omega) hy
theorem find_drop {α : Type} (p : α → Bool) (l : List α) (k : Nat) (x : α) (h : l[k]? = some x) : (l.drop k).find? p = if p x then some x else (l.drop (k + 1)).find? p := by
 obtain ⟨h1, h2⟩ := List.getElem?_eq_some_iff.1 h
 rw [List.drop_eq_getElem_cons h1, h2, List.find?_cons]
 cases p x <;> rfl
end Co
/- The text Ek. -/
namespace Go.Proofs.YtacjhbbieeliaaaGreatDoor
open Go.RowKit Go.Lib
set_option linter.unusedVariables false
set_option linter.unusedSimpArgs false
def intL (l : List Int) : List Value := l.map fun n => .int .i64 n
def usrL (l : List (List UInt8 × Int)) : List Value := l.flatMap fun p => [.string (bstr p.1), .int .i64 p.2]
def kndL (l : List (Int × Int)) : List Value := l.flatMap fun p => [.int .i64 p.1, .int .i64 p.2]
theorem pair_at {α : Type} {f : α → List Value} (hf : ∀ x, (f x).length = 2) {l : List α} {k j : Nat} {x : α} (hk : l[k]? = some x) (hj : j < 2) : (l.flatMap f)[k * 2 + j]? = (f x)[j]? := by
  induction l generalizing k with
  | nil => cases hk
  | cons a r ih =>
    rw [List.flatMap_cons]
    cases k with
    | zero =>
      injection hk with hk
      subst hk
      rw [Nat.zero_mul, Nat.zero_add, List.getElem?_append_left (by rw [hf]; exact hj)]
    | succ k =>
      rw [List.getElem?_append_right (by rw [hf]; omega), hf, show (k + 1) * 2 + j - 2 = k * 2 + j by omega]
      exact ih hk
theorem intL_at {l : List Int} {k : Nat} {x : Int} (h : l[k]? = some x) : (intL l)[k]? = some (.int .i64 x) := by unfold intL; rw [List.getElem?_map, h]; rfl
theorem strL_at {l : List (List UInt8)} {k : Nat} {x : List UInt8} (h : l[k]? = some x) : (strL l)[k]? = some (.string (bstr x)) := strL_get l k x h
def SlcOf (ok : Nat → Prop) (w : World) (c : Value) (n sz : Nat) (vs : List Value) : Prop := ∃ A cap, c = .slice A n cap ∧ Rd w A (n * sz) vs ∧ (0 < n → ∀ a, A = some a → ok a.block)
theorem SlcOf.keep {ok ok' : Nat → Prop} {w w' : World} {c : Value} {n sz : Nat} {vs : List Value} (h : SlcOf ok w c n sz vs) (hsz : 0 < sz) (hk : ∀ b, ok b → b < w.heap.size → ok' b ∧ w'.heap[b]? = w.heap[b]?) : SlcOf ok' w' c n sz vs := by
  obtain ⟨A, cap, rfl, h1, h2⟩ := h
  have hbl : ∀ a, A = some a → 0 < n → a.block < w.heap.size := fun a ha hn => h1.block ha (Nat.mul_pos hn hsz)
  refine ⟨A, cap, rfl, ⟨h1.1, fun j v hj => ?_⟩, fun hn a ha => (hk _ (h2 hn a ha) (hbl a ha hn)).1⟩
  obtain ⟨g, o, e, hc⟩ := h1.2 j v hj
  have hn : 0 < n := by
    rcases Nat.eq_zero_or_pos n with e0 | e0
    · have := h1.1
      rw [e0, Nat.zero_mul] at this
      rw [List.eq_nil_of_length_eq_zero this] at hj
      simp at hj
    · exact e0
  refine ⟨g, o, e, ?_⟩
  rw [← hc]
  exact World.cell?_of_block (w := w) (hk g (h2 hn _ e) (hbl _ e hn)).2
theorem SlcOf.of_own {base : Nat} {w : World} {e : TypeId} {c : Value} {n sz : Nat} {vs : List Value} (h : w.ownsRow base e sz c n vs) : SlcOf (fun b => base ≤ b) w c n sz vs := by
  obtain ⟨h1, h2⟩ := h
  rcases h2 with ⟨rfl, rfl⟩ | ⟨g, cap, cur, rfl, hg, hh, hn, hcap, hsz, ht⟩
  · rw [Nat.zero_mul] at h1
    refine ⟨none, 0, rfl, ⟨by rw [Nat.zero_mul]; exact h1, fun j v hj => ?_⟩, fun hn => absurd hn (by omega)⟩
    rw [List.eq_nil_of_length_eq_zero h1] at hj
    simp at hj
  · refine ⟨_, _, rfl, ⟨h1, fun j v hj => ⟨g, 0, rfl, ?_⟩⟩, fun _ a e => by injection e with e; subst e; exact hg⟩
    have hB : Blk w g e cur := hh
    rw [Nat.zero_add, hB.cell, ← Array.getElem?_toList]
    rw [← ht] at hj
    have hlt := (List.getElem?_eq_some_iff.1 hj).1
    rw [List.length_take] at hlt
    rwa [List.getElem?_take_of_lt (by omega)] at hj
theorem SlcOf.nil (ok : Nat → Prop) (w : World) (sz : Nat) : SlcOf ok w (.slice none 0 0) 0 sz [] := ⟨none, 0, rfl, by rw [Nat.zero_mul]; exact Rd.nil w none, fun h => absurd h (by decide)⟩
def evC (e : Co.Ev) (cp ca cl cd cu ck : Value) : List Value :=
  [.int .i64 e.id, .string (bstr e.room), .string (bstr e.sender), .int .i64 e.kind, .bool e.state, .string (bstr e.key), .int .i64 e.time, .int .i64 e.depth, cp, ca,
   .string (bstr e.text), .int .i64 e.n, .int .i64 e.target, .bool e.thread, .string (bstr e.via), cl, cd, cu, ck, .int .i64 e.lu, .int .i64 e.lm, .int .i64 e.ls, .int .i64 e.li, .int .i64 e.lk, .int .i64 e.lb, .int .i64 e.lr,
   .int .i64 e.hash, .string (bstr e.sigS), .int .i64 e.sigN]
structure EvL (ok : Nat → Prop) (w : World) (e : Co.Ev) (cp ca cl cd cu ck : Value) : Prop where
  prev : SlcOf ok w cp e.prev.length 1 (intL e.prev)
  auth : SlcOf ok w ca e.auth.length 1 (intL e.auth)
  allow : SlcOf ok w cl e.allow.length 1 (strL e.allow)
  deny : SlcOf ok w cd e.deny.length 1 (strL e.deny)
  users : SlcOf ok w cu e.users.length 2 (usrL e.users)
  kinds : SlcOf ok w ck e.kinds.length 2 (kndL e.kinds)
def EvV (ok : Nat → Prop) (w : World) (X : List Value) (e : Co.Ev) : Prop := ∃ cp ca cl cd cu ck, X = evC e cp ca cl cd cu ck ∧ EvL ok w e cp ca cl cd cu ck
theorem EvL.keep {ok ok' : Nat → Prop} {w w' : World} {e : Co.Ev} {cp ca cl cd cu ck : Value} (h : EvL ok w e cp ca cl cd cu ck) (hk : ∀ b, ok b → b < w.heap.size → ok' b ∧ w'.heap[b]? = w.heap[b]?) : EvL ok' w' e cp ca cl cd cu ck :=
  ⟨h.prev.keep (by decide) hk, h.auth.keep (by decide) hk, h.allow.keep (by decide) hk, h.deny.keep (by decide) hk, h.users.keep (by decide) hk, h.kinds.keep (by decide) hk⟩
theorem EvV.len {ok : Nat → Prop} {w : World} {X : List Value} {e : Co.Ev} (h : EvV ok w X e) : X.length = 29 := by obtain ⟨_, _, _, _, _, _, rfl, _⟩ := h; rfl
def EvS : Shp Co.Ev where
  sz := 29
  V := EvV
  pos := by decide
  len := EvV.len
  one := fun h u hu => by
    obtain ⟨cp, ca, cl, cd, cu, ck, rfl, h⟩ := h
    obtain ⟨_, _, e1, _⟩ := h.prev
    obtain ⟨_, _, e2, _⟩ := h.auth
    obtain ⟨_, _, e3, _⟩ := h.allow
    obtain ⟨_, _, e4, _⟩ := h.deny
    obtain ⟨_, _, e5, _⟩ := h.users
    obtain ⟨_, _, e6, _⟩ := h.kinds
    subst e1 e2 e3 e4 e5 e6
    unfold evC at hu
    simp only [List.mem_cons, List.not_mem_nil, or_false] at hu
    rcases hu with rfl | rfl | rfl | rfl | rfl | rfl | rfl | rfl | rfl | rfl | rfl | rfl | rfl | rfl | rfl | rfl | rfl | rfl | rfl | rfl | rfl | rfl | rfl | rfl | rfl | rfl | rfl | rfl | rfl <;> rfl
  keep := fun h hk => by
    obtain ⟨cp, ca, cl, cd, cu, ck, h1, h2⟩ := h
    exact ⟨cp, ca, cl, cd, cu, ck, h1, h2.keep hk⟩
theorem EvV.bel {ok : Nat → Prop} {w w' : World} {X : List Value} {e : Co.Ev} (h : EvV ok w X e) (hb : Below w.heap.size w w') : EvV ok w' X e := EvS.bel h hb
theorem size_ev : (Tryz.prog.info? 34).map (·.size) = some 29 := by kernel_rfl
theorem size_evL {ok : Nat → Prop} {w : World} {X : List Value} {e : Co.Ev} (h : EvV ok w X e) : (Tryz.prog.info? 34).map (·.size) = some X.length := by rw [size_ev, h.len]
theorem size_evA {ok : Nat → Prop} {w : World} {X : List Value} {e : Co.Ev} (h : EvV ok w X e) : (Tryz.prog.info? 34).map (·.size) = some X.toArray.size := by rw [size_ev, List.size_toArray, h.len]
abbrev EvRow (ok : Nat → Prop) (w : World) (A : Option Addr) (es : List Co.Ev) : Prop := EvS.Row ok w A es
end Go.Proofs.YtacjhbbieeliaaaGreatDoor
/- The text Ea. -/
namespace Rn
abbrev Str := List UInt8
inductive Tr where
 | mk (rule : Str) (id err : Int) (kids : List Tr)
instance : Inhabited Tr := ⟨.mk [] 0 0 []⟩
def Tr.rule : Tr → Str | .mk r _ _ _ => r
def Tr.id : Tr → Int | .mk _ i _ _ => i
def Tr.err : Tr → Int | .mk _ _ e _ => e
def Tr.kids : Tr → List Tr | .mk _ _ _ k => k
mutual
def nodes : Tr → Nat
 | .mk _ _ _ ks => nodesL ks + 1
def nodesL : List Tr → Nat
 | [] => 0
 | c :: r => nodes c + nodesL r
end
mutual
def depth : Tr → Nat
 | .mk _ _ _ ks => depthL ks + 1
def depthL : List Tr → Nat
 | [] => 0
 | c :: r => max (depth c) (depthL r)
end
mutual
def same : Tr → Tr → Bool
 | .mk r i e ks, .mk r' i' e' ks' => r == r' && i == i' && e == e' && sameL ks ks'
def sameL : List Tr → List Tr → Bool
 | [], [] => true
 | a :: r, b :: r' => same a b && sameL r r'
 | _, _ => false
end
mutual
theorem same_eq : ∀ a b : Tr, same a b = true ↔ a = b
 | .mk o t n ks, .mk o' t' n' ks' => by
  unfold same
  simp only [Bool.and_eq_true, beq_iff_eq, sameL_eq ks ks', Tr.mk.injEq]
  constructor
  ·rintro ⟨⟨⟨h1, h2⟩, h3⟩, h4⟩; exact ⟨h1, h2, h3, h4⟩
  ·rintro ⟨h1, h2, h3, h4⟩; exact ⟨⟨⟨h1, h2⟩, h3⟩, h4⟩
theorem sameL_eq : ∀ a b : List Tr, sameL a b = true ↔ a = b
 | [], [] => by simp [sameL]
 | [], _ :: _ => by simp [sameL]
 | _ :: _, [] => by simp [sameL]
 | a :: r, b :: r' => by
  unfold sameL
  simp only [Bool.and_eq_true, same_eq a b, sameL_eq r r', List.cons.injEq]
end
theorem same_self (a : Tr) : same a a = true := (same_eq a a).2 rfl
instance : DecidableEq Tr := fun a b => if h : same a b = true then .isTrue ((same_eq a b).1 h) else .isFalse fun e => h ((same_eq a b).2 e)
theorem same_dec (a b : Tr) : same a b = decide (a = b) := by
 by_cases h : a = b
 ·rw [decide_eq_true h]; exact (same_eq a b).2 h
 ·rw [decide_eq_false h]
  cases hs : same a b with
  | false => rfl
  | true => exact absurd ((same_eq a b).1 hs) h
theorem same_open (a b : Tr) : same a b = (a.rule == b.rule && a.id == b.id && a.err == b.err && sameL a.kids b.kids) := by cases a; cases b; rfl
theorem nodes_eq (c : Tr) : nodes c = nodesL c.kids + 1 := by cases c; rfl
theorem depth_eq (c : Tr) : depth c = depthL c.kids + 1 := by cases c; rfl
theorem nodes_pos (c : Tr) : 1 ≤ nodes c := by rw [nodes_eq]; omega
theorem nodesL_take : ∀ (ks : List Tr) (i : Nat) (c : Tr), ks[i]? = some c → nodesL (ks.take (i + 1)) = nodesL (ks.take i) + nodes c
 | [], i, c, h => by cases h
 | k :: r, 0, c, h => by injection h with h; subst h; simp [nodesL]
 | k :: r, i + 1, c, h => by
  rw [List.getElem?_cons_succ] at h
  rw [List.take_succ_cons, List.take_succ_cons]
  unfold nodesL
  rw [nodesL_take r i c h]
  omega
theorem nodesL_le : ∀ (ks : List Tr) (i : Nat), nodesL (ks.take i) ≤ nodesL ks
 | [], i => by simp
 | k :: r, 0 => by simp [nodesL]
 | k :: r, i + 1 => by
  rw [List.take_succ_cons]
  unfold nodesL
  have := nodesL_le r i
  omega
theorem nodes_kid {ks : List Tr} {i : Nat} {c : Tr} (h : ks[i]? = some c) : nodes c ≤ nodesL ks := by
 have h1 := nodesL_take ks i c h
 have h2 := nodesL_le ks (i + 1)
 omega
theorem kids_nodes : ∀ ks : List Tr, ks.length ≤ nodesL ks
 | [] => Nat.zero_le _
 | k :: r => by
  have h1 := nodes_pos k
  have h2 := kids_nodes r
  unfold nodesL
  rw [List.length_cons]
  omega
theorem depthL_take : ∀ (ks : List Tr) (i : Nat) (c : Tr), ks[i]? = some c → depthL (ks.take (i + 1)) = max (depthL (ks.take i)) (depth c)
 | [], i, c, h => by cases h
 | k :: r, 0, c, h => by injection h with h; subst h; simp [depthL]
 | k :: r, i + 1, c, h => by
  rw [List.getElem?_cons_succ] at h
  rw [List.take_succ_cons, List.take_succ_cons]
  unfold depthL
  rw [depthL_take r i c h, Nat.max_assoc]
mutual
theorem depth_nodes : ∀ c : Tr, depth c ≤ nodes c
 | .mk _ _ _ ks => by unfold depth nodes; have := depthL_nodes ks; omega
theorem depthL_nodes : ∀ ks : List Tr, depthL ks ≤ nodesL ks
 | [] => Nat.le_refl _
 | c :: r => by unfold depthL nodesL; have h1 := depth_nodes c; have h2 := depthL_nodes r; omega
end
theorem sameL_drop {ks ls : List Tr} {k : Nat} {x y : Tr} (hx : ks[k]? = some x) (hy : ls[k]? = some y) : sameL (ks.drop k) (ls.drop k) = (same x y && sameL (ks.drop (k + 1)) (ls.drop (k + 1))) := by
 obtain ⟨h1, h2⟩ := List.getElem?_eq_some_iff.1 hx
 obtain ⟨h3, h4⟩ := List.getElem?_eq_some_iff.1 hy
 rw [List.drop_eq_getElem_cons h1, List.drop_eq_getElem_cons h3, h2, h4]
 rfl
theorem sameL_len {ks ls : List Tr} (h : ks.length ≠ ls.length) : sameL ks ls = false := by
 cases hs : sameL ks ls with
 | false => rfl
 | true => exact absurd (congrArg List.length ((sameL_eq ks ls).1 hs)) h
def ruleB (c : UInt8) : Bool := c == 45 || (decide (97 ≤ c.toNat) && decide (c.toNat ≤ 122))
def ruled (s : Str) : Bool := decide (1 ≤ s.length) && decide (s.length ≤ 32) && s.all ruleB
def fit (r : Str) (i e : Int) : Bool := ruled r && decide (0 ≤ i) && decide (i < 4611686018427387904) && decide (0 ≤ e) && decide (e ≤ 30)
mutual
def plain : Nat → Tr → Bool
 | 0, _ => false
 | m + 1, .mk r i e ks => fit r i e && plainL m ks
def plainL : Nat → List Tr → Bool
 | _, [] => true
 | m, c :: r => plain m c && plainL m r
end
end Rn
/- The text Eb. -/
namespace Go.Proofs.YtacjhbbieeliaaaGreatDoor
open Go.RowKit Go.Lib
set_option linter.unusedVariables false
set_option linter.unusedSimpArgs false
inductive RnV (w : World) (ok : Nat → Prop) : Array Value → Rn.Tr → Prop
 | mk (o : Int) (t : List UInt8) (n : Int) (ks : List Rn.Tr) (A : Option Addr) (cap : Nat) (X : Nat → List Value)
   (h : ∀ i c, ks[i]? = some c → ∃ b off, A = some ⟨b, off, none⟩ ∧ ok b ∧ w.rangeAt b (off + i * 4) (X i) ∧ (X i).length = 4)
   (h2 : ∀ i c, ks[i]? = some c → RnV w ok (X i).toArray c) : RnV w ok #[.string (bstr t), .int .i64 o, .int .i64 n, .slice A ks.length cap] (.mk t o n ks)
def RnRow (w : World) (ok : Nat → Prop) (A : Option Addr) (ks : List Rn.Tr) : Prop := ∀ i c, ks[i]? = some c → ∃ b off X, A = some ⟨b, off, none⟩ ∧ ok b ∧ w.rangeAt b (off + i * 4) X ∧ X.length = 4 ∧ RnV w ok X.toArray c
section
variable {w w' : World} {ok ok' : Nat → Prop} {V : Array Value} {c : Rn.Tr} {A : Option Addr} {ks : List Rn.Tr}
theorem RnV.keep (h : RnV w ok V c) (hk : ∀ b, ok b → b < w.heap.size → ok' b ∧ w'.heap[b]? = w.heap[b]?) : RnV w' ok' V c := by
 induction h with
 | mk o t n ks A cap X h h2 ih =>
  refine .mk o t n ks A cap X (fun i c hi => ?_) (fun i c hi => ih i c hi)
  obtain ⟨b, off, h1, h3, h4, h5⟩ := h i c hi
  obtain ⟨h6, h7⟩ := hk b h3 (range_lt h4 (by omega))
  exact ⟨b, off, h1, h6, range_keep h4 h7, h5⟩
theorem RnRow.keep (h : RnRow w ok A ks) (hk : ∀ b, ok b → b < w.heap.size → ok' b ∧ w'.heap[b]? = w.heap[b]?) : RnRow w' ok' A ks := fun i c hi => by
 obtain ⟨b, off, X, h1, h3, h4, h5, h6⟩ := h i c hi
 obtain ⟨h7, h8⟩ := hk b h3 (range_lt h4 (by omega))
 exact ⟨b, off, X, h1, h7, range_keep h4 h8, h5, h6.keep hk⟩
theorem RnV.bel (h : RnV w ok V c) (hb : Below w.heap.size w w') : RnV w' ok V c := h.keep fun b ho hlt => ⟨ho, hb.block b hlt⟩
theorem RnRow.below (h : RnRow w ok A ks) (hb : Below w.heap.size w w') : RnRow w' ok A ks := h.keep fun b ho hlt => ⟨ho, hb.block b hlt⟩
theorem RnV.open (h : RnV w ok V c) : ∃ A cap, V = #[.string (bstr c.rule), .int .i64 c.id, .int .i64 c.err, .slice A c.kids.length cap] ∧ RnRow w ok A c.kids := by
 cases h with
 | mk o t n ks A cap X h h2 =>
  refine ⟨A, cap, rfl, fun i c hi => ?_⟩
  obtain ⟨b, off, h1, h3, h4, h5⟩ := h i c hi
  exact ⟨b, off, X i, h1, h3, h4, h5, h2 i c hi⟩
theorem RnV.size (h : RnV w ok V c) : V.size = 4 := by obtain ⟨A, cap, rfl, -⟩ := h.open; rfl
theorem RnV.one (h : RnV w ok V c) : V.all (·.oneCell') = true := by obtain ⟨A, cap, rfl, -⟩ := h.open; simp [Value.oneCell']
theorem RnV.make {o : Int} {t : List UInt8} {n : Int} {cap : Nat} (h : RnRow w ok A ks) : RnV w ok #[.string (bstr t), .int .i64 o, .int .i64 n, .slice A ks.length cap] (.mk t o n ks) := by
 have h' : ∀ i, ∃ X : List Value, ∀ c, ks[i]? = some c → ∃ b off, A = some ⟨b, off, none⟩ ∧ ok b ∧ w.rangeAt b (off + i * 4) X ∧ X.length = 4 ∧ RnV w ok X.toArray c := fun i => by
  cases hk : ks[i]? with
  | none => exact ⟨[], fun c hc => by cases hc⟩
  | some c =>
   obtain ⟨b, off, X, h1, h3, h4, h5, h6⟩ := h i c hk
   exact ⟨X, fun c' hc => by injection hc with hc; subst hc; exact ⟨b, off, h1, h3, h4, h5, h6⟩⟩
 let X := fun i => (h' i).choose
 have hX := fun i => (h' i).choose_spec
 exact .mk o t n ks A cap X (fun i c hi => by obtain ⟨b, off, h1, h3, h4, h5, h6⟩ := hX i c hi; exact ⟨b, off, h1, h3, h4, h5⟩) (fun i c hi => by obtain ⟨b, off, h1, h3, h4, h5, h6⟩ := hX i c hi; exact h6)
theorem RnRow.nil : RnRow w ok A [] := fun i c h => by cases h
end
abbrev zRn : Array Value := #[.string ⟨#[]⟩, .int .i64 0, .int .i64 0, .slice none 0 0]
theorem size_rea : (Tryz.prog.info? 42).map (·.size) = some 4 := by kernel_rfl
theorem wrap_add (a b : Nat) (h : a + b ≤ 1000000000) : IntKind.i64.wrap ((a : Int) + (b : Int)) = ((a + b : Nat) : Int) := by rw [IntWalk.i64_in _ (by omega)]; rfl
def RnS : Shp Rn.Tr where
 sz := 4
 V := fun ok w X x => RnV w ok X.toArray x
 pos := by decide
 len := fun h => by have := h.size; rwa [List.size_toArray] at this
 one := fun h u hu => by
  have h1 := Array.all_eq_true.1 h.one
  obtain ⟨i, hi, rfl⟩ := List.mem_iff_getElem.1 hu
  have := h1 i (by rw [List.size_toArray]; exact hi)
  simpa using this
 keep := fun h hk => RnV.keep h hk
theorem RnRow.shp {w : World} {ok : Nat → Prop} {A : Option Addr} {ks : List Rn.Tr} (h : RnRow w ok A ks) : RnS.Row ok w A ks := fun i c hi => by
 obtain ⟨b, off, X, h1, h2, h3, h4, h5⟩ := h i c hi
 exact ⟨b, off, X, h1, h2, h3, h5⟩
theorem Shp.Row.rn {w : World} {ok : Nat → Prop} {A : Option Addr} {ks : List Rn.Tr} (h : RnS.Row ok w A ks) : RnRow w ok A ks := fun i c hi => by
 obtain ⟨b, off, X, h1, h2, h3, h5⟩ := h i c hi
 exact ⟨b, off, X, h1, h2, h3, RnS.len h5, h5⟩
end Go.Proofs.YtacjhbbieeliaaaGreatDoor
