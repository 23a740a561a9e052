/- The texts Uq, V0, Va of this proof, one behind the other. -/
import Derived.Test.YtchkiegehejfmaaGreatDoorMsaf
import Derived.Test.YtchkiegehejfmaaGreatDoorMsae
set_option linter.unusedSimpArgs false
set_option maxHeartbeats 16000000
set_option maxRecDepth 100000
set_option linter.unusedVariables false
namespace Go.Proofs.YtchkiegehejfmaaGreatDoor
open Go.RowKit Go.Lib
structure RowU (T e : TypeId) (size bytes : Nat) : Prop where
 und : Tryz.prog.underlying T = some (.slice e)
 info : ∃ z, (Tryz.prog.info? e).map (fun i => (i.zero, i.size, i.bytes)) = some (some z, size, bytes) ∧ z.cells.size = size
 pos : 0 < size
 small : bytes ≤ 1000
section
variable {ops : Array Oper} {rest : List Oper} {o : Oper} {a : Act} {Q : Exit → Act → World → Prop} {K : Act → World → Prop} {T e : TypeId} {size bytes : Nat} {E : Prop}
theorem Es (hT : RowU T e size bytes) (ty : TypeId) (w : World) (v : Value) (n : Nat) (xs ys : List Value) (base : Nat) (hown : w.ownsRow base e size v n xs) (A : Option Addr) (m c : Nat) (hr : Rd w A (m * size) ys) (h1 : ∀ u ∈ ys, u.oneCell' = true)
  (hbase : base ≤ w.heap.size) (hlen : n + m ≤ 100000000000) :
  ∃ v' w', (Builtin.append_ #[T, T] ty #[v, .slice A m c]).run Tryz.prog w = .ok v' w' ∧ w'.ownsRow base e size v' (n + m) (xs ++ ys) ∧ w.grownBy w' v.ownBlock ∧ (∀ w0, Below base w0 w → Below base w0 w') ∧ (v'.ownBlock = v.ownBlock ∨ v'.ownBlock = some w.heap.size) := by
 obtain ⟨z, hi, hz⟩ := hT.info;obtain ⟨i, hu, zu0, zu1, zu2⟩ := BE hi;have hbs : (n + m) * bytes ≤ 140737488355328 := by
  have := Nat.mul_le_mul hlen hT.small;omega
 cases A with
 | none =>
  obtain ⟨hm, rfl⟩ := hr.none_;have hm0 : m = 0 := by
   rcases Nat.mul_eq_zero.1 hm with h | h
   ·exact h
   ·have := hT.pos; omega
  subst hm0;refine ⟨v, w, ?_, by simpa using hown, World.grownBy.refl w _, fun w0 h => h, .inl rfl⟩;rcases hown.2 with ⟨rfl, hn⟩ | ⟨g, cap, cur, rfl, _, _, hnc, _⟩
  ·simp [Builtin.append_, run_underlying hT.und, sizeOf, typeInfo, hu, Builtin.lenOf, Builtin.firstCells]
  ·simp [Builtin.append_, run_underlying hT.und, sizeOf, typeInfo, hu, Builtin.lenOf, Builtin.firstCells, hnc, storeCells]
 | some ad =>
  obtain ⟨v', w', hrun, h2, h3, _, h5⟩ := run_append_own_at (P := Tryz.prog) w base T ty e i z size bytes hT.und hu zu0 zu1 zu2 hz hT.pos v n xs hown ad m c ys hr.1 hr.add h1 (by unfold maxLen; omega) hbs hbase;exact ⟨v', w', hrun, h2, h3, fun w0 hb => hb.grown h3 hbase (fun g hg => (hown.lt g hg).1), h5⟩
theorem AC (hT : RowU T e size bytes) (hgd : o.guard = none) (s x : Operand) (ho : o.op = .call { callee := .builtin .append, args := #[s, x], argTypes := #[T, T] })
  (w : World) (v : Value) (n : Nat) (xs ys : List Value) (base : Nat) (hs : a.eval s = v) (hown : w.ownsRow base e size v n xs) (A : Option Addr) (m c : Nat) (hx : a.eval x = .slice A m c) (hr : Rd w A (m * size) ys) (h1 : ∀ u ∈ ys, u.oneCell' = true)
  (hbase : base ≤ w.heap.size) (hlen : n + m ≤ 100000000000)
  (h : ∀ v' w', w'.ownsRow base e size v' (n + m) (xs ++ ys) → w.grownBy w' v.ownBlock → (∀ w0, Below base w0 w → Below base w0 w') → (v'.ownBlock = v.ownBlock ∨ v'.ownBlock = some w.heap.size) → wpList Tryz.prog ops Q rest (a.put o.dst v') w') :
  wpList Tryz.prog ops Q (o :: rest) a w := by
 refine wpList_plain hgd fun K hK => ?_
 obtain ⟨v', w', hrun, h2, h3, h4, h5⟩ := Es hT o.type w v n xs ys base hown A m c hr h1 hbase hlen;unfold Oper.wp execOp;simp only [ho, resolve, invoke, builtin, Sem.run_bind, Sem.run_pure, Result.andThen_ok, List.map_toArray, List.map_cons, List.map_nil, hs, hx, hrun];exact hK _ _ (h v' w' h2 h3 h4 h5)
theorem Ej (hT : RowU T e size bytes) (hgd : o.guard = none) (s x : Operand) (ho : o.op = .call { callee := .builtin .append, args := #[s, x], argTypes := #[T, T] })
  (w : World) (v : Value) (n : Nat) (xs ys : List Value) (base : Nat) (hs : a.eval s = v) (hown : w.ownsRow base e size v n xs) (A : Option Addr) (m c : Nat) (hx : a.eval x = .slice A m c) (hr : Rd w A (m * size) ys) (h1 : ∀ u ∈ ys, u.oneCell' = true)
  (hbase : base ≤ w.heap.size) (hlen : n + m ≤ 100000000000)
  (h : ∀ v' w', w'.ownsRow base e size v' (n + m) (xs ++ ys) → w.grownBy w' v.ownBlock → (∀ w0, Below base w0 w → Below base w0 w') → (v'.ownBlock = v.ownBlock ∨ v'.ownBlock = some w.heap.size) → K (a.put o.dst v') w') : if Region.wanted o (yielded ops a.tmps) = true then o.wp Tryz.prog a w K Q else E := by
 have hw : Region.wanted o (yielded ops a.tmps) = true := by simp [Region.wanted, hgd]
 rw [if_pos hw];obtain ⟨v', w', hrun, h2, h3, h4, h5⟩ := Es hT o.type w v n xs ys base hown A m c hr h1 hbase hlen;unfold Oper.wp execOp;simp only [ho, resolve, invoke, builtin, Sem.run_bind, Sem.run_pure, Result.andThen_ok, List.map_toArray, List.map_cons, List.map_nil, hs, hx, hrun];exact h v' w' h2 h3 h4 h5
end
theorem Ei {α : Type} {p : Nat → α → Prop} : ∀ n : Nat, (∀ i, i < n → ∃ x, p i x) → ∃ l : List α, l.length = n ∧ ∀ i x, l[i]? = some x → p i x
 | 0, _ => ⟨[], rfl, fun i x h => by simp at h⟩
 | n + 1, h => by
  obtain ⟨l, hl, hp⟩ := Ei n (fun i hi => h i (by omega));obtain ⟨x, hx⟩ := h n (by omega);refine ⟨l ++ [x], by rw [List.length_append, hl]; rfl, fun i y hy => ?_⟩;by_cases hi : i < n
  ·rw [List.getElem?_append_left (by omega)] at hy;exact hp i y hy
  ·have hlt := (List.getElem?_eq_some_iff.1 hy).1;rw [List.length_append, List.length_singleton] at hlt;obtain rfl : i = n := by omega
   rw [List.getElem?_append_right (by omega), hl, Nat.sub_self] at hy;injection hy with hy;rw [← hy];exact hx
theorem CnRow.rd {w : World} {ok : Nat → Prop} {A : Option Addr} {L : List Pr.Cn} (h : CnRow w ok A L) : ∃ xs : List Value, Rd w A (L.length * 4) xs ∧ (∀ u ∈ xs, u.oneCell' = true) ∧
  ∀ (i : Nat) (e : Pr.Cn), L[i]? = some e → ∃ cs : List Value, cs.length = 4 ∧ (∀ j u, cs[j]? = some u → xs[i * 4 + j]? = some u) ∧ CnV w ok cs.toArray e := by
 obtain ⟨css, hl, hp⟩ := Ei (p := fun i (cs : List Value) => cs.length = 4 ∧ ∃ e b off, L[i]? = some e ∧ A = some ⟨b, off, none⟩ ∧ w.rangeAt b (off + i * 4) cs ∧ CnV w ok cs.toArray e) L.length (fun i hi => by
  obtain ⟨b, off, cs, h1, _, h3, h4, h5⟩ := h i _ (List.getElem?_eq_getElem hi)
  exact ⟨cs, h4, _, b, off, List.getElem?_eq_getElem hi, h1, h3, h5⟩)
 have hc4 : ∀ cs ∈ css, cs.length = 4 := fun cs hcs => by
  obtain ⟨i, hi⟩ := List.mem_iff_getElem?.1 hcs;exact (hp i cs hi).1
 have key : ∀ l : List (List Value), (∀ cs ∈ l, cs.length = 4) → (l.flatMap id).length = l.length * 4 ∧ ∀ i j cs u, l[i]? = some cs → cs[j]? = some u → (l.flatMap id)[i * 4 + j]? = some u := by
  intro l
  induction l with
  | nil => intro _; exact ⟨rfl, fun i j cs u h => by cases h⟩
  | cons c l ih =>
   intro hc;obtain ⟨i1, i2⟩ := ih (fun cs h => hc cs (List.mem_cons_of_mem _ h));have hc0 : c.length = 4 := hc c (List.mem_cons_self ..);refine ⟨by rw [List.flatMap_cons, List.length_append, i1, List.length_cons]; show c.length + _ = _; omega, fun i j cs u h1 h2 => ?_⟩;show (c ++ l.flatMap id)[i * 4 + j]? = some u
   cases i with
   | zero =>
    injection h1 with h1;subst h1;rw [Nat.zero_mul, Nat.zero_add, List.getElem?_append_left (List.getElem?_eq_some_iff.1 h2).1];exact h2
   | succ i =>
    rw [List.getElem?_append_right (by omega), show (i + 1) * 4 + j - c.length = i * 4 + j by omega];exact i2 i j cs u h1 h2
 obtain ⟨k1, k2⟩ := key css hc4;have back : ∀ k u, (css.flatMap id)[k]? = some u → ∃ i j cs, css[i]? = some cs ∧ cs[j]? = some u ∧ k = i * 4 + j := by
  intro k u hk;have hk2 := (List.getElem?_eq_some_iff.1 hk).1;rw [k1] at hk2;have hi : k / 4 < css.length := by omega
  have hj : k % 4 < (css[k / 4]).length := by rw [hc4 _ (List.getElem_mem hi)]; omega
  have h3 := k2 (k / 4) (k % 4) _ _ (List.getElem?_eq_getElem hi) (List.getElem?_eq_getElem hj);rw [show k / 4 * 4 + k % 4 = k by omega, hk] at h3;exact ⟨k / 4, k % 4, _, List.getElem?_eq_getElem hi, (List.getElem?_eq_getElem hj).trans h3.symm, by omega⟩
 refine ⟨css.flatMap id, ⟨by rw [k1, hl], fun k u hk => ?_⟩, fun u hu => ?_, fun i e hi => ?_⟩
 ·obtain ⟨i, j, cs, h1, h2, rfl⟩ := back k u hk;obtain ⟨_, e, b, off, _, h4, h5, _⟩ := hp i cs h1;refine ⟨b, off, h4, ?_⟩;rw [← Nat.add_assoc];exact h5 j u h2
 ·obtain ⟨k, hk⟩ := List.mem_iff_getElem?.1 hu;obtain ⟨i, j, cs, h1, h2, rfl⟩ := back k u hk;obtain ⟨_, e, b, off, _, h4, h5, h6⟩ := hp i cs h1;have h7 := Array.all_eq_true.1 h6.one j (by rw [List.size_toArray]; exact (List.getElem?_eq_some_iff.1 h2).1);have h8 := (List.getElem?_eq_some_iff.1 h2).2
  simpa [h8] using h7
 ·have hlt : i < css.length := by rw [hl]; exact (List.getElem?_eq_some_iff.1 hi).1
  obtain ⟨h1, e', b, off, h3, h4, h5, h6⟩ := hp i _ (List.getElem?_eq_getElem hlt);rw [hi] at h3;injection h3 with h3;subst h3;exact ⟨_, h1, fun j u hj => k2 i j _ u (List.getElem?_eq_getElem hlt) hj, h6⟩
theorem FN : (Tryz.prog.info? 36).map (fun i => (i.zero, i.size, i.bytes)) = some (some (.agg zCn), 4, 56) := by kernel_rfl
theorem rowCn : RowU 34 36 4 56 := ⟨Tryz.underlying34, ⟨_, FN, rfl⟩, by decide, by decide⟩
def CnsV (w : World) (ok : Nat → Prop) (xs : List Value) (L : List Pr.Cn) : Prop := ∀ (i : Nat) (c : Pr.Cn), L[i]? = some c → ∃ cs : List Value, cs.length = 4 ∧ (∀ j u, cs[j]? = some u → xs[i * 4 + j]? = some u) ∧ CnV w ok cs.toArray c
def CnO (w : World) (base : Nat) (ok : Nat → Prop) (v : Value) (L : List Pr.Cn) : Prop := ∃ xs, w.ownsRow base 36 4 v L.length xs ∧ CnsV w (fun b => ok b ∧ some b ≠ v.ownBlock) xs L
theorem AR {w w' : World} {base size n : Nat} {e : TypeId} {v : Value} {xs : List Value} (h : w.ownsRow base e size v n xs) (hb : Below w.heap.size w w') : w'.ownsRow base e size v n xs := by
 obtain ⟨h1, h2⟩ := h;refine ⟨h1, ?_⟩;rcases h2 with h2 | ⟨k, cap, cur, rfl, hk, hh, hn, hcap, hsz, ht⟩
 ·exact .inl h2
 ·exact .inr ⟨k, cap, cur, rfl, hk, (hb.block k (Array.getElem?_eq_some_iff.1 hh).1).trans hh, hn, hcap, hsz, ht⟩
theorem AU {w : World} {base size n : Nat} {e : TypeId} {v : Value} {xs : List Value} (h : w.ownsRow base e size v n xs) : ∃ A cap, v = .slice A n cap ∧ n ≤ cap ∧ Rd w A (n * size) xs ∧ ∀ a, A = some a → v.ownBlock = some a.block := by
 obtain ⟨h1, h2⟩ := h;rcases h2 with ⟨rfl, rfl⟩ | ⟨g, cap, cur, rfl, hg, hh, hn, hcap, hsz, ht⟩
 ·refine ⟨none, 0, rfl, Nat.le_refl _, ⟨h1, fun j u hj => ?_⟩, fun a ha => by cases ha⟩;rw [Nat.zero_mul] at h1;rw [List.eq_nil_of_length_eq_zero h1] at hj;cases hj
 ·refine ⟨some ⟨g, 0, none⟩, cap, rfl, hn, ⟨h1, fun j u hj => ⟨g, 0, rfl, ?_⟩⟩, fun a ha => by injection ha with ha; subst ha; rfl⟩;have hj2 : cur[j]? = some u := by
   rw [← ht, List.getElem?_take] at hj;split at hj
   ·rwa [Array.getElem?_toList] at hj
   ·cases hj
  rw [Nat.zero_add];exact Blk.cell (show Blk w g e cur from hh) j |>.trans hj2
section
variable {w w' : World} {ok ok' : Nat → Prop} {xs ys : List Value} {L M : List Pr.Cn} {base : Nat} {v v' : Value}
theorem CnsV.keep (h : CnsV w ok xs L) (hk : ∀ b, ok b → b < w.heap.size → ok' b ∧ w'.heap[b]? = w.heap[b]?) : CnsV w' ok' xs L := fun i c hi => by
 obtain ⟨cs, a, b, d⟩ := h i c hi;exact ⟨cs, a, b, d.keep hk⟩
theorem CnsV.append (h : CnsV w ok xs L) (hl : xs.length = L.length * 4) (h2 : CnsV w ok ys M) : CnsV w ok (xs ++ ys) (L ++ M) := fun i c hi => by
 rcases Nat.lt_or_ge i L.length with hlt | hge
 ·rw [List.getElem?_append_left hlt] at hi;obtain ⟨cs, a, b, d⟩ := h i c hi;refine ⟨cs, a, fun j u hj => ?_, d⟩;have hj2 := b j u hj;rw [List.getElem?_append_left (List.getElem?_eq_some_iff.1 hj2).1];exact hj2
 ·rw [List.getElem?_append_right hge] at hi;obtain ⟨cs, a, b, d⟩ := h2 _ c hi;refine ⟨cs, a, fun j u hj => ?_, d⟩;have hj2 := b j u hj;rw [List.getElem?_append_right (by omega), hl];rwa [show i * 4 + j - L.length * 4 = (i - L.length) * 4 + j by omega]
theorem CnsV.one {X : Array Value} {c : Pr.Cn} (h : CnV w ok X c) : CnsV w ok X.toList [c] := fun i c' hi => by
 cases i with
 | zero =>
  injection hi with hi;subst hi;exact ⟨X.toList, by rw [Array.length_toList, h.size], fun j u hj => by rw [Nat.zero_mul, Nat.zero_add]; exact hj, by rw [Array.toArray_toList]; exact h⟩
 | succ i => simp at hi
theorem CnO.nil : CnO w base ok (.slice none 0 0) [] := ⟨[], World.ownsRow_nil .., fun i c h => by cases h⟩
theorem CnO.bel (h : CnO w base ok v L) (hb : Below w.heap.size w w') : CnO w' base ok v L := by
 obtain ⟨xs, h1, h2⟩ := h;exact ⟨xs, AR h1 hb, h2.keep fun b ho hlt => ⟨ho, hb.block b hlt⟩⟩
theorem CnO.app (h0 : w.ownsRow base 36 4 v L.length xs) (h : CnsV w (fun b => ok b ∧ some b ≠ v.ownBlock) xs L) (hM : CnsV w (fun b => ok b ∧ some b ≠ v.ownBlock) ys M)
  (ho : w'.ownsRow base 36 4 v' (L.length + M.length) (xs ++ ys)) (hg : w.grownBy w' v.ownBlock) (hw : v'.ownBlock = v.ownBlock ∨ v'.ownBlock = some w.heap.size) : CnO w' base ok v' (L ++ M) := by
 refine ⟨xs ++ ys, by rw [List.length_append]; exact ho, ((h.append h0.1 hM).keep fun b hb hlt => ⟨⟨hb.1, fun e => ?_⟩, hg.block b hlt hb.2⟩)⟩;rcases hw with hw | hw
 ·exact hb.2 (e.trans hw)
 ·rw [hw] at e;injection e with e;omega
theorem CnO.row (h : CnO w base ok v L) (hk : ∀ b, ok b → ok' b) (hv : ∀ k, v.ownBlock = some k → ok' k) : ∃ A cap, v = .slice A L.length cap ∧ L.length ≤ cap ∧ CnRow w ok' A L := by
 obtain ⟨xs, h1, h2⟩ := h;obtain ⟨A, cap, rfl, hcap, hr, ha⟩ := AU h1;refine ⟨A, cap, rfl, hcap, fun i c hi => ?_⟩;obtain ⟨cs, h3, h4, h5⟩ := h2 i c hi;obtain ⟨u0, hu0⟩ : ∃ u, cs[0]? = some u := ⟨_, List.getElem?_eq_getElem (by rw [h3]; decide)⟩;obtain ⟨b, off, rfl, hc⟩ := hr.2 _ u0 (h4 0 u0 hu0);refine ⟨b, off, cs, rfl, hv b (ha _ rfl), fun j u hj => ?_, h3, h5.keep fun b hb hlt => ⟨hk b hb.1, rfl⟩⟩;obtain ⟨b', off', e2, hc2⟩ := hr.2 _ u (h4 j u hj);injection e2 with e2;injection e2 with e3 e4 e5;subst e3 e4;rw [Nat.add_assoc];exact hc2
theorem CnO.len (h : CnO w base ok v L) : ∃ A cap, v = .slice A L.length cap ∧ L.length ≤ cap := by
 obtain ⟨xs, h1, h2⟩ := h;obtain ⟨A, cap, e, hcap, -⟩ := AU h1;exact ⟨A, cap, e, hcap⟩
end
end Go.Proofs.YtchkiegehejfmaaGreatDoor
namespace Pr
structure Tk where
 form : Int
 text : Str
deriving DecidableEq
def markOf (c : UInt8) : Int := if c = 40 then 3 else if c = 41 then 4 else if c = 44 then 5 else 0
def wordc (c : UInt8) : Bool := c != 32 && c != 34 && markOf c == 0
def quoteP (acc : Str) : Str → Option (Str × Str)
 | [] => none
 | c :: r => if c = 34 then some (acc, r) else if c = 92 then (match r with
  | [] => none
  | d :: q => if d = 34 ∨ d = 92 then quoteP (acc ++ [d]) q else none) else quoteP (acc ++ [c]) r
def toks : Nat → List Tk → Str → Option (List Tk)
 | 0, _, _ => none
 | _ + 1, acc, [] => some acc
 | n + 1, acc, c :: r =>
  if c = 32 then toks n acc r
  else if markOf c ≠ 0 then toks n (acc ++ [⟨markOf c, []⟩]) r
  else if c = 34 then (match quoteP [] r with
   | none => none
   | some (t, q) => toks n (acc ++ [⟨2, t⟩]) q)
  else toks n (acc ++ [⟨1, (c :: r).takeWhile wordc⟩]) ((c :: r).dropWhile wordc)
def simpleW (o : Int) : Str := if o = 1 then [97, 108, 119, 97, 121, 115] else if o = 13 then [109, 101, 110, 116, 105, 111, 110] else if o = 14 then [114, 101, 112, 108, 121] else if o = 15 then [116, 104, 114, 101, 97, 100] else if o = 16 then [101, 100, 105, 116] else if o = 17 then [103, 111, 110, 101] else []
def fieldW (o : Int) : Str := if o = 5 then [107, 105, 110, 100] else if o = 6 then [102, 114, 111, 109] else if o = 7 then [114, 111, 111, 109] else if o = 8 then [116, 101, 120, 116] else if o = 9 then [119, 111, 114, 100] else if o = 10 then [108, 101, 118, 101, 108] else if o = 11 then [109, 101, 109, 98, 101, 114, 115] else if o = 12 then [116, 105, 109, 101] else []
def kindL : List Str := [[99, 114, 101, 97, 116, 101], [109, 101, 109, 98, 101, 114], [112, 111, 119, 101, 114], [114, 117, 108, 101, 115], [104, 105, 115, 116, 111, 114, 121], [97, 99, 99, 101, 115, 115], [110, 97, 109, 101], [114, 101, 116, 97, 105, 110], [112, 111, 108, 105, 99, 121], [99, 114, 121, 112, 116], [109, 101, 115, 115, 97, 103, 101], [114, 101, 97, 99, 116], [101, 100, 105, 116], [114, 101, 100, 97, 99, 116]]
def orW : Str := [111, 114]
def andW : Str := [97, 110, 100]
def notW : Str := [110, 111, 116]
def ruleW : Str := [114, 117, 108, 101]
def whenW : Str := [119, 104, 101, 110]
def doW : Str := [100, 111]
def sval (s : Str) : Int := match s with
 | 45 :: r => -(Ar.val10 r : Int)
 | s => (Ar.val10 s : Int)
def numP (s : Str) : Option Int := if -1000000000000 ≤ sval s ∧ sval s ≤ 1000000000000 ∧ Ar.itoa (sval s) = s then some (sval s) else none
def headIs (w : Str) : List Tk → Bool
 | [] => false
 | t :: _ => t.form == 1 && t.text == w
def takeF (f : Int) : List Tk → Option (Str × List Tk)
 | [] => none
 | t :: r => if t.form = f then some (t.text, r) else none
def joinL (read : List Tk → Option (Cn × List Tk)) (w : Str) : Nat → List Cn → List Tk → Option (List Cn × List Tk)
 | 0, _, _ => none
 | n + 1, acc, r => match read r with
  | none => none
  | some (c, q) => if headIs w q then joinL read w n (acc ++ [c]) q.tail else some (acc ++ [c], q)
def wrapC (op : Int) : List Cn → Cn
 | [c] => c
 | l => .mk op [] 0 l
def joinC (op : Int) (read : List Tk → Option (Cn × List Tk)) (w : Str) (r : List Tk) : Option (Cn × List Tk) := match joinL read w (r.length + 1) [] r with
 | none => none
 | some (l, q) => some (wrapC op l, q)
def idxOf (w : Str) (l : List Str) : Option Nat := l.findIdx? (· == w)
def fieldP (o : Int) (r : List Tk) : Option (Cn × List Tk) :=
 if o = 6 ∨ o = 7 ∨ o = 8 then (match takeF 2 r with
  | none => none
  | some (t, q) => some (.mk o t 0 [], q))
 else match takeF 1 r with
  | none => none
  | some (t, q) => if o = 9 then some (.mk o t 0 [], q) else if o = 5 then (match idxOf t kindL with
    | none => none
    | some k => some (.mk o [] (1 + k) [], q))
   else (match numP t with
    | none => none
    | some n => some (.mk o [] n [], q))
def findOp (w : Str) : Nat → Int → Option (Int × Bool)
 | 0, _ => none
 | n + 1, o => if simpleW o = w then some (o, true) else if fieldW o = w then some (o, false) else findOp w n (o + 1)
def oneP : Nat → Nat → List Tk → Option (Cn × List Tk)
 | 0, _, _ => none
 | _ + 1, _, [] => none
 | n + 1, o, t :: q =>
  if t.form = 3 then (if 100 ≤ o then none else match joinC 3 (fun r => joinC 2 (oneP n (o + 1)) andW r) orW q with
   | none => none
   | some (c, z) => (match takeF 4 z with
    | none => none
    | some (_, y) => some (c, y)))
  else if t.form ≠ 1 then none
  else if t.text = notW then (if 100 ≤ o then none else match oneP n (o + 1) q with
   | none => none
   | some (c, z) => some (.mk 4 [] 0 [c], z))
  else match findOp t.text 17 1 with
   | none => none
   | some (p, true) => some (.mk p [] 0 [], q)
   | some (p, false) => fieldP p q
def bothP (n o : Nat) (r : List Tk) : Option (Cn × List Tk) := joinC 2 (oneP n o) andW r
def condP (n o : Nat) (r : List Tk) : Option (Cn × List Tk) := joinC 3 (bothP n o) orW r
def moreP : Nat → List Str → List Tk → Option (List Str)
 | 0, _, _ => none
 | _ + 1, acc, [] => some acc
 | n + 1, acc, t :: r => if t.form = 5 then (match takeF 1 r with
   | none => none
   | some (a, q) => moreP n (acc ++ [a]) q)
  else none
def needP (w : Str) (r : List Tk) : Option (List Tk) := if headIs w r then some r.tail else none
def ruleP (L : List Tk) : Option Rl := match needP ruleW L with
 | none => none
 | some r1 => match takeF 1 r1 with
  | none => none
  | some (nm, r2) => match needP whenW r2 with
   | none => none
   | some r3 => match condP (L.length + 1) 0 r3 with
    | none => none
    | some (c, r4) => match needP doW r4 with
     | none => none
     | some r5 => match takeF 1 r5 with
      | none => none
      | some (a, r6) => match moreP (L.length + 1) [a] r6 with
       | none => none
       | some l => some ⟨nm, c, l⟩
def lineP (s : Str) : Option Rl := match toks (s.length + 1) [] s with
 | none => none
 | some L => ruleP L
theorem takeF_of {f : Int} {r q : List Tk} {t : Str} (h : takeF f r = some (t, q)) : r = ⟨f, t⟩ :: q := by
 cases r with
 | nil => cases h
 | cons a r =>
  rw [takeF] at h;split at h
  ·rename_i e;injection h with h;injection h with h1 h2;subst h1 h2 e;rfl
  ·cases h
theorem DP {w : Str} {r : List Tk} (h : headIs w r = true) : r = ⟨1, w⟩ :: r.tail := by
 cases r with
 | nil => cases h
 | cons a r =>
  rw [headIs, Bool.and_eq_true, beq_iff_eq, beq_iff_eq] at h;obtain ⟨f, t⟩ := a;obtain ⟨rfl, rfl⟩ := h;rfl
def Shrinks (read : List Tk → Option (Cn × List Tk)) : Prop := ∀ r c q, read r = some (c, q) → ∃ p, r = p ++ q ∧ p ≠ []
theorem Dq {read : List Tk → Option (Cn × List Tk)} (hs : Shrinks read) (w : Str) : ∀ (n : Nat) (acc : List Cn) (r : List Tk) (l : List Cn) (q : List Tk), joinL read w n acc r = some (l, q) → ∃ p, r = p ++ q ∧ p ≠ []
 | 0, _, _, _, _, h => by cases h
 | n + 1, acc, r, l, q, h => by
  rw [joinL] at h
  cases hr : read r with
  | none => rw [hr] at h; cases h
  | some cq =>
   obtain ⟨c, z⟩ := cq;obtain ⟨p, rfl, hp⟩ := hs r c z hr;rw [hr] at h;simp only at h;split at h
   ·rename_i hh;obtain ⟨p2, e2, hp2⟩ := Dq hs w n _ _ l q h;have e3 := DP hh;refine ⟨p ++ (⟨1, w⟩ :: p2), ?_, by simp⟩;rw [e3, e2];simp
   ·injection h with h;injection h with h1 h2;subst h2;exact ⟨p, rfl, hp⟩
theorem Cq {op : Int} {read : List Tk → Option (Cn × List Tk)} (hs : Shrinks read) (w : Str) : Shrinks (joinC op read w) := fun r c q h => by
 unfold joinC at h
 cases hj : joinL read w (r.length + 1) [] r with
 | none => rw [hj] at h; cases h
 | some lq =>
  obtain ⟨l, z⟩ := lq;rw [hj] at h;injection h with h;injection h with h1 h2;subst h2;exact Dq hs w _ _ _ _ _ hj
theorem FJ (o : Int) : Shrinks (fieldP o) := fun r c q h => by
 unfold fieldP at h;split at h
 ·cases ht : takeF 2 r with
  | none => rw [ht] at h; cases h
  | some tq =>
   obtain ⟨t, z⟩ := tq;rw [ht] at h;injection h with h;injection h with h1 h2;subst h2;exact ⟨[⟨2, t⟩], takeF_of ht, by simp⟩
 ·cases ht : takeF 1 r with
  | none => rw [ht] at h; cases h
  | some tq =>
   obtain ⟨t, z⟩ := tq;rw [ht] at h;simp only at h;have hz : z = q := by
    split at h
    ·injection h with h; injection h
    ·split at h
     ·cases hi : idxOf t kindL with
      | none => rw [hi] at h; cases h
      | some k => rw [hi] at h; injection h with h; injection h
     ·cases hi : numP t with
      | none => rw [hi] at h; cases h
      | some k => rw [hi] at h; injection h with h; injection h
   subst hz;exact ⟨[⟨1, t⟩], takeF_of ht, by simp⟩
theorem oneP_of : ∀ (n o : Nat), Shrinks (oneP n o)
 | 0, _ => fun r c q h => by cases h
 | n + 1, o => fun r c q h => by
  cases r with
  | nil => cases h
  | cons t r =>
   rw [oneP] at h;split at h
   ·split at h
    ·cases h
    ·cases hj : joinC 3 (fun r => joinC 2 (oneP n (o + 1)) andW r) orW r with
     | none => rw [hj] at h; cases h
     | some cz =>
      obtain ⟨c', z⟩ := cz;rw [hj] at h;simp only at h;obtain ⟨p, e, hp⟩ := Cq (Cq (oneP_of n (o + 1)) andW) orW r c' z hj
      cases ht : takeF 4 z with
      | none => rw [ht] at h; cases h
      | some ty =>
       obtain ⟨t', y⟩ := ty;rw [ht] at h;injection h with h;injection h with h1 h2;subst h2;refine ⟨t :: p ++ [⟨4, t'⟩], ?_, by simp⟩;rw [e, takeF_of ht];simp
   ·split at h
    ·cases h
    ·split at h
     ·split at h
      ·cases h
      ·cases hj : oneP n (o + 1) r with
       | none => rw [hj] at h; cases h
       | some cz =>
        obtain ⟨c', z⟩ := cz;rw [hj] at h;injection h with h;injection h with h1 h2;subst h2;obtain ⟨p, e, hp⟩ := oneP_of n (o + 1) r c' z hj;exact ⟨t :: p, by rw [e]; rfl, by simp⟩
     ·cases hf : findOp t.text 17 1 with
      | none => rw [hf] at h; cases h
      | some pb =>
       obtain ⟨p, b⟩ := pb;rw [hf] at h
       cases b with
       | true =>
        injection h with h;injection h with h1 h2;subst h2;exact ⟨[t], rfl, by simp⟩
       | false =>
        obtain ⟨p', e, hp⟩ := FJ p r c q h;exact ⟨t :: p', by rw [e]; rfl, by simp⟩
theorem bothP_of (n o : Nat) : Shrinks (bothP n o) := Cq (oneP_of n o) andW
theorem condP_of (n o : Nat) : Shrinks (condP n o) := Cq (bothP_of n o) orW
end Pr
namespace Go.Proofs.YtchkiegehejfmaaGreatDoor
open Go.RowKit Go.Lib
theorem u8_ne {c d : UInt8} {n : Int} (hn : (d.toNat : Int) = n) (h : c ≠ d) : ((c.toNat : Int) == n) = false := by
 rw [beq_eq_false_iff_ne, ← hn];intro e;exact h (UInt8.toNat_inj.1 (by omega))
theorem GJ (c : UInt8) (w : World) : Calls Tryz.prog 108 #[.int .u8 (c.toNat : Int)] w fun e w' => e = .returned (.int .i64 (Pr.markOf c)) ∧ w = w' := by
 by_cases h1 : c = 40
 ·subst h1;go_enter Tryz.func108, Tryz.ntmps108;go_wp2_with fail;go_ret;exact ⟨rfl, rfl⟩
 by_cases h2 : c = 41
 ·subst h2;go_enter Tryz.func108, Tryz.ntmps108;go_wp2_with fail;go_ret;exact ⟨rfl, rfl⟩
 by_cases h3 : c = 44
 ·subst h3;go_enter Tryz.func108, Tryz.ntmps108;go_wp2_with fail;go_ret;exact ⟨rfl, rfl⟩
 have hm : Pr.markOf c = 0 := by unfold Pr.markOf; rw [if_neg h1, if_neg h2, if_neg h3]
 have e1 := u8_ne (n := 40) rfl h1;have e2 := u8_ne (n := 41) rfl h2;have e3 := u8_ne (n := 44) rfl h3;rw [hm];generalize (c.toNat : Int) = n at *;clear h1 h2 h3 hm;go_enter Tryz.func108, Tryz.ntmps108;go_wp2_with fail;go_ret;exact ⟨rfl, rfl⟩
theorem CP (o : Int) (h1 : 1 ≤ o) (h2 : o ≤ 17) (w : World) : Calls Tryz.prog 76 #[.int .i64 o] w fun e w' => e = .returned (.string (bstr (Pr.simpleW o))) ∧ w = w' := by
 obtain h | h | h | h | h | h | h | h | h | h | h | h | h | h | h | h | h : o = 1 ∨ o = 2 ∨ o = 3 ∨ o = 4 ∨ o = 5 ∨ o = 6 ∨ o = 7 ∨ o = 8 ∨ o = 9 ∨ o = 10 ∨ o = 11 ∨ o = 12 ∨ o = 13 ∨ o = 14 ∨ o = 15 ∨ o = 16 ∨ o = 17 := by omega
 all_goals
  subst h;go_enter Tryz.func76, Tryz.ntmps76;go_wp2_with fail;go_ret;exact ⟨rfl, rfl⟩
theorem A6 (o : Int) (h1 : 1 ≤ o) (h2 : o ≤ 17) (w : World) : Calls Tryz.prog 73 #[.int .i64 o] w fun e w' => e = .returned (.string (bstr (Pr.fieldW o))) ∧ w = w' := by
 obtain h | h | h | h | h | h | h | h | h | h | h | h | h | h | h | h | h : o = 1 ∨ o = 2 ∨ o = 3 ∨ o = 4 ∨ o = 5 ∨ o = 6 ∨ o = 7 ∨ o = 8 ∨ o = 9 ∨ o = 10 ∨ o = 11 ∨ o = 12 ∨ o = 13 ∨ o = 14 ∨ o = 15 ∨ o = 16 ∨ o = 17 := by omega
 all_goals
  subst h;go_enter Tryz.func73, Tryz.ntmps73;go_wp2_with fail;go_ret;exact ⟨rfl, rfl⟩
theorem Bv (w : World) : Calls Tryz.prog 72 #[] w fun e w' => (∃ g, e = .returned (.slice (some ⟨g, 0, none⟩) 14 14) ∧ w.heap.size ≤ g ∧ Rd w' (some ⟨g, 0, none⟩) 14 (strL Pr.kindL)) ∧ Below w.heap.size w w' := by
 go_enter Tryz.func72, Tryz.ntmps72;go_wp2_with fail;go_ret;exact ⟨⟨w.heap.size, rfl, Nat.le_refl _, Rd.of_blk (vs := strL Pr.kindL) (Blk.new w 9 (strL Pr.kindL).toArray)⟩, (Below.refl _ w).alloc (Nat.le_refl _) _⟩
end Go.Proofs.YtchkiegehejfmaaGreatDoor
