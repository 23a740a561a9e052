/- Byte slices that the call itself makes. -/
import Derived.Test.YtejoionamkmeeaaW7
import Derived.Laws.MakeOwn
import Derived.Maps.AppendAt
import Derived.OwnWalk
namespace Go.Proofs.Ytejoionamkmeeaa
open Go.RowKit

theorem Try.info5 : (Try.prog.info? 5).map (fun i => (i.zero, i.size, i.bytes)) = some (some (.int .u8 0), 1, 1) := by kernel_rfl
theorem block_lt {w : World} {a : Addr} {v : Value} (h : w.cell? a = some v) : a.block < w.heap.size := block_lt_of_cell h
theorem Bs.below {w w' : World} {A : Option Addr} {n : Nat} {bs : List UInt8} (h : Bs w A n bs) (hb : Below w.heap.size w w') : Bs w' A n bs :=
  ⟨h.1, fun j hj => by
    obtain ⟨b, off, c, e1, e2, e3⟩ := h.2 j hj
    exact ⟨b, off, c, e1, e2, (hb.cell (block_lt e3)).trans e3⟩⟩
theorem own_slice {w : World} {base n : Nat} {e : TypeId} {v : Value} {xs : List Value} (h : w.ownsRow base e 1 v n xs) : ∃ A cap, v = .slice A n cap ∧ (∀ g, v.ownBlock = some g → base ≤ g) := by
  rcases h.2 with ⟨rfl, rfl⟩ | ⟨g, cap, cur, rfl, hg, _⟩
  · exact ⟨_, _, rfl, by simp [Value.ownBlock]⟩
  · exact ⟨_, _, rfl, by intro k hk; simp [Value.ownBlock] at hk; omega⟩
theorem own_bs {w : World} {base n cap : Nat} {e : TypeId} {A : Option Addr} {xs : List UInt8} (h : w.ownsRow base e 1 (.slice A n cap) n (cellsL xs)) : Bs w A n xs := by
  have hl : xs.length = n := by have := h.1; simpa [cellsL] using this
  refine ⟨hl, fun j hj => ?_⟩
  rcases h.2 with ⟨_, h0⟩ | ⟨g, cap', cur, hv, hg, _⟩
  · omega
  · injection hv with e1 e2 e3
    subst e1
    have hj' : j < xs.length := by omega
    refine ⟨g, 0, xs[j], rfl, List.getElem?_eq_getElem hj', ?_⟩
    rw [Nat.zero_add, h.cellAt j (by omega)]
    simp [cellsL, hj']
theorem one_cells (bs : List UInt8) : ∀ u ∈ cellsL bs, u.oneCell' = true := by
  intro u hu
  obtain ⟨c, _, rfl⟩ := List.mem_map.1 hu
  rfl
theorem Bs.at_ {w : World} {ad : Addr} {n : Nat} {bs : List UInt8} (h : Bs w (some ad) n bs) : ∀ j u, (cellsL bs)[j]? = some u → w.cell? (ad.add j) = some u := by
  intro j u hu
  have hj : j < bs.length := by
    rcases Nat.lt_or_ge j bs.length with h1 | h1
    · exact h1
    · rw [List.getElem?_eq_none (by simpa [cellsL] using h1)] at hu; cases hu
  obtain ⟨b, off, c, e1, e2, e3⟩ := h.2 j (by rw [← h.1]; exact hj)
  injection e1 with e1
  subst e1
  rw [show (⟨b, off, none⟩ : Addr).add j = ⟨b, off + j, none⟩ from Addr.add_mid b off j, e3]
  have : (cellsL bs)[j]? = some (Value.int .u8 (c.toNat : Int)) := by
    unfold cellsL
    rw [List.getElem?_map, e2]
    rfl
  rw [← hu, this]
/-- 'append(own, x...)' of bytes, x nil or not. -/
theorem wpList_append_bs {P : Program} {w : World} {ops : Array Oper} {rest : List Oper} {o : Oper} {a : Act} {Q : Exit → Act → World → Prop} (hgd : o.guard = none) (s x : Operand) (t e : TypeId)
    (ho : o.op = .call { callee := .builtin .append, args := #[s, x], argTypes := #[t, t] })
    (i : TypeInfo) (ht : P.underlying t = some (.slice e)) (hi : P.info? e = some i) (hz : i.zero = some (.int .u8 0)) (hsize : i.size = 1) (hby : i.bytes = 1)
    (base : Nat) (v : Value) (n : Nat) (xs : List UInt8) (hs : a.eval s = v) (hown : w.ownsRow base e 1 v n (cellsL xs))
    (A : Option Addr) (m c : Nat) (ys : List UInt8) (hx : a.eval x = .slice A m c) (hr : Bs w A m ys) (N : Nat) (hN : n + m = N) (hnm : N ≤ 1000000) (hbase : base ≤ w.heap.size)
    (h : ∀ A' cap' w', w'.ownsRow base e 1 (.slice A' N cap') N (cellsL (xs ++ ys)) → w.grownBy w' v.ownBlock → wpList P ops Q rest (a.put o.dst (.slice A' N cap')) w') : wpList P ops Q (o :: rest) a w := by
  subst hN
  have key : ∃ v' w', (Builtin.append_ #[t, t] o.type #[v, .slice A m c]).run P w = .ok v' w' ∧ w'.ownsRow base e 1 v' (n + m) (cellsL (xs ++ ys)) ∧ w.grownBy w' v.ownBlock := by
    have hm := hr.1
    have e : cellsL (xs ++ ys) = cellsL xs ++ cellsL ys := List.map_append
    cases A with
    | none =>
      have h0 : m = 0 := by
        rcases Nat.eq_zero_or_pos m with h0 | h0
        · exact h0
        · obtain ⟨b, off, c, e1, _⟩ := hr.2 0 h0
          cases e1
      subst h0
      obtain rfl : ys = [] := List.eq_nil_of_length_eq_zero hm
      refine ⟨v, w, ?_, by rw [e]; simpa [cellsL] using hown, World.grownBy.refl w _⟩
      rcases hown.2 with ⟨rfl, hn⟩ | ⟨g, cap, cur, rfl, _, _, hnc, _⟩
      · simp [Builtin.append_, run_underlying ht, sizeOf, typeInfo, hi, Builtin.lenOf, Builtin.firstCells]
      · simp [Builtin.append_, run_underlying ht, sizeOf, typeInfo, hi, Builtin.lenOf, Builtin.firstCells, hnc, storeCells]
    | some ad =>
      obtain ⟨v', w', hrun, h2, h3, _, _⟩ := run_append_own_at (P := P) w base t o.type _ i _ 1 1 ht hi hz hsize hby rfl (by decide) v n (cellsL xs) hown ad m c (cellsL ys) (by rw [Nat.mul_one, ← hm]; unfold cellsL; rw [List.length_map]) hr.at_ (one_cells ys) (by unfold maxLen; omega) (by omega) hbase
      exact ⟨v', w', hrun, by rw [e]; exact h2, h3⟩
  obtain ⟨v', w', hrun, h2, h3⟩ := key
  obtain ⟨A', cap', rfl, _⟩ := own_slice h2
  refine wpList_plain hgd fun K hK => ?_
  unfold Oper.wp execOp
  simp only [ho, resolve, invoke, builtin, Sem.run_bind, Sem.run_pure, Result.andThen_ok, List.map_toArray, List.map_cons, List.map_nil, hs, hx, hrun]
  exact hK _ _ (h A' cap' w' h2 h3)
end Go.Proofs.Ytejoionamkmeeaa
