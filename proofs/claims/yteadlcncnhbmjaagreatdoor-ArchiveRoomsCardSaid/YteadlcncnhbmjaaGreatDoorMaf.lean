/- The texts Kit, Ad of this proof, one behind the other. -/
import Derived.Below
import Derived.Deep.Draws
import Derived.Deep.MidRow
import Derived.Deep.RegionWith
import Derived.Laws.BytesArg
import Derived.Laws.CopyOwn
import Derived.Laws.MakeOwn
import Derived.Laws.OwnMore
import Derived.Laws.Rows
import Derived.Laws.Tables
import Derived.Lib.Hide
import Derived.Lib.SlBytesConst
import Derived.Lib.SmallJoins
import Derived.Maps.AppendAt
import Derived.Outline
import Derived.OwnWalk
import Derived.ProofKit
import Derived.Sort.OwnSorted
import Derived.WalkKit
import Derived.Test.YteadlcncnhbmjaaGreatDoorMac
import Derived.Test.YteadlcncnhbmjaaGreatDoorMab
set_option linter.unusedSimpArgs false
set_option maxHeartbeats 16000000
set_option maxRecDepth 100000
/- The text Kit. -/
namespace Go.Proofs.YteadlcncnhbmjaaGreatDoor
open Go.RowKit
set_option linter.unusedVariables false
set_option linter.unusedSimpArgs false
def Blk (w : World) (g : Nat) (t : TypeId) (cs : Array Value) : Prop := w.heap[g]? = some (.cells cs t (0, 0))
section
variable {w w' : World} {g : Nat} {t : TypeId} {cs : Array Value}
theorem Blk.lt (h : Blk w g t cs) : g < w.heap.size := by
 rcases Nat.lt_or_ge g w.heap.size with hlt | hge
 ·exact hlt
 ·unfold Blk at h; rw [Array.getElem?_eq_none hge] at h; cases h
theorem Blk.cell (h : Blk w g t cs) (i : Nat) : w.cell? ⟨g, i, none⟩ = cs[i]? := cell_of_row w g i cs t (0, 0) h
theorem Blk.frozen (h : Blk w g t cs) (i : Nat) : w.frozen? ⟨g, i, none⟩ = false := by
 unfold Blk at h
 simp [World.frozen?, h]
theorem Blk.new (w : World) (t : TypeId) (cs : Array Value) : Blk (w.alloc (.cells cs t)) w.heap.size t cs := heap_alloc_new w _
theorem Blk.drew (h : Blk w g t cs) : Blk w.drew g t cs := h
theorem Blk.drewN (h : Blk w g t cs) (n : Nat) : Blk (w.drewN n) g t cs := h
theorem Blk.alloc (h : Blk w g t cs) (o : Obj) : Blk (w.alloc o) g t cs := (Below.heap_alloc w o g h.lt).trans h
theorem Blk.set_ (h : Blk w g t cs) (i : Nat) (u : Value) : Blk (w.setCell ⟨g, i, none⟩ u) g t (cs.setIfInBounds i u) := by
 unfold Blk at h ⊢
 simp [World.setCell, Array.getElem?_modify, h]
theorem Blk.far (h : Blk w g t cs) {p : Addr} (hp : g ≠ p.block) (u : Value) : Blk (w.setCell p u) g t cs := (Below.heap_setCell w p u g hp).trans h
theorem Blk.below {B : Nat} (h : Blk w g t cs) (hb : Below B w w') (hg : g < B) : Blk w' g t cs := (hb.block g hg).trans h
theorem Blk.grown {row : Option Nat} (h : Blk w g t cs) (hb : w.grownBy w' row) (hg : some g ≠ row) : Blk w' g t cs := (hb.block g h.lt hg).trans h
end
def Rd (w : World) (A : Option Addr) (n : Nat) (vs : List Value) : Prop :=
 vs.length = n ∧ ∀ j v, vs[j]? = some v → ∃ b off, A = some ⟨b, off, none⟩ ∧ w.cell? ⟨b, off + j, none⟩ = some v
def bytesL (bs : List UInt8) : List Value := bs.map fun c => Value.int .u8 (c.toNat : Int)
def bytesV (bs : List UInt8) : Array Value := (bytesL bs).toArray
def strL (ss : List (List UInt8)) : List Value := ss.map encStr
def bstr (l : List UInt8) : ByteArray := ⟨l.toArray⟩
theorem bstr_list (l : List UInt8) : (bstr l).data.toList = l := rfl
theorem bstr_of (s : ByteArray) : bstr s.data.toList = s := by cases s; rfl
theorem str_size (s : ByteArray) : s.size = s.data.toList.length := by rw [Array.length_toList]; rfl
theorem bstr_size (l : List UInt8) : (bstr l).size = l.length := by rw [str_size, bstr_list]
theorem at_str (s : ByteArray) (k : Nat) (h : k < s.size) : s.data.toList[k]? = some s[k] := by
 rw [List.getElem?_eq_getElem (by rw [← str_size]; exact h)]; rfl
theorem str_eq {a b : ByteArray} (h : a.data.toList = b.data.toList) : a = b := by
 cases a; cases b; congr 1; exact Array.toList_inj.1 h
section
variable {w w' : World} {A : Option Addr} {n : Nat} {vs : List Value}
theorem Rd.nil (w : World) (A : Option Addr) : Rd w A 0 [] := ⟨rfl, fun j v h => by simp at h⟩
theorem block_lt {w : World} {a : Addr} {v : Value} (h : w.cell? a = some v) : a.block < w.heap.size := block_lt_of_cell h
theorem Rd.at_ (h : Rd w A n vs) {k : Nat} (hk : k < n) : ∃ b off v, A = some ⟨b, off, none⟩ ∧ vs[k]? = some v ∧ w.cell? ⟨b, off + k, none⟩ = some v := by
 have hl : k < vs.length := by rw [h.1]; exact hk
 obtain ⟨b, off, e, hc⟩ := h.2 k vs[k] (List.getElem?_eq_getElem hl)
 exact ⟨b, off, vs[k], e, List.getElem?_eq_getElem hl, hc⟩
theorem Rd.below (h : Rd w A n vs) (hb : Below w.heap.size w w') : Rd w' A n vs :=
 ⟨h.1, fun j v hj => by
  obtain ⟨b, off, e1, e2⟩ := h.2 j v hj
  exact ⟨b, off, e1, (hb.cell (block_lt e2)).trans e2⟩⟩
theorem Rd.drew (h : Rd w A n vs) : Rd w.drew A n vs := h
theorem Rd.drewN (h : Rd w A n vs) (k : Nat) : Rd (w.drewN k) A n vs := h
theorem Rd.block (h : Rd w A n vs) {ad : Addr} (hA : A = some ad) (hn : 0 < n) : ad.block < w.heap.size := by
 obtain ⟨b, off, v, e, _, hc⟩ := h.at_ hn
 rw [e] at hA
 injection hA with hA
 subst hA
 exact block_lt hc
theorem Rd.add {ad : Addr} (h : Rd w (some ad) n vs) : ∀ j u, vs[j]? = some u → w.cell? (ad.add j) = some u := by
 intro j u hu
 obtain ⟨b, off, e1, e2⟩ := h.2 j u hu
 injection e1 with e1
 subst e1
 rw [show (⟨b, off, none⟩ : Addr).add j = ⟨b, off + j, none⟩ from Addr.add_mid b off j, e2]
theorem Rd.none_ (h : Rd w none n vs) : n = 0 ∧ vs = [] := by
 have : vs = [] := by
  cases vs with
  | nil => rfl
  | cons v vs => obtain ⟨_, _, e, _⟩ := h.2 0 v rfl; cases e
 exact ⟨by rw [← h.1, this]; rfl, this⟩
theorem Rd.of_blk {g : Nat} {t : TypeId} (h : Blk w g t vs.toArray) : Rd w (some ⟨g, 0, none⟩) vs.length vs :=
 ⟨rfl, fun j v hj => ⟨g, 0, rfl, by rw [h.cell, Nat.zero_add, List.getElem?_toArray]; exact hj⟩⟩
theorem Rd.of_mark {g : Nat} {t : TypeId} {fr : Nat × Nat} (hg : g = w.heap.size) : Rd (w.alloc (.cells vs.toArray t fr)) (some ⟨g, 0, none⟩) vs.length vs :=
 ⟨rfl, fun j v hj => ⟨g, 0, rfl, by rw [Nat.zero_add, Joins.cell_alloc_mark_at w _ t fr g j hg, List.getElem?_toArray]; exact hj⟩⟩
theorem Rd.of_own {base cap : Nat} {e : TypeId} (h : w.ownsRow base e 1 (.slice A n cap) n vs) : Rd w A n vs := by
 have hl : vs.length = n := by have := h.1; simpa using this
 refine ⟨hl, fun j v hj => ?_⟩
 have hj' : j < vs.length := (List.getElem?_eq_some_iff.1 hj).1
 rcases h.2 with ⟨_, h0⟩ | ⟨g, cap', cur, hv, hg, _⟩
 ·omega
 ·injection hv with e1 e2 e3
  subst e1
  refine ⟨g, 0, rfl, ?_⟩
  rw [Nat.zero_add, h.cellAt j (by omega)]
  exact hj
theorem own_slice {base n : Nat} {e : TypeId} {v : Value} {xs : List Value} (h : w.ownsRow base e 1 v n xs) : ∃ A cap, v = .slice A n cap := by
 rcases h.2 with ⟨rfl, rfl⟩ | ⟨g, cap, cur, rfl, hg, _⟩
 ·exact ⟨_, _, rfl⟩
 ·exact ⟨_, _, rfl⟩
end
theorem own_nil (w : World) (base : Nat) (e : TypeId) : w.ownsRow base e 1 (.slice none 0 0) 0 [] := World.ownsRow_nil w base e 1
theorem bytesL_append (a b : List UInt8) : bytesL (a ++ b) = bytesL a ++ bytesL b := List.map_append
theorem strL_append (a b : List (List UInt8)) : strL (a ++ b) = strL a ++ strL b := List.map_append
theorem strL_set (a : List (List UInt8)) (j : Nat) (y : List UInt8) : (strL a).set j (.string (bstr y)) = strL (a.set j y) := by unfold strL; rw [List.map_set]; rfl
theorem strL_get (a : List (List UInt8)) (j : Nat) (y : List UInt8) (h : a[j]? = some y) : (strL a)[j]? = some (.string (bstr y)) := by unfold strL; rw [List.getElem?_map, h]; rfl
theorem one_bytes (bs : List UInt8) : ∀ u ∈ bytesL bs, u.oneCell' = true := by
 intro u hu
 obtain ⟨c, _, rfl⟩ := List.mem_map.1 hu
 rfl
theorem one_strs (ss : List (List UInt8)) : ∀ u ∈ strL ss, u.oneCell' = true := by
 intro u hu
 obtain ⟨c, _, rfl⟩ := List.mem_map.1 hu
 rfl
theorem take_snoc {α : Type} {l : List α} {k : Nat} {c : α} (h : l[k]? = some c) : l.take (k + 1) = l.take k ++ [c] := by
 obtain ⟨h1, h2⟩ := List.getElem?_eq_some_iff.1 h
 rw [List.take_succ_eq_append_getElem h1, h2]
section
variable {P : Program} {ops : Array Oper} {rest : List Oper} {o : Oper} {a : Act} {w : World} {Q : Exit → Act → World → Prop}
theorem wpList_store_row' (hgd : o.guard = none) (ty : TypeId) (x y : Operand) (ho : o.op = .store ty x y)
  (g : Nat) (cells : Array Value) (hx : a.eval x = .pointer (some ⟨g, 0, none⟩)) (hy : a.eval y = .agg cells)
  (t : TypeId) (old : Array Value) (hg : Blk w g t old) (hi : (P.info? ty).map (·.size) = some cells.size)
  (hold : old.size = cells.size) (h1 : cells.all (·.oneCell') = true)
  (h : ∀ w', Blk w' g t cells → w'.heap.size = w.heap.size → (∀ B, B ≤ g → Below B w w') → wpList P ops Q rest (a.put o.dst undef) w') : wpList P ops Q (o :: rest) a w :=
 wpList_store_row hgd ty x y ho g cells hx hy t old hg hi hold h1
  (h _ (setRow_heap _ _ _ _ _ _ hg) (setRow_size _ _ _) fun _ hB => below_setRow (Below.refl _ _) hB _)
theorem run_append_rd (t ty e : TypeId) (i : TypeInfo) (z : Value) (bytes : Nat) (ht : P.underlying t = some (.slice e)) (hi : P.info? e = some i) (hz : i.zero = some z) (hsize : i.size = 1) (hby : i.bytes = bytes) (hz1 : z.cells.size = 1)
  (base : Nat) (v : Value) (n : Nat) (xs : List Value) (hown : w.ownsRow base e 1 v n xs)
  (A : Option Addr) (m c : Nat) (ys : List Value) (hr : Rd w A m ys) (h1 : ∀ u ∈ ys, u.oneCell' = true) (h63 : n + m ≤ maxLen) (hb : (n + m) * bytes ≤ 140737488355328) (hbase : base ≤ w.heap.size) :
  ∃ v' w', (Builtin.append_ #[t, t] ty #[v, .slice A m c]).run P w = .ok v' w' ∧ w'.ownsRow base e 1 v' (n + m) (xs ++ ys) ∧ w.grownBy w' v.ownBlock := by
 cases A with
 | none =>
  obtain ⟨rfl, rfl⟩ := hr.none_
  refine ⟨v, w, ?_, by simpa using hown, World.grownBy.refl w _⟩
  rcases hown.2 with ⟨rfl, hn⟩ | ⟨g, cap, cur, rfl, _, _, hnc, _⟩
  ·simp [Builtin.append_, run_underlying ht, sizeOf, typeInfo, hi, Builtin.lenOf, Builtin.firstCells]
  ·simp [Builtin.append_, run_underlying ht, sizeOf, typeInfo, hi, Builtin.lenOf, Builtin.firstCells, hnc, storeCells]
 | some ad =>
  obtain ⟨v', w', hrun, h2, h3, _, _⟩ := run_append_own_at (P := P) w base t ty e i z 1 bytes ht hi hz hsize hby hz1 (by decide) v n xs hown ad m c ys (by rw [Nat.mul_one]; exact hr.1) hr.add h1 h63 hb hbase
  exact ⟨v', w', hrun, h2, h3⟩
theorem wpList_append_rd (hgd : o.guard = none) (s x : Operand) (t e : TypeId)
  (ho : o.op = .call { callee := .builtin .append, args := #[s, x], argTypes := #[t, t] })
  (i : TypeInfo) (z : Value) (bytes : Nat) (ht : P.underlying t = some (.slice e)) (hi : P.info? e = some i) (hz : i.zero = some z) (hsize : i.size = 1) (hby : i.bytes = bytes) (hz1 : z.cells.size = 1)
  (base : Nat) (v : Value) (n : Nat) (xs : List Value) (hs : a.eval s = v) (hown : w.ownsRow base e 1 v n xs)
  (A : Option Addr) (m c : Nat) (ys : List Value) (hx : a.eval x = .slice A m c) (hr : Rd w A m ys) (h1 : ∀ u ∈ ys, u.oneCell' = true) (N : Nat) (hN : n + m = N) (h63 : N ≤ maxLen) (hb : N * bytes ≤ 140737488355328) (hbase : base ≤ w.heap.size)
  (h : ∀ A' cap' w', w'.ownsRow base e 1 (.slice A' N cap') N (xs ++ ys) → w.grownBy w' v.ownBlock → wpList P ops Q rest (a.put o.dst (.slice A' N cap')) w') : wpList P ops Q (o :: rest) a w := by
 subst hN
 obtain ⟨v', w', hrun, h2, h3⟩ := run_append_rd (P := P) (w := w) t o.type e i z bytes ht hi hz hsize hby hz1 base v n xs hown A m c ys hr h1 h63 hb hbase
 obtain ⟨A', cap', rfl⟩ := own_slice h2
 refine wpList_plain hgd fun K hK => ?_
 unfold Oper.wp execOp
 simp only [ho, resolve, invoke, builtin, Sem.run_bind, Sem.run_pure, Result.andThen_ok, List.map_toArray, List.map_cons, List.map_nil, hs, hx, hrun]
 exact hK _ _ (h A' cap' w' h2 h3)
end
theorem strOf (bs : List UInt8) : strOfNums (bs.map fun c => (c.toNat : Int)) = bstr bs := by
 unfold strOfNums
 have e : (bs.map fun c => (c.toNat : Int)).map (fun n => UInt8.ofNat n.toNat) = bs := by
  rw [List.map_map]
  exact (List.map_congr_left fun c _ => by simp).trans (List.map_id bs)
 rw [e]
 rfl
theorem run_conv_bs {P : Program} (w : World) (src dst e : TypeId) (hs : P.underlying src = some (.slice e)) (he : P.underlying e = some (.int .u8)) (hd : P.underlying dst = some .string)
  (A : Option Addr) (n cap : Nat) (bs : List UInt8) (h : Rd w A n (bytesL bs)) : (convert src dst (.slice A n cap)).run P w = .ok (.string (bstr bs)) w := by
 have hl : bs.length = n := by have := h.1; simpa [bytesL] using this
 rcases Nat.eq_zero_or_pos n with rfl | hn
 ·obtain rfl : bs = [] := List.eq_nil_of_length_eq_zero hl
  cases A with
  | none => rw [run_convert_bytes_nil w src e hs he 0 cap dst hd]; rfl
  | some a =>
   rw [run_convert_bytes_string w src dst e _ 0 cap hs he hd, run_bytesToString w a 0 cap [] (by simp [loadCells, loadCellsFrom])]
   rfl
 ·obtain ⟨b, off, v, rfl, _, _⟩ := h.at_ hn
  rw [run_convert_bytes_arg w src e hs he b off n cap (bs.map fun c => (c.toNat : Int)) (by simpa using hl) (fun i hi => by
   have hi' : i < bs.length := by omega
   obtain ⟨b', off', e1, e3⟩ := h.2 i (.int .u8 (bs[i].toNat : Int)) (by simp [bytesL, hi'])
   injection e1 with e1
   injection e1 with e1 e4
   subst e1 e4
   rw [e3]
   simp [List.getD, hi']) dst hd, strOf]
theorem ret_int {k : IntKind} {a b : Int} (h : a = b) : Ending.returned (.int k a) = .returned (.int k b) := by rw [h]
theorem ret_str {a b : ByteArray} (h : a = b) : Ending.returned (.string a) = .returned (.string b) := by rw [h]
theorem ret_bool {a b : Bool} (h : a = b) : Ending.returned (.bool a) = .returned (.bool b) := by rw [h]
end Go.Proofs.YteadlcncnhbmjaaGreatDoor
/- The text Ad. -/
namespace Ar
inductive Ed where
 | keep (n : Nat) | del (l : Str) | add (l : Str)
def Ed.enc : Ed → Str
 | .keep n => 61 :: 32 :: itoa n
 | .del l => 45 :: 32 :: l
 | .add l => 43 :: 32 :: l
def flush (n : Nat) : List Ed := if n = 0 then [] else [.keep n]
def dl : List Str → List Str → Nat → List Ed
 | [], [], n => flush n
 | a :: x, [], n => flush n ++ .del a :: dl x [] 0
 | [], b :: y, n => flush n ++ .add b :: dl [] y 0
 | a :: x, b :: y, n => if a = b then dl x y (n + 1) else
  if dis x (b :: y) + 1 = dis (a :: x) (b :: y) then flush n ++ .del a :: dl x (b :: y) 0 else flush n ++ .add b :: dl (a :: x) y 0
termination_by x y _ => x.length + y.length
theorem dl_end (n : Nat) : dl [] [] n = flush n := by rw [dl]
theorem dl_eq (a : Str) (x y : List Str) (n : Nat) : dl (a :: x) (a :: y) n = dl x y (n + 1) := by rw [dl, if_pos rfl]
theorem dl_del0 (a : Str) (x : List Str) (n : Nat) : dl (a :: x) [] n = flush n ++ .del a :: dl x [] 0 := by rw [dl]
theorem dl_add0 (b : Str) (y : List Str) (n : Nat) : dl [] (b :: y) n = flush n ++ .add b :: dl [] y 0 := by rw [dl]
theorem dl_del {a b : Str} (x y : List Str) (n : Nat) (h : a ≠ b) (h2 : dis x (b :: y) + 1 = dis (a :: x) (b :: y)) : dl (a :: x) (b :: y) n = flush n ++ .del a :: dl x (b :: y) 0 := by rw [dl, if_neg h, if_pos h2]
theorem dl_add {a b : Str} (x y : List Str) (n : Nat) (h : a ≠ b) (h2 : ¬ dis x (b :: y) + 1 = dis (a :: x) (b :: y)) : dl (a :: x) (b :: y) n = flush n ++ .add b :: dl (a :: x) y 0 := by rw [dl, if_neg h, if_neg h2]
def diff (x y : List Str) : List Ed := dl x y 0
def Ed.chg : Ed → Nat
 | .keep _ => 0
 | _ => 1
def chgs (d : List Ed) : Nat := (d.map Ed.chg).sum
theorem chgs_app (a b : List Ed) : chgs (a ++ b) = chgs a + chgs b := by unfold chgs; simp
theorem chgs_flush (n : Nat) : chgs (flush n) = 0 := by unfold flush; split <;> rfl
theorem chgs_dl : ∀ (k : Nat) (x y : List Str) (n : Nat), x.length + y.length ≤ k → chgs (dl x y n) = dis x y
 | k, [], [], n, _ => by rw [dl_end, chgs_flush, dis_nil]; rfl
 | 0, a :: x, _, n, h => by simp at h
 | 0, [], b :: y, n, h => by simp at h
 | k + 1, a :: x, [], n, h => by
  have ih := chgs_dl k x [] 0 (by simp at h ⊢; omega)
  rw [dl_del0, chgs_app, chgs_flush, show chgs (.del a :: dl x [] 0) = 1 + chgs (dl x [] 0) from by simp [chgs, Ed.chg], ih, dis_nil2, dis_nil2]
  simp; omega
 | k + 1, [], b :: y, n, h => by
  have ih := chgs_dl k [] y 0 (by simp at h ⊢; omega)
  rw [dl_add0, chgs_app, chgs_flush, show chgs (.add b :: dl [] y 0) = 1 + chgs (dl [] y 0) from by simp [chgs, Ed.chg], ih, dis_nil, dis_nil]
  simp; omega
 | k + 1, a :: x, b :: y, n, h => by
  simp only [List.length_cons] at h
  by_cases e : a = b
  ·subst e
   rw [dl_eq, chgs_dl k x y (n + 1) (by omega), dis_eq]
  ·have hd := dis_ne x y e
   by_cases h2 : dis x (b :: y) + 1 = dis (a :: x) (b :: y)
   ·rw [dl_del x y n e h2, chgs_app, chgs_flush, show chgs (.del a :: dl x (b :: y) 0) = 1 + chgs (dl x (b :: y) 0) from by simp [chgs, Ed.chg], chgs_dl k x (b :: y) 0 (by simp only [List.length_cons]; omega)]
    omega
   ·rw [dl_add x y n e h2, chgs_app, chgs_flush, show chgs (.add b :: dl (a :: x) y 0) = 1 + chgs (dl (a :: x) y 0) from by simp [chgs, Ed.chg], chgs_dl k (a :: x) y 0 (by simp only [List.length_cons]; omega)]
    omega
theorem chgs_diff (x y : List Str) : chgs (diff x y) = dis x y := chgs_dl _ x y 0 (Nat.le_refl _)
def pnum (s : Str) : Option Int := match Go.Lib.atoiAll s with
 | .ok n => if itoa n = s then some n else none
 | _ => none
theorem pnum_itoa (n : Int) (h : inInt n) : pnum (itoa n) = some n := by unfold pnum; rw [atoi_itoa n h]; simp
theorem pnum_some {s : Str} {n : Int} (h : pnum s = some n) : s = itoa n := by
 unfold pnum at h
 split at h
 ·split at h
  ·injection h with h; subst h; symm; assumption
  ·cases h
 ·cases h
def elem (s : Str) : Option (UInt8 × Str) := match s with
 | c :: d :: r => if d = 32 then some (c, r) else none
 | _ => none
def astep (p : List Str × List Str) (s : Str) : Option (List Str × List Str) := match elem s with
 | none => none
 | some (c, r) =>
  if c = 61 then match pnum r with
   | some n => if 1 ≤ n ∧ n ≤ p.1.length then some (p.1.drop n.toNat, p.2 ++ p.1.take n.toNat) else none
   | none => none
  else if c = 45 then match p.1 with
   | l :: rest => if l = r then some (rest, p.2) else none
   | [] => none
  else if c = 43 then if (10 : UInt8) ∈ r then none else some (p.1, p.2 ++ [r])
  else none
def aall : List Str × List Str → List Str → Option (List Str × List Str)
 | p, [] => some p
 | p, s :: d => match astep p s with
  | some q => aall q d
  | none => none
def apply (a : Str) (d : List Str) : Option Str := match aall (lines a, []) d with
 | some (l, o) => if l = [] ∧ o ≠ [] then some (unlines o) else none
 | none => none
theorem aall_app (d e : List Str) : ∀ p, aall p (d ++ e) = (aall p d).bind fun q => aall q e := by
 induction d with
 | nil => intro p; rfl
 | cons s d ih =>
  intro p
  show (match astep p s with | some q => aall q (d ++ e) | none => none) = (match astep p s with | some q => aall q d | none => none).bind _
  cases astep p s with
  | none => rfl
  | some q => exact ih q
theorem astep_keep (x o : List Str) (n : Nat) (h1 : 1 ≤ n) (h2 : n ≤ x.length) (h3 : n < 9223372036854775808) : astep (x, o) (Ed.keep n).enc = some (x.drop n, o ++ x.take n) := by
 unfold astep
 have he : elem (Ed.keep n).enc = some (61, itoa n) := rfl
 rw [he]
 simp only [if_true, pnum_itoa (n : Int) (by unfold inInt; omega)]
 rw [if_pos ⟨by omega, by omega⟩]
 rfl
theorem astep_del (l : Str) (x o : List Str) : astep (l :: x, o) (Ed.del l).enc = some (x, o) := by
 unfold astep
 have he : elem (Ed.del l).enc = some (45, l) := rfl
 rw [he]
 simp only [if_true]
 rw [if_neg (by decide)]
theorem astep_add (l : Str) (x o : List Str) (h : (10 : UInt8) ∉ l) : astep (x, o) (Ed.add l).enc = some (x, o ++ [l]) := by
 unfold astep
 have he : elem (Ed.add l).enc = some (43, l) := rfl
 rw [he]
 simp only [if_true]
 rw [if_neg (by decide), if_neg (by decide), if_neg h]
theorem aall_flush (n : Nat) (p x o : List Str) (hp : p.length = n) (h3 : n < 9223372036854775808) : aall (p ++ x, o) ((flush n).map Ed.enc) = some (x, o ++ p) := by
 unfold flush
 split
 ·have : p = [] := List.eq_nil_of_length_eq_zero (by omega)
  subst this
  simp [aall]
 ·show (match astep (p ++ x, o) (Ed.keep n).enc with | some q => aall q [] | none => none) = _
  rw [astep_keep _ _ _ (by omega) (by rw [List.length_append]; omega) h3]
  simp [aall, ← hp]
theorem aall_dl : ∀ (k : Nat) (x y p o : List Str) (n : Nat), x.length + y.length ≤ k → p.length = n → n + x.length < 9223372036854775808 → (∀ l ∈ y, (10 : UInt8) ∉ l) →
  aall (p ++ x, o) ((dl x y n).map Ed.enc) = some ([], o ++ p ++ y)
 | k, [], [], p, o, n, _, hp, h3, _ => by rw [dl_end, aall_flush n p [] o hp (by omega)]; simp
 | 0, a :: x, _, p, o, n, h, _, _, _ => by simp at h
 | 0, [], b :: y, p, o, n, h, _, _, _ => by simp at h
 | k + 1, a :: x, [], p, o, n, h, hp, h3, hy => by
  have ih := aall_dl k x [] [] (o ++ p) 0 (by simp at h ⊢; omega) rfl (by simp at h3 ⊢; omega) hy
  rw [dl_del0, List.map_append, aall_app, aall_flush n p (a :: x) o hp (by omega)]
  show (match astep (a :: x, o ++ p) (Ed.del a).enc with | some q => aall q ((dl x [] 0).map Ed.enc) | none => none) = _
  rw [astep_del]
  rw [List.nil_append] at ih
  simp only [ih]
  simp
 | k + 1, [], b :: y, p, o, n, h, hp, h3, hy => by
  have ih := aall_dl k [] y [] (o ++ p ++ [b]) 0 (by simp at h ⊢; omega) rfl (by simp) (fun l hl => hy l (by simp [hl]))
  rw [dl_add0, List.map_append, aall_app, aall_flush n p [] o hp (by omega)]
  show (match astep ([], o ++ p) (Ed.add b).enc with | some q => aall q ((dl [] y 0).map Ed.enc) | none => none) = _
  rw [astep_add _ _ _ (hy b (by simp))]
  rw [List.nil_append] at ih
  simp only [ih]
  simp
 | k + 1, a :: x, b :: y, p, o, n, h, hp, h3, hy => by
  simp only [List.length_cons] at h h3
  by_cases e : a = b
  ·subst e
   have ih := aall_dl k x y (p ++ [a]) o (n + 1) (by omega) (by simp [hp]) (by omega) (fun l hl => hy l (by simp [hl]))
   rw [dl_eq]
   simpa using ih
  ·by_cases h2 : dis x (b :: y) + 1 = dis (a :: x) (b :: y)
   ·have ih := aall_dl k x (b :: y) [] (o ++ p) 0 (by simp only [List.length_cons]; omega) rfl (by omega) hy
    rw [dl_del x y n e h2, List.map_append, aall_app, aall_flush n p (a :: x) o hp (by omega)]
    show (match astep (a :: x, o ++ p) (Ed.del a).enc with | some q => aall q ((dl x (b :: y) 0).map Ed.enc) | none => none) = _
    rw [astep_del]
    rw [List.nil_append] at ih
    simp only [ih]
    simp
   ·have ih := aall_dl k (a :: x) y [] (o ++ p ++ [b]) 0 (by simp only [List.length_cons]; omega) rfl (by simp only [List.length_cons]; omega) (fun l hl => hy l (by simp [hl]))
    rw [dl_add x y n e h2, List.map_append, aall_app, aall_flush n p (a :: x) o hp (by omega)]
    show (match astep (a :: x, o ++ p) (Ed.add b).enc with | some q => aall q ((dl (a :: x) y 0).map Ed.enc) | none => none) = _
    rw [astep_add _ _ _ (hy b (by simp))]
    rw [List.nil_append] at ih
    simp only [ih]
    simp
theorem apply_diff (a b : Str) (h : (lines a).length < 9223372036854775808) : apply a ((diff (lines a) (lines b)).map Ed.enc) = some b := by
 have h1 := aall_dl _ (lines a) (lines b) [] [] 0 (Nat.le_refl _) rfl (by omega) (lines_noLF b)
 rw [List.nil_append] at h1
 unfold apply diff
 rw [h1]
 simp [lines_ne b, unlines_lines]
def chgS (s : Str) : Nat := match s with
 | [] => 0
 | c :: _ => if c = 61 then 0 else 1
def chgsS (d : List Str) : Nat := (d.map chgS).sum
theorem chgS_enc (e : Ed) : chgS e.enc = e.chg := by cases e <;> rfl
theorem chgsS_enc (d : List Ed) : chgsS (d.map Ed.enc) = chgs d := by
 unfold chgsS chgs
 rw [List.map_map]
 congr 1
 exact List.map_congr_left fun e _ => chgS_enc e
theorem astep_dis {x o : List Str} {s : Str} {q : List Str × List Str} (h : astep (x, o) s = some q) : ∃ t, q.2 = o ++ t ∧ ∀ y, dis x (t ++ y) ≤ chgS s + dis q.1 y := by
 unfold astep at h
 cases he : elem s with
 | none => rw [he] at h; cases h
 | some p =>
  obtain ⟨c, r⟩ := p
  rw [he] at h
  simp only at h
  have hs : ∃ r', s = c :: 32 :: r' ∧ r = r' := by
   unfold elem at he
   split at he
   ·split at he
    ·rename_i hd
     injection he with he; injection he with h1 h2
     subst h1 h2 hd
     exact ⟨_, rfl, rfl⟩
    ·cases he
   ·cases he
  obtain ⟨r', rfl, rfl⟩ := hs
  by_cases h1 : c = 61
  ·subst h1
   rw [if_pos rfl] at h
   split at h
   ·split at h
    ·rename_i n _ hn
     injection h with h
     subst h
     refine ⟨x.take n.toNat, rfl, fun y => ?_⟩
     show dis x _ ≤ 0 + dis (x.drop n.toNat) y
     have := dis_keep (x.take n.toNat) (x.drop n.toNat) y
     rw [List.take_append_drop] at this
     omega
    ·cases h
   ·cases h
  ·rw [if_neg h1] at h
   have hc : chgS (c :: 32 :: r) = 1 := if_neg h1
   by_cases h2 : c = 45
   ·rw [if_pos h2] at h
    cases x with
    | nil => cases h
    | cons l rest =>
     simp only at h
     split at h
     ·injection h with h
      subst h
      refine ⟨[], by simp, fun y => ?_⟩
      have := dis_del rest y l
      rw [List.nil_append, hc]
      simp only
      omega
     ·cases h
   ·rw [if_neg h2] at h
    split at h
    ·split at h
     ·cases h
     ·injection h with h
      subst h
      refine ⟨[r], rfl, fun y => ?_⟩
      have := dis_add x y r
      rw [hc]
      simp only [List.singleton_append]
      omega
    ·cases h
theorem aall_dis : ∀ (d : List Str) (x o : List Str) (q : List Str × List Str), aall (x, o) d = some q → ∃ t, q.2 = o ++ t ∧ ∀ y, dis x (t ++ y) ≤ chgsS d + dis q.1 y
 | [], x, o, q, h => by
  injection h with h
  subst h
  exact ⟨[], by simp, fun y => by simp [chgsS]⟩
 | s :: d, x, o, q, h => by
  unfold aall at h
  cases hs : astep (x, o) s with
  | none => rw [hs] at h; cases h
  | some p =>
   rw [hs] at h
   obtain ⟨t1, e1, h1⟩ := astep_dis hs
   obtain ⟨px, po⟩ := p
   obtain ⟨t2, e2, h2⟩ := aall_dis d px po q h
   simp only at e1
   subst e1
   refine ⟨t1 ++ t2, by rw [e2, List.append_assoc], fun y => ?_⟩
   have h3 := h1 (t2 ++ y)
   have h4 := h2 y
   rw [List.append_assoc]
   have : chgsS (s :: d) = chgS s + chgsS d := by simp [chgsS]
   simp only at h3
   omega
theorem astep_noLF {x o : List Str} {s : Str} {q : List Str × List Str} (h : astep (x, o) s = some q) (hx : ∀ l ∈ x, (10 : UInt8) ∉ l) (ho : ∀ l ∈ o, (10 : UInt8) ∉ l) : (∀ l ∈ q.1, (10 : UInt8) ∉ l) ∧ ∀ l ∈ q.2, (10 : UInt8) ∉ l := by
 unfold astep at h
 split at h
 ·cases h
 ·split at h
  ·split at h
   ·split at h
    ·injection h with h
     subst h
     refine ⟨fun l hl => hx l (List.mem_of_mem_drop hl), fun l hl => ?_⟩
     rcases List.mem_append.1 hl with hl | hl
     ·exact ho l hl
     ·exact hx l (List.mem_of_mem_take hl)
    ·cases h
   ·cases h
  ·split at h
   ·split at h
    ·rename_i l rest hx'
     split at h
     ·injection h with h
      subst h
      have hx'' : x = l :: rest := hx'
      subst hx''
      exact ⟨fun m hm => hx m (by simp [hm]), ho⟩
     ·cases h
    ·cases h
   ·split at h
    ·split at h
     ·cases h
     ·rename_i hr
      injection h with h
      subst h
      refine ⟨hx, fun l hl => ?_⟩
      rcases List.mem_append.1 hl with hl | hl
      ·exact ho l hl
      ·rw [List.mem_singleton.1 hl]; exact hr
    ·cases h
theorem aall_noLF : ∀ (d : List Str) (x o : List Str) (q : List Str × List Str), aall (x, o) d = some q → (∀ l ∈ x, (10 : UInt8) ∉ l) → (∀ l ∈ o, (10 : UInt8) ∉ l) → ∀ l ∈ q.2, (10 : UInt8) ∉ l
 | [], x, o, q, h, _, ho => by injection h with h; subst h; exact ho
 | s :: d, x, o, q, h, hx, ho => by
  unfold aall at h
  cases hs : astep (x, o) s with
  | none => rw [hs] at h; cases h
  | some p =>
   rw [hs] at h
   obtain ⟨px, po⟩ := p
   have := astep_noLF hs hx ho
   exact aall_noLF d px po q h this.1 this.2
theorem least {a t : Str} {d : List Str} (h : apply a d = some t) : chgs (diff (lines a) (lines t)) ≤ chgsS d := by
 unfold apply at h
 split at h
 ·rename_i l o hl
  split at h
  ·rename_i hc
   injection h with h
   subst h
   obtain ⟨rfl, hne⟩ := hc
   obtain ⟨t2, e2, h2⟩ := aall_dis d (lines a) [] _ hl
   simp only [List.nil_append] at e2
   subst e2
   have h3 := h2 []
   rw [List.append_nil, dis_nil] at h3
   have h4 := aall_noLF d (lines a) [] _ hl (lines_noLF a) (by simp)
   rw [lines_unlines o hne h4, chgs_diff]
   simpa using h3
  ·cases h
 ·cases h
end Ar
