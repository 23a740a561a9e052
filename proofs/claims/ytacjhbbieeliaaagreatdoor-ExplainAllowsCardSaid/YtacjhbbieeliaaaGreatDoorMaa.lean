/- The texts Kit, Aq of this proof, one behind the other. -/
import Derived.Below
import Derived.Deep.Draws
import Derived.Deep.MidRow
import Derived.Deep.RegionWith
import Derived.Laws.BytesArg
import Derived.Laws.CopyOwn
import Derived.Laws.MakeOwn
import Derived.Laws.OwnMore
import Derived.Laws.Rows
import Derived.Laws.Tables
import Derived.Lib.Hide
import Derived.Lib.SlBytesConst
import Derived.Lib.SmallJoins
import Derived.Maps.AppendAt
import Derived.Outline
import Derived.OwnWalk
import Derived.ProofKit
import Derived.Sort.OwnSorted
import Derived.WalkKit
set_option linter.unusedSimpArgs false
set_option maxHeartbeats 16000000
set_option maxRecDepth 100000
/- The text Kit. -/
namespace Go.Proofs.YtacjhbbieeliaaaGreatDoor
open Go.RowKit
set_option linter.unusedVariables false
set_option linter.unusedSimpArgs false
def Blk (w : World) (g : Nat) (t : TypeId) (cs : Array Value) : Prop := w.heap[g]? = some (.cells cs t (0, 0))
section
variable {w w' : World} {g : Nat} {t : TypeId} {cs : Array Value}
theorem Blk.lt (h : Blk w g t cs) : g < w.heap.size := by
 rcases Nat.lt_or_ge g w.heap.size with hlt | hge
 ·exact hlt
 ·unfold Blk at h; rw [Array.getElem?_eq_none hge] at h; cases h
theorem Blk.cell (h : Blk w g t cs) (i : Nat) : w.cell? ⟨g, i, none⟩ = cs[i]? := cell_of_row w g i cs t (0, 0) h
theorem Blk.frozen (h : Blk w g t cs) (i : Nat) : w.frozen? ⟨g, i, none⟩ = false := by
 unfold Blk at h
 simp [World.frozen?, h]
theorem Blk.new (w : World) (t : TypeId) (cs : Array Value) : Blk (w.alloc (.cells cs t)) w.heap.size t cs := heap_alloc_new w _
theorem Blk.drew (h : Blk w g t cs) : Blk w.drew g t cs := h
theorem Blk.drewN (h : Blk w g t cs) (n : Nat) : Blk (w.drewN n) g t cs := h
theorem Blk.alloc (h : Blk w g t cs) (o : Obj) : Blk (w.alloc o) g t cs := (Below.heap_alloc w o g h.lt).trans h
theorem Blk.set_ (h : Blk w g t cs) (i : Nat) (u : Value) : Blk (w.setCell ⟨g, i, none⟩ u) g t (cs.setIfInBounds i u) := by
 unfold Blk at h ⊢
 simp [World.setCell, Array.getElem?_modify, h]
theorem Blk.far (h : Blk w g t cs) {p : Addr} (hp : g ≠ p.block) (u : Value) : Blk (w.setCell p u) g t cs := (Below.heap_setCell w p u g hp).trans h
theorem Blk.below {B : Nat} (h : Blk w g t cs) (hb : Below B w w') (hg : g < B) : Blk w' g t cs := (hb.block g hg).trans h
theorem Blk.grown {row : Option Nat} (h : Blk w g t cs) (hb : w.grownBy w' row) (hg : some g ≠ row) : Blk w' g t cs := (hb.block g h.lt hg).trans h
end
def Rd (w : World) (A : Option Addr) (n : Nat) (vs : List Value) : Prop :=
 vs.length = n ∧ ∀ j v, vs[j]? = some v → ∃ b off, A = some ⟨b, off, none⟩ ∧ w.cell? ⟨b, off + j, none⟩ = some v
def bytesL (bs : List UInt8) : List Value := bs.map fun c => Value.int .u8 (c.toNat : Int)
def bytesV (bs : List UInt8) : Array Value := (bytesL bs).toArray
def strL (ss : List (List UInt8)) : List Value := ss.map encStr
def bstr (l : List UInt8) : ByteArray := ⟨l.toArray⟩
theorem bstr_list (l : List UInt8) : (bstr l).data.toList = l := rfl
theorem bstr_of (s : ByteArray) : bstr s.data.toList = s := by cases s; rfl
theorem str_size (s : ByteArray) : s.size = s.data.toList.length := by rw [Array.length_toList]; rfl
theorem bstr_size (l : List UInt8) : (bstr l).size = l.length := by rw [str_size, bstr_list]
theorem at_str (s : ByteArray) (k : Nat) (h : k < s.size) : s.data.toList[k]? = some s[k] := by
 rw [List.getElem?_eq_getElem (by rw [← str_size]; exact h)]; rfl
theorem str_eq {a b : ByteArray} (h : a.data.toList = b.data.toList) : a = b := by
 cases a; cases b; congr 1; exact Array.toList_inj.1 h
section
variable {w w' : World} {A : Option Addr} {n : Nat} {vs : List Value}
theorem Rd.nil (w : World) (A : Option Addr) : Rd w A 0 [] := ⟨rfl, fun j v h => by simp at h⟩
theorem block_lt {w : World} {a : Addr} {v : Value} (h : w.cell? a = some v) : a.block < w.heap.size := block_lt_of_cell h
theorem Rd.at_ (h : Rd w A n vs) {k : Nat} (hk : k < n) : ∃ b off v, A = some ⟨b, off, none⟩ ∧ vs[k]? = some v ∧ w.cell? ⟨b, off + k, none⟩ = some v := by
 have hl : k < vs.length := by rw [h.1]; exact hk
 obtain ⟨b, off, e, hc⟩ := h.2 k vs[k] (List.getElem?_eq_getElem hl)
 exact ⟨b, off, vs[k], e, List.getElem?_eq_getElem hl, hc⟩
theorem Rd.below (h : Rd w A n vs) (hb : Below w.heap.size w w') : Rd w' A n vs :=
 ⟨h.1, fun j v hj => by
  obtain ⟨b, off, e1, e2⟩ := h.2 j v hj
  exact ⟨b, off, e1, (hb.cell (block_lt e2)).trans e2⟩⟩
theorem Rd.drew (h : Rd w A n vs) : Rd w.drew A n vs := h
theorem Rd.drewN (h : Rd w A n vs) (k : Nat) : Rd (w.drewN k) A n vs := h
theorem Rd.block (h : Rd w A n vs) {ad : Addr} (hA : A = some ad) (hn : 0 < n) : ad.block < w.heap.size := by
 obtain ⟨b, off, v, e, _, hc⟩ := h.at_ hn
 rw [e] at hA
 injection hA with hA
 subst hA
 exact block_lt hc
theorem Rd.add {ad : Addr} (h : Rd w (some ad) n vs) : ∀ j u, vs[j]? = some u → w.cell? (ad.add j) = some u := by
 intro j u hu
 obtain ⟨b, off, e1, e2⟩ := h.2 j u hu
 injection e1 with e1
 subst e1
 rw [show (⟨b, off, none⟩ : Addr).add j = ⟨b, off + j, none⟩ from Addr.add_mid b off j, e2]
theorem Rd.none_ (h : Rd w none n vs) : n = 0 ∧ vs = [] := by
 have : vs = [] := by
  cases vs with
  | nil => rfl
  | cons v vs => obtain ⟨_, _, e, _⟩ := h.2 0 v rfl; cases e
 exact ⟨by rw [← h.1, this]; rfl, this⟩
theorem Rd.of_blk {g : Nat} {t : TypeId} (h : Blk w g t vs.toArray) : Rd w (some ⟨g, 0, none⟩) vs.length vs :=
 ⟨rfl, fun j v hj => ⟨g, 0, rfl, by rw [h.cell, Nat.zero_add, List.getElem?_toArray]; exact hj⟩⟩
theorem Rd.of_mark {g : Nat} {t : TypeId} {fr : Nat × Nat} (hg : g = w.heap.size) : Rd (w.alloc (.cells vs.toArray t fr)) (some ⟨g, 0, none⟩) vs.length vs :=
 ⟨rfl, fun j v hj => ⟨g, 0, rfl, by rw [Nat.zero_add, Joins.cell_alloc_mark_at w _ t fr g j hg, List.getElem?_toArray]; exact hj⟩⟩
theorem Rd.of_own {base cap : Nat} {e : TypeId} (h : w.ownsRow base e 1 (.slice A n cap) n vs) : Rd w A n vs := by
 have hl : vs.length = n := by have := h.1; simpa using this
 refine ⟨hl, fun j v hj => ?_⟩
 have hj' : j < vs.length := (List.getElem?_eq_some_iff.1 hj).1
 rcases h.2 with ⟨_, h0⟩ | ⟨g, cap', cur, hv, hg, _⟩
 ·omega
 ·injection hv with e1 e2 e3
  subst e1
  refine ⟨g, 0, rfl, ?_⟩
  rw [Nat.zero_add, h.cellAt j (by omega)]
  exact hj
theorem own_slice {base n : Nat} {e : TypeId} {v : Value} {xs : List Value} (h : w.ownsRow base e 1 v n xs) : ∃ A cap, v = .slice A n cap := by
 rcases h.2 with ⟨rfl, rfl⟩ | ⟨g, cap, cur, rfl, hg, _⟩
 ·exact ⟨_, _, rfl⟩
 ·exact ⟨_, _, rfl⟩
end
theorem own_nil (w : World) (base : Nat) (e : TypeId) : w.ownsRow base e 1 (.slice none 0 0) 0 [] := World.ownsRow_nil w base e 1
theorem bytesL_append (a b : List UInt8) : bytesL (a ++ b) = bytesL a ++ bytesL b := List.map_append
theorem strL_append (a b : List (List UInt8)) : strL (a ++ b) = strL a ++ strL b := List.map_append
theorem strL_set (a : List (List UInt8)) (j : Nat) (y : List UInt8) : (strL a).set j (.string (bstr y)) = strL (a.set j y) := by unfold strL; rw [List.map_set]; rfl
theorem strL_get (a : List (List UInt8)) (j : Nat) (y : List UInt8) (h : a[j]? = some y) : (strL a)[j]? = some (.string (bstr y)) := by unfold strL; rw [List.getElem?_map, h]; rfl
theorem one_bytes (bs : List UInt8) : ∀ u ∈ bytesL bs, u.oneCell' = true := by
 intro u hu
 obtain ⟨c, _, rfl⟩ := List.mem_map.1 hu
 rfl
theorem one_strs (ss : List (List UInt8)) : ∀ u ∈ strL ss, u.oneCell' = true := by
 intro u hu
 obtain ⟨c, _, rfl⟩ := List.mem_map.1 hu
 rfl
theorem take_snoc {α : Type} {l : List α} {k : Nat} {c : α} (h : l[k]? = some c) : l.take (k + 1) = l.take k ++ [c] := by
 obtain ⟨h1, h2⟩ := List.getElem?_eq_some_iff.1 h
 rw [List.take_succ_eq_append_getElem h1, h2]
section
variable {P : Program} {ops : Array Oper} {rest : List Oper} {o : Oper} {a : Act} {w : World} {Q : Exit → Act → World → Prop}
theorem wpList_store_row' (hgd : o.guard = none) (ty : TypeId) (x y : Operand) (ho : o.op = .store ty x y)
  (g : Nat) (cells : Array Value) (hx : a.eval x = .pointer (some ⟨g, 0, none⟩)) (hy : a.eval y = .agg cells)
  (t : TypeId) (old : Array Value) (hg : Blk w g t old) (hi : (P.info? ty).map (·.size) = some cells.size)
  (hold : old.size = cells.size) (h1 : cells.all (·.oneCell') = true)
  (h : ∀ w', Blk w' g t cells → w'.heap.size = w.heap.size → (∀ B, B ≤ g → Below B w w') → wpList P ops Q rest (a.put o.dst undef) w') : wpList P ops Q (o :: rest) a w :=
 wpList_store_row hgd ty x y ho g cells hx hy t old hg hi hold h1
  (h _ (setRow_heap _ _ _ _ _ _ hg) (setRow_size _ _ _) fun _ hB => below_setRow (Below.refl _ _) hB _)
theorem run_append_rd (t ty e : TypeId) (i : TypeInfo) (z : Value) (bytes : Nat) (ht : P.underlying t = some (.slice e)) (hi : P.info? e = some i) (hz : i.zero = some z) (hsize : i.size = 1) (hby : i.bytes = bytes) (hz1 : z.cells.size = 1)
  (base : Nat) (v : Value) (n : Nat) (xs : List Value) (hown : w.ownsRow base e 1 v n xs)
  (A : Option Addr) (m c : Nat) (ys : List Value) (hr : Rd w A m ys) (h1 : ∀ u ∈ ys, u.oneCell' = true) (h63 : n + m ≤ maxLen) (hb : (n + m) * bytes ≤ 140737488355328) (hbase : base ≤ w.heap.size) :
  ∃ v' w', (Builtin.append_ #[t, t] ty #[v, .slice A m c]).run P w = .ok v' w' ∧ w'.ownsRow base e 1 v' (n + m) (xs ++ ys) ∧ w.grownBy w' v.ownBlock := by
 cases A with
 | none =>
  obtain ⟨rfl, rfl⟩ := hr.none_
  refine ⟨v, w, ?_, by simpa using hown, World.grownBy.refl w _⟩
  rcases hown.2 with ⟨rfl, hn⟩ | ⟨g, cap, cur, rfl, _, _, hnc, _⟩
  ·simp [Builtin.append_, run_underlying ht, sizeOf, typeInfo, hi, Builtin.lenOf, Builtin.firstCells]
  ·simp [Builtin.append_, run_underlying ht, sizeOf, typeInfo, hi, Builtin.lenOf, Builtin.firstCells, hnc, storeCells]
 | some ad =>
  obtain ⟨v', w', hrun, h2, h3, _, _⟩ := run_append_own_at (P := P) w base t ty e i z 1 bytes ht hi hz hsize hby hz1 (by decide) v n xs hown ad m c ys (by rw [Nat.mul_one]; exact hr.1) hr.add h1 h63 hb hbase
  exact ⟨v', w', hrun, h2, h3⟩
theorem wpList_append_rd (hgd : o.guard = none) (s x : Operand) (t e : TypeId)
  (ho : o.op = .call { callee := .builtin .append, args := #[s, x], argTypes := #[t, t] })
  (i : TypeInfo) (z : Value) (bytes : Nat) (ht : P.underlying t = some (.slice e)) (hi : P.info? e = some i) (hz : i.zero = some z) (hsize : i.size = 1) (hby : i.bytes = bytes) (hz1 : z.cells.size = 1)
  (base : Nat) (v : Value) (n : Nat) (xs : List Value) (hs : a.eval s = v) (hown : w.ownsRow base e 1 v n xs)
  (A : Option Addr) (m c : Nat) (ys : List Value) (hx : a.eval x = .slice A m c) (hr : Rd w A m ys) (h1 : ∀ u ∈ ys, u.oneCell' = true) (N : Nat) (hN : n + m = N) (h63 : N ≤ maxLen) (hb : N * bytes ≤ 140737488355328) (hbase : base ≤ w.heap.size)
  (h : ∀ A' cap' w', w'.ownsRow base e 1 (.slice A' N cap') N (xs ++ ys) → w.grownBy w' v.ownBlock → wpList P ops Q rest (a.put o.dst (.slice A' N cap')) w') : wpList P ops Q (o :: rest) a w := by
 subst hN
 obtain ⟨v', w', hrun, h2, h3⟩ := run_append_rd (P := P) (w := w) t o.type e i z bytes ht hi hz hsize hby hz1 base v n xs hown A m c ys hr h1 h63 hb hbase
 obtain ⟨A', cap', rfl⟩ := own_slice h2
 refine wpList_plain hgd fun K hK => ?_
 unfold Oper.wp execOp
 simp only [ho, resolve, invoke, builtin, Sem.run_bind, Sem.run_pure, Result.andThen_ok, List.map_toArray, List.map_cons, List.map_nil, hs, hx, hrun]
 exact hK _ _ (h A' cap' w' h2 h3)
end
theorem strOf (bs : List UInt8) : strOfNums (bs.map fun c => (c.toNat : Int)) = bstr bs := by
 unfold strOfNums
 have e : (bs.map fun c => (c.toNat : Int)).map (fun n => UInt8.ofNat n.toNat) = bs := by
  rw [List.map_map]
  exact (List.map_congr_left fun c _ => by simp).trans (List.map_id bs)
 rw [e]
 rfl
theorem run_conv_bs {P : Program} (w : World) (src dst e : TypeId) (hs : P.underlying src = some (.slice e)) (he : P.underlying e = some (.int .u8)) (hd : P.underlying dst = some .string)
  (A : Option Addr) (n cap : Nat) (bs : List UInt8) (h : Rd w A n (bytesL bs)) : (convert src dst (.slice A n cap)).run P w = .ok (.string (bstr bs)) w := by
 have hl : bs.length = n := by have := h.1; simpa [bytesL] using this
 rcases Nat.eq_zero_or_pos n with rfl | hn
 ·obtain rfl : bs = [] := List.eq_nil_of_length_eq_zero hl
  cases A with
  | none => rw [run_convert_bytes_nil w src e hs he 0 cap dst hd]; rfl
  | some a =>
   rw [run_convert_bytes_string w src dst e _ 0 cap hs he hd, run_bytesToString w a 0 cap [] (by simp [loadCells, loadCellsFrom])]
   rfl
 ·obtain ⟨b, off, v, rfl, _, _⟩ := h.at_ hn
  rw [run_convert_bytes_arg w src e hs he b off n cap (bs.map fun c => (c.toNat : Int)) (by simpa using hl) (fun i hi => by
   have hi' : i < bs.length := by omega
   obtain ⟨b', off', e1, e3⟩ := h.2 i (.int .u8 (bs[i].toNat : Int)) (by simp [bytesL, hi'])
   injection e1 with e1
   injection e1 with e1 e4
   subst e1 e4
   rw [e3]
   simp [List.getD, hi']) dst hd, strOf]
theorem ret_int {k : IntKind} {a b : Int} (h : a = b) : Ending.returned (.int k a) = .returned (.int k b) := by rw [h]
theorem ret_str {a b : ByteArray} (h : a = b) : Ending.returned (.string a) = .returned (.string b) := by rw [h]
theorem ret_bool {a b : Bool} (h : a = b) : Ending.returned (.bool a) = .returned (.bool b) := by rw [h]
theorem pk1 {α : Type} (l : List α) (i : Nat) (h : i < l.toArray.size) : l.toArray[i] = l[i]'(by simpa using h) := rfl
theorem pk2 {α : Type} (a : α) (l : List α) (h : 0 < (a :: l).length) : (a :: l)[0] = a := rfl
theorem pk3 {α : Type} (a : α) (l : List α) (i : Nat) (h : i + 1 < (a :: l).length) : (a :: l)[i + 1] = l[i]'(Nat.lt_of_succ_lt_succ h) := rfl
theorem pk4 {α : Type} (l : List α) (i : Nat) (a : α) : l.toArray.setIfInBounds i a = (l.set i a).toArray := List.setIfInBounds_toArray ..
theorem pk5 {α : Type} (a b : α) (l : List α) : (a :: l).set 0 b = b :: l := rfl
theorem pk6 {α : Type} (a b : α) (l : List α) (i : Nat) : (a :: l).set (i + 1) b = a :: l.set i b := rfl
end Go.Proofs.YtacjhbbieeliaaaGreatDoor
/- The text Aq. -/
namespace Ar
def plainB (c : UInt8) : Bool := decide (32 ≤ c.toNat ∧ c.toNat ≤ 126 ∧ c.toNat ≠ 34 ∧ c.toNat ≠ 92)
def hexd (n : Nat) : UInt8 := UInt8.ofNat (if n < 10 then 48 + n else 87 + n)
def esc (c : UInt8) : List UInt8 :=
 if c.toNat = 34 ∨ c.toNat = 92 then [92, c] else if c.toNat = 10 then [92, 110] else if plainB c then [c] else [92, 120, hexd (c.toNat / 16), hexd (c.toNat % 16)]
def quote (s : List UInt8) : List UInt8 := 34 :: (s.flatMap esc ++ [34])
def digv (c : UInt8) : Option Nat := if 48 ≤ c.toNat ∧ c.toNat ≤ 57 then some (c.toNat - 48) else if 97 ≤ c.toNat ∧ c.toNat ≤ 102 then some (c.toNat - 87) else none
def tok : List UInt8 → Option (UInt8 × Nat)
 | [] => none
 | c :: r => if plainB c then some (c, 1) else if c.toNat ≠ 92 then none else
  match r with
  | [] => none
  | d :: r2 => if d.toNat = 34 ∨ d.toNat = 92 then some (d, 2) else if d.toNat = 110 then some (10, 2) else if d.toNat ≠ 120 then none else
   match r2 with
   | h :: l :: _ =>
    match digv h, digv l with
    | some a, some b => if (32 ≤ 16 * a + b ∧ 16 * a + b ≤ 126) ∨ 16 * a + b = 10 then none else some (UInt8.ofNat (16 * a + b), 4)
    | _, _ => none
   | _ => none
def unqF : Nat → List UInt8 → Option (List UInt8 × List UInt8)
 | 0, _ => none
 | _ + 1, [] => none
 | n + 1, c :: r => if c.toNat = 34 then some ([], r) else
  match tok (c :: r) with
  | none => none
  | some (b, k) => (unqF n ((c :: r).drop k)).map fun p => (b :: p.1, p.2)
def unq (l : List UInt8) : Option (List UInt8 × List UInt8) := unqF (l.length + 1) l
def unquote (l : List UInt8) : Option (List UInt8 × List UInt8) := match l with
 | [] => none
 | c :: r => if c.toNat = 34 then unq r else none
theorem byte_ext {a b : UInt8} (h : a.toNat = b.toNat) : a = b := UInt8.toNat_inj.1 h
theorem plainB_iff {c : UInt8} : plainB c = true ↔ 32 ≤ c.toNat ∧ c.toNat ≤ 126 ∧ c.toNat ≠ 34 ∧ c.toNat ≠ 92 := by unfold plainB; exact decide_eq_true_iff
theorem tok_pos {l : List UInt8} {b : UInt8} {k : Nat} (h : tok l = some (b, k)) : 1 ≤ k ∧ k ≤ l.length := by
 unfold tok at h
 split at h
 ·cases h
 ·split at h
  ·injection h with h; injection h with h1 h2; subst h2; simp
  ·split at h
   ·cases h
   ·split at h
    ·cases h
    ·split at h
     ·injection h with h; injection h with h1 h2; subst h2; simp
     ·split at h
      ·injection h with h; injection h with h1 h2; subst h2; simp
      ·split at h
       ·cases h
       ·split at h
        ·split at h
         ·split at h
          ·cases h
          ·injection h with h; injection h with h1 h2; subst h2; simp
         ·cases h
        ·cases h
theorem unqF_enough : ∀ (n m : Nat) (l : List UInt8), l.length < n → l.length < m → unqF n l = unqF m l
 | 0, _, _, h, _ => by omega
 | _ + 1, 0, _, _, h => by omega
 | n + 1, m + 1, [], _, _ => rfl
 | n + 1, m + 1, c :: r, h1, h2 => by
  unfold unqF
  split
  ·rfl
  ·cases ht : tok (c :: r) with
   | none => rfl
   | some p =>
    obtain ⟨b, k⟩ := p
    have hk := tok_pos ht
    simp only [List.length_cons] at h1 h2 hk
    show (unqF n ((c :: r).drop k)).map _ = (unqF m ((c :: r).drop k)).map _
    rw [unqF_enough n m ((c :: r).drop k) (by simp only [List.length_drop, List.length_cons]; omega) (by simp only [List.length_drop, List.length_cons]; omega)]
theorem unq_nil : unq [] = none := rfl
theorem unq_end (r : List UInt8) (c : UInt8) (h : c.toNat = 34) : unq (c :: r) = some ([], r) := by
 unfold unq unqF
 rw [if_pos h]
theorem unq_bad (l : List UInt8) (h0 : ∀ c, l.head? = some c → c.toNat ≠ 34) (h : tok l = none) : unq l = none := by
 unfold unq
 cases l with
 | nil => rfl
 | cons c r =>
  unfold unqF
  rw [if_neg (h0 c rfl), h]
theorem unq_step (l : List UInt8) (b : UInt8) (k : Nat) (h0 : ∀ c, l.head? = some c → c.toNat ≠ 34) (h : tok l = some (b, k)) : unq l = (unq (l.drop k)).map fun p => (b :: p.1, p.2) := by
 have hk := tok_pos h
 unfold unq
 cases l with
 | nil => cases h
 | cons c r =>
  rw [unqF, if_neg (h0 c rfl), h]
  show (unqF (c :: r).length _).map _ = _
  rw [unqF_enough (c :: r).length (((c :: r).drop k).length + 1) _ (by simp only [List.length_drop]; omega) (by omega)]
theorem hexd_dig (n : Nat) (h : n < 16) : digv (hexd n) = some n := by
 unfold hexd digv
 by_cases h1 : n < 10
 ·rw [if_pos h1]
  have e : (UInt8.ofNat (48 + n)).toNat = 48 + n := by rw [UInt8.toNat_ofNat']; omega
  rw [e, if_pos (by omega)]
  congr 1
  omega
 ·rw [if_neg h1]
  have e : (UInt8.ofNat (87 + n)).toNat = 87 + n := by rw [UInt8.toNat_ofNat']; omega
  rw [e, if_neg (by omega), if_pos (by omega)]
  congr 1
  omega
theorem dig_hexd {c : UInt8} {n : Nat} (h : digv c = some n) : n < 16 ∧ c = hexd n := by
 unfold digv at h
 split at h
 ·injection h with h
  refine ⟨by omega, byte_ext ?_⟩
  unfold hexd
  rw [if_pos (by omega), UInt8.toNat_ofNat']
  omega
 ·split at h
  ·injection h with h
   refine ⟨by omega, byte_ext ?_⟩
   unfold hexd
   rw [if_neg (by omega), UInt8.toNat_ofNat']
   omega
  ·cases h
theorem tok_cons (c : UInt8) (r : List UInt8) : tok (c :: r) = if plainB c then some (c, 1) else if c.toNat ≠ 92 then none else
  match r with
  | [] => none
  | d :: r2 => if d.toNat = 34 ∨ d.toNat = 92 then some (d, 2) else if d.toNat = 110 then some (10, 2) else if d.toNat ≠ 120 then none else
   match r2 with
   | h :: l :: _ =>
    match digv h, digv l with
    | some a, some b => if (32 ≤ 16 * a + b ∧ 16 * a + b ≤ 126) ∨ 16 * a + b = 10 then none else some (UInt8.ofNat (16 * a + b), 4)
    | _, _ => none
   | _ => none := rfl
theorem tok_esc (c : UInt8) (r : List UInt8) : tok (esc c ++ r) = some (c, (esc c).length) := by
 have hc := c.toNat_lt
 unfold esc
 split
 ·rename_i h
  show tok (92 :: c :: r) = _
  rw [tok_cons]
  rw [if_neg (by decide), if_neg (by decide)]
  simp only
  rw [if_pos h]
  rfl
 ·split
  ·rename_i h1 h
   show tok (92 :: 110 :: r) = _
   rw [tok_cons]
   rw [if_neg (by decide), if_neg (by decide)]
   simp only
   rw [if_neg (by decide), if_pos (by decide)]
   have : c = 10 := byte_ext h
   subst this
   rfl
  ·split
   ·rename_i h
    show tok (c :: r) = _
    rw [tok_cons]
    rw [if_pos h]
    rfl
   ·rename_i h1 h2 h3
    show tok (92 :: 120 :: hexd (c.toNat / 16) :: hexd (c.toNat % 16) :: r) = _
    rw [tok_cons]
    rw [if_neg (by decide), if_neg (by decide)]
    simp only
    rw [if_neg (by decide), if_neg (by decide), if_neg (by decide), hexd_dig _ (by omega), hexd_dig _ (by omega)]
    have e : 16 * (c.toNat / 16) + c.toNat % 16 = c.toNat := by omega
    simp only [e]
    rw [if_neg]
    ·congr 2
     exact byte_ext (by rw [UInt8.toNat_ofNat']; omega)
    ·rintro (⟨h4, h5⟩ | h4)
     ·exact h3 (plainB_iff.2 ⟨h4, h5, fun e => h1 (.inl e), fun e => h1 (.inr e)⟩)
     ·exact h2 h4
theorem tok_inv {l : List UInt8} {b : UInt8} {k : Nat} (h : tok l = some (b, k)) : l = esc b ++ l.drop k := by
 unfold tok at h
 split at h
 ·cases h
 ·rename_i c r
  split at h
  ·rename_i hp
   injection h with h; injection h with h1 h2; subst h1 h2
   have hp' := plainB_iff.1 hp
   unfold esc
   rw [if_neg (by omega), if_neg (by omega), if_pos hp]
   rfl
  ·split at h
   ·cases h
   ·rename_i h92
    have hc : c = 92 := byte_ext (by have : (92 : UInt8).toNat = 92 := rfl; omega)
    subst hc
    split at h
    ·cases h
    ·rename_i d r2
     split at h
     ·rename_i hd
      injection h with h; injection h with h1 h2; subst h1 h2
      unfold esc
      rw [if_pos hd]
      rfl
     ·split at h
      ·rename_i hd
       injection h with h; injection h with h1 h2; subst h1 h2
       have : d = 110 := byte_ext hd
       subst this
       rfl
      ·split at h
       ·cases h
       ·rename_i hd
        have : d = 120 := byte_ext (by simpa using hd)
        subst this
        split at h
        ·rename_i x y q
         split at h
         ·rename_i a e2 ha hb
          split at h
          ·cases h
          ·rename_i hv
           injection h with h; injection h with h1 h2; subst h1 h2
           obtain ⟨ha1, rfl⟩ := dig_hexd ha
           obtain ⟨hb1, rfl⟩ := dig_hexd hb
           have e : (UInt8.ofNat (16 * a + e2)).toNat = 16 * a + e2 := by rw [UInt8.toNat_ofNat']; omega
           unfold esc
           rw [e, if_neg (by omega), if_neg (by omega), if_neg]
           ·rw [show (16 * a + e2) / 16 = a from by omega, show (16 * a + e2) % 16 = e2 from by omega]
            rfl
           ·rw [plainB_iff, e]
            omega
         ·cases h
        ·cases h
theorem esc_head (c : UInt8) (r : List UInt8) : ∀ d, (esc c ++ r).head? = some d → d.toNat ≠ 34 := by
 intro d hd
 unfold esc at hd
 split at hd
 ·simp at hd; subst hd; decide
 ·split at hd
  ·simp at hd; subst hd; decide
  ·split at hd
   ·rename_i h1 _ _
    simp at hd; subst hd
    exact fun e => h1 (.inl e)
   ·simp at hd; subst hd; decide
theorem unq_quote (s more : List UInt8) : unq (s.flatMap esc ++ 34 :: more) = some (s, more) := by
 induction s with
 | nil => exact unq_end more 34 rfl
 | cons c s ih =>
  rw [List.flatMap_cons, List.append_assoc, unq_step _ c _ (esc_head c _) (tok_esc c _), List.drop_left, ih]
  rfl
theorem unquote_quote (s more : List UInt8) : unquote (quote s ++ more) = some (s, more) := by
 unfold quote unquote
 simp only [List.cons_append, List.append_assoc, List.nil_append]
 rw [if_pos (show (34 : UInt8).toNat = 34 from rfl)]
 exact unq_quote s more
theorem unq_inv : ∀ (n : Nat) (l : List UInt8), l.length ≤ n → ∀ o q, unq l = some (o, q) → l = o.flatMap esc ++ 34 :: q := by
 intro n
 induction n with
 | zero =>
  intro l h o q hu
  cases l with
  | nil => cases hu
  | cons c r => simp at h
 | succ n ih =>
  intro l h o q hu
  cases l with
  | nil => cases hu
  | cons c r =>
   by_cases hc : c.toNat = 34
   ·rw [unq_end r c hc] at hu
    injection hu with hu; injection hu with h1 h2; subst h1 h2
    have : c = 34 := byte_ext hc
    subst this
    rfl
   ·cases ht : tok (c :: r) with
    | none =>
     rw [unq_bad (c :: r) (by intro d hd; injection hd with hd; subst hd; exact hc) ht] at hu
     cases hu
    | some p =>
     obtain ⟨b, k⟩ := p
     rw [unq_step (c :: r) b k (by intro d hd; injection hd with hd; subst hd; exact hc) ht] at hu
     have hk := tok_pos ht
     cases hr : unq ((c :: r).drop k) with
     | none => rw [hr] at hu; cases hu
     | some p =>
      obtain ⟨o', q'⟩ := p
      rw [hr] at hu
      injection hu with hu; injection hu with h1 h2
      simp only at h1 h2
      subst h1 h2
      have h3 := ih ((c :: r).drop k) (by simp only [List.length_drop]; simp only [List.length_cons] at hk h ⊢; omega) o' q' hr
      rw [List.flatMap_cons, List.append_assoc, ← h3]
      exact tok_inv ht
theorem unquote_inv {l o q : List UInt8} (h : unquote l = some (o, q)) : l = quote o ++ q := by
 unfold unquote at h
 split at h
 ·cases h
 ·rename_i c r
  split at h
  ·rename_i hc
   have h1 := unq_inv r.length r (Nat.le_refl _) o q h
   have : c = 34 := byte_ext hc
   subst this
   unfold quote
   simp only [List.cons_append, List.append_assoc, List.nil_append]
   rw [← h1]
  ·cases h
theorem hexd_range (n : Nat) (h : n < 16) : 32 ≤ (hexd n).toNat ∧ (hexd n).toNat ≤ 126 := by
 unfold hexd
 split <;> (rw [UInt8.toNat_ofNat']; omega)
theorem esc_range (c : UInt8) : ∀ d ∈ esc c, 32 ≤ d.toNat ∧ d.toNat ≤ 126 := by
 have hc := c.toNat_lt
 intro d hd
 unfold esc at hd
 split at hd
 ·rename_i h
  simp only [List.mem_cons, List.not_mem_nil, or_false] at hd
  rcases hd with rfl | rfl
  ·decide
  ·omega
 ·split at hd
  ·simp only [List.mem_cons, List.not_mem_nil, or_false] at hd
   rcases hd with rfl | rfl <;> decide
  ·split at hd
   ·rename_i h
    simp only [List.mem_cons, List.not_mem_nil, or_false] at hd
    subst hd
    have := plainB_iff.1 h
    omega
   ·simp only [List.mem_cons, List.not_mem_nil, or_false] at hd
    rcases hd with rfl | rfl | rfl | rfl
    ·decide
    ·decide
    ·exact hexd_range _ (by omega)
    ·exact hexd_range _ (by omega)
theorem quote_range (s : List UInt8) : ∀ d ∈ quote s, 32 ≤ d.toNat ∧ d.toNat ≤ 126 := by
 intro d hd
 unfold quote at hd
 simp only [List.mem_cons, List.mem_append, List.mem_flatMap, List.not_mem_nil, or_false] at hd
 rcases hd with rfl | ⟨c, _, h⟩ | rfl
 ·decide
 ·exact esc_range c d h
 ·decide
theorem esc_len (c : UInt8) : 1 ≤ (esc c).length ∧ (esc c).length ≤ 4 := by
 unfold esc
 split
 ·simp
 ·split
  ·simp
  ·split <;> simp
theorem flat_len : ∀ s : List UInt8, (s.flatMap esc).length ≤ 4 * s.length
 | [] => by simp
 | c :: s => by
  have := flat_len s
  have := esc_len c
  rw [List.flatMap_cons, List.length_append, List.length_cons]
  omega
theorem quote_len (s : List UInt8) : (quote s).length ≤ 4 * s.length + 2 := by
 have := flat_len s
 unfold quote
 rw [List.length_cons, List.length_append, show ([34] : List UInt8).length = 1 from rfl]
 omega
end Ar
