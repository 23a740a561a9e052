/- The texts Kit, Aq of this proof, one behind the other. -/
import Derived.Below
import Derived.Deep.Draws
import Derived.Deep.MidRow
import Derived.Deep.RegionWith
import Derived.Laws.BytesArg
import Derived.Laws.CopyOwn
import Derived.Laws.MakeOwn
import Derived.Laws.OwnMore
import Derived.Laws.Rows
import Derived.Laws.Tables
import Derived.Lib.Hide
import Derived.Lib.SlBytesConst
import Derived.Lib.SmallJoins
import Derived.Maps.AppendAt
import Derived.Outline
import Derived.OwnWalk
import Derived.ProofKit
import Derived.Sort.OwnSorted
import Derived.WalkKit
set_option linter.unusedSimpArgs false
set_option maxHeartbeats 16000000
set_option maxRecDepth 100000
set_option linter.unusedVariables false
namespace Go.Proofs.YtchkiegehejfmaaGreatDoor
open Go.RowKit
def Blk (w : World) (g : Nat) (t : TypeId) (cs : Array Value) : Prop := w.heap[g]? = some (.cells cs t (0, 0))
section
variable {w w' : World} {g : Nat} {t : TypeId} {cs : Array Value}
theorem Blk.lt (h : Blk w g t cs) : g < w.heap.size := by
 rcases Nat.lt_or_ge g w.heap.size with hlt | hge
 ·exact hlt
 ·unfold Blk at h; rw [Array.getElem?_eq_none hge] at h; cases h
theorem Blk.cell (h : Blk w g t cs) (i : Nat) : w.cell? ⟨g, i, none⟩ = cs[i]? := cell_of_row w g i cs t (0, 0) h
theorem Blk.frozen (h : Blk w g t cs) (i : Nat) : w.frozen? ⟨g, i, none⟩ = false := by
 unfold Blk at h;simp [World.frozen?, h]
theorem Blk.new (w : World) (t : TypeId) (cs : Array Value) : Blk (w.alloc (.cells cs t)) w.heap.size t cs := heap_alloc_new w _
theorem Blk.drew (h : Blk w g t cs) : Blk w.drew g t cs := h
theorem Blk.drewN (h : Blk w g t cs) (n : Nat) : Blk (w.drewN n) g t cs := h
theorem Blk.alloc (h : Blk w g t cs) (o : Obj) : Blk (w.alloc o) g t cs := (Below.heap_alloc w o g h.lt).trans h
theorem Blk.set_ (h : Blk w g t cs) (i : Nat) (u : Value) : Blk (w.setCell ⟨g, i, none⟩ u) g t (cs.setIfInBounds i u) := by
 unfold Blk at h ⊢;simp [World.setCell, Array.getElem?_modify, h]
theorem Blk.far (h : Blk w g t cs) {p : Addr} (hp : g ≠ p.block) (u : Value) : Blk (w.setCell p u) g t cs := (Below.heap_setCell w p u g hp).trans h
theorem Blk.below {B : Nat} (h : Blk w g t cs) (hb : Below B w w') (hg : g < B) : Blk w' g t cs := (hb.block g hg).trans h
theorem Blk.grown {row : Option Nat} (h : Blk w g t cs) (hb : w.grownBy w' row) (hg : some g ≠ row) : Blk w' g t cs := (hb.block g h.lt hg).trans h
end
def Rd (w : World) (A : Option Addr) (n : Nat) (vs : List Value) : Prop :=
 vs.length = n ∧ ∀ j v, vs[j]? = some v → ∃ b off, A = some ⟨b, off, none⟩ ∧ w.cell? ⟨b, off + j, none⟩ = some v
def AH (bs : List UInt8) : List Value := bs.map fun c => Value.int .u8 (c.toNat : Int)
def strL (ss : List (List UInt8)) : List Value := ss.map encStr
def bstr (l : List UInt8) : ByteArray := ⟨l.toArray⟩
theorem Cz (l : List UInt8) : (bstr l).data.toList = l := rfl
theorem Am (s : ByteArray) : s.size = s.data.toList.length := by rw [Array.length_toList]; rfl
theorem Ai (l : List UInt8) : (bstr l).size = l.length := by rw [Am, Cz]
theorem AN (s : ByteArray) (k : Nat) (h : k < s.size) : s.data.toList[k]? = some s[k] := by
 rw [List.getElem?_eq_getElem (by rw [← Am]; exact h)]; rfl
theorem A5 {a b : ByteArray} (h : a.data.toList = b.data.toList) : a = b := by
 cases a; cases b; congr 1; exact Array.toList_inj.1 h
section
variable {w w' : World} {A : Option Addr} {n : Nat} {vs : List Value}
theorem Rd.nil (w : World) (A : Option Addr) : Rd w A 0 [] := ⟨rfl, fun j v h => by simp at h⟩
theorem An {w : World} {a : Addr} {v : Value} (h : w.cell? a = some v) : a.block < w.heap.size := block_lt_of_cell h
theorem Rd.at_ (h : Rd w A n vs) {k : Nat} (hk : k < n) : ∃ b off v, A = some ⟨b, off, none⟩ ∧ vs[k]? = some v ∧ w.cell? ⟨b, off + k, none⟩ = some v := by
 have hl : k < vs.length := by rw [h.1]; exact hk
 obtain ⟨b, off, e, hc⟩ := h.2 k vs[k] (List.getElem?_eq_getElem hl);exact ⟨b, off, vs[k], e, List.getElem?_eq_getElem hl, hc⟩
theorem Rd.below (h : Rd w A n vs) (hb : Below w.heap.size w w') : Rd w' A n vs :=
 ⟨h.1, fun j v hj => by
  obtain ⟨b, off, e1, e2⟩ := h.2 j v hj
  exact ⟨b, off, e1, (hb.cell (An e2)).trans e2⟩⟩
theorem Rd.drew (h : Rd w A n vs) : Rd w.drew A n vs := h
theorem Rd.drewN (h : Rd w A n vs) (k : Nat) : Rd (w.drewN k) A n vs := h
theorem Rd.block (h : Rd w A n vs) {ad : Addr} (hA : A = some ad) (hn : 0 < n) : ad.block < w.heap.size := by
 obtain ⟨b, off, v, e, _, hc⟩ := h.at_ hn;rw [e] at hA;injection hA with hA;subst hA;exact An hc
theorem Rd.add {ad : Addr} (h : Rd w (some ad) n vs) : ∀ j u, vs[j]? = some u → w.cell? (ad.add j) = some u := by
 intro j u hu;obtain ⟨b, off, e1, e2⟩ := h.2 j u hu;injection e1 with e1;subst e1;rw [show (⟨b, off, none⟩ : Addr).add j = ⟨b, off + j, none⟩ from Addr.add_mid b off j, e2]
theorem Rd.none_ (h : Rd w none n vs) : n = 0 ∧ vs = [] := by
 have : vs = [] := by
  cases vs with
  | nil => rfl
  | cons v vs => obtain ⟨_, _, e, _⟩ := h.2 0 v rfl; cases e
 exact ⟨by rw [← h.1, this]; rfl, this⟩
theorem Rd.of_blk {g : Nat} {t : TypeId} (h : Blk w g t vs.toArray) : Rd w (some ⟨g, 0, none⟩) vs.length vs :=
 ⟨rfl, fun j v hj => ⟨g, 0, rfl, by rw [h.cell, Nat.zero_add, List.getElem?_toArray]; exact hj⟩⟩
theorem Rd.of_own {base cap : Nat} {e : TypeId} (h : w.ownsRow base e 1 (.slice A n cap) n vs) : Rd w A n vs := by
 have hl : vs.length = n := by have := h.1; simpa using this
 refine ⟨hl, fun j v hj => ?_⟩;have hj' : j < vs.length := (List.getElem?_eq_some_iff.1 hj).1;rcases h.2 with ⟨_, h0⟩ | ⟨g, cap', cur, hv, hg, _⟩
 ·omega
 ·injection hv with e1 e2 e3;subst e1;refine ⟨g, 0, rfl, ?_⟩;rw [Nat.zero_add, h.cellAt j (by omega)];exact hj
theorem By {base n : Nat} {e : TypeId} {v : Value} {xs : List Value} (h : w.ownsRow base e 1 v n xs) : ∃ A cap, v = .slice A n cap := by
 rcases h.2 with ⟨rfl, rfl⟩ | ⟨g, cap, cur, rfl, hg, _⟩
 ·exact ⟨_, _, rfl⟩
 ·exact ⟨_, _, rfl⟩
end
theorem FC (w : World) (base : Nat) (e : TypeId) : w.ownsRow base e 1 (.slice none 0 0) 0 [] := World.ownsRow_nil w base e 1
theorem B4 (a b : List UInt8) : AH (a ++ b) = AH a ++ AH b := List.map_append
theorem Bi (a b : List (List UInt8)) : strL (a ++ b) = strL a ++ strL b := List.map_append
theorem GC (bs : List UInt8) : ∀ u ∈ AH bs, u.oneCell' = true := by
 intro u hu;obtain ⟨c, _, rfl⟩ := List.mem_map.1 hu;rfl
theorem G1 (ss : List (List UInt8)) : ∀ u ∈ strL ss, u.oneCell' = true := by
 intro u hu;obtain ⟨c, _, rfl⟩ := List.mem_map.1 hu;rfl
theorem take_snoc {α : Type} {l : List α} {k : Nat} {c : α} (h : l[k]? = some c) : l.take (k + 1) = l.take k ++ [c] := by
 obtain ⟨h1, h2⟩ := List.getElem?_eq_some_iff.1 h;rw [List.take_succ_eq_append_getElem h1, h2]
section
variable {P : Program} {ops : Array Oper} {rest : List Oper} {o : Oper} {a : Act} {w : World} {Q : Exit → Act → World → Prop}
theorem Ah (hgd : o.guard = none) (ty : TypeId) (x y : Operand) (ho : o.op = .store ty x y)
  (g : Nat) (cells : Array Value) (hx : a.eval x = .pointer (some ⟨g, 0, none⟩)) (hy : a.eval y = .agg cells)
  (t : TypeId) (old : Array Value) (hg : Blk w g t old) (hi : (P.info? ty).map (·.size) = some cells.size)
  (hold : old.size = cells.size) (h1 : cells.all (·.oneCell') = true)
  (h : ∀ w', Blk w' g t cells → w'.heap.size = w.heap.size → (∀ B, B ≤ g → Below B w w') → wpList P ops Q rest (a.put o.dst undef) w') : wpList P ops Q (o :: rest) a w :=
 wpList_store_row hgd ty x y ho g cells hx hy t old hg hi hold h1
  (h _ (setRow_heap _ _ _ _ _ _ hg) (setRow_size _ _ _) fun _ hB => below_setRow (Below.refl _ _) hB _)
theorem B6 (t ty e : TypeId) (i : TypeInfo) (z : Value) (bytes : Nat) (ht : P.underlying t = some (.slice e)) (hi : P.info? e = some i) (hz : i.zero = some z) (hsize : i.size = 1) (hby : i.bytes = bytes) (hz1 : z.cells.size = 1)
  (base : Nat) (v : Value) (n : Nat) (xs : List Value) (hown : w.ownsRow base e 1 v n xs)
  (A : Option Addr) (m c : Nat) (ys : List Value) (hr : Rd w A m ys) (h1 : ∀ u ∈ ys, u.oneCell' = true) (h63 : n + m ≤ maxLen) (hb : (n + m) * bytes ≤ 140737488355328) (hbase : base ≤ w.heap.size) :
  ∃ v' w', (Builtin.append_ #[t, t] ty #[v, .slice A m c]).run P w = .ok v' w' ∧ w'.ownsRow base e 1 v' (n + m) (xs ++ ys) ∧ w.grownBy w' v.ownBlock := by
 cases A with
 | none =>
  obtain ⟨rfl, rfl⟩ := hr.none_;refine ⟨v, w, ?_, by simpa using hown, World.grownBy.refl w _⟩;rcases hown.2 with ⟨rfl, hn⟩ | ⟨g, cap, cur, rfl, _, _, hnc, _⟩
  ·simp [Builtin.append_, run_underlying ht, sizeOf, typeInfo, hi, Builtin.lenOf, Builtin.firstCells]
  ·simp [Builtin.append_, run_underlying ht, sizeOf, typeInfo, hi, Builtin.lenOf, Builtin.firstCells, hnc, storeCells]
 | some ad =>
  obtain ⟨v', w', hrun, h2, h3, _, _⟩ := run_append_own_at (P := P) w base t ty e i z 1 bytes ht hi hz hsize hby hz1 (by decide) v n xs hown ad m c ys (by rw [Nat.mul_one]; exact hr.1) hr.add h1 h63 hb hbase;exact ⟨v', w', hrun, h2, h3⟩
end
theorem strOf (bs : List UInt8) : strOfNums (bs.map fun c => (c.toNat : Int)) = bstr bs := by
 unfold strOfNums;have e : (bs.map fun c => (c.toNat : Int)).map (fun n => UInt8.ofNat n.toNat) = bs := by
  rw [List.map_map];exact (List.map_congr_left fun c _ => by simp).trans (List.map_id bs)
 rw [e];rfl
theorem CI {P : Program} (w : World) (src dst e : TypeId) (hs : P.underlying src = some (.slice e)) (he : P.underlying e = some (.int .u8)) (hd : P.underlying dst = some .string)
  (A : Option Addr) (n cap : Nat) (bs : List UInt8) (h : Rd w A n (AH bs)) : (convert src dst (.slice A n cap)).run P w = .ok (.string (bstr bs)) w := by
 have hl : bs.length = n := by have := h.1; simpa [AH] using this
 rcases Nat.eq_zero_or_pos n with rfl | hn
 ·obtain rfl : bs = [] := List.eq_nil_of_length_eq_zero hl
  cases A with
  | none => rw [run_convert_bytes_nil w src e hs he 0 cap dst hd]; rfl
  | some a =>
   rw [run_convert_bytes_string w src dst e _ 0 cap hs he hd, run_bytesToString w a 0 cap [] (by simp [loadCells, loadCellsFrom])];rfl
 ·obtain ⟨b, off, v, rfl, _, _⟩ := h.at_ hn
  rw [run_convert_bytes_arg w src e hs he b off n cap (bs.map fun c => (c.toNat : Int)) (by simpa using hl) (fun i hi => by
   have hi' : i < bs.length := by omega
   obtain ⟨b', off', e1, e3⟩ := h.2 i (.int .u8 (bs[i].toNat : Int)) (by simp [AH, hi']);injection e1 with e1;injection e1 with e1 e4;subst e1 e4;rw [e3]
   simp [List.getD, hi']) dst hd, strOf]
theorem Cw {a b : ByteArray} (h : a = b) : Ending.returned (.string a) = .returned (.string b) := by rw [h]
theorem En {a b : Bool} (h : a = b) : Ending.returned (.bool a) = .returned (.bool b) := by rw [h]
theorem pk1 {α : Type} (l : List α) (i : Nat) (h : i < l.toArray.size) : l.toArray[i] = l[i]'(by simpa using h) := rfl
theorem pk2 {α : Type} (a : α) (l : List α) (h : 0 < (a :: l).length) : (a :: l)[0] = a := rfl
theorem pk3 {α : Type} (a : α) (l : List α) (i : Nat) (h : i + 1 < (a :: l).length) : (a :: l)[i + 1] = l[i]'(Nat.lt_of_succ_lt_succ h) := rfl
theorem pk4 {α : Type} (l : List α) (i : Nat) (a : α) : l.toArray.setIfInBounds i a = (l.set i a).toArray := List.setIfInBounds_toArray ..
theorem pk5 {α : Type} (a b : α) (l : List α) : (a :: l).set 0 b = b :: l := rfl
theorem pk6 {α : Type} (a b : α) (l : List α) (i : Nat) : (a :: l).set (i + 1) b = a :: l.set i b := rfl
end Go.Proofs.YtchkiegehejfmaaGreatDoor
namespace Ar
def Hh (c : UInt8) : Bool := decide (32 ≤ c.toNat ∧ c.toNat ≤ 126 ∧ c.toNat ≠ 34 ∧ c.toNat ≠ 92)
def hexd (n : Nat) : UInt8 := UInt8.ofNat (if n < 10 then 48 + n else 87 + n)
def esc (c : UInt8) : List UInt8 :=
 if c.toNat = 34 ∨ c.toNat = 92 then [92, c] else if c.toNat = 10 then [92, 110] else if Hh c then [c] else [92, 120, hexd (c.toNat / 16), hexd (c.toNat % 16)]
def digv (c : UInt8) : Option Nat := if 48 ≤ c.toNat ∧ c.toNat ≤ 57 then some (c.toNat - 48) else if 97 ≤ c.toNat ∧ c.toNat ≤ 102 then some (c.toNat - 87) else none
def tok : List UInt8 → Option (UInt8 × Nat)
 | [] => none
 | c :: r => if Hh c then some (c, 1) else if c.toNat ≠ 92 then none else
  match r with
  | [] => none
  | d :: r2 => if d.toNat = 34 ∨ d.toNat = 92 then some (d, 2) else if d.toNat = 110 then some (10, 2) else if d.toNat ≠ 120 then none else
   match r2 with
   | h :: l :: _ =>
    match digv h, digv l with
    | some a, some b => if (32 ≤ 16 * a + b ∧ 16 * a + b ≤ 126) ∨ 16 * a + b = 10 then none else some (UInt8.ofNat (16 * a + b), 4)
    | _, _ => none
   | _ => none
theorem D4 (c : UInt8) : 1 ≤ (esc c).length ∧ (esc c).length ≤ 4 := by
 unfold esc;split
 ·simp
 ·split
  ·simp
  ·split <;> simp
end Ar
