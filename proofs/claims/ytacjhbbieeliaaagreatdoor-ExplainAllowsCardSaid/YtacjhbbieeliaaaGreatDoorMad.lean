/- The text Ak. -/
import Derived.Lib.ConvBytes
import Derived.Lib.OthersKept
import Derived.WalkSmall
import Derived.Laws.IdiomStrings
import Derived.StillTailTactics
import Derived.Deep.QuietTactic
import Derived.BigQuiet
import Derived.Deep.RegionHeld3
import Derived.Deep.RegionLaw
import Derived.Test.YtacjhbbieeliaaaGreatDoorProg
import Derived.Test.YtacjhbbieeliaaaGreatDoorMaa
import Derived.Test.YtacjhbbieeliaaaGreatDoorMac
set_option linter.unusedSimpArgs false
set_option maxHeartbeats 16000000
set_option maxRecDepth 100000
namespace Go.Proofs.YtacjhbbieeliaaaGreatDoor
open Go.RowKit Go.Lib
set_option linter.unusedVariables false
theorem info_u8 : (Tryz.prog.info? 5).map (fun i => (i.zero, i.size, i.bytes)) = some (some (.int .u8 0), 1, 1) := by kernel_rfl
theorem info_str : (Tryz.prog.info? 9).map (fun i => (i.zero, i.size, i.bytes)) = some (some (.string ByteArray.empty), 1, 16) := by kernel_rfl
theorem info_int : (Tryz.prog.info? 3).map (fun i => (i.zero, i.size, i.bytes)) = some (some (.int .i64 0), 1, 8) := by kernel_rfl
theorem info_parts {P : Program} {t : TypeId} {z : Value} {m b : Nat} (h : (P.info? t).map (fun i => (i.zero, i.size, i.bytes)) = some (some z, m, b)) : ∃ i, P.info? t = some i ∧ i.zero = some z ∧ i.size = m ∧ i.bytes = b := by
 cases hi : P.info? t with
 | none => rw [hi] at h; cases h
 | some i =>
  rw [hi] at h
  injection h with h
  injection h with h1 h
  injection h with h2 h3
  exact ⟨i, rfl, h1, h2, h3⟩
abbrev OwnB (base : Nat) (w : World) (v : Value) (xs : List UInt8) : Prop := w.ownsRow base 5 1 v xs.length (bytesL xs)
abbrev OwnS (base : Nat) (w : World) (v : Value) (ss : List (List UInt8)) : Prop := w.ownsRow base 9 1 v ss.length (strL ss)
theorem bytesL_len (ys : List UInt8) : (bytesL ys).length = ys.length := List.length_map _
theorem strL_len' (ys : List (List UInt8)) : (strL ys).length = ys.length := List.length_map _
theorem Rd.lit8 (w : World) (ys : List UInt8) : Rd (w.alloc (.cells (bytesL ys).toArray 5)) (some ⟨w.heap.size, 0, none⟩) ys.length (bytesL ys) := by
 have := Rd.of_blk (Blk.new w 5 (bytesL ys).toArray)
 rwa [bytesL_len] at this
theorem Rd.litS (w : World) (ys : List (List UInt8)) : Rd (w.alloc (.cells (strL ys).toArray 9)) (some ⟨w.heap.size, 0, none⟩) ys.length (strL ys) := by
 have := Rd.of_blk (Blk.new w 9 (strL ys).toArray)
 rwa [strL_len'] at this
theorem run_app8 (ty : TypeId) (w : World) (v : Value) (xs ys : List UInt8) (base : Nat) (hown : OwnB base w v xs) (A : Option Addr) (c : Nat) (hr : Rd w A ys.length (bytesL ys))
  (hbase : base ≤ w.heap.size) (hlen : xs.length + ys.length ≤ 100000000000) :
  ∃ v' w', (Builtin.append_ #[114, 114] ty #[v, .slice A ys.length c]).run Tryz.prog w = .ok v' w' ∧ OwnB base w' v' (xs ++ ys) ∧ w.grownBy w' v.ownBlock ∧ ∀ w0, Below base w0 w → Below base w0 w' := by
 obtain ⟨iu, hu, zu0, zu1, zu2⟩ := info_parts info_u8
 obtain ⟨v', w', h1, h2, h3⟩ := run_append_rd (P := Tryz.prog) (w := w) 114 ty 5 iu _ 1 Tryz.underlying114 hu zu0 zu1 zu2 rfl base v xs.length (bytesL xs) hown A ys.length c (bytesL ys) hr (one_bytes _) (by unfold maxLen; omega) (by omega) hbase
 refine ⟨v', w', h1, ?_, h3, fun w0 hb => hb.grown h3 hbase (fun g hg => (hown.lt g hg).1)⟩
 show w'.ownsRow base _ 1 _ (xs ++ ys).length (bytesL (xs ++ ys))
 rw [List.length_append, bytesL_append]
 exact h2
theorem run_appS (ty : TypeId) (w : World) (v : Value) (xs ys : List (List UInt8)) (base : Nat) (hown : OwnS base w v xs) (A : Option Addr) (c : Nat) (hr : Rd w A ys.length (strL ys))
  (hbase : base ≤ w.heap.size) (hlen : xs.length + ys.length ≤ 1000000000000) :
  ∃ v' w', (Builtin.append_ #[24, 24] ty #[v, .slice A ys.length c]).run Tryz.prog w = .ok v' w' ∧ OwnS base w' v' (xs ++ ys) ∧ w.grownBy w' v.ownBlock ∧ ∀ w0, Below base w0 w → Below base w0 w' := by
 obtain ⟨iu, hu, zu0, zu1, zu2⟩ := info_parts info_str
 obtain ⟨v', w', h1, h2, h3⟩ := run_append_rd (P := Tryz.prog) (w := w) 24 ty 9 iu _ 16 Tryz.underlying24 hu zu0 zu1 zu2 rfl base v xs.length (strL xs) hown A ys.length c (strL ys) hr (one_strs _) (by unfold maxLen; omega) (by omega) hbase
 refine ⟨v', w', h1, ?_, h3, fun w0 hb => hb.grown h3 hbase (fun g hg => (hown.lt g hg).1)⟩
 show w'.ownsRow base _ 1 _ (xs ++ ys).length (strL (xs ++ ys))
 rw [List.length_append, strL_append]
 exact h2
section
variable {ops : Array Oper} {rest : List Oper} {o : Oper} {a : Act} {Q : Exit → Act → World → Prop} {K : Act → World → Prop} {E : Prop}
theorem wp_app8 (s x : Operand) (ho : o.op = .call { callee := .builtin .append, args := #[s, x], argTypes := #[114, 114] })
  (w : World) (v : Value) (xs ys : List UInt8) (base : Nat) (hs : a.eval s = v) (A : Option Addr) (c : Nat) (hx : a.eval x = .slice A ys.length c) (hown : OwnB base w v xs) (hr : Rd w A ys.length (bytesL ys))
  (hbase : base ≤ w.heap.size) (hlen : xs.length + ys.length ≤ 100000000000)
  (h : ∀ v' w', OwnB base w' v' (xs ++ ys) → w.grownBy w' v.ownBlock → (∀ w0, Below base w0 w → Below base w0 w') → K (a.put o.dst v') w') : o.wp Tryz.prog a w K Q := by
 obtain ⟨v', w', hrun, h2, h3, h4⟩ := run_app8 o.type w v xs ys base hown A c hr hbase hlen
 unfold Oper.wp execOp
 simp only [ho, resolve, invoke, builtin, Sem.run_bind, Sem.run_pure, Result.andThen_ok, List.map_toArray, List.map_cons, List.map_nil, hs, hx, hrun]
 exact h v' w' h2 h3 h4
theorem wp_appS (s x : Operand) (ho : o.op = .call { callee := .builtin .append, args := #[s, x], argTypes := #[24, 24] })
  (w : World) (v : Value) (xs ys : List (List UInt8)) (base : Nat) (hs : a.eval s = v) (A : Option Addr) (c : Nat) (hx : a.eval x = .slice A ys.length c) (hown : OwnS base w v xs) (hr : Rd w A ys.length (strL ys))
  (hbase : base ≤ w.heap.size) (hlen : xs.length + ys.length ≤ 1000000000000)
  (h : ∀ v' w', OwnS base w' v' (xs ++ ys) → w.grownBy w' v.ownBlock → (∀ w0, Below base w0 w → Below base w0 w') → K (a.put o.dst v') w') : o.wp Tryz.prog a w K Q := by
 obtain ⟨v', w', hrun, h2, h3, h4⟩ := run_appS o.type w v xs ys base hown A c hr hbase hlen
 unfold Oper.wp execOp
 simp only [ho, resolve, invoke, builtin, Sem.run_bind, Sem.run_pure, Result.andThen_ok, List.map_toArray, List.map_cons, List.map_nil, hs, hx, hrun]
 exact h v' w' h2 h3 h4
theorem step_app8 (hgd : o.guard = none) (s x : Operand) (ho : o.op = .call { callee := .builtin .append, args := #[s, x], argTypes := #[114, 114] })
  (w : World) (v : Value) (xs ys : List UInt8) (base : Nat) (hs : a.eval s = v) (A : Option Addr) (c : Nat) (hx : a.eval x = .slice A ys.length c) (hown : OwnB base w v xs) (hr : Rd w A ys.length (bytesL ys))
  (hbase : base ≤ w.heap.size) (hlen : xs.length + ys.length ≤ 100000000000)
  (h : ∀ v' w', OwnB base w' v' (xs ++ ys) → w.grownBy w' v.ownBlock → (∀ w0, Below base w0 w → Below base w0 w') → K (a.put o.dst v') w') : if Region.wanted o (yielded ops a.tmps) = true then o.wp Tryz.prog a w K Q else E := by
 have hw : Region.wanted o (yielded ops a.tmps) = true := by simp [Region.wanted, hgd]
 rw [if_pos hw]
 exact wp_app8 s x ho w v xs ys base hs A c hx hown hr hbase hlen h
theorem step_appS (hgd : o.guard = none) (s x : Operand) (ho : o.op = .call { callee := .builtin .append, args := #[s, x], argTypes := #[24, 24] })
  (w : World) (v : Value) (xs ys : List (List UInt8)) (base : Nat) (hs : a.eval s = v) (A : Option Addr) (c : Nat) (hx : a.eval x = .slice A ys.length c) (hown : OwnS base w v xs) (hr : Rd w A ys.length (strL ys))
  (hbase : base ≤ w.heap.size) (hlen : xs.length + ys.length ≤ 1000000000000)
  (h : ∀ v' w', OwnS base w' v' (xs ++ ys) → w.grownBy w' v.ownBlock → (∀ w0, Below base w0 w → Below base w0 w') → K (a.put o.dst v') w') : if Region.wanted o (yielded ops a.tmps) = true then o.wp Tryz.prog a w K Q else E := by
 have hw : Region.wanted o (yielded ops a.tmps) = true := by simp [Region.wanted, hgd]
 rw [if_pos hw]
 exact wp_appS s x ho w v xs ys base hs A c hx hown hr hbase hlen h
theorem app_u8 (hgd : o.guard = none) (s x : Operand) (ho : o.op = .call { callee := .builtin .append, args := #[s, x], argTypes := #[114, 114] })
  (wr : World) (ys : List UInt8) (v : Value) (xs : List UInt8) (base : Nat) (hs : a.eval s = v) (hown : OwnB base wr v xs) (hx : a.eval x = .slice (some ⟨wr.heap.size, 0, none⟩) ys.length ys.length)
  (hbase : base ≤ wr.heap.size) (hlen : xs.length + ys.length ≤ 100000000000)
  (h : ∀ v' w', OwnB base w' v' (xs ++ ys) → (wr.alloc (.cells (bytesL ys).toArray 5)).grownBy w' v.ownBlock → (∀ w0, Below base w0 wr → Below base w0 w') → wpList Tryz.prog ops Q rest (a.put o.dst v') w') :
  wpList Tryz.prog ops Q (o :: rest) a (wr.alloc (.cells (bytesL ys).toArray 5)) :=
 wpList_plain hgd fun K hK => wp_app8 s x ho _ v xs ys base hs _ _ hx (hown.alloc _) (Rd.lit8 wr ys) (by simp; omega) hlen fun v' w' h1 h2 h3 => hK _ _ (h v' w' h1 h2 fun w0 hb => h3 w0 (hb.alloc hbase _))
theorem app_str (hgd : o.guard = none) (s x : Operand) (ho : o.op = .call { callee := .builtin .append, args := #[s, x], argTypes := #[24, 24] })
  (wr : World) (ys : List (List UInt8)) (v : Value) (xs : List (List UInt8)) (base : Nat) (hs : a.eval s = v) (hown : OwnS base wr v xs) (hx : a.eval x = .slice (some ⟨wr.heap.size, 0, none⟩) ys.length ys.length)
  (hbase : base ≤ wr.heap.size) (hlen : xs.length + ys.length ≤ 1000000000000)
  (h : ∀ v' w', OwnS base w' v' (xs ++ ys) → (wr.alloc (.cells (strL ys).toArray 9)).grownBy w' v.ownBlock → (∀ w0, Below base w0 wr → Below base w0 w') → wpList Tryz.prog ops Q rest (a.put o.dst v') w') :
  wpList Tryz.prog ops Q (o :: rest) a (wr.alloc (.cells (strL ys).toArray 9)) :=
 wpList_plain hgd fun K hK => wp_appS s x ho _ v xs ys base hs _ _ hx (hown.alloc _) (Rd.litS wr ys) (by simp; omega) hlen fun v' w' h1 h2 h3 => hK _ _ (h v' w' h1 h2 fun w0 hb => h3 w0 (hb.alloc hbase _))
theorem app_rd8 (hgd : o.guard = none) (s x : Operand) (ho : o.op = .call { callee := .builtin .append, args := #[s, x], argTypes := #[114, 114] })
  (w : World) (v : Value) (xs ys : List UInt8) (base : Nat) (hs : a.eval s = v) (A : Option Addr) (c : Nat) (hx : a.eval x = .slice A ys.length c) (hown : OwnB base w v xs) (hr : Rd w A ys.length (bytesL ys))
  (hbase : base ≤ w.heap.size) (hlen : xs.length + ys.length ≤ 100000000000)
  (h : ∀ v' w', OwnB base w' v' (xs ++ ys) → w.grownBy w' v.ownBlock → (∀ w0, Below base w0 w → Below base w0 w') → wpList Tryz.prog ops Q rest (a.put o.dst v') w') : wpList Tryz.prog ops Q (o :: rest) a w :=
 wpList_plain hgd fun K hK => wp_app8 s x ho w v xs ys base hs A c hx hown hr hbase hlen fun v' w' h1 h2 h3 => hK _ _ (h v' w' h1 h2 h3)
theorem app_rdS (hgd : o.guard = none) (s x : Operand) (ho : o.op = .call { callee := .builtin .append, args := #[s, x], argTypes := #[24, 24] })
  (w : World) (v : Value) (xs ys : List (List UInt8)) (base : Nat) (hs : a.eval s = v) (A : Option Addr) (c : Nat) (hx : a.eval x = .slice A ys.length c) (hown : OwnS base w v xs) (hr : Rd w A ys.length (strL ys))
  (hbase : base ≤ w.heap.size) (hlen : xs.length + ys.length ≤ 1000000000000)
  (h : ∀ v' w', OwnS base w' v' (xs ++ ys) → w.grownBy w' v.ownBlock → (∀ w0, Below base w0 w → Below base w0 w') → wpList Tryz.prog ops Q rest (a.put o.dst v') w') : wpList Tryz.prog ops Q (o :: rest) a w :=
 wpList_plain hgd fun K hK => wp_appS s x ho w v xs ys base hs A c hx hown hr hbase hlen fun v' w' h1 h2 h3 => hK _ _ (h v' w' h1 h2 h3)
end
theorem conv_own {w : World} {base : Nat} {v : Value} {xs : List UInt8} (h : OwnB base w v xs) : (convert 114 9 v).run Tryz.prog w = .ok (.string (bstr xs)) w := by
 obtain ⟨A, cap, rfl⟩ := own_slice h
 exact run_conv_bs w _ _ _ Tryz.underlying114 Tryz.underlying5 Tryz.underlying9 A xs.length cap xs (Rd.of_own h)
theorem own_below {w w' : World} {base B size n : Nat} {e : TypeId} {v : Value} {xs : List Value} (h : w.ownsRow base e size v n xs) (hb : Below B w w') (hB : w.heap.size ≤ B) : w'.ownsRow base e size v n xs := by
 obtain ⟨h1, h2⟩ := h
 refine ⟨h1, ?_⟩
 rcases h2 with h2 | ⟨g, cap, cur, hv, hg, hh, hn, hcap, hsz, ht⟩
 ·exact .inl h2
 ·have hlt : g < w.heap.size := (Array.getElem?_eq_some_iff.1 hh).1
  exact .inr ⟨g, cap, cur, hv, hg, (hb.block g (by omega)).trans hh, hn, hcap, hsz, ht⟩
theorem own_base' {w : World} {base base' n size : Nat} {e : TypeId} {v : Value} {xs : List Value} (h : w.ownsRow base e size v n xs) (hb : base' ≤ base) : w.ownsRow base' e size v n xs := Joins.ownsRow_le h hb
theorem own_lit8 (w : World) (c : UInt8) : OwnB w.heap.size (w.alloc (.cells #[.int .u8 (c.toNat : Int)] 5)) (.slice (some ⟨w.heap.size, 0, none⟩) 1 1) [c] :=
 World.ownsRow_lit (base := w.heap.size) (e := 5) (size := 1) w #[.int .u8 (c.toNat : Int)] 1 (Nat.le_refl _) (by decide) rfl
end Go.Proofs.YtacjhbbieeliaaaGreatDoor
