/- The text Ez. -/
import Derived.Lib.Builder
import Derived.Laws.Externs
import Derived.Shelf.Abstract
import Derived.Shelf.Strings.Builder1
import Derived.Test.YtacjhbbieeliaaaGreatDoorMaf
set_option linter.unusedSimpArgs false
set_option maxHeartbeats 16000000
set_option maxRecDepth 100000
namespace Go.Proofs.YtacjhbbieeliaaaGreatDoor
open Go.RowKit Go.Lib
set_option linter.unusedVariables false
set_option linter.unusedSimpArgs false
theorem own_set' {w : World} {g i : Nat} {e : TypeId} {n size : Nat} {v u : Value} {xs : List Value} (h : w.ownsRow (g + 1) e size v n xs) : (w.setCell ⟨g, i, none⟩ u).ownsRow (g + 1) e size v n xs := by
 obtain ⟨h1, h2⟩ := h
 refine ⟨h1, ?_⟩
 rcases h2 with h2 | ⟨k, cap, cur, rfl, hk, hh, hn, hcap, hsz, ht⟩
 ·exact .inl h2
 ·exact .inr ⟨k, cap, cur, rfl, hk, (Below.heap_setCell w ⟨g, i, none⟩ u k (by show k ≠ g; omega)).trans hh, hn, hcap, hsz, ht⟩
theorem pr_lies : liesAt Tryz.prog Tryz.prog.depth 116 (2 / Tryz.prog.cellsOf 116) 0 116 1 = true := by kernel_rfl
theorem bd_size : (Tryz.prog.info? 116).map (fun i => decide (i.size ≠ 0)) = some true := by kernel_rfl
theorem pr_pb : Tryz.prog.underlying 113 = some (.pointer 116) := by kernel_rfl
theorem pr_up : Tryz.prog.underlying 204 = some .unsafePointer := by kernel_rfl
def PrS (w : World) (g : Nat) (q : Option Nat) (out : List UInt8) : Prop := ∃ p v, (p = .pointer none ∨ p = .pointer (some ⟨g, 0, none⟩)) ∧ Blk w g 116 #[p, v] ∧ OwnB (g + 1) w v out ∧ v.ownBlock = q
structure PrK (w : World) (g : Nat) (q : Option Nat) (w' : World) (q' : Option Nat) : Prop where
 os : w'.os = w.os
 tape : w'.tape = w.tape
 output : w'.output = w.output
 size : w.heap.size ≤ w'.heap.size
 block : ∀ k, k < w.heap.size → k ≠ g → some k ≠ q → w'.heap[k]? = w.heap[k]?
 fresh : q' = q ∨ ∃ k, q' = some k ∧ w.heap.size ≤ k
section
variable {w w' w2 : World} {g : Nat} {q q' q2 : Option Nat} {out : List UInt8}
theorem PrS.lt (h : PrS w g q out) : g < w.heap.size := by obtain ⟨p, v, _, h, _⟩ := h; exact h.lt
theorem PrS.bel (h : PrS w g q out) (hb : Below w.heap.size w w') : PrS w' g q out := by
 obtain ⟨p, v, h1, h2, h3, h4⟩ := h
 exact ⟨p, v, h1, h2.below hb h2.lt, own_bel h3 hb, h4⟩
theorem PrS.own (h : PrS w g q out) : ∀ k, q = some k → g < k ∧ k < w.heap.size := fun k hk => by
 obtain ⟨p, v, h1, h2, h3, h4⟩ := h
 have := h3.lt k (h4.trans hk)
 omega
theorem PrK.refl (w : World) (g : Nat) (q : Option Nat) : PrK w g q w q := ⟨rfl, rfl, rfl, Nat.le_refl _, fun _ _ _ _ => rfl, .inl rfl⟩
theorem PrK.of_bel (h : Below w.heap.size w w') : PrK w g q w' q := ⟨h.os, h.tape, h.output, h.size, fun k hk _ _ => h.block k hk, .inl rfl⟩
theorem PrK.tr (h : PrK w g q w' q') (h2 : PrK w' g q' w2 q2) : PrK w g q w2 q2 := by
 refine ⟨h2.os.trans h.os, h2.tape.trans h.tape, h2.output.trans h.output, Nat.le_trans h.size h2.size, fun k hk hg hq => ?_, ?_⟩
 ·refine (h2.block k (Nat.lt_of_lt_of_le hk h.size) hg (fun e => ?_)).trans (h.block k hk hg hq)
  rcases h.fresh with h3 | ⟨m, h3, h4⟩
  ·exact hq (e.trans h3)
  ·rw [h3] at e; injection e with e; omega
 ·rcases h2.fresh with h3 | ⟨m, h3, h4⟩
  ·rcases h.fresh with h5 | ⟨m, h5, h6⟩
   ·exact .inl (h3.trans h5)
   ·exact .inr ⟨m, h3.trans h5, h6⟩
  ·exact .inr ⟨m, h3, Nat.le_trans h.size h4⟩
theorem PrK.apart (h : PrK w g q w' q') {k : Nat} (hk : k < w.heap.size) (hq : some k ≠ q) : some k ≠ q' := fun e => by
 rcases h.fresh with h3 | ⟨m, h3, h4⟩
 ·exact hq (e.trans h3)
 ·rw [h3] at e; injection e with e; omega
theorem PrK.below (h : PrK w g q w' q') (hgs : g ≤ w.heap.size) (hq : ∀ k, q = some k → g ≤ k) : Below g w w' := ⟨h.os, h.tape, h.output, h.size, fun k hk => by
 rcases Nat.lt_or_ge k w.heap.size with h1 | h1
 ·exact h.block k h1 (by omega) (fun e => by have := hq k e.symm; omega)
 ·omega⟩
end
theorem wpList_append_string_fresh {P : Program} (w : World) {ops : Array Oper} {rest : List Oper} {o : Oper} {a : Act} {Q : Exit → Act → World → Prop} (hgd : o.guard = none) (sl x : Operand) (t u : TypeId)
  (ho : o.op = .call { callee := .builtin .append, args := #[sl, x], argTypes := #[t, u] })
  (base : Nat) (e : TypeId) (i : TypeInfo) (ht : P.underlying t = some (.slice e)) (hu : P.underlying u = some .string) (hi : P.info? e = some i) (hz : i.zero = some (.int .u8 0))
  (hsize : i.size = 1) (hby : i.bytes = 1)
  (v : Value) (n : Nat) (xs : List Value) (hs : a.eval sl = v) (hown : w.ownsRow base e 1 v n xs) (s : ByteArray) (hx : a.eval x = .string s)
  (h63 : n + s.size ≤ maxLen) (hbytes : n + s.size ≤ 140737488355328) (hbase : base ≤ w.heap.size)
  (h : ∀ v' w', w'.ownsRow base e 1 v' (n + s.size) (xs ++ strCells s) → w.grownBy w' v.ownBlock → (v'.ownBlock = v.ownBlock ∨ v'.ownBlock = some w.heap.size) → wpList P ops Q rest (a.put o.dst v') w') : wpList P ops Q (o :: rest) a w := by
 refine wpList_plain hgd fun K hK => ?_
 obtain ⟨v', w', hr, h2, h3, h4⟩ := run_append_own_string (P := P) w base t u o.type e i ht hu hi hz hsize hby v n xs hown s h63 hbytes hbase
 have h5 : v'.ownBlock = v.ownBlock ∨ v'.ownBlock = some w.heap.size := by
  have hsmall : n + s.size ≤ 9223372036854775807 := by simp only [maxLen] at h63; omega
  have hxl : xs.length = n := by simpa using hown.1
  rcases hown.2 with ⟨rfl, rfl⟩ | ⟨g, cap, cur, rfl, hbg, hg, hnc, hcm, hcs, htake⟩
  ·by_cases hm : s.size = 0
   ·rw [h4.2 ⟨rfl, hm⟩]; exact .inl rfl
   ·have hr2 := run_append_nil_string (P := P) w t u o.type e i (.int .u8 0) ht hu hi hz s (by omega) (by omega) (by rw [hby]; omega)
    rw [hr] at hr2
    injection hr2 with e1 e2
    rw [e1]
    exact .inr rfl
  ·by_cases hroom : n + s.size ≤ cap
   ·have hr2 := run_append_room_string (P := P) w t u o.type e i ht hu hi hsize g n cap cur hg s hroom (by omega)
    rw [hr] at hr2
    injection hr2 with e1 e2
    rw [e1]
    exact .inl rfl
   ·have holds : ∀ j u, xs[j]? = some u → w.cell? ((⟨g, 0, none⟩ : Addr).add j) = some u := hown.cells (g := g) rfl
    have hr2 := run_append_grow_string (P := P) w t u o.type e i (.int .u8 0) ht hu hi hz ⟨g, 0, none⟩ n cap xs (by rw [hsize]; simpa using hxl) holds s (by omega) (by omega) (by rw [hby]; exact growslice_fits (by omega) (by omega))
    rw [hr] at hr2
    injection hr2 with e1 e2
    rw [e1]
    exact .inr rfl
 unfold Oper.wp execOp
 simp only [ho, resolve, invoke, builtin, Sem.run_bind, Sem.run_pure, Result.andThen_ok, List.map_toArray, List.map_cons, List.map_nil, hs, hx, hr]
 exact hK _ _ (h v' w' h2 h3 h5)
theorem ccheck_any (g : Nat) (q : Option Nat) (out : List UInt8) (w : World) (h : PrS w g q out) : Calls Tryz.prog 128 #[.pointer (some ⟨g, 0, none⟩)] w fun e w' => e = .returned (.tuple #[]) ∧ (∃ v, Blk w' g 116 #[.pointer (some ⟨g, 0, none⟩), v] ∧ OwnB (g + 1) w' v out ∧ v.ownBlock = q) ∧ PrK w g q w' q := by
 obtain ⟨p, v, hp, hb, ho, hq⟩ := h
 have hc0 := hb.cell 0
 have hf0 := hb.frozen 0
 simp only [List.getElem?_toArray, List.getElem?_cons_zero] at hc0
 obtain ⟨j, hj, hjs⟩ := Option.map_eq_some_iff.1 bd_size
 have hsh : w.shape? g = some (116, 2) := by unfold Blk at hb; simp [World.shape?, hb]
 rcases hp with rfl | rfl
 ·have h1 := Lib.run_to_unsafe (P := Tryz.prog) w ⟨g, 0, none⟩ pr_pb pr_up hj (of_decide_eq_true hjs) hsh (Nat.zero_lt_succ 1)
  have h2 := Lib.run_from_unsafe (P := Tryz.prog) w ⟨g, 0, none⟩ pr_up pr_pb hj hsh pr_lies
  have h3 : (callFunc 152 #[.pointer (some ⟨g, 0, none⟩)]).run Tryz.prog w = .ok (.value (.pointer (some ⟨g, 0, none⟩))) w := by
   rw [run_callFunc_extern Tryz.func152 (by kernel_rfl) (by kernel_rfl) (by kernel_rfl) (e := Extern.AbiNoEscape.same) (by kernel_rfl)]
   rw [Lib.run_noEscape]
   rfl
  have HK := hid (hb.set_ 0 (.pointer (some ⟨g, 0, none⟩)))
  have HO := hid (own_set' (i := 0) ho (u := .pointer (some ⟨g, 0, none⟩)))
  clear hb ho
  go_enter Tryz.func128, Tryz.ntmps128
  go_wp2_with fail
  go_end0
  exact ⟨rfl, ⟨v, HK.out, HO.out, hq⟩, ⟨rfl, rfl, rfl, by simp [World.setCell], fun k hk hg _ => Below.heap_setCell _ _ _ _ hg, .inl rfl⟩⟩
 ·have HK := hid hb
  have HO := hid ho
  have hcmp := Lib.run_neq_ptr_same (P := Tryz.prog) w ⟨g, 0, none⟩ pr_pb hj
  clear hb ho
  go_enter Tryz.func128, Tryz.ntmps128
  go_wp2_with fail
  go_end0
  exact ⟨rfl, ⟨v, HK.out, HO.out, hq⟩, PrK.refl w g q⟩
theorem wstr_any (g : Nat) (q : Option Nat) (out s : List UInt8) (w : World) (h : PrS w g q out) (hlen : out.length + s.length ≤ 100000000000) :
  Calls Tryz.prog 105 #[.pointer (some ⟨g, 0, none⟩), .string (bstr s)] w fun e w' => e = .returned (.tuple #[.int .i64 s.length, .nilIface]) ∧ ∃ q', PrS w' g q' (out ++ s) ∧ PrK w g q w' q' := by
 obtain ⟨iu, hu, zu0, zu1, zu2⟩ := info_parts info_u8
 have HC := hid (ccheck_any g q out w h)
 have hlt := h.lt
 have hsz : (bstr s).size = s.length := bstr_size s
 clear h
 go_enter Tryz.func105, Tryz.ntmps105
 go_wp2_with (go_at_call 128; refine HC.out.mono ?_)
 rintro e w1 ⟨rfl, ⟨v, hb, ho, hvq0⟩, hbel⟩
 have hvq := hid hvq0
 clear hvq0
 have c1 := hb.cell 1
 simp only [List.getElem?_toArray, List.getElem?_cons_zero, List.getElem?_cons_succ] at c1
 have hg1 : g < w1.heap.size := hb.lt
 go_wp2_with (at_builtin; refine wpList_append_string_fresh _ rfl _ _ 114 9 rfl (g + 1) 5 iu Tryz.underlying114 Tryz.underlying9 hu zu0 zu1 zu2 _ _ _ rfl ho (bstr s) rfl ?c3 ?c4 ?c5 ?_)
 case c3 => unfold maxLen; omega
 case c4 => omega
 case c5 => omega
 intro v' w2 hown' hgrow hfr
 have hb2 : Blk w2 g 116 #[.pointer (some ⟨g, 0, none⟩), v] := hb.grown hgrow (fun e => by have := (ho.lt g e.symm).1; omega)
 have d1 := hb2.cell 1
 have f1 := hb2.frozen 1
 simp only [List.getElem?_toArray, List.getElem?_cons_zero, List.getElem?_cons_succ] at d1
 have hown2 : w2.ownsRow (g + 1) 5 1 v' (out.length + s.length) (bytesL (out ++ s)) := by
  rw [bytesL_append, ← hsz]
  exact hown'
 obtain ⟨A', cap', rfl⟩ := own_slice hown2
 have HO2 : Hid (OwnB (g + 1) (w2.setCell ⟨g, 1, none⟩ (.slice A' (out.length + s.length) cap')) (.slice A' (out.length + s.length) cap') (out ++ s)) := hid (by
  show World.ownsRow _ (g + 1) 5 1 _ (out ++ s).length (bytesL (out ++ s))
  rw [List.length_append]
  exact own_set' hown2)
 have HB2 : Hid (Blk (w2.setCell ⟨g, 1, none⟩ (.slice A' (out.length + s.length) cap')) g 116 #[.pointer (some ⟨g, 0, none⟩), .slice A' (out.length + s.length) cap']) := hid (hb2.set_ 1 (.slice A' (out.length + s.length) cap'))
 have HBL : Hid (PrK w g q (w2.setCell ⟨g, 1, none⟩ (.slice A' (out.length + s.length) cap')) (Value.slice A' (out.length + s.length) cap').ownBlock) := hid (hbel.tr ⟨hgrow.os, hgrow.tape, hgrow.output, by simp only [World.setCell, Array.size_modify]; exact hgrow.size, fun k hk hg hq => (Below.heap_setCell _ _ _ _ hg).trans (hgrow.block k hk (fun e => hq (e.trans hvq.out))), by
  rcases hfr with h | h
  ·exact .inl (h.trans hvq.out)
  ·exact .inr ⟨_, h, Nat.le_refl _⟩⟩)
 clear hb hb2 hown' hown2 hgrow ho hbel c1 hfr hvq
 go_wp2_with fail
 go_ret2
 exact ⟨rfl, _, ⟨_, _, .inr rfl, HB2.out, HO2.out, rfl⟩, HBL.out⟩
theorem blen_any (g : Nat) (q : Option Nat) (out : List UInt8) (w : World) (h : PrS w g q out) : Calls Tryz.prog 131 #[.pointer (some ⟨g, 0, none⟩)] w fun e w' => e = .returned (.int .i64 out.length) ∧ w = w' := by
 obtain ⟨p, v, hp, hb, ho, -⟩ := h
 obtain ⟨A', cap', rfl⟩ := own_slice ho
 have c1 := hb.cell 1
 simp only [List.getElem?_toArray, List.getElem?_cons_zero, List.getElem?_cons_succ] at c1
 clear hb ho hp
 go_enter Tryz.func131, Tryz.ntmps131
 go_wp2_with fail
 go_ret
 exact ⟨rfl, rfl⟩
theorem bstr_any (g : Nat) (q : Option Nat) (out : List UInt8) (w : World) (h : PrS w g q out) : Calls Tryz.prog 73 #[.pointer (some ⟨g, 0, none⟩)] w fun e w' => e = .returned (.string (bstr out)) ∧ Below g w w' := by
 obtain ⟨p, v, hp, hb, ho, -⟩ := h
 have hgw : g < w.heap.size := hb.lt
 rcases ho.2 with ⟨rfl, hz⟩ | ⟨k, cap, cur, rfl, hk, hh, hn, hcap, hsz, ht⟩
 ·have h0 : out = [] := List.eq_nil_of_length_eq_zero hz
  subst h0
  have c1 : w.drew.cell? ⟨g, 1, none⟩ = some (.slice none 0 0) := hb.drew.cell 1
  have hUS : ∀ W : World, (Builtin.unsafeString_ #[151, 3] 9 #[.pointer none, .int .i64 0]).run Tryz.prog W = .ok (.string .empty) W := fun W => Lib.run_unsafeString_none W _ _ _ none
  have hSD : (Builtin.unsafeSliceData_ #[114] 151 #[.slice none 0 0]).run Tryz.prog w.drew = .ok (.pointer none) w.drew := rfl
  clear hb ho hz
  go_enter Tryz.func73, Tryz.ntmps73
  go_wp2_with fail
  go_region
  all_goals (go_wp2_with fail; go_ret; exact ⟨rfl, Below.drew (Below.refl g w)⟩)
 ·have hbg : Blk w.drew g 116 #[p, .slice (some ⟨k, 0, none⟩) out.length cap] := hb.drew
  by_cases h0 : out = []
  ·subst h0
   have hUS : ∀ (W : World) (q : Option Addr), (Builtin.unsafeString_ #[151, 3] 9 #[.pointer q, .int .i64 0]).run Tryz.prog W = .ok (.string .empty) W := fun W q => Lib.run_unsafeString_none W _ _ _ q
   by_cases hc0 : cap = 0
   ·subst hc0
    have hSD : (Builtin.unsafeSliceData_ #[114] 151 #[.slice (some ⟨k, 0, none⟩) 0 0]).run Tryz.prog w.drew = .ok (.pointer (some ⟨w.drew.heap.size, 0, none⟩)) (w.drew.alloc (.view ⟨k, 0, none⟩ 5)) :=
     Lib.run_unsafeSliceData_zero w.drew _ _ 5 Tryz.underlying151 ⟨k, 0, none⟩ 0 (5, cur.size) (by have hg' : w.drew.heap[k]? = some (.cells cur 5 (0, 0)) := hh; simp [World.shape?, hg'])
    have c1 : w.drew.cell? ⟨g, 1, none⟩ = some (.slice (some ⟨k, 0, none⟩) 0 0) := hbg.cell 1
    have c2 : (w.drew.alloc (.view ⟨k, 0, none⟩ 5)).cell? ⟨g, 1, none⟩ = some (.slice (some ⟨k, 0, none⟩) 0 0) := (hbg.alloc _).cell 1
    have c3 : (w.alloc (.view ⟨k, 0, none⟩ 5)).drew.cell? ⟨g, 1, none⟩ = some (.slice (some ⟨k, 0, none⟩) 0 0) := c2
    have c0 : w.cell? ⟨g, 1, none⟩ = some (.slice (some ⟨k, 0, none⟩) 0 0) := c1
    clear hb ho hbg hh
    go_enter Tryz.func73, Tryz.ntmps73
    go_wp2_with fail
    go_region
    all_goals (go_wp2_with fail; go_ret; exact ⟨rfl, (Below.drew (Below.refl g w)).alloc (Nat.le_of_lt hgw) _⟩)
   ·have hSD : (Builtin.unsafeSliceData_ #[114] 151 #[.slice (some ⟨k, 0, none⟩) 0 cap]).run Tryz.prog w.drew = .ok (.pointer (some ⟨k, 0, none⟩)) w.drew := Lib.run_unsafeSliceData_row _ _ _ _ _ _ hc0
    have c1 : w.drew.cell? ⟨g, 1, none⟩ = some (.slice (some ⟨k, 0, none⟩) 0 cap) := hbg.cell 1
    clear hb ho hbg hh hc0
    go_enter Tryz.func73, Tryz.ntmps73
    go_wp2_with fail
    go_region
    all_goals (go_wp2_with fail; go_ret; exact ⟨rfl, Below.drew (Below.refl g w)⟩)
  ·have hl0 : out.length ≠ 0 := by simpa using h0
   have hSD : (Builtin.unsafeSliceData_ #[114] 151 #[.slice (some ⟨k, 0, none⟩) out.length cap]).run Tryz.prog w.drew = .ok (.pointer (some ⟨k, 0, none⟩)) w.drew := Lib.run_unsafeSliceData_row _ _ _ _ _ _ (by omega)
   have hUS : (Builtin.unsafeString_ #[151, 3] 9 #[.pointer (some ⟨k, 0, none⟩), .int .i64 out.length]).run Tryz.prog w.drew = .ok (.string (bstr out)) (w.drew.freeze ⟨k, 0, none⟩ out.length) := by
    refine Lib.run_unsafeString_row w.drew 151 3 9 5 Tryz.underlying151 (by kernel_rfl) k cur.size (by have hg' : w.drew.heap[k]? = some (.cells cur 5 (0, 0)) := hh; simp [World.shape?, hg']) out h0 (by omega) (by unfold maxLen at hcap; omega) ?_
    intro j x hx
    exact ho.cells (g := k) rfl j (.int .u8 x.toNat) (by unfold bytesL; rw [List.getElem?_map, hx]; rfl)
   have c1 : w.drew.cell? ⟨g, 1, none⟩ = some (.slice (some ⟨k, 0, none⟩) out.length cap) := hbg.cell 1
   clear hb ho hbg hh h0 ht
   go_enter Tryz.func73, Tryz.ntmps73
   go_wp2_with fail
   go_region
   all_goals (go_wp2_with fail; go_ret; exact ⟨rfl, Lib.below_freeze (Below.drew (Below.refl g w)) (p := ⟨k, 0, none⟩) (by show g ≤ k; omega) _⟩)
end Go.Proofs.YtacjhbbieeliaaaGreatDoor
