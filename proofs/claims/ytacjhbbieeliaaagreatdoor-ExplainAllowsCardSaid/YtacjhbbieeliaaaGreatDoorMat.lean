/- The texts Kl, Kc of this proof, one behind the other. -/
import Derived.Deep.MidRow
import Derived.Test.YtacjhbbieeliaaaGreatDoorMas
import Derived.Test.YtacjhbbieeliaaaGreatDoorMae
import Derived.Test.YtacjhbbieeliaaaGreatDoorMar
import Derived.Test.YtacjhbbieeliaaaGreatDoorMam
set_option linter.unusedSimpArgs false
set_option maxHeartbeats 16000000
set_option maxRecDepth 100000
/- The text Kl. -/
namespace Go.Proofs.YtacjhbbieeliaaaGreatDoor
open Go.RowKit Go.Lib
set_option linter.unusedVariables false
def putL (cur : Array Value) : Nat → List Value → Array Value
 | _, [] => cur
 | o, z :: r => putL (cur.setIfInBounds o z) (o + 1) r
theorem putL_size : ∀ (zs : List Value) (cur : Array Value) (o : Nat), (putL cur o zs).size = cur.size
 | [], _, _ => rfl
 | z :: r, cur, o => by rw [putL, putL_size r]; simp
theorem putL_get : ∀ (zs : List Value) (cur : Array Value) (o i : Nat), o + zs.length ≤ cur.size → (putL cur o zs)[i]? = if o ≤ i ∧ i < o + zs.length then zs[i - o]? else cur[i]?
 | [], cur, o, i, _ => by rw [if_neg (by rw [List.length_nil]; omega)]; rfl
 | z :: r, cur, o, i, h => by
  rw [List.length_cons] at h
  rw [putL, putL_get r _ _ _ (by simp; omega), List.length_cons]
  rcases Nat.lt_trichotomy i o with h1 | h1 | h1
  ·rw [if_neg (by omega), if_neg (by omega), Array.getElem?_setIfInBounds_ne (by omega)]
  ·subst h1
   rw [if_neg (by omega), if_pos (by omega), Nat.sub_self, Array.getElem?_setIfInBounds_self_of_lt (by omega)]
   rfl
  ·by_cases h2 : i < o + 1 + r.length
   ·rw [if_pos (by omega), if_pos (by omega), show i - o = (i - (o + 1)) + 1 by omega]
    rfl
   ·rw [if_neg (by omega), if_neg (by omega), Array.getElem?_setIfInBounds_ne (by omega)]
theorem blk_setCells {t : TypeId} {b : Nat} : ∀ (zs : List Value) (o : Nat) (w : World) (cur : Array Value), Blk w b t cur → Blk (w.setCells b o zs) b t (putL cur o zs)
 | [], _, _, _, h => h
 | z :: r, o, w, cur, h => blk_setCells r (o + 1) _ _ (h.set_ o z)
theorem heap_setCells {b k : Nat} (hk : k ≠ b) : ∀ (zs : List Value) (o : Nat) (w : World), (w.setCells b o zs).heap[k]? = w.heap[k]?
 | [], _, _ => rfl
 | z :: r, o, w => (heap_setCells hk r (o + 1) _).trans (Below.heap_setCell w ⟨b, o, none⟩ z k hk)
theorem size_setCells (b : Nat) : ∀ (zs : List Value) (o : Nat) (w : World), (w.setCells b o zs).heap.size = w.heap.size
 | [], _, _ => rfl
 | z :: r, o, w => (size_setCells b r (o + 1) _).trans (by simp [World.setCell])
theorem same_setCells (b : Nat) : ∀ (zs : List Value) (o : Nat) (w : World), (w.setCells b o zs).os = w.os ∧ (w.setCells b o zs).tape = w.tape ∧ (w.setCells b o zs).output = w.output
 | [], _, _ => ⟨rfl, rfl, rfl⟩
 | z :: r, o, w => same_setCells b r (o + 1) (w.setCell ⟨b, o, none⟩ z)
theorem own_last {w : World} {base size n : Nat} {e : TypeId} {A : Option Addr} {cap : Nat} {xs ys zs : List Value} (h : w.ownsRow base e size (.slice A (n + 1) cap) (n + 1) (xs ++ ys)) (hx : xs.length = n * size) (hy : ys.length = size) (hz : zs.length = size) :
  ∃ b, A = some ⟨b, 0, none⟩ ∧ base ≤ b ∧ b < w.heap.size ∧ w.there b (n * size) size ∧ (w.setCells b (n * size) zs).ownsRow base e size (.slice A (n + 1) cap) (n + 1) (xs ++ zs) := by
 obtain ⟨h1, h2⟩ := h
 rcases h2 with ⟨-, h2⟩ | ⟨g, cap', cur, hv, hg, hh, hn, hcap, hsz, ht⟩
 ·omega
 ·injection hv with hv1 hv2 hv3
  subst hv1 hv3
  have hB : Blk w g e cur := hh
  have hcs : (n + 1) * size ≤ cur.size := by rw [hsz]; exact Nat.mul_le_mul_right _ hn
  rw [Nat.succ_mul] at hcs
  refine ⟨g, rfl, hg, hB.lt, fun j hj => ⟨?_, hB.frozen _⟩, ?_, .inr ⟨g, cap, putL cur (n * size) zs, rfl, hg, blk_setCells zs _ _ _ hB, hn, hcap, by rw [putL_size, hsz], ?_⟩⟩
  ·rw [hB.cell, Array.getElem?_eq_getElem (by omega)]; rfl
  ·rw [List.length_append, hx, hz, Nat.succ_mul]
  ·apply List.ext_getElem?
   intro i
   rw [List.getElem?_take, Nat.succ_mul, Array.getElem?_toList, putL_get _ _ _ _ (by omega), hz]
   have hti : ∀ i, i < n * size → cur[i]? = xs[i]? := fun i hi => by
    have := congrArg (fun l : List Value => l[i]?) ht
    simp only [List.getElem?_take, Nat.succ_mul] at this
    rw [if_pos (by omega), Array.getElem?_toList, List.getElem?_append_left (by omega)] at this
    exact this
   by_cases hi : i < n * size + size
   ·rw [if_pos hi]
    by_cases h3 : n * size ≤ i
    ·rw [if_pos ⟨h3, hi⟩, List.getElem?_append_right (by omega), hx]
    ·rw [if_neg (by omega), hti i (by omega), List.getElem?_append_left (by omega)]
   ·rw [if_neg hi, List.getElem?_eq_none (by rw [List.length_append, hx, hz]; omega)]
section
variable {P : Program} {ops : Array Oper} {Q : Exit → Act → World → Prop} {md : Region.Mode} {C : World → Prop} {late : Nat → Bool}
theorem till_loose : ∀ (fuel : Nat) (listed : Array Bool) (a : Act) (w : World), (∀ j, listed.getD j true = false → late j = true) →
  AnyT P md ops Q (fun _ => True) (fun _ => false) fuel listed a w → AnyT P md ops Q C late fuel listed a w
 | 0, _, _, _, _, h => h
 | fuel + 1, listed, a, w, hl, h => ⟨h.1, fun i hi => wpOp_mono (fun a' w' h' => ⟨.inl (hl i (mem_ready.1 hi).1), till_loose fuel _ a' w' (fun j hj => hl j (by
   by_cases hij : i = j
   ·subst hij; exact (mem_ready.1 hi).1
   ·rw [getD_set_ne true hij] at hj; exact hj)) h'.2⟩) (h.2 i hi)⟩
theorem late_of {listed : Array Bool} (h : ((List.range listed.size).all fun j => listed.getD j true || late j) = true) : ∀ j, listed.getD j true = false → late j = true := fun j hj => by
 rcases Nat.lt_or_ge j listed.size with h1 | h1
 ·have := (List.all_eq_true.1 h) j (List.mem_range.2 h1)
  rw [hj, Bool.false_or] at this
  exact this
 ·rw [Array.getD_eq_getD_getElem?, Array.getElem?_eq_none h1] at hj
  cases hj
end
end Go.Proofs.YtacjhbbieeliaaaGreatDoor
/- The text Kc. -/
namespace Go.Proofs.YtacjhbbieeliaaaGreatDoor
open Go.RowKit Go.Lib
set_option linter.unusedVariables false
set_option linter.unusedSimpArgs false
theorem size_tree {a b c d e : Value} : (Tryz.prog.info? 52).map (·.size) = some (#[a, b, c, d, e] : Array Value).size := by kernel_rfl
theorem answer_any (r : ByteArray) (i e : Int) (w : World) : Calls Tryz.prog 305 #[.agg #[.string r, .int .i64 i, .int .i64 e, .slice none 0 0]] w fun x w' => x = .returned (.agg #[.string r, .int .i64 i, .int .i64 e, .slice none 0 0]) ∧ Below w.heap.size w w' := by
 go_enter Tryz.func305, Tryz.ntmps305
 have hk := Blk.new (w.alloc (.cells #[.string r, .int .i64 i, .int .i64 e, .slice none 0 0] 66)) 42 zRn
 rw [World.size_alloc] at hk
 have HK := hid hk
 clear hk
 go_wp2_with (((with_reducible refine store_rowb rfl 42 _ _ rfl (w.heap.size + 1) #[.string r, .int .i64 i, .int .i64 e, .slice none 0 0] ?_ ?_ 42 zRn HK.out size_rn ?_ (by simp [Value.oneCell']) ?_); rfl; rfl; rfl))
 exact bodyPost_ret (v := .agg #[.string r, .int .i64 i, .int .i64 e, .slice none 0 0]) (results_cell_row rfl _ _ (w.heap.size + 1) 42 _ (0, 0) _ rfl (setRow_heap _ _ _ _ _ _ HK.out) Tryz.underlying42 rfl size_rn) rfl ⟨rfl, below_setRow (((Below.refl _ w).alloc (Nat.le_refl _) _).alloc (by simp) _) (by omega) _⟩
def TrS (w : World) (g : Nat) (q : Option Nat) (rule : ByteArray) (id err : Int) (ks : List Rn.Tr) (done : Bool) : Prop :=
 ∃ kv, Blk w g 52 #[.string rule, .int .i64 id, .int .i64 err, kv, .bool done] ∧ RnS.Own 42 (fun b => g + 1 ≤ b) w (g + 1) kv ks ∧ kv.ownBlock = q
section
variable {w w' : World} {g : Nat} {q : Option Nat} {rule : ByteArray} {id err : Int} {ks : List Rn.Tr} {done : Bool}
theorem TrS.lt (h : TrS w g q rule id err ks done) : g < w.heap.size := by obtain ⟨kv, h, _⟩ := h; exact h.lt
theorem TrS.bel (h : TrS w g q rule id err ks done) (hb : Below w.heap.size w w') : TrS w' g q rule id err ks done := by
 obtain ⟨kv, h1, h2, h3⟩ := h
 exact ⟨kv, h1.below hb h1.lt, h2.bel hb, h3⟩
theorem TrS.own (h : TrS w g q rule id err ks done) : ∀ k, q = some k → g < k ∧ k < w.heap.size := fun k hk => by
 obtain ⟨kv, h1, ⟨xs, h2, _⟩, h3⟩ := h
 have := h2.lt k (h3.trans hk)
 omega
end
def askL (ks : List Rn.Tr) (done : Bool) (t : Rn.Tr) : List Rn.Tr := if done then ks else ks ++ [t]
def askD (done : Bool) (t : Rn.Tr) : Bool := done || !(t.err == 0)
def AskA (g : Nat) (q : Option Nat) (rule : ByteArray) (id err : Int) (ks : List Rn.Tr) (done : Bool) (t : Rn.Tr) (w : World) (x : Ending) (w' : World) : Prop :=
 x = .returned (.tuple #[]) ∧ ∃ q', TrS w' g q' rule id err (askL ks done t) (askD done t) ∧ PrK w g q w' q'
theorem PrK.grown_ {w w8 w9 : World} {g : Nat} {q q9 : Option Nat} (h : PrK w g q w8 q) (hg : w8.grownBy w9 q) (hf : q9 = q ∨ q9 = some w8.heap.size) : PrK w g q w9 q9 :=
 ⟨hg.os.trans h.os, hg.tape.trans h.tape, hg.output.trans h.output, Nat.le_trans h.size hg.size, fun k hk hkg hkq => (hg.block k (Nat.lt_of_lt_of_le hk h.size) hkq).trans (h.block k hk hkg hkq), hf.imp id fun e => ⟨_, e, h.size⟩⟩
theorem PrK.setg {w w' : World} {g : Nat} {q q' : Option Nat} (h : PrK w g q w' q') (i : Nat) (v : Value) : PrK w g q (w'.setCell ⟨g, i, none⟩ v) q' :=
 ⟨h.os, h.tape, h.output, Nat.le_trans h.size (by simp [World.setCell]), fun k hk hkg hkq => (Below.heap_setCell w' ⟨g, i, none⟩ v k hkg).trans (h.block k hk hkg hkq), h.fresh⟩
theorem PrK.setb {w w' : World} {g b : Nat} {q : Option Nat} (h : PrK w g q w' (some b)) (o : Nat) (zs : List Value) : PrK w g q (w'.setCells b o zs) (some b) := by
 obtain ⟨e1, e2, e3⟩ := same_setCells b zs o w'
 refine ⟨e1.trans h.os, e2.trans h.tape, e3.trans h.output, by rw [size_setCells]; exact h.size, fun k hk hkg hkq => (heap_setCells (fun e => ?_) zs o w').trans (h.block k hk hkg hkq), h.fresh⟩
 rcases h.fresh with h3 | ⟨m, h3, h4⟩
 ·exact hkq (by rw [e]; exact h3)
 ·injection h3 with h3; omega
theorem tr_end {w8 W : World} {g b9 c9 : Nat} {q : Option Nat} {rule : ByteArray} {id err : Int} {ks : List Rn.Tr} {xs : List Value} {r : List UInt8} {i e : Int} {d : Bool}
  (hk : Blk W g 52 #[.string rule, .int .i64 id, .int .i64 err, .slice (some ⟨b9, 0, none⟩) (ks.length + 1) c9, .bool d]) (how : W.ownsRow (g + 1) 42 4 (.slice (some ⟨b9, 0, none⟩) (ks.length + 1) c9) (ks.length + 1) (xs ++ [.string (bstr r), .int .i64 i, .int .i64 e, .slice none 0 0])) (hx : xs.length = ks.length * 4)
  (hcx : RnS.Cells (fun b => g + 1 ≤ b ∧ some b ≠ q) w8 xs ks) (hkeep : ∀ b, g + 1 ≤ b → some b ≠ q → b < w8.heap.size → b ≠ b9 ∧ W.heap[b]? = w8.heap[b]?) : TrS W g (some b9) rule id err (ks ++ [.mk r i e []]) d := by
 have hl : (ks ++ [Rn.Tr.mk r i e []]).length = ks.length + 1 := by rw [List.length_append]; rfl
 refine ⟨_, hk, ⟨xs ++ [.string (bstr r), .int .i64 i, .int .i64 e, .slice none 0 0], by rw [hl]; exact how, Shp.Cells.append (hcx.keep fun b hb hl => ⟨⟨hb.1, fun e => (hkeep b hb.1 hb.2 hl).1 (by injection e)⟩, (hkeep b hb.1 hb.2 hl).2⟩) hx (Shp.Cells.one ?_)⟩, rfl⟩
 exact RnV.make (A := none) (cap := 0) (ks := []) RnRow.nil
theorem method_answer (n : Nat) (r : ByteArray) (i e : Int) (w : World) : (method (n + 1) 66 (.agg #[.string r, .int .i64 i, .int .i64 e, .slice none 0 0]) "fedchat/explain.answer").run Tryz.prog w = .ok (305, .agg #[.string r, .int .i64 i, .int .i64 e, .slice none 0 0]) w := by kernel_rfl
theorem ask_any (g : Nat) (q : Option Nat) (rule : ByteArray) (id err : Int) (ks : List Rn.Tr) (done : Bool) (r : List UInt8) (i e : Int) (w : World) (h : TrS w g q rule id err ks done) (hn : ks.length ≤ 1000) :
  Calls Tryz.prog 22 #[.pointer (some ⟨g, 0, none⟩), .iface 66 (.agg #[.string (bstr r), .int .i64 i, .int .i64 e, .slice none 0 0])] w (AskA g q rule id err ks done (.mk r i e []) w) := by
 obtain ⟨kv, hk, hown, hq⟩ := h
 have HK := hid hk
 have HOW := hid hown
 have hc4 := hk.cell 4
 clear hk hown
 cases done with
 | true =>
  go_enter Tryz.func22, Tryz.ntmps22
  go_wp2_with fail
  exact bodyPost_ret (results_none rfl _ _ _) rfl ⟨rfl, q, ⟨kv, HK.out, HOW.out, hq⟩, PrK.refl ..⟩
 | false =>
  have hm := fun n W => method_answer n (bstr r) i e W
  go_enter Tryz.func22, Tryz.ntmps22
  go_wp2_with fail
  refine (answer_any (bstr r) i e w).mono ?_
  rintro x w2 ⟨rfl, hb2⟩
  have HB2 := hid hb2
  have HN := hid (Blk.new w2 42 zRn)
  obtain ⟨A5, c5, rfl, hc5⟩ := HOW.out.len
  have hb3 := below_setRow (g := w2.heap.size) (hb2.alloc hb2.size (.cells zRn 42)) hb2.size #[.string (bstr r), .int .i64 i, .int .i64 e, .slice none 0 0]
  have HB3 := hid hb3
  have HX3 : Hid (Blk ((w2.alloc (.cells zRn 42)).setRow w2.heap.size #[.string (bstr r), .int .i64 i, .int .i64 e, .slice none 0 0]) w2.heap.size 42 #[.string (bstr r), .int .i64 i, .int .i64 e, .slice none 0 0]) := hid (setRow_heap _ _ _ _ _ _ HN.out)
  have HQ := hid hq
  have hgx : w.heap.size ≤ w2.heap.size := hb2.size
  have HK3 := hid (HK.out.below hb3 HK.out.lt)
  have HOW3 := hid (HOW.out.bel hb3)
  have hglt := HK.out.lt
  clear hb2 hb3 hq hc4 hm
  go_upto_region 2 with (((with_reducible refine store_rowb rfl 42 _ _ rfl w2.heap.size #[.string (bstr r), .int .i64 i, .int .i64 e, .slice none 0 0] ?_ ?_ 42 zRn HN.out size_rn ?_ (by simp [Value.oneCell']) ?_); rfl; rfl; rfl))
  generalize (w2.alloc (.cells zRn 42)).setRow w2.heap.size #[.string (bstr r), .int .i64 i, .int .i64 e, .slice none 0 0] = w3 at *
  have hc33 : w3.drew.cell? ⟨g, 3, none⟩ = some (.slice A5 ks.length c5) := HK3.out.cell 3
  have hx33 : w3.drew.rangeAt w2.heap.size 0 [.string (bstr r), .int .i64 i, .int .i64 e, .slice none 0 0] := range_of_blk HX3.out
  have HLX : Hid ((Tryz.prog.info? 42).map (·.size) = some ([.string (bstr r), .int .i64 i, .int .i64 e, .slice none 0 0] : List Value).length) := hid size_rea
  refine region_till (fun W => W.cell? ⟨g, 3, none⟩ = some (.slice A5 ks.length c5) ∧ W.rangeAt w2.heap.size 0 [.string (bstr r), .int .i64 i, .int .i64 e, .slice none 0 0]) (fun i => decide (8 ≤ i)) (by kernel_rfl) ⟨hc33, hx33⟩ (fun hHeld => ?_)
  refine till_take (i := 0) (oi := _) (v := ?_) rfl (by kernel_rfl) (by kernel_rfl) (by kernel_rfl) (by kernel_rfl) (fun _ _ _ h => h) (Or.inl ⟨by rfl, ?_⟩) hHeld ?_
  rotate_left
  ·intro wq hSw
   go_simp
   (try with_reducible rfl)
  (try simp only [Act.put, List.getElem_toArray, List.getElem_cons_zero, List.getElem_cons_succ, List.setIfInBounds_toArray, List.set_cons_zero, List.set_cons_succ])
  refine till_take (i := 1) (oi := _) (v := ?_) rfl (by kernel_rfl) (by kernel_rfl) (by kernel_rfl) (by kernel_rfl) (fun _ _ _ h => h) (Or.inl ⟨by rfl, ?_⟩) hHeld ?_
  rotate_left
  ·intro wq hSw
   go_simp
   (try with_reducible rfl)
  (try simp only [Act.put, List.getElem_toArray, List.getElem_cons_zero, List.getElem_cons_succ, List.setIfInBounds_toArray, List.set_cons_zero, List.set_cons_succ])
  refine till_take (i := 2) (oi := _) (v := ?_) rfl (by kernel_rfl) (by kernel_rfl) (by kernel_rfl) (by kernel_rfl) (fun _ _ _ h => h) (Or.inl ⟨by rfl, ?_⟩) hHeld ?_
  rotate_left
  ·intro wq hSw
   go_simp
   (try with_reducible rfl)
  (try simp only [Act.put, List.getElem_toArray, List.getElem_cons_zero, List.getElem_cons_succ, List.setIfInBounds_toArray, List.set_cons_zero, List.set_cons_succ])
  refine till_take (i := 3) (oi := _) (v := ?_) rfl (by kernel_rfl) (by kernel_rfl) (by kernel_rfl) (by kernel_rfl) (fun _ _ _ h => h) (Or.inl ⟨by rfl, ?_⟩) hHeld ?_
  rotate_left
  ·intro wq hSw
   go_simp
   (try with_reducible rfl)
  (try simp only [Act.put, List.getElem_toArray, List.getElem_cons_zero, List.getElem_cons_succ, List.setIfInBounds_toArray, List.set_cons_zero, List.set_cons_succ])
  refine till_take (i := 4) (oi := _) (v := ?_) rfl (by kernel_rfl) (by kernel_rfl) (by kernel_rfl) (by kernel_rfl) (fun _ _ _ h => h) (Or.inl ⟨by rfl, ?_⟩) hHeld ?_
  rotate_left
  ·intro wq hSw
   have hSw1 := hSw.1
   go_simp
   (try with_reducible rfl)
  (try simp only [Act.put, List.getElem_toArray, List.getElem_cons_zero, List.getElem_cons_succ, List.setIfInBounds_toArray, List.set_cons_zero, List.set_cons_succ])
  refine till_take (i := 5) (oi := _) (v := _) rfl (by kernel_rfl) (by kernel_rfl) (by kernel_rfl) (by kernel_rfl) (fun _ _ _ h => h) (mid_yields rfl Tryz.underlying42 HLX.out (fun W h => h.2) (by kernel_rfl) _ rfl rfl) hHeld ?_
  (try simp only [Act.put, List.getElem_toArray, List.getElem_cons_zero, List.getElem_cons_succ, List.setIfInBounds_toArray, List.set_cons_zero, List.set_cons_succ])
  refine till_take (i := 6) (oi := _) (v := ?_) rfl (by kernel_rfl) (by kernel_rfl) (by kernel_rfl) (by kernel_rfl) (fun _ _ _ h => h) (Or.inl ⟨by rfl, ?_⟩) hHeld ?_
  rotate_left
  ·intro wq hSw
   go_simp
   (try with_reducible rfl)
  (try simp only [Act.put, List.getElem_toArray, List.getElem_cons_zero, List.getElem_cons_succ, List.setIfInBounds_toArray, List.set_cons_zero, List.set_cons_succ])
  refine till_ready (rs := [7]) (by kernel_rfl) (by simp) ?_
  refine ReadyT.cons (o := _) rfl (fun K hK => ?_) ReadyT.nil
  go_simp
  have hz8 := (Below.refl w3.heap.size w3).drew.alloc (Nat.le_refl _) (.cells zRn 42)
  have HOW8 := hid (HOW3.out.bel hz8)
  have HK8 := hid (HK3.out.below hz8 HK3.out.lt)
  have HX8 := hid (HX3.out.below hz8 HX3.out.lt)
  have HRD8 : Hid (Rd (w3.drew.alloc (.cells zRn 42)) (some ⟨w3.heap.size, 0, none⟩) (1 * 4) zRn.toList) := hid (Rd.of_blk (vs := zRn.toList) (Blk.new w3.drew 42 _))
  have HO1 : Hid (∀ u ∈ zRn.toList, u.oneCell' = true) := hid (by intro u hu; simp at hu; rcases hu with rfl | rfl | rfl <;> rfl)
  have hs8 : g + 1 ≤ (w3.drew.alloc (.cells zRn 42)).heap.size := by have := HK8.out.lt; omega
  obtain ⟨xs, hown8, hcs8⟩ := HOW8.out
  have HOL : Hid (∀ k, (Value.slice A5 ks.length c5).ownBlock = some k → g + 1 ≤ k ∧ k < w.heap.size) := hid (fun k hk => by
   obtain ⟨xs0, h0, -⟩ := HOW.out
   exact h0.lt k hk)
  have HOX := hid hown8
  have HCX := hid hcs8
  clear hown8 hcs8 hz8
  refine hK.out _ _ (.inr ⟨HK8.out.cell 3, range_of_blk HX8.out⟩) ?_
  clear hK K hHeld hc33 hx33
  (try simp only [Act.put, List.getElem_toArray, List.getElem_cons_zero, List.getElem_cons_succ, List.setIfInBounds_toArray, List.set_cons_zero, List.set_cons_succ])
  refine till_ready (rs := [8]) (by kernel_rfl) (by simp) ?_
  refine ReadyT.cons (o := _) rfl (fun K hK => ?_) ReadyT.nil
  refine step_row rowRn rfl _ _ rfl (w3.drew.alloc (.cells zRn 42)) (.slice A5 ks.length c5) ks.length xs zRn.toList (g + 1) ?_ HOX.out (some ⟨w3.heap.size, 0, none⟩) 1 1 ?_ HRD8.out HO1.out hs8 (by omega) ?_
  ·kernel_rfl
  ·kernel_rfl
  intro v9 w9 ho9 hg9 hb9 hw9
  obtain ⟨A9, c9, rfl, -⟩ := own_at ho9
  obtain ⟨b9, rfl, hb9g, hb9lt, hth, hown10⟩ := own_last (zs := [.string (bstr r), .int .i64 i, .int .i64 e, .slice none 0 0]) ho9 HOX.out.1 rfl rfl
  have HTH := hid hth
  have HW10 := hid hown10
  have HO9 := hid ho9
  have HOLq : Hid ((Value.slice A5 ks.length c5).ownBlock = q) := HQ
  have hgo : some g ≠ (Value.slice A5 ks.length c5).ownBlock := fun e => by have := (HOL.out _ e.symm).1; omega
  have hxo : some w2.heap.size ≠ (Value.slice A5 ks.length c5).ownBlock := fun e => by have := (HOL.out _ e.symm).2; omega
  have HK9 := hid (HK8.out.grown hg9 hgo)
  have HX9 := hid (HX8.out.grown hg9 hxo)
  have hxb : w2.heap.size ≠ b9 := fun e => by
   rcases hw9 with h | h
   ·exact hxo (by rw [e]; exact h)
   ·have h1 : b9 = (w3.drew.alloc (.cells zRn 42)).heap.size := by injection h
    have := HX8.out.lt
    omega
  have hgb : g ≠ b9 := by omega
  have HKP9 : Hid (∀ b, g + 1 ≤ b → some b ≠ q → b < (w3.drew.alloc (.cells zRn 42)).heap.size → b ≠ b9 ∧ w9.heap[b]? = (w3.drew.alloc (.cells zRn 42)).heap[b]?) := hid (fun b h1 h2 h3 => ⟨fun e => by
   rcases hw9 with h | h
   ·exact h2 (by rw [e, ← HOLq.out]; exact h)
   ·have h1 : b9 = (w3.drew.alloc (.cells zRn 42)).heap.size := by injection h
    omega, hg9.block b h3 (by rw [HOLq.out]; exact h2)⟩)
  have HPK9 : Hid (PrK w g q w9 (some b9)) := hid (by
   have h8 : Below w.heap.size w (w3.drew.alloc (.cells zRn 42)) := HB3.out.drew.alloc HB3.out.size _
   refine (PrK.of_bel h8).grown_ (by rw [← HOLq.out]; exact hg9) ?_
   rw [← HOLq.out]
   exact hw9)
  rw [HOLq.out] at HCX
  clear ho9 hg9 hb9 hw9 hth hown10 hgo hxo
  refine hK.out _ _ (.inl (by kernel_rfl)) ?_
  clear hK K
  (try simp only [Act.put, List.getElem_toArray, List.getElem_cons_zero, List.getElem_cons_succ, List.setIfInBounds_toArray, List.set_cons_zero, List.set_cons_succ])
  refine till_loose _ _ _ _ (late_of (by kernel_rfl)) ?_
  have hHeld : True := trivial
  have hi9 : (ks.length : Int) < (ks.length : Int) + 1 := by omega
  refine till_take (i := 9) (oi := _) (v := ?_) rfl (by kernel_rfl) (by kernel_rfl) (by kernel_rfl) (by kernel_rfl) (fun _ _ _ h => h) (Or.inl ⟨by rfl, ?_⟩) hHeld ?_
  rotate_left
  ·intro wq hSw
   go_simp
   (try with_reducible rfl)
  (try simp only [Act.put, List.getElem_toArray, List.getElem_cons_zero, List.getElem_cons_succ, List.setIfInBounds_toArray, List.set_cons_zero, List.set_cons_succ])
  refine till_take (i := 11) (oi := _) (v := ?_) rfl (by kernel_rfl) (by kernel_rfl) (by kernel_rfl) (by kernel_rfl) (fun _ _ _ h => h) (Or.inl ⟨by rfl, ?_⟩) hHeld ?_
  rotate_left
  ·intro wq hSw
   go_simp
   (try with_reducible rfl)
  (try simp only [Act.put, List.getElem_toArray, List.getElem_cons_zero, List.getElem_cons_succ, List.setIfInBounds_toArray, List.set_cons_zero, List.set_cons_succ])
  refine till_take (i := 12) (oi := _) (v := ?_) rfl (by kernel_rfl) (by kernel_rfl) (by kernel_rfl) (by kernel_rfl) (fun _ _ _ h => h) (Or.inl ⟨by rfl, ?_⟩) hHeld ?_
  rotate_left
  ·intro wq hSw
   go_simp
   (try with_reducible rfl)
  (try simp only [Act.put, List.getElem_toArray, List.getElem_cons_zero, List.getElem_cons_succ, List.setIfInBounds_toArray, List.set_cons_zero, List.set_cons_succ])
  refine till_take (i := 13) (oi := _) (v := ?_) rfl (by kernel_rfl) (by kernel_rfl) (by kernel_rfl) (by kernel_rfl) (fun _ _ _ h => h) (Or.inl ⟨by rfl, ?_⟩) hHeld ?_
  rotate_left
  ·intro wq hSw
   go_simp
   (try with_reducible rfl)
  (try simp only [Act.put, List.getElem_toArray, List.getElem_cons_zero, List.getElem_cons_succ, List.setIfInBounds_toArray, List.set_cons_zero, List.set_cons_succ])
  clear hi9
  refine till_ready (rs := [10, 14]) (by kernel_rfl) (by simp) ?_
  refine ReadyT.cons (o := _) rfl (fun K hK => ?_) (ReadyT.cons (o := _) rfl (fun K hK => ?_) ReadyT.nil)
  ·rw [if_pos (by kernel_rfl)]
   refine wp_store_mid 42 _ _ rfl b9 (ks.length * 4) #[.string (bstr r), .int .i64 i, .int .i64 e, .slice none 0 0] rfl rfl HTH.out size_rn (by simp [Value.oneCell']) ?_
   refine hK.out _ _ (.inr trivial) ?_
   clear hK K
   (try simp only [Act.put, List.getElem_toArray, List.getElem_cons_zero, List.getElem_cons_succ, List.setIfInBounds_toArray, List.set_cons_zero, List.set_cons_succ])
   have hk14 : Blk (w9.setCells b9 (ks.length * 4) [.string (bstr r), .int .i64 i, .int .i64 e, .slice none 0 0]) g 52 #[.string rule, .int .i64 id, .int .i64 err, .slice A5 ks.length c5, .bool false] := (heap_setCells hgb _ _ _).trans HK9.out
   have hc14 := hk14.cell 3
   have hf14 := hk14.frozen 3
   have HK14 := hid hk14
   clear hk14
   have hkf : Blk ((w9.setCells b9 (ks.length * 4) [.string (bstr r), .int .i64 i, .int .i64 e, .slice none 0 0]).setCell ⟨g, 3, none⟩ (.slice (some ⟨b9, 0, none⟩) (ks.length + 1) c9)) g 52 #[.string rule, .int .i64 id, .int .i64 err, .slice (some ⟨b9, 0, none⟩) (ks.length + 1) c9, .bool false] := HK14.out.set_ 3 _
   have HKF0 := hid hkf
   clear hkf
   refine till_ready (rs := [14]) (by kernel_rfl) (by simp) ?_
   refine ReadyT.cons (o := _) rfl (fun K hK => ?_) ReadyT.nil
   go_simp
   refine hK.out _ _ (.inr trivial) ?_
   clear hK K hc14 hf14
   (try simp only [Act.put, List.getElem_toArray, List.getElem_cons_zero, List.getElem_cons_succ, List.setIfInBounds_toArray, List.set_cons_zero, List.set_cons_succ])
   have hkf := HKF0.out
   have hxf : Blk ((w9.setCells b9 (ks.length * 4) [.string (bstr r), .int .i64 i, .int .i64 e, .slice none 0 0]).setCell ⟨g, 3, none⟩ (.slice (some ⟨b9, 0, none⟩) (ks.length + 1) c9)) w2.heap.size 42 #[.string (bstr r), .int .i64 i, .int .i64 e, .slice none 0 0] := Blk.far (show Blk (w9.setCells b9 (ks.length * 4) [.string (bstr r), .int .i64 i, .int .i64 e, .slice none 0 0]) w2.heap.size 42 #[.string (bstr r), .int .i64 i, .int .i64 e, .slice none 0 0] from (heap_setCells hxb _ _ _).trans HX9.out) (by show w2.heap.size ≠ g; omega) _
   have howf : ((w9.setCells b9 (ks.length * 4) [.string (bstr r), .int .i64 i, .int .i64 e, .slice none 0 0]).setCell ⟨g, 3, none⟩ (.slice (some ⟨b9, 0, none⟩) (ks.length + 1) c9)).ownsRow (g + 1) 42 4 (.slice (some ⟨b9, 0, none⟩) (ks.length + 1) c9) (ks.length + 1) (xs ++ [.string (bstr r), .int .i64 i, .int .i64 e, .slice none 0 0]) := own_set' HW10.out
   have hkp : ∀ b, g + 1 ≤ b → some b ≠ q → b < (w3.drew.alloc (.cells zRn 42)).heap.size → b ≠ b9 ∧ ((w9.setCells b9 (ks.length * 4) [.string (bstr r), .int .i64 i, .int .i64 e, .slice none 0 0]).setCell ⟨g, 3, none⟩ (.slice (some ⟨b9, 0, none⟩) (ks.length + 1) c9)).heap[b]? = (w3.drew.alloc (.cells zRn 42)).heap[b]? := fun b h1 h2 h3 => ⟨(HKP9.out b h1 h2 h3).1, (Below.heap_setCell _ ⟨g, 3, none⟩ _ b (by show b ≠ g; omega)).trans ((heap_setCells (HKP9.out b h1 h2 h3).1 _ _ _).trans (HKP9.out b h1 h2 h3).2)⟩
   have hpk : PrK w g q ((w9.setCells b9 (ks.length * 4) [.string (bstr r), .int .i64 i, .int .i64 e, .slice none 0 0]).setCell ⟨g, 3, none⟩ (.slice (some ⟨b9, 0, none⟩) (ks.length + 1) c9)) (some b9) := (HPK9.out.setb _ _).setg 3 _
   refine till_done (by kernel_rfl) ?_ _
   have HKF := hid hkf
   have hc2 : ((w9.setCells b9 (ks.length * 4) [.string (bstr r), .int .i64 i, .int .i64 e, .slice none 0 0]).setCell ⟨g, 3, none⟩ (.slice (some ⟨b9, 0, none⟩) (ks.length + 1) c9)).cell? ⟨w2.heap.size, 2, none⟩ = some (.int .i64 e) := (Blk.cell hxf 2)
   have hcd : ((w9.setCells b9 (ks.length * 4) [.string (bstr r), .int .i64 i, .int .i64 e, .slice none 0 0]).setCell ⟨g, 3, none⟩ (.slice (some ⟨b9, 0, none⟩) (ks.length + 1) c9)).cell? ⟨g, 4, none⟩ = some (.bool false) := hkf.cell 4
   have hfd : ((w9.setCells b9 (ks.length * 4) [.string (bstr r), .int .i64 i, .int .i64 e, .slice none 0 0]).setCell ⟨g, 3, none⟩ (.slice (some ⟨b9, 0, none⟩) (ks.length + 1) c9)).frozen? ⟨g, 4, none⟩ = false := hkf.frozen 4
   have HOWG := hid howf
   have HKP := hid hkp
   have HPKF := hid hpk
   clear hkf hxf howf hkp hpk
   generalize (w9.setCells b9 (ks.length * 4) [.string (bstr r), .int .i64 i, .int .i64 e, .slice none 0 0]).setCell ⟨g, 3, none⟩ (.slice (some ⟨b9, 0, none⟩) (ks.length + 1) c9) = wf at *
   go_wp2_with fail
   go_end0
   exact ⟨rfl, _, tr_end (HKF.out.set_ 4 _) (own_set' HOWG.out) HOX.out.1 HCX.out (fun b h1 h2 h3 => ⟨(HKP.out b h1 h2 h3).1, (Below.heap_setCell _ ⟨g, 4, none⟩ _ b (by show b ≠ g; omega)).trans (HKP.out b h1 h2 h3).2⟩), HPKF.out.setg 4 _⟩
  ·have hk15 := HK9.out.cell 3
   have hf15 := HK9.out.frozen 3
   go_simp
   refine hK.out _ _ (.inr trivial) ?_
   clear hK K hk15 hf15
   (try simp only [Act.put, List.getElem_toArray, List.getElem_cons_zero, List.getElem_cons_succ, List.setIfInBounds_toArray, List.set_cons_zero, List.set_cons_succ])
   refine till_ready (rs := [10]) (by kernel_rfl) (by simp) ?_
   refine ReadyT.cons (o := _) rfl (fun K hK => ?_) ReadyT.nil
   rw [if_pos (by kernel_rfl)]
   obtain ⟨b', eb, -, -, hth2, how2⟩ := own_last (zs := [.string (bstr r), .int .i64 i, .int .i64 e, .slice none 0 0]) (own_set' (i := 3) (u := (.slice (some ⟨b9, 0, none⟩) (ks.length + 1) c9)) HO9.out) HOX.out.1 rfl rfl
   injection eb with eb
   injection eb with eb
   subst eb
   refine wp_store_mid 42 _ _ rfl b9 (ks.length * 4) #[.string (bstr r), .int .i64 i, .int .i64 e, .slice none 0 0] rfl rfl hth2 size_rn (by simp [Value.oneCell']) ?_
   refine hK.out _ _ (.inr trivial) ?_
   clear hK K hth2
   (try simp only [Act.put, List.getElem_toArray, List.getElem_cons_zero, List.getElem_cons_succ, List.setIfInBounds_toArray, List.set_cons_zero, List.set_cons_succ])
   have hkf : Blk ((w9.setCell ⟨g, 3, none⟩ (.slice (some ⟨b9, 0, none⟩) (ks.length + 1) c9)).setCells b9 (ks.length * 4) [.string (bstr r), .int .i64 i, .int .i64 e, .slice none 0 0]) g 52 #[.string rule, .int .i64 id, .int .i64 err, (.slice (some ⟨b9, 0, none⟩) (ks.length + 1) c9), .bool false] := (heap_setCells hgb _ _ _).trans (HK9.out.set_ 3 _)
   have hxf : Blk ((w9.setCell ⟨g, 3, none⟩ (.slice (some ⟨b9, 0, none⟩) (ks.length + 1) c9)).setCells b9 (ks.length * 4) [.string (bstr r), .int .i64 i, .int .i64 e, .slice none 0 0]) w2.heap.size 42 #[.string (bstr r), .int .i64 i, .int .i64 e, .slice none 0 0] := (heap_setCells hxb _ _ _).trans (HX9.out.far (by show w2.heap.size ≠ g; omega) _)
   have howf : ((w9.setCell ⟨g, 3, none⟩ (.slice (some ⟨b9, 0, none⟩) (ks.length + 1) c9)).setCells b9 (ks.length * 4) [.string (bstr r), .int .i64 i, .int .i64 e, .slice none 0 0]).ownsRow (g + 1) 42 4 (.slice (some ⟨b9, 0, none⟩) (ks.length + 1) c9) (ks.length + 1) (xs ++ [.string (bstr r), .int .i64 i, .int .i64 e, .slice none 0 0]) := how2
   have hkp : ∀ b, g + 1 ≤ b → some b ≠ q → b < (w3.drew.alloc (.cells zRn 42)).heap.size → b ≠ b9 ∧ ((w9.setCell ⟨g, 3, none⟩ (.slice (some ⟨b9, 0, none⟩) (ks.length + 1) c9)).setCells b9 (ks.length * 4) [.string (bstr r), .int .i64 i, .int .i64 e, .slice none 0 0]).heap[b]? = (w3.drew.alloc (.cells zRn 42)).heap[b]? := fun b h1 h2 h3 => ⟨(HKP9.out b h1 h2 h3).1, (heap_setCells (HKP9.out b h1 h2 h3).1 _ _ _).trans ((Below.heap_setCell _ ⟨g, 3, none⟩ _ b (by show b ≠ g; omega)).trans (HKP9.out b h1 h2 h3).2)⟩
   have hpk : PrK w g q ((w9.setCell ⟨g, 3, none⟩ (.slice (some ⟨b9, 0, none⟩) (ks.length + 1) c9)).setCells b9 (ks.length * 4) [.string (bstr r), .int .i64 i, .int .i64 e, .slice none 0 0]) (some b9) := (HPK9.out.setg 3 _).setb _ _
   clear how2
   refine till_done (by kernel_rfl) ?_ _
   have HKF := hid hkf
   have hc2 : ((w9.setCell ⟨g, 3, none⟩ (.slice (some ⟨b9, 0, none⟩) (ks.length + 1) c9)).setCells b9 (ks.length * 4) [.string (bstr r), .int .i64 i, .int .i64 e, .slice none 0 0]).cell? ⟨w2.heap.size, 2, none⟩ = some (.int .i64 e) := (Blk.cell hxf 2)
   have hcd : ((w9.setCell ⟨g, 3, none⟩ (.slice (some ⟨b9, 0, none⟩) (ks.length + 1) c9)).setCells b9 (ks.length * 4) [.string (bstr r), .int .i64 i, .int .i64 e, .slice none 0 0]).cell? ⟨g, 4, none⟩ = some (.bool false) := hkf.cell 4
   have hfd : ((w9.setCell ⟨g, 3, none⟩ (.slice (some ⟨b9, 0, none⟩) (ks.length + 1) c9)).setCells b9 (ks.length * 4) [.string (bstr r), .int .i64 i, .int .i64 e, .slice none 0 0]).frozen? ⟨g, 4, none⟩ = false := hkf.frozen 4
   have HOWG := hid howf
   have HKP := hid hkp
   have HPKF := hid hpk
   clear hkf hxf howf hkp hpk
   generalize (w9.setCell ⟨g, 3, none⟩ (.slice (some ⟨b9, 0, none⟩) (ks.length + 1) c9)).setCells b9 (ks.length * 4) [.string (bstr r), .int .i64 i, .int .i64 e, .slice none 0 0] = wf at *
   go_wp2_with fail
   go_end0
   exact ⟨rfl, _, tr_end (HKF.out.set_ 4 _) (own_set' HOWG.out) HOX.out.1 HCX.out (fun b h1 h2 h3 => ⟨(HKP.out b h1 h2 h3).1, (Below.heap_setCell _ ⟨g, 4, none⟩ _ b (by show b ≠ g; omega)).trans (HKP.out b h1 h2 h3).2⟩), HPKF.out.setg 4 _⟩
theorem must_any (g : Nat) (q : Option Nat) (rule : ByteArray) (id err : Int) (ks : List Rn.Tr) (done : Bool) (r : List UInt8) (i : Int) (hd : Bool) (e : Int) (w : World) (h : TrS w g q rule id err ks done) (hn : ks.length ≤ 1000) :
  Calls Tryz.prog 14 #[.pointer (some ⟨g, 0, none⟩), .string (bstr r), .int .i64 i, .bool hd, .int .i64 e] w (AskA g q rule id err ks done (Co.ask r i (!hd) e) w) := by
 cases hd with
 | true =>
  have HA := hid (ask_any g q rule id err ks done r i 0 w h hn)
  clear h
  go_enter Tryz.func14, Tryz.ntmps14
  go_wp2_with fail
  refine HA.out.mono ?_
  rintro x w2 ⟨rfl, h2⟩
  go_wp2_with fail
  go_end0
  exact ⟨rfl, h2⟩
 | false =>
  have HA := hid (ask_any g q rule id err ks done r i e w h hn)
  clear h
  go_enter Tryz.func14, Tryz.ntmps14
  go_wp2_with fail
  refine HA.out.mono ?_
  rintro x w2 ⟨rfl, h2⟩
  go_wp2_with fail
  go_end0
  exact ⟨rfl, h2⟩
end Go.Proofs.YtacjhbbieeliaaaGreatDoor
