/- The texts Um, Uq, V0, Va, Ui of this proof, one behind the other. -/
import Derived.Test.YtchkiegehejfmaaGreatDoorMae
import Derived.Test.YtchkiegehejfmaaGreatDoorMad
set_option linter.unusedSimpArgs false
set_option maxHeartbeats 16000000
set_option maxRecDepth 100000
/- The text Um. -/
namespace Pr
mutual
def small : Cn → Prop
 | .mk _ t _ ks => t.length ≤ 1000000 ∧ smallL ks
def smallL : List Cn → Prop
 | [] => True
 | c :: r => small c ∧ smallL r
end
theorem small_kid : ∀ {ks : List Cn} {i : Nat} {c : Cn}, smallL ks → ks[i]? = some c → small c
 | [], i, c, _, h => by cases h
 | k :: r, 0, c, hs, h => by injection h with h; subst h; unfold smallL at hs; exact hs.1
 | k :: r, i + 1, c, hs, h => by rw [List.getElem?_cons_succ] at h; unfold smallL at hs; exact small_kid hs.2 h
theorem small_open {c : Cn} (h : small c) : c.text.length ≤ 1000000 ∧ smallL c.kids := by cases c; unfold small at h; exact h
theorem treeE_open (c : Cn) : treeE c = if nodeE c.op c.text c.num c.kids.length ≠ 0 then nodeE c.op c.text c.num c.kids.length else treeEL c.kids := by cases c; unfold treeE; rfl
theorem treeEL_drop {ks : List Cn} {k : Nat} {c : Cn} (h : ks[k]? = some c) : treeEL (ks.drop k) = if treeE c ≠ 0 then treeE c else treeEL (ks.drop (k + 1)) := by
 obtain ⟨h1, h2⟩ := List.getElem?_eq_some_iff.1 h
 rw [List.drop_eq_getElem_cons h1, h2, treeEL]
end Pr
namespace Go.Proofs.YtchkiegehejfmaaGreatDoor
open Go.RowKit Go.Lib
set_option linter.unusedVariables false
set_option linter.unusedSimpArgs false
theorem ptree_any : ∀ (m : Nat) (ok : Nat → Prop) (c : Pr.Cn) (V : Array Value) (w : World), Pr.nodes c ≤ m → m ≤ 1000000 → Pr.small c → CnV w ok V c → Calls Tryz.prog 94 #[.agg V] w fun e w' => e = .returned (.int .i64 (Pr.treeE c)) ∧ Below w.heap.size w w'
 | 0, ok, c, V, w, hm, _, _, h => absurd hm (by have := Pr.nodes_pos c; omega)
 | m + 1, ok, c, V, w, hm, hm6, hsm, h => by
  have IH := hid (fun c V w (hc : Pr.nodes c ≤ m) (hs : Pr.small c) (h : CnV w ok V c) => ptree_any m ok c V w hc (by omega) hs h)
  have hne := Pr.nodes_eq c
  have hkl := Pr.kids_nodes c.kids
  have hto := Pr.treeE_open c
  obtain ⟨htl, hsk⟩ := Pr.small_open hsm
  have hb1 := (Below.refl w.heap.size w).alloc (Nat.le_refl _) (.cells V 36)
  have hV1 := h.bel hb1
  have HND := hid (pnode_any ok c V (w.alloc (.cells V 36)) hV1 htl)
  have hk1 := Blk.new w 36 V
  have hvs := h.size
  obtain ⟨A, cap, rfl, hrow⟩ := hV1.open
  have HB1 := hid hb1
  have HR1 := hid hrow
  have HK1 := hid hk1
  have HSC : Hid ((Tryz.prog.info? 36).map (·.size) = some (#[.int .i64 c.op, .string (bstr c.text), .int .i64 c.num, .slice A c.kids.length cap] : Array Value).size) := hid (by rw [size_cond]; rfl)
  have hc3 : (w.alloc (.cells #[.int .i64 c.op, .string (bstr c.text), .int .i64 c.num, .slice A c.kids.length cap] 36)).cell? ⟨w.heap.size, 3, none⟩ = some (.slice A c.kids.length cap) := hk1.cell 3
  clear hb1 hV1 h hrow hk1 hvs hsm
  obtain ⟨Z, hZ⟩ : ∃ Z, Pr.treeE c = Z := ⟨_, rfl⟩
  rw [hZ] at hto ⊢
  have HTO := hid hto
  have HSK := hid hsk
  clear hto hsk hZ
  generalize hw1 : w.alloc (.cells #[.int .i64 c.op, .string (bstr c.text), .int .i64 c.num, .slice A c.kids.length cap] 36) = w1 at *
  generalize Pr.nodeE c.op c.text c.num c.kids.length = E at *
  generalize c.kids = ks at *
  have hkm : Pr.nodesL ks ≤ m := by omega
  clear hne
  go_enter Tryz.func94, Tryz.ntmps94
  go_wp2_with (refine wpList_load_row rfl 36 _ rfl w.heap.size rfl 36 _ (0, 0) _ HK1.out Tryz.underlying36 rfl HSC.out ?_)
  refine HND.out.mono ?_
  rintro e w2 ⟨rfl, hb2⟩
  have HB2 := hid (HB1.out.trans (hb2.mono HB1.out.size))
  have HR2 := hid (HR1.out.below hb2)
  have hc32 := (Below.cell hb2 (block_lt hc3)).trans hc3
  clear hb2
  by_cases hE : E = 0
  ·subst hE
   have HT2 : Hid (Z = Pr.treeEL ks) := hid (by rw [HTO.out, if_neg (by simp)])
   go_wp2_with fail
   go_loopw [15] (fun ix wr => ∃ k : Nat, k ≤ ks.length ∧ ix = .int .i64 (k : Int) ∧ Pr.treeEL (ks.drop k) = Z ∧ Below w2.heap.size w2 wr) (fun ix _ => ks.length - (RowKit.intOf ix).toNat)
   case atStart => exact ⟨0, Nat.zero_le _, rfl, HT2.out.symm, Below.refl _ _⟩
   case round =>
    obtain ⟨k, hk, rfl, hs, hb⟩ := hrel
    have HSS := hid hs
    have HB := hid hb
    have hws := hb.size
    clear hs hb
    by_cases hlt : k < ks.length
    ·obtain ⟨x, hx⟩ : ∃ x, ks[k]? = some x := ⟨_, List.getElem?_eq_getElem hlt⟩
     obtain ⟨b, off, cs, rfl, hok, hr, hcl, hcv⟩ := (HR2.out.below HB.out) k x hx
     have HD := hid (Pr.treeEL_drop hx)
     have HSX := hid (Pr.small_kid HSK.out hx)
     have hnk := Pr.nodes_kid hx
     have HCV := hid hcv
     have hone := hcv.one
     have HL2 : Hid ((Tryz.prog.info? 36).map (·.size) = some cs.length) := hid (by rw [size_cond, hcl])
     have HL3 : Hid ((Tryz.prog.info? 36).map (·.size) = some cs.toArray.size) := hid (by rw [size_cond, List.size_toArray, hcl])
     have HSZ : Hid (zCn.size = cs.toArray.size) := hid (by show 4 = cs.toArray.size; rw [List.size_toArray, hcl])
     clear hx hcv
     go_wp2_with (first
      | ((with_reducible refine wpList_load_mid rfl 36 _ rfl b (off + k * 4) ?_ cs _ hr Tryz.underlying36 ?_ HL2.out ?_); rfl; rfl)
      | ((with_reducible refine wpList_store_row' rfl 36 _ _ rfl wr.heap.size cs.toArray ?_ ?_ 36 _ (Blk.new wr 36 _) HL3.out ?_ hone ?_); rfl; rfl; exact HSZ.out; intro w3 hk3 hs3 hbl3)
      | (refine wpList_load_row rfl 36 _ rfl wr.heap.size rfl 36 cs.toArray (0, 0) _ hk3 Tryz.underlying36 rfl HL3.out ?_))
     have HBR : Hid (Below wr.heap.size wr w3) := hid (((Below.refl _ wr).alloc (Nat.le_refl _) (.cells zCn 36)).trans (hbl3 wr.heap.size (Nat.le_refl _)))
     clear hk3 hs3 hbl3
     refine (IH.out x cs.toArray w3 (by omega) HSX.out (HCV.out.bel HBR.out)).mono ?_
     rintro e w4 ⟨rfl, hb4⟩
     have HB4 := hid (HB.out.trans ((HBR.out.trans (hb4.mono HBR.out.size)).mono hws))
     clear hb4
     have HDZ : Hid (Z = if Pr.treeE x ≠ 0 then Pr.treeE x else Pr.treeEL (ks.drop (k + 1))) := hid (by rw [← HSS.out, HD.out])
     generalize Pr.treeE x = F at *
     by_cases hF : F = 0
     ·subst hF
      have HZ2 : Hid (Pr.treeEL (ks.drop (k + 1)) = Z) := hid (by rw [HDZ.out, if_neg (by simp)])
      go_wp2_with fail
      go_roundw
      case rel => exact ⟨k + 1, hlt, by go_num, HZ2.out, HB4.out⟩
      case measure => simp [RowKit.intOf]; omega
     ·have HZ2 : Hid (Z = F) := hid (by rw [HDZ.out, if_pos hF])
      have hFb : (F == 0) = false := beq_eq_false_iff_ne.2 hF
      have hFn : (F != 0) = true := by rw [bne, hFb]; rfl
      clear hF
      go_wp2_with fail
      go_ret
      exact ⟨congrArg (fun z => Ending.returned (.int .i64 z)) HZ2.out.symm, HB2.out.trans (HB4.out.mono HB2.out.size)⟩
    ·obtain rfl : k = ks.length := by omega
     have HZ2 : Hid (Z = 0) := hid (by rw [← HSS.out, List.drop_length]; rfl)
     go_wp2_with fail
     go_ret
     exact ⟨congrArg (fun z => Ending.returned (.int .i64 z)) HZ2.out.symm, HB2.out.trans (HB.out.mono HB2.out.size)⟩
  ·have HZ2 : Hid (Z = E) := hid (by rw [HTO.out, if_pos hE])
   have hFb : (E == 0) = false := beq_eq_false_iff_ne.2 hE
   have hFn : (E != 0) = true := by rw [bne, hFb]; rfl
   clear hE
   go_wp2_with fail
   go_ret
   exact ⟨congrArg (fun z => Ending.returned (.int .i64 z)) HZ2.out.symm, HB2.out⟩
end Go.Proofs.YtchkiegehejfmaaGreatDoor
/- The text Uq. -/
namespace Go.Proofs.YtchkiegehejfmaaGreatDoor
open Go.RowKit Go.Lib
set_option linter.unusedVariables false
set_option linter.unusedSimpArgs false
structure RowU (T e : TypeId) (size bytes : Nat) : Prop where
 und : Tryz.prog.underlying T = some (.slice e)
 info : ∃ z, (Tryz.prog.info? e).map (fun i => (i.zero, i.size, i.bytes)) = some (some z, size, bytes) ∧ z.cells.size = size
 pos : 0 < size
 small : bytes ≤ 1000
section
variable {ops : Array Oper} {rest : List Oper} {o : Oper} {a : Act} {Q : Exit → Act → World → Prop} {K : Act → World → Prop} {T e : TypeId} {size bytes : Nat} {E : Prop}
theorem run_appU (hT : RowU T e size bytes) (ty : TypeId) (w : World) (v : Value) (n : Nat) (xs ys : List Value) (base : Nat) (hown : w.ownsRow base e size v n xs) (A : Option Addr) (m c : Nat) (hr : Rd w A (m * size) ys) (h1 : ∀ u ∈ ys, u.oneCell' = true)
  (hbase : base ≤ w.heap.size) (hlen : n + m ≤ 100000000000) :
  ∃ v' w', (Builtin.append_ #[T, T] ty #[v, .slice A m c]).run Tryz.prog w = .ok v' w' ∧ w'.ownsRow base e size v' (n + m) (xs ++ ys) ∧ w.grownBy w' v.ownBlock ∧ (∀ w0, Below base w0 w → Below base w0 w') ∧ (v'.ownBlock = v.ownBlock ∨ v'.ownBlock = some w.heap.size) := by
 obtain ⟨z, hi, hz⟩ := hT.info
 obtain ⟨i, hu, zu0, zu1, zu2⟩ := info_parts hi
 have hbs : (n + m) * bytes ≤ 140737488355328 := by
  have := Nat.mul_le_mul hlen hT.small
  omega
 cases A with
 | none =>
  obtain ⟨hm, rfl⟩ := hr.none_
  have hm0 : m = 0 := by
   rcases Nat.mul_eq_zero.1 hm with h | h
   ·exact h
   ·have := hT.pos; omega
  subst hm0
  refine ⟨v, w, ?_, by simpa using hown, World.grownBy.refl w _, fun w0 h => h, .inl rfl⟩
  rcases hown.2 with ⟨rfl, hn⟩ | ⟨g, cap, cur, rfl, _, _, hnc, _⟩
  ·simp [Builtin.append_, run_underlying hT.und, sizeOf, typeInfo, hu, Builtin.lenOf, Builtin.firstCells]
  ·simp [Builtin.append_, run_underlying hT.und, sizeOf, typeInfo, hu, Builtin.lenOf, Builtin.firstCells, hnc, storeCells]
 | some ad =>
  obtain ⟨v', w', hrun, h2, h3, _, h5⟩ := run_append_own_at (P := Tryz.prog) w base T ty e i z size bytes hT.und hu zu0 zu1 zu2 hz hT.pos v n xs hown ad m c ys hr.1 hr.add h1 (by unfold maxLen; omega) hbs hbase
  exact ⟨v', w', hrun, h2, h3, fun w0 hb => hb.grown h3 hbase (fun g hg => (hown.lt g hg).1), h5⟩
theorem app_row (hT : RowU T e size bytes) (hgd : o.guard = none) (s x : Operand) (ho : o.op = .call { callee := .builtin .append, args := #[s, x], argTypes := #[T, T] })
  (w : World) (v : Value) (n : Nat) (xs ys : List Value) (base : Nat) (hs : a.eval s = v) (hown : w.ownsRow base e size v n xs) (A : Option Addr) (m c : Nat) (hx : a.eval x = .slice A m c) (hr : Rd w A (m * size) ys) (h1 : ∀ u ∈ ys, u.oneCell' = true)
  (hbase : base ≤ w.heap.size) (hlen : n + m ≤ 100000000000)
  (h : ∀ v' w', w'.ownsRow base e size v' (n + m) (xs ++ ys) → w.grownBy w' v.ownBlock → (∀ w0, Below base w0 w → Below base w0 w') → (v'.ownBlock = v.ownBlock ∨ v'.ownBlock = some w.heap.size) → wpList Tryz.prog ops Q rest (a.put o.dst v') w') :
  wpList Tryz.prog ops Q (o :: rest) a w := by
 refine wpList_plain hgd fun K hK => ?_
 obtain ⟨v', w', hrun, h2, h3, h4, h5⟩ := run_appU hT o.type w v n xs ys base hown A m c hr h1 hbase hlen
 unfold Oper.wp execOp
 simp only [ho, resolve, invoke, builtin, Sem.run_bind, Sem.run_pure, Result.andThen_ok, List.map_toArray, List.map_cons, List.map_nil, hs, hx, hrun]
 exact hK _ _ (h v' w' h2 h3 h4 h5)
theorem step_row (hT : RowU T e size bytes) (hgd : o.guard = none) (s x : Operand) (ho : o.op = .call { callee := .builtin .append, args := #[s, x], argTypes := #[T, T] })
  (w : World) (v : Value) (n : Nat) (xs ys : List Value) (base : Nat) (hs : a.eval s = v) (hown : w.ownsRow base e size v n xs) (A : Option Addr) (m c : Nat) (hx : a.eval x = .slice A m c) (hr : Rd w A (m * size) ys) (h1 : ∀ u ∈ ys, u.oneCell' = true)
  (hbase : base ≤ w.heap.size) (hlen : n + m ≤ 100000000000)
  (h : ∀ v' w', w'.ownsRow base e size v' (n + m) (xs ++ ys) → w.grownBy w' v.ownBlock → (∀ w0, Below base w0 w → Below base w0 w') → (v'.ownBlock = v.ownBlock ∨ v'.ownBlock = some w.heap.size) → K (a.put o.dst v') w') : if Region.wanted o (yielded ops a.tmps) = true then o.wp Tryz.prog a w K Q else E := by
 have hw : Region.wanted o (yielded ops a.tmps) = true := by simp [Region.wanted, hgd]
 rw [if_pos hw]
 obtain ⟨v', w', hrun, h2, h3, h4, h5⟩ := run_appU hT o.type w v n xs ys base hown A m c hr h1 hbase hlen
 unfold Oper.wp execOp
 simp only [ho, resolve, invoke, builtin, Sem.run_bind, Sem.run_pure, Result.andThen_ok, List.map_toArray, List.map_cons, List.map_nil, hs, hx, hrun]
 exact h v' w' h2 h3 h4 h5
end
theorem list_of2 {α : Type} {p : Nat → α → Prop} : ∀ n : Nat, (∀ i, i < n → ∃ x, p i x) → ∃ l : List α, l.length = n ∧ ∀ i x, l[i]? = some x → p i x
 | 0, _ => ⟨[], rfl, fun i x h => by simp at h⟩
 | n + 1, h => by
  obtain ⟨l, hl, hp⟩ := list_of2 n (fun i hi => h i (by omega))
  obtain ⟨x, hx⟩ := h n (by omega)
  refine ⟨l ++ [x], by rw [List.length_append, hl]; rfl, fun i y hy => ?_⟩
  by_cases hi : i < n
  ·rw [List.getElem?_append_left (by omega)] at hy
   exact hp i y hy
  ·have hlt := (List.getElem?_eq_some_iff.1 hy).1
   rw [List.length_append, List.length_singleton] at hlt
   obtain rfl : i = n := by omega
   rw [List.getElem?_append_right (by omega), hl, Nat.sub_self] at hy
   injection hy with hy
   rw [← hy]
   exact hx
theorem CnRow.rd {w : World} {ok : Nat → Prop} {A : Option Addr} {L : List Pr.Cn} (h : CnRow w ok A L) : ∃ xs : List Value, Rd w A (L.length * 4) xs ∧ (∀ u ∈ xs, u.oneCell' = true) ∧
  ∀ (i : Nat) (e : Pr.Cn), L[i]? = some e → ∃ cs : List Value, cs.length = 4 ∧ (∀ j u, cs[j]? = some u → xs[i * 4 + j]? = some u) ∧ CnV w ok cs.toArray e := by
 obtain ⟨css, hl, hp⟩ := list_of2 (p := fun i (cs : List Value) => cs.length = 4 ∧ ∃ e b off, L[i]? = some e ∧ A = some ⟨b, off, none⟩ ∧ w.rangeAt b (off + i * 4) cs ∧ CnV w ok cs.toArray e) L.length (fun i hi => by
  obtain ⟨b, off, cs, h1, _, h3, h4, h5⟩ := h i _ (List.getElem?_eq_getElem hi)
  exact ⟨cs, h4, _, b, off, List.getElem?_eq_getElem hi, h1, h3, h5⟩)
 have hc4 : ∀ cs ∈ css, cs.length = 4 := fun cs hcs => by
  obtain ⟨i, hi⟩ := List.mem_iff_getElem?.1 hcs
  exact (hp i cs hi).1
 have key : ∀ l : List (List Value), (∀ cs ∈ l, cs.length = 4) → (l.flatMap id).length = l.length * 4 ∧ ∀ i j cs u, l[i]? = some cs → cs[j]? = some u → (l.flatMap id)[i * 4 + j]? = some u := by
  intro l
  induction l with
  | nil => intro _; exact ⟨rfl, fun i j cs u h => by cases h⟩
  | cons c l ih =>
   intro hc
   obtain ⟨i1, i2⟩ := ih (fun cs h => hc cs (List.mem_cons_of_mem _ h))
   have hc0 : c.length = 4 := hc c (List.mem_cons_self ..)
   refine ⟨by rw [List.flatMap_cons, List.length_append, i1, List.length_cons]; show c.length + _ = _; omega, fun i j cs u h1 h2 => ?_⟩
   show (c ++ l.flatMap id)[i * 4 + j]? = some u
   cases i with
   | zero =>
    injection h1 with h1
    subst h1
    rw [Nat.zero_mul, Nat.zero_add, List.getElem?_append_left (List.getElem?_eq_some_iff.1 h2).1]
    exact h2
   | succ i =>
    rw [List.getElem?_append_right (by omega), show (i + 1) * 4 + j - c.length = i * 4 + j by omega]
    exact i2 i j cs u h1 h2
 obtain ⟨k1, k2⟩ := key css hc4
 have back : ∀ k u, (css.flatMap id)[k]? = some u → ∃ i j cs, css[i]? = some cs ∧ cs[j]? = some u ∧ k = i * 4 + j := by
  intro k u hk
  have hk2 := (List.getElem?_eq_some_iff.1 hk).1
  rw [k1] at hk2
  have hi : k / 4 < css.length := by omega
  have hj : k % 4 < (css[k / 4]).length := by rw [hc4 _ (List.getElem_mem hi)]; omega
  have h3 := k2 (k / 4) (k % 4) _ _ (List.getElem?_eq_getElem hi) (List.getElem?_eq_getElem hj)
  rw [show k / 4 * 4 + k % 4 = k by omega, hk] at h3
  exact ⟨k / 4, k % 4, _, List.getElem?_eq_getElem hi, (List.getElem?_eq_getElem hj).trans h3.symm, by omega⟩
 refine ⟨css.flatMap id, ⟨by rw [k1, hl], fun k u hk => ?_⟩, fun u hu => ?_, fun i e hi => ?_⟩
 ·obtain ⟨i, j, cs, h1, h2, rfl⟩ := back k u hk
  obtain ⟨_, e, b, off, _, h4, h5, _⟩ := hp i cs h1
  refine ⟨b, off, h4, ?_⟩
  rw [← Nat.add_assoc]
  exact h5 j u h2
 ·obtain ⟨k, hk⟩ := List.mem_iff_getElem?.1 hu
  obtain ⟨i, j, cs, h1, h2, rfl⟩ := back k u hk
  obtain ⟨_, e, b, off, _, h4, h5, h6⟩ := hp i cs h1
  have h7 := Array.all_eq_true.1 h6.one j (by rw [List.size_toArray]; exact (List.getElem?_eq_some_iff.1 h2).1)
  have h8 := (List.getElem?_eq_some_iff.1 h2).2
  simpa [h8] using h7
 ·have hlt : i < css.length := by rw [hl]; exact (List.getElem?_eq_some_iff.1 hi).1
  obtain ⟨h1, e', b, off, h3, h4, h5, h6⟩ := hp i _ (List.getElem?_eq_getElem hlt)
  rw [hi] at h3
  injection h3 with h3
  subst h3
  exact ⟨_, h1, fun j u hj => k2 i j _ u (List.getElem?_eq_getElem hlt) hj, h6⟩
theorem info_cond : (Tryz.prog.info? 36).map (fun i => (i.zero, i.size, i.bytes)) = some (some (.agg zCn), 4, 56) := by kernel_rfl
theorem rowCn : RowU 34 36 4 56 := ⟨Tryz.underlying34, ⟨_, info_cond, rfl⟩, by decide, by decide⟩
def CnsV (w : World) (ok : Nat → Prop) (xs : List Value) (L : List Pr.Cn) : Prop := ∀ (i : Nat) (c : Pr.Cn), L[i]? = some c → ∃ cs : List Value, cs.length = 4 ∧ (∀ j u, cs[j]? = some u → xs[i * 4 + j]? = some u) ∧ CnV w ok cs.toArray c
def CnO (w : World) (base : Nat) (ok : Nat → Prop) (v : Value) (L : List Pr.Cn) : Prop := ∃ xs, w.ownsRow base 36 4 v L.length xs ∧ CnsV w (fun b => ok b ∧ some b ≠ v.ownBlock) xs L
theorem own_bel {w w' : World} {base size n : Nat} {e : TypeId} {v : Value} {xs : List Value} (h : w.ownsRow base e size v n xs) (hb : Below w.heap.size w w') : w'.ownsRow base e size v n xs := by
 obtain ⟨h1, h2⟩ := h
 refine ⟨h1, ?_⟩
 rcases h2 with h2 | ⟨k, cap, cur, rfl, hk, hh, hn, hcap, hsz, ht⟩
 ·exact .inl h2
 ·exact .inr ⟨k, cap, cur, rfl, hk, (hb.block k (Array.getElem?_eq_some_iff.1 hh).1).trans hh, hn, hcap, hsz, ht⟩
theorem own_at {w : World} {base size n : Nat} {e : TypeId} {v : Value} {xs : List Value} (h : w.ownsRow base e size v n xs) : ∃ A cap, v = .slice A n cap ∧ n ≤ cap ∧ Rd w A (n * size) xs ∧ ∀ a, A = some a → v.ownBlock = some a.block := by
 obtain ⟨h1, h2⟩ := h
 rcases h2 with ⟨rfl, rfl⟩ | ⟨g, cap, cur, rfl, hg, hh, hn, hcap, hsz, ht⟩
 ·refine ⟨none, 0, rfl, Nat.le_refl _, ⟨h1, fun j u hj => ?_⟩, fun a ha => by cases ha⟩
  rw [Nat.zero_mul] at h1
  rw [List.eq_nil_of_length_eq_zero h1] at hj
  cases hj
 ·refine ⟨some ⟨g, 0, none⟩, cap, rfl, hn, ⟨h1, fun j u hj => ⟨g, 0, rfl, ?_⟩⟩, fun a ha => by injection ha with ha; subst ha; rfl⟩
  have hj2 : cur[j]? = some u := by
   rw [← ht, List.getElem?_take] at hj
   split at hj
   ·rwa [Array.getElem?_toList] at hj
   ·cases hj
  rw [Nat.zero_add]
  exact Blk.cell (show Blk w g e cur from hh) j |>.trans hj2
section
variable {w w' : World} {ok ok' : Nat → Prop} {xs ys : List Value} {L M : List Pr.Cn} {base : Nat} {v v' : Value}
theorem CnsV.keep (h : CnsV w ok xs L) (hk : ∀ b, ok b → b < w.heap.size → ok' b ∧ w'.heap[b]? = w.heap[b]?) : CnsV w' ok' xs L := fun i c hi => by
 obtain ⟨cs, a, b, d⟩ := h i c hi
 exact ⟨cs, a, b, d.keep hk⟩
theorem CnsV.append (h : CnsV w ok xs L) (hl : xs.length = L.length * 4) (h2 : CnsV w ok ys M) : CnsV w ok (xs ++ ys) (L ++ M) := fun i c hi => by
 rcases Nat.lt_or_ge i L.length with hlt | hge
 ·rw [List.getElem?_append_left hlt] at hi
  obtain ⟨cs, a, b, d⟩ := h i c hi
  refine ⟨cs, a, fun j u hj => ?_, d⟩
  have hj2 := b j u hj
  rw [List.getElem?_append_left (List.getElem?_eq_some_iff.1 hj2).1]
  exact hj2
 ·rw [List.getElem?_append_right hge] at hi
  obtain ⟨cs, a, b, d⟩ := h2 _ c hi
  refine ⟨cs, a, fun j u hj => ?_, d⟩
  have hj2 := b j u hj
  rw [List.getElem?_append_right (by omega), hl]
  rwa [show i * 4 + j - L.length * 4 = (i - L.length) * 4 + j by omega]
theorem CnsV.one {X : Array Value} {c : Pr.Cn} (h : CnV w ok X c) : CnsV w ok X.toList [c] := fun i c' hi => by
 cases i with
 | zero =>
  injection hi with hi
  subst hi
  exact ⟨X.toList, by rw [Array.length_toList, h.size], fun j u hj => by rw [Nat.zero_mul, Nat.zero_add]; exact hj, by rw [Array.toArray_toList]; exact h⟩
 | succ i => simp at hi
theorem CnO.nil : CnO w base ok (.slice none 0 0) [] := ⟨[], World.ownsRow_nil .., fun i c h => by cases h⟩
theorem CnO.bel (h : CnO w base ok v L) (hb : Below w.heap.size w w') : CnO w' base ok v L := by
 obtain ⟨xs, h1, h2⟩ := h
 exact ⟨xs, own_bel h1 hb, h2.keep fun b ho hlt => ⟨ho, hb.block b hlt⟩⟩
theorem CnO.app (h0 : w.ownsRow base 36 4 v L.length xs) (h : CnsV w (fun b => ok b ∧ some b ≠ v.ownBlock) xs L) (hM : CnsV w (fun b => ok b ∧ some b ≠ v.ownBlock) ys M)
  (ho : w'.ownsRow base 36 4 v' (L.length + M.length) (xs ++ ys)) (hg : w.grownBy w' v.ownBlock) (hw : v'.ownBlock = v.ownBlock ∨ v'.ownBlock = some w.heap.size) : CnO w' base ok v' (L ++ M) := by
 refine ⟨xs ++ ys, by rw [List.length_append]; exact ho, ((h.append h0.1 hM).keep fun b hb hlt => ⟨⟨hb.1, fun e => ?_⟩, hg.block b hlt hb.2⟩)⟩
 rcases hw with hw | hw
 ·exact hb.2 (e.trans hw)
 ·rw [hw] at e
  injection e with e
  omega
theorem CnO.row (h : CnO w base ok v L) (hk : ∀ b, ok b → ok' b) (hv : ∀ k, v.ownBlock = some k → ok' k) : ∃ A cap, v = .slice A L.length cap ∧ L.length ≤ cap ∧ CnRow w ok' A L := by
 obtain ⟨xs, h1, h2⟩ := h
 obtain ⟨A, cap, rfl, hcap, hr, ha⟩ := own_at h1
 refine ⟨A, cap, rfl, hcap, fun i c hi => ?_⟩
 obtain ⟨cs, h3, h4, h5⟩ := h2 i c hi
 obtain ⟨u0, hu0⟩ : ∃ u, cs[0]? = some u := ⟨_, List.getElem?_eq_getElem (by rw [h3]; decide)⟩
 obtain ⟨b, off, rfl, hc⟩ := hr.2 _ u0 (h4 0 u0 hu0)
 refine ⟨b, off, cs, rfl, hv b (ha _ rfl), fun j u hj => ?_, h3, h5.keep fun b hb hlt => ⟨hk b hb.1, rfl⟩⟩
 obtain ⟨b', off', e2, hc2⟩ := hr.2 _ u (h4 j u hj)
 injection e2 with e2
 injection e2 with e3 e4 e5
 subst e3 e4
 rw [Nat.add_assoc]
 exact hc2
theorem CnO.len (h : CnO w base ok v L) : ∃ A cap, v = .slice A L.length cap ∧ L.length ≤ cap := by
 obtain ⟨xs, h1, h2⟩ := h
 obtain ⟨A, cap, e, hcap, -⟩ := own_at h1
 exact ⟨A, cap, e, hcap⟩
end
end Go.Proofs.YtchkiegehejfmaaGreatDoor
/- The text V0. -/
namespace Pr
structure Tk where
 form : Int
 text : Str
deriving DecidableEq
def markOf (c : UInt8) : Int := if c = 40 then 3 else if c = 41 then 4 else if c = 44 then 5 else 0
def wordc (c : UInt8) : Bool := c != 32 && c != 34 && markOf c == 0
def quoteP (acc : Str) : Str → Option (Str × Str)
 | [] => none
 | c :: r => if c = 34 then some (acc, r) else if c = 92 then (match r with
  | [] => none
  | d :: q => if d = 34 ∨ d = 92 then quoteP (acc ++ [d]) q else none) else quoteP (acc ++ [c]) r
def toks : Nat → List Tk → Str → Option (List Tk)
 | 0, _, _ => none
 | _ + 1, acc, [] => some acc
 | n + 1, acc, c :: r =>
  if c = 32 then toks n acc r
  else if markOf c ≠ 0 then toks n (acc ++ [⟨markOf c, []⟩]) r
  else if c = 34 then (match quoteP [] r with
   | none => none
   | some (t, q) => toks n (acc ++ [⟨2, t⟩]) q)
  else toks n (acc ++ [⟨1, (c :: r).takeWhile wordc⟩]) ((c :: r).dropWhile wordc)
def simpleW (o : Int) : Str := if o = 1 then [97, 108, 119, 97, 121, 115] else if o = 13 then [109, 101, 110, 116, 105, 111, 110] else if o = 14 then [114, 101, 112, 108, 121] else if o = 15 then [116, 104, 114, 101, 97, 100] else if o = 16 then [101, 100, 105, 116] else if o = 17 then [103, 111, 110, 101] else []
def fieldW (o : Int) : Str := if o = 5 then [107, 105, 110, 100] else if o = 6 then [102, 114, 111, 109] else if o = 7 then [114, 111, 111, 109] else if o = 8 then [116, 101, 120, 116] else if o = 9 then [119, 111, 114, 100] else if o = 10 then [108, 101, 118, 101, 108] else if o = 11 then [109, 101, 109, 98, 101, 114, 115] else if o = 12 then [116, 105, 109, 101] else []
def kindL : List Str := [[99, 114, 101, 97, 116, 101], [109, 101, 109, 98, 101, 114], [112, 111, 119, 101, 114], [114, 117, 108, 101, 115], [104, 105, 115, 116, 111, 114, 121], [97, 99, 99, 101, 115, 115], [110, 97, 109, 101], [114, 101, 116, 97, 105, 110], [112, 111, 108, 105, 99, 121], [99, 114, 121, 112, 116], [109, 101, 115, 115, 97, 103, 101], [114, 101, 97, 99, 116], [101, 100, 105, 116], [114, 101, 100, 97, 99, 116]]
def orW : Str := [111, 114]
def andW : Str := [97, 110, 100]
def notW : Str := [110, 111, 116]
def ruleW : Str := [114, 117, 108, 101]
def whenW : Str := [119, 104, 101, 110]
def doW : Str := [100, 111]
def sval (s : Str) : Int := match s with
 | 45 :: r => -(Ar.val10 r : Int)
 | s => (Ar.val10 s : Int)
def numP (s : Str) : Option Int := if -1000000000000 ≤ sval s ∧ sval s ≤ 1000000000000 ∧ Ar.itoa (sval s) = s then some (sval s) else none
def headIs (w : Str) : List Tk → Bool
 | [] => false
 | t :: _ => t.form == 1 && t.text == w
def takeF (f : Int) : List Tk → Option (Str × List Tk)
 | [] => none
 | t :: r => if t.form = f then some (t.text, r) else none
def joinL (read : List Tk → Option (Cn × List Tk)) (w : Str) : Nat → List Cn → List Tk → Option (List Cn × List Tk)
 | 0, _, _ => none
 | n + 1, acc, r => match read r with
  | none => none
  | some (c, q) => if headIs w q then joinL read w n (acc ++ [c]) q.tail else some (acc ++ [c], q)
def wrapC (op : Int) : List Cn → Cn
 | [c] => c
 | l => .mk op [] 0 l
def joinC (op : Int) (read : List Tk → Option (Cn × List Tk)) (w : Str) (r : List Tk) : Option (Cn × List Tk) := match joinL read w (r.length + 1) [] r with
 | none => none
 | some (l, q) => some (wrapC op l, q)
def idxOf (w : Str) (l : List Str) : Option Nat := l.findIdx? (· == w)
def fieldP (o : Int) (r : List Tk) : Option (Cn × List Tk) :=
 if o = 6 ∨ o = 7 ∨ o = 8 then (match takeF 2 r with
  | none => none
  | some (t, q) => some (.mk o t 0 [], q))
 else match takeF 1 r with
  | none => none
  | some (t, q) => if o = 9 then some (.mk o t 0 [], q) else if o = 5 then (match idxOf t kindL with
    | none => none
    | some k => some (.mk o [] (1 + k) [], q))
   else (match numP t with
    | none => none
    | some n => some (.mk o [] n [], q))
def findOp (w : Str) : Nat → Int → Option (Int × Bool)
 | 0, _ => none
 | n + 1, o => if simpleW o = w then some (o, true) else if fieldW o = w then some (o, false) else findOp w n (o + 1)
def oneP : Nat → Nat → List Tk → Option (Cn × List Tk)
 | 0, _, _ => none
 | _ + 1, _, [] => none
 | n + 1, o, t :: q =>
  if t.form = 3 then (if 100 ≤ o then none else match joinC 3 (fun r => joinC 2 (oneP n (o + 1)) andW r) orW q with
   | none => none
   | some (c, z) => (match takeF 4 z with
    | none => none
    | some (_, y) => some (c, y)))
  else if t.form ≠ 1 then none
  else if t.text = notW then (if 100 ≤ o then none else match oneP n (o + 1) q with
   | none => none
   | some (c, z) => some (.mk 4 [] 0 [c], z))
  else match findOp t.text 17 1 with
   | none => none
   | some (p, true) => some (.mk p [] 0 [], q)
   | some (p, false) => fieldP p q
def bothP (n o : Nat) (r : List Tk) : Option (Cn × List Tk) := joinC 2 (oneP n o) andW r
def condP (n o : Nat) (r : List Tk) : Option (Cn × List Tk) := joinC 3 (bothP n o) orW r
def moreP : Nat → List Str → List Tk → Option (List Str)
 | 0, _, _ => none
 | _ + 1, acc, [] => some acc
 | n + 1, acc, t :: r => if t.form = 5 then (match takeF 1 r with
   | none => none
   | some (a, q) => moreP n (acc ++ [a]) q)
  else none
def needP (w : Str) (r : List Tk) : Option (List Tk) := if headIs w r then some r.tail else none
def ruleP (L : List Tk) : Option Rl := match needP ruleW L with
 | none => none
 | some r1 => match takeF 1 r1 with
  | none => none
  | some (nm, r2) => match needP whenW r2 with
   | none => none
   | some r3 => match condP (L.length + 1) 0 r3 with
    | none => none
    | some (c, r4) => match needP doW r4 with
     | none => none
     | some r5 => match takeF 1 r5 with
      | none => none
      | some (a, r6) => match moreP (L.length + 1) [a] r6 with
       | none => none
       | some l => some ⟨nm, c, l⟩
def lineP (s : Str) : Option Rl := match toks (s.length + 1) [] s with
 | none => none
 | some L => ruleP L
theorem takeF_of {f : Int} {r q : List Tk} {t : Str} (h : takeF f r = some (t, q)) : r = ⟨f, t⟩ :: q := by
 cases r with
 | nil => cases h
 | cons a r =>
  rw [takeF] at h
  split at h
  ·rename_i e
   injection h with h
   injection h with h1 h2
   subst h1 h2 e
   rfl
  ·cases h
theorem headIs_of {w : Str} {r : List Tk} (h : headIs w r = true) : r = ⟨1, w⟩ :: r.tail := by
 cases r with
 | nil => cases h
 | cons a r =>
  rw [headIs, Bool.and_eq_true, beq_iff_eq, beq_iff_eq] at h
  obtain ⟨f, t⟩ := a
  obtain ⟨rfl, rfl⟩ := h
  rfl
def Shrinks (read : List Tk → Option (Cn × List Tk)) : Prop := ∀ r c q, read r = some (c, q) → ∃ p, r = p ++ q ∧ p ≠ []
theorem joinL_of {read : List Tk → Option (Cn × List Tk)} (hs : Shrinks read) (w : Str) : ∀ (n : Nat) (acc : List Cn) (r : List Tk) (l : List Cn) (q : List Tk), joinL read w n acc r = some (l, q) → ∃ p, r = p ++ q ∧ p ≠ []
 | 0, _, _, _, _, h => by cases h
 | n + 1, acc, r, l, q, h => by
  rw [joinL] at h
  cases hr : read r with
  | none => rw [hr] at h; cases h
  | some cq =>
   obtain ⟨c, z⟩ := cq
   obtain ⟨p, rfl, hp⟩ := hs r c z hr
   rw [hr] at h
   simp only at h
   split at h
   ·rename_i hh
    obtain ⟨p2, e2, hp2⟩ := joinL_of hs w n _ _ l q h
    have e3 := headIs_of hh
    refine ⟨p ++ (⟨1, w⟩ :: p2), ?_, by simp⟩
    rw [e3, e2]
    simp
   ·injection h with h
    injection h with h1 h2
    subst h2
    exact ⟨p, rfl, hp⟩
theorem joinC_of {op : Int} {read : List Tk → Option (Cn × List Tk)} (hs : Shrinks read) (w : Str) : Shrinks (joinC op read w) := fun r c q h => by
 unfold joinC at h
 cases hj : joinL read w (r.length + 1) [] r with
 | none => rw [hj] at h; cases h
 | some lq =>
  obtain ⟨l, z⟩ := lq
  rw [hj] at h
  injection h with h
  injection h with h1 h2
  subst h2
  exact joinL_of hs w _ _ _ _ _ hj
theorem fieldP_of (o : Int) : Shrinks (fieldP o) := fun r c q h => by
 unfold fieldP at h
 split at h
 ·cases ht : takeF 2 r with
  | none => rw [ht] at h; cases h
  | some tq =>
   obtain ⟨t, z⟩ := tq
   rw [ht] at h
   injection h with h
   injection h with h1 h2
   subst h2
   exact ⟨[⟨2, t⟩], takeF_of ht, by simp⟩
 ·cases ht : takeF 1 r with
  | none => rw [ht] at h; cases h
  | some tq =>
   obtain ⟨t, z⟩ := tq
   rw [ht] at h
   simp only at h
   have hz : z = q := by
    split at h
    ·injection h with h; injection h
    ·split at h
     ·cases hi : idxOf t kindL with
      | none => rw [hi] at h; cases h
      | some k => rw [hi] at h; injection h with h; injection h
     ·cases hi : numP t with
      | none => rw [hi] at h; cases h
      | some k => rw [hi] at h; injection h with h; injection h
   subst hz
   exact ⟨[⟨1, t⟩], takeF_of ht, by simp⟩
theorem oneP_of : ∀ (n o : Nat), Shrinks (oneP n o)
 | 0, _ => fun r c q h => by cases h
 | n + 1, o => fun r c q h => by
  cases r with
  | nil => cases h
  | cons t r =>
   rw [oneP] at h
   split at h
   ·split at h
    ·cases h
    ·cases hj : joinC 3 (fun r => joinC 2 (oneP n (o + 1)) andW r) orW r with
     | none => rw [hj] at h; cases h
     | some cz =>
      obtain ⟨c', z⟩ := cz
      rw [hj] at h
      simp only at h
      obtain ⟨p, e, hp⟩ := joinC_of (joinC_of (oneP_of n (o + 1)) andW) orW r c' z hj
      cases ht : takeF 4 z with
      | none => rw [ht] at h; cases h
      | some ty =>
       obtain ⟨t', y⟩ := ty
       rw [ht] at h
       injection h with h
       injection h with h1 h2
       subst h2
       refine ⟨t :: p ++ [⟨4, t'⟩], ?_, by simp⟩
       rw [e, takeF_of ht]
       simp
   ·split at h
    ·cases h
    ·split at h
     ·split at h
      ·cases h
      ·cases hj : oneP n (o + 1) r with
       | none => rw [hj] at h; cases h
       | some cz =>
        obtain ⟨c', z⟩ := cz
        rw [hj] at h
        injection h with h
        injection h with h1 h2
        subst h2
        obtain ⟨p, e, hp⟩ := oneP_of n (o + 1) r c' z hj
        exact ⟨t :: p, by rw [e]; rfl, by simp⟩
     ·cases hf : findOp t.text 17 1 with
      | none => rw [hf] at h; cases h
      | some pb =>
       obtain ⟨p, b⟩ := pb
       rw [hf] at h
       cases b with
       | true =>
        injection h with h
        injection h with h1 h2
        subst h2
        exact ⟨[t], rfl, by simp⟩
       | false =>
        obtain ⟨p', e, hp⟩ := fieldP_of p r c q h
        exact ⟨t :: p', by rw [e]; rfl, by simp⟩
theorem bothP_of (n o : Nat) : Shrinks (bothP n o) := joinC_of (oneP_of n o) andW
theorem condP_of (n o : Nat) : Shrinks (condP n o) := joinC_of (bothP_of n o) orW
end Pr
/- The text Va. -/
namespace Go.Proofs.YtchkiegehejfmaaGreatDoor
open Go.RowKit Go.Lib
set_option linter.unusedVariables false
set_option linter.unusedSimpArgs false
theorem u8_ne {c d : UInt8} {n : Int} (hn : (d.toNat : Int) = n) (h : c ≠ d) : ((c.toNat : Int) == n) = false := by
 rw [beq_eq_false_iff_ne, ← hn]
 intro e
 exact h (UInt8.toNat_inj.1 (by omega))
theorem mark_any (c : UInt8) (w : World) : Calls Tryz.prog 108 #[.int .u8 (c.toNat : Int)] w fun e w' => e = .returned (.int .i64 (Pr.markOf c)) ∧ w = w' := by
 by_cases h1 : c = 40
 ·subst h1
  go_enter Tryz.func108, Tryz.ntmps108
  go_wp2_with fail
  go_ret
  exact ⟨rfl, rfl⟩
 by_cases h2 : c = 41
 ·subst h2
  go_enter Tryz.func108, Tryz.ntmps108
  go_wp2_with fail
  go_ret
  exact ⟨rfl, rfl⟩
 by_cases h3 : c = 44
 ·subst h3
  go_enter Tryz.func108, Tryz.ntmps108
  go_wp2_with fail
  go_ret
  exact ⟨rfl, rfl⟩
 have hm : Pr.markOf c = 0 := by unfold Pr.markOf; rw [if_neg h1, if_neg h2, if_neg h3]
 have e1 := u8_ne (n := 40) rfl h1
 have e2 := u8_ne (n := 41) rfl h2
 have e3 := u8_ne (n := 44) rfl h3
 rw [hm]
 generalize (c.toNat : Int) = n at *
 clear h1 h2 h3 hm
 go_enter Tryz.func108, Tryz.ntmps108
 go_wp2_with fail
 go_ret
 exact ⟨rfl, rfl⟩
theorem simplew_any (o : Int) (h1 : 1 ≤ o) (h2 : o ≤ 17) (w : World) : Calls Tryz.prog 76 #[.int .i64 o] w fun e w' => e = .returned (.string (bstr (Pr.simpleW o))) ∧ w = w' := by
 obtain h | h | h | h | h | h | h | h | h | h | h | h | h | h | h | h | h : o = 1 ∨ o = 2 ∨ o = 3 ∨ o = 4 ∨ o = 5 ∨ o = 6 ∨ o = 7 ∨ o = 8 ∨ o = 9 ∨ o = 10 ∨ o = 11 ∨ o = 12 ∨ o = 13 ∨ o = 14 ∨ o = 15 ∨ o = 16 ∨ o = 17 := by omega
 all_goals
  subst h
  go_enter Tryz.func76, Tryz.ntmps76
  go_wp2_with fail
  go_ret
  exact ⟨rfl, rfl⟩
theorem fieldw_any (o : Int) (h1 : 1 ≤ o) (h2 : o ≤ 17) (w : World) : Calls Tryz.prog 73 #[.int .i64 o] w fun e w' => e = .returned (.string (bstr (Pr.fieldW o))) ∧ w = w' := by
 obtain h | h | h | h | h | h | h | h | h | h | h | h | h | h | h | h | h : o = 1 ∨ o = 2 ∨ o = 3 ∨ o = 4 ∨ o = 5 ∨ o = 6 ∨ o = 7 ∨ o = 8 ∨ o = 9 ∨ o = 10 ∨ o = 11 ∨ o = 12 ∨ o = 13 ∨ o = 14 ∨ o = 15 ∨ o = 16 ∨ o = 17 := by omega
 all_goals
  subst h
  go_enter Tryz.func73, Tryz.ntmps73
  go_wp2_with fail
  go_ret
  exact ⟨rfl, rfl⟩
theorem kindnames_any (w : World) : Calls Tryz.prog 72 #[] w fun e w' => (∃ g, e = .returned (.slice (some ⟨g, 0, none⟩) 14 14) ∧ w.heap.size ≤ g ∧ Rd w' (some ⟨g, 0, none⟩) 14 (strL Pr.kindL)) ∧ Below w.heap.size w w' := by
 go_enter Tryz.func72, Tryz.ntmps72
 go_wp2_with fail
 go_ret
 exact ⟨⟨w.heap.size, rfl, Nat.le_refl _, Rd.of_blk (vs := strL Pr.kindL) (Blk.new w 9 (strL Pr.kindL).toArray)⟩, (Below.refl _ w).alloc (Nat.le_refl _) _⟩
end Go.Proofs.YtchkiegehejfmaaGreatDoor
/- The text Ui. -/
namespace Pr
theorem isSound_no {s : Str} (h : ¬ soundW <+: s) : isSound s = false := by unfold isSound; rw [decide_eq_false h, Bool.false_and]
theorem isSound_yes {s : Str} (h : soundW <+: s) : isSound s = okName true (s.drop 6) := by unfold isSound; rw [decide_eq_true h, Bool.true_and]
theorem pre_take {p s : Str} : p <+: s ↔ p.length ≤ s.length ∧ s.take p.length = p := by
  constructor
  · rintro ⟨t, rfl⟩
    exact ⟨by rw [List.length_append]; omega, List.take_left⟩
  · rintro ⟨_, h⟩
    exact ⟨s.drop p.length, by conv => lhs; rw [← h]
                               rw [List.length_take, Nat.min_eq_left (by assumption), List.take_append_drop]⟩
end Pr
namespace Go.Proofs.YtchkiegehejfmaaGreatDoor
open Go.RowKit Go.Lib
set_option linter.unusedVariables false
set_option linter.unusedSimpArgs false
theorem extract_list (s : ByteArray) (a b : Nat) : (s.extract a b).data.toList = (s.data.toList.drop a).take (b - a) := by
  rw [ByteArray.data_extract, Array.toList_extract]
theorem extract_drop (s : ByteArray) (k : Nat) : s.extract k s.size = bstr (s.data.toList.drop k) := str_eq (by
  rw [extract_list, List.take_of_length_le]
  · rfl
  · rw [List.length_drop, ← str_size]
    exact Nat.le_refl _)
theorem extract_take (s : ByteArray) (k : Nat) : s.extract 0 k = bstr (s.data.toList.take k) := str_eq (by rw [extract_list]; rfl)
theorem lit_beq (S : ByteArray) (l : List UInt8) : (S.toList == l) = (S.data.toList == l) := by rw [Lib.toList_data]
theorem str_lit (x y : List UInt8) : ((bstr x).toList == y) = (x == y) := by rw [Lib.toList_data]; rfl
theorem haspre_any (S T : ByteArray) (w : World) (hs : S.size ≤ 1000000) (ht : T.size ≤ 1000000) : Calls Tryz.prog 174 #[.string S, .string T] w fun e w' => e = .returned (.bool (decide (T.data.toList <+: S.data.toList))) ∧ w = w' := by
  have h1 := str_size S
  have h2 := str_size T
  have hx := extract_take S T.size
  have hl := lit_beq (bstr (S.data.toList.take T.size)) T.data.toList
  by_cases h : T.size ≤ S.size
  · have hI : (T.size : Int) ≤ (S.size : Int) := by omega
    obtain ⟨R, hR⟩ : ∃ R, decide (T.data.toList <+: S.data.toList) = R := ⟨_, rfl⟩
    have hz : ((S.extract 0 T.size).toList == T.toList) = R := by
      rw [hx, Lib.toList_data, Lib.toList_data, ← hR]
      show (S.data.toList.take T.size == T.data.toList) = _
      by_cases hp : T.data.toList <+: S.data.toList
      · rw [decide_eq_true hp, beq_iff_eq]
        have := (Pr.pre_take.1 hp).2
        rwa [← h2] at this
      · rw [decide_eq_false hp, beq_eq_false_iff_ne]
        intro e
        exact hp (Pr.pre_take.2 ⟨by omega, by rw [← h2]; exact e⟩)
    rw [hR]
    clear hR hx hl h1 h2
    go_enter Tryz.func174, Tryz.ntmps174
    go_wp2_with fail
    go_ret
    exact ⟨rfl, by trivial⟩
  · have hI : ¬ (T.size : Int) ≤ (S.size : Int) := by omega
    rw [decide_eq_false (fun hp => by have := (Pr.pre_take.1 hp).1; omega)]
    clear hx hl h1 h2
    go_enter Tryz.func174, Tryz.ntmps174
    go_wp2_with fail
    go_ret
    exact ⟨rfl, rfl⟩
theorem cutpre_yes (S T : ByteArray) (w : World) (hs : S.size ≤ 1000000) (ht : T.size ≤ 1000000) (hp : T.data.toList <+: S.data.toList) : Calls Tryz.prog 155 #[.string S, .string T] w fun e w' => e = .returned (.tuple #[.string (bstr (S.data.toList.drop T.size)), .bool true]) ∧ w = w' := by
  have HP := hid (fun W => haspre_any S T W hs ht)
  rw [decide_eq_true hp] at HP
  have hle : T.size ≤ S.size := by have := (Pr.pre_take.1 hp).1; have h1 := str_size S; have h2 := str_size T; omega
  have hleI : (T.size : Int) ≤ (S.size : Int) := by omega
  have hx := extract_drop S T.size
  clear hp
  have HC : Hid (∀ W, Calls Tryz.prog 167 #[.string S, .string T] W fun e w' => e = .returned (.tuple #[.string (bstr (S.data.toList.drop T.size)), .bool true]) ∧ W = w') := hid (by
    intro W
    go_enter Tryz.func167, Tryz.ntmps167
    go_wp2_with fail
    refine (HP.out _).mono ?_
    rintro e w2 ⟨rfl, rfl⟩
    go_wp2_with fail
    go_ret2
    exact ⟨rfl, rfl⟩)
  go_enter Tryz.func155, Tryz.ntmps155
  go_wp2_with fail
  refine (HC.out _).mono ?_
  rintro e w2 ⟨rfl, rfl⟩
  go_wp2_with fail
  go_ret2
  exact ⟨rfl, rfl⟩
theorem cutpre_no (S T : ByteArray) (w : World) (hs : S.size ≤ 1000000) (ht : T.size ≤ 1000000) (hp : ¬ T.data.toList <+: S.data.toList) : Calls Tryz.prog 155 #[.string S, .string T] w fun e w' => e = .returned (.tuple #[.string S, .bool false]) ∧ w = w' := by
  have HP := hid (fun W => haspre_any S T W hs ht)
  rw [decide_eq_false hp] at HP
  clear hp
  have HC : Hid (∀ W, Calls Tryz.prog 167 #[.string S, .string T] W fun e w' => e = .returned (.tuple #[.string S, .bool false]) ∧ W = w') := hid (by
    intro W
    go_enter Tryz.func167, Tryz.ntmps167
    go_wp2_with fail
    refine (HP.out _).mono ?_
    rintro e w2 ⟨rfl, rfl⟩
    go_wp2_with fail
    go_ret2
    exact ⟨rfl, rfl⟩)
  go_enter Tryz.func155, Tryz.ntmps155
  go_wp2_with fail
  refine (HC.out _).mono ?_
  rintro e w2 ⟨rfl, rfl⟩
  go_wp2_with fail
  go_ret2
  exact ⟨rfl, rfl⟩
theorem sound_any (S : ByteArray) (w : World) (hs : S.size ≤ 1000000) : Calls Tryz.prog 127 #[.string S] w fun e w' => e = .returned (.bool (Pr.isSound S.data.toList)) ∧ w = w' := by
  by_cases hp : Pr.soundW <+: S.data.toList
  · have HC := hid (fun W => cutpre_yes S ⟨#[115, 111, 117, 110, 100, 61]⟩ W hs (by decide) hp)
    rw [show (⟨#[115, 111, 117, 110, 100, 61]⟩ : ByteArray).size = 6 from rfl] at HC
    rw [Pr.isSound_yes hp]
    have HN := hid (fun W => named_any (bstr (S.data.toList.drop 6)) W (by rw [bstr_size, List.length_drop, ← str_size]; omega))
    rw [show (bstr (S.data.toList.drop 6)).data.toList = S.data.toList.drop 6 from rfl] at HN
    clear hp
    generalize bstr (S.data.toList.drop 6) = D at *
    go_enter Tryz.func127, Tryz.ntmps127
    go_wp2_with fail
    refine (HC.out _).mono ?_
    rintro e w2 ⟨rfl, rfl⟩
    go_wp2_with fail
    refine (HN.out _).mono ?_
    rintro e w2 ⟨rfl, rfl⟩
    go_wp2_with fail
    go_ret
    exact ⟨rfl, rfl⟩
  · have HC := hid (fun W => cutpre_no S ⟨#[115, 111, 117, 110, 100, 61]⟩ W hs (by decide) hp)
    rw [Pr.isSound_no hp]
    clear hp
    go_enter Tryz.func127, Tryz.ntmps127
    go_wp2_with fail
    refine (HC.out _).mono ?_
    rintro e w2 ⟨rfl, rfl⟩
    go_wp2_with fail
    go_ret
    exact ⟨rfl, rfl⟩
theorem rsound_any (S : ByteArray) (w : World) (hs : S.size ≤ 1000000) : Calls Tryz.prog 134 #[.string S] w fun e w' => e = .returned (.bool (Pr.isSound S.data.toList)) ∧ w = w' := by
  have h1 := str_size S
  have hd := extract_drop S 6
  have ht := extract_take S 6
  have HN := hid (fun W => rplain_any true (bstr (S.data.toList.drop 6)) W (by rw [bstr_size, List.length_drop, ← str_size]; omega))
  rw [show (bstr (S.data.toList.drop 6)).data.toList = S.data.toList.drop 6 from rfl] at HN
  by_cases h6 : 6 < S.size
  · have h6I : (6 : Int) < (S.size : Int) := by omega
    have hz : ((S.extract 0 6).toList == [115, 111, 117, 110, 100, 61]) = decide (Pr.soundW <+: S.data.toList) := by
      rw [ht, str_lit]
      by_cases hp : Pr.soundW <+: S.data.toList
      · rw [decide_eq_true hp, beq_iff_eq]
        exact (Pr.pre_take.1 hp).2
      · rw [decide_eq_false hp, beq_eq_false_iff_ne]
        intro e
        exact hp (Pr.pre_take.2 ⟨by show 6 ≤ _; omega, e⟩)
    by_cases hp : Pr.soundW <+: S.data.toList
    · rw [decide_eq_true hp] at hz
      rw [Pr.isSound_yes hp]
      clear hp ht h1
      generalize bstr (S.data.toList.drop 6) = D at *
      go_enter Tryz.func134, Tryz.ntmps134
      go_wp2_with fail
      refine (HN.out _).mono ?_
      rintro e w2 ⟨rfl, rfl⟩
      go_wp2_with fail
      go_ret
      exact ⟨rfl, rfl⟩
    · rw [decide_eq_false hp] at hz
      rw [Pr.isSound_no hp]
      clear hp ht hd h1
      go_enter Tryz.func134, Tryz.ntmps134
      go_wp2_with fail
      go_ret
      exact ⟨rfl, rfl⟩
  · have h6I : ¬ (6 : Int) < (S.size : Int) := by omega
    have hf : Pr.isSound S.data.toList = false := by
      by_cases hp : Pr.soundW <+: S.data.toList
      · rw [Pr.isSound_yes hp]
        exact Pr.okName_short (by rw [List.length_drop]; omega)
      · exact Pr.isSound_no hp
    rw [hf]
    clear hd ht hf h1
    go_enter Tryz.func134, Tryz.ntmps134
    go_wp2_with fail
    go_ret
    exact ⟨rfl, rfl⟩
theorem raction_any (S : ByteArray) (w : World) (hs : S.size ≤ 1000000) : Calls Tryz.prog 133 #[.string S] w fun e w' => e = .returned (.bool (Pr.isAct S.data.toList)) ∧ w = w' := by
  have HS := hid (fun W => rsound_any S W hs)
  have e1 := lit_beq S Pr.notifyW
  have e2 := lit_beq S Pr.highW
  have e3 := lit_beq S Pr.muteW
  have e4 := lit_beq S Pr.countW
  unfold Pr.isAct
  generalize Pr.isSound S.data.toList = sb at *
  rw [← e1, ← e2, ← e3, ← e4]
  clear e1 e2 e3 e4
  unfold Pr.notifyW Pr.highW Pr.muteW Pr.countW
  cases d1 : (S.toList == [110, 111, 116, 105, 102, 121]) with
  | true =>
    go_enter Tryz.func133, Tryz.ntmps133
    go_wp2_with fail
    go_ret
    exact ⟨rfl, rfl⟩
  | false =>
    cases d2 : (S.toList == [104, 105, 103, 104, 108, 105, 103, 104, 116]) with
    | true =>
      go_enter Tryz.func133, Tryz.ntmps133
      go_wp2_with fail
      go_ret
      exact ⟨rfl, rfl⟩
    | false =>
      cases d3 : (S.toList == [109, 117, 116, 101]) with
      | true =>
        go_enter Tryz.func133, Tryz.ntmps133
        go_wp2_with fail
        go_ret
        exact ⟨rfl, rfl⟩
      | false =>
        cases d4 : (S.toList == [99, 111, 117, 110, 116]) with
        | true =>
          go_enter Tryz.func133, Tryz.ntmps133
          go_wp2_with fail
          go_ret
          exact ⟨rfl, rfl⟩
        | false =>
          go_enter Tryz.func133, Tryz.ntmps133
          go_wp2_with fail
          refine (HS.out _).mono ?_
          rintro e w2 ⟨rfl, rfl⟩
          go_wp2_with fail
          go_ret
          exact ⟨rfl, rfl⟩
end Go.Proofs.YtchkiegehejfmaaGreatDoor
