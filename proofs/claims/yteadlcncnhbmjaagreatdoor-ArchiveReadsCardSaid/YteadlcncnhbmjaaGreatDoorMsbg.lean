/- The text Rh2. -/
import Derived.Great.BuildSlice
import Derived.Test.YteadlcncnhbmjaaGreatDoorMsbf
set_option linter.unusedSimpArgs false
set_option maxHeartbeats 16000000
set_option maxRecDepth 100000
set_option linter.unusedVariables false
namespace Go.Proofs.YteadlcncnhbmjaaGreatDoor
open Go.RowKit Go.Lib
theorem Cu (a : Act) (d : Option Tmp) (v : Value) : (a.put d v).tmps.size = a.tmps.size := by
 cases d with
 | none => rfl
 | some d => exact Array.size_setIfInBounds
theorem Ck {a : Act} {i : Nat} {v : Value} (h : i < a.tmps.size) : (a.put (some i) v).eval (.tmp i) = v := by
 show (a.tmps.setIfInBounds i v).getD i undef = v;rw [Array.getD_eq_getD_getElem?, Array.getElem?_setIfInBounds, if_pos rfl, if_pos h];rfl
theorem AX {a : Act} {i j : Nat} {v : Value} (h : i ≠ j) : (a.put (some i) v).eval (.tmp j) = a.eval (.tmp j) := by
 show (a.tmps.setIfInBounds i v).getD j undef = a.tmps.getD j undef;rw [Array.getD_eq_getD_getElem?, Array.getD_eq_getD_getElem?, Array.getElem?_setIfInBounds, if_neg h]
theorem Ii {a : Act} {i j : Nat} {u v : Value} (h : i ≠ j) : (a.put (some i) u).put (some j) v = (a.put (some j) v).put (some i) u := by
 show ({ a with tmps := (a.tmps.setIfInBounds i u).setIfInBounds j v } : Act) = { a with tmps := (a.tmps.setIfInBounds j v).setIfInBounds i u };rw [Array.setIfInBounds_comm _ _ h]
section
variable {ops : Array Oper} {o : Oper} {a : Act} {w : World} {Q : Exit → Act → World → Prop} {K : Act → World → Prop} {T E size bytes : Nat} {F : Prop}
theorem EM (hgd : o.guard = none) : Region.wanted o (yielded ops a.tmps) = true := by simp [Region.wanted, hgd]
theorem G5 (hT : RowT T E size bytes) (hgd : o.guard = none) (ho : o.op = .buildSlice T 0 #[]) (h : K (a.put o.dst (.slice (some ⟨w.heap.size, 0, none⟩) 0 0)) (w.alloc (.cells #[] E))) :
  if Region.wanted o (yielded ops a.tmps) = true then o.wp Tryz.prog a w K Q else F := by
 rw [if_pos (EM hgd)];obtain ⟨z, hi, hz⟩ := hT.info;obtain ⟨i, hu, zu0, zu1, zu2⟩ := Cf hi;have hrun : (Instr.buildSlice T 0 #[]).run Tryz.prog w = .ok (.slice (some ⟨w.heap.size, 0, none⟩) 0 0) (w.alloc (.cells #[] E)) := by
  simp [Instr.buildSlice, run_underlying hT.und, sizeOf, typeInfo, hu, newRow, Instr.fill];exact congrArg (fun A => w.alloc (.cells A E)) (Array.eq_empty_of_size_eq_zero (by simp))
 unfold Oper.wp execOp;simp only [ho, List.map_toArray, List.map_nil, Sem.run_bind, hrun, Result.andThen_ok];exact h
theorem Fc (hT : RowT T E size bytes) (hgd : o.guard = none) (x : Operand) (ho : o.op = .buildSlice T 1 #[(0, x)]) (X : Array Value) (hx : a.eval x = .agg X) (hX : X.size = size) (hs : size ≤ 1000)
  (h : K (a.put o.dst (.slice (some ⟨w.heap.size, 0, none⟩) 1 1)) (w.alloc (.cells X E))) : if Region.wanted o (yielded ops a.tmps) = true then o.wp Tryz.prog a w K Q else F := by
 rw [if_pos (EM hgd)];obtain ⟨z, hi, hz⟩ := hT.info;obtain ⟨i, hu, zu0, zu1, zu2⟩ := Cf hi;have hp := hT.pos;refine wp_buildSlice T E 1 #[(0, x)] ho X i z hT.und hu zu0 (by rw [zu1]; omega) (by rw [zu1]; omega) ?_ h;have hZ : ((Array.range (1 * i.size)).map (z.cells[· % z.cells.size]!)).size = X.size := by rw [Array.size_map, Array.size_range, zu1, hX]; omega
 generalize ((Array.range (1 * i.size)).map (z.cells[· % z.cells.size]!)) = Z at hZ;rw [zu1];simp only [List.map_toArray, List.map_cons, List.map_nil, hx];unfold Instr.fill;simp [hX, Value.cells];refine ⟨by omega, ?_⟩;have e := IP X Z hZ;rw [hX] at e;rw [e];rfl
end
abbrev dD (i : Nat) : Edge := { on := i, ground := .data }
abbrev dP (i : Nat) : Edge := { on := i, ground := .phase }
abbrev dC (i : Nat) : Edge := { on := i, ground := .chain }
abbrev tk0 (T E f q s : Nat) (pos : String) : Oper := { dst := some s, op := .buildSlice T 0 #[], type := T, pos := pos, after := #[], guard := none }
abbrev tk1 (T E f q s : Nat) (pos : String) : Oper := { dst := some (s + 1), op := .fieldAddr 55 (.tmp 3) f, type := 0, pos := pos, after := #[], guard := none }
abbrev tk2 (T E f q s : Nat) (pos : String) : Oper := { dst := some (s + 2), op := .load T (.tmp (s + 1)), type := T, pos := pos, after := #[dD 1], guard := none }
abbrev tk3 (T E f q s : Nat) (pos : String) : Oper := { dst := some (s + 3), op := .call { callee := .builtin .append, args := #[.tmp s, .tmp (s + 2)], argTypes := #[T, T] }, type := T, pos := pos, after := #[dD 0, dD 2], guard := none }
abbrev tk4 (T E f q s : Nat) (pos : String) : Oper := { dst := some (s + 4), op := .load E (.tmp q), type := E, pos := pos, after := #[], guard := none }
abbrev tk5 (T E f q s : Nat) (pos : String) : Oper := { dst := some (s + 5), op := .buildSlice T 1 #[(0, .tmp (s + 4))], type := T, pos := pos, after := #[dD 4], guard := none }
abbrev tk6 (T E f q s : Nat) (pos : String) : Oper := { dst := some (s + 6), op := .call { callee := .builtin .append, args := #[.tmp (s + 3), .tmp (s + 5)], argTypes := #[T, T] }, type := T, pos := pos, after := #[dD 3, dD 5, dC 3], guard := none }
abbrev tk7 (T E f q s : Nat) (pos : String) : Oper := { dst := some (s + 7), op := .fieldAddr 55 (.tmp 3) f, type := 0, pos := pos, after := #[dP 0, dP 1, dP 2, dP 3, dP 4, dP 5, dP 6], guard := none }
abbrev tk8 (T E f q s : Nat) (pos : String) : Oper := { dst := none, op := .store T (.tmp (s + 7)) (.tmp (s + 6)), type := 0, pos := pos, after := #[dD 7, dD 6, dC 6, dP 0, dP 1, dP 2, dP 3, dP 4, dP 5, dP 6], guard := none }
abbrev tkOps (T E f q s : Nat) (pos : String) : Array Oper := #[tk0 T E f q s pos, tk1 T E f q s pos, tk2 T E f q s pos, tk3 T E f q s pos, tk4 T E f q s pos, tk5 T E f q s pos, tk6 T E f q s pos, tk7 T E f q s pos, tk8 T E f q s pos]
structure TkOk (ops : Array Oper) : Prop where
 ns : Region.noSelect ops = true
 f1 : Region.free .any ops #[false, false, false, false, false, false, false, false, false] 1 = true
 r1 : (Region.ready .any ops #[false, false, false, false, false, false, false, false, false]).contains 1 = true
 l1 : GV .any ops (fun i => i == 8) 1 = true
 f2 : Region.free .any ops #[false, true, false, false, false, false, false, false, false] 2 = true
 r2 : (Region.ready .any ops #[false, true, false, false, false, false, false, false, false]).contains 2 = true
 l2 : GV .any ops (fun i => i == 8) 2 = true
 f4 : Region.free .any ops #[false, true, true, false, false, false, false, false, false] 4 = true
 r4 : (Region.ready .any ops #[false, true, true, false, false, false, false, false, false]).contains 4 = true
 l4 : GV .any ops (fun i => i == 8) 4 = true
 d0 : Region.ready .any ops #[false, true, true, false, true, false, false, false, false] = [0, 5]
 d1 : Region.ready .any ops #[true, true, true, false, true, false, false, false, false] = [3, 5]
 d2 : Region.ready .any ops #[true, true, true, true, true, false, false, false, false] = [5]
 d4 : Region.ready .any ops #[true, true, true, false, true, true, false, false, false] = [3]
 d5 : Region.ready .any ops #[false, true, true, false, true, true, false, false, false] = [0]
 d3 : Region.ready .any ops #[true, true, true, true, true, true, false, false, false] = [6]
 d7 : Region.ready .any ops #[true, true, true, true, true, true, true, false, false] = [7]
 d8 : Region.ready .any ops #[true, true, true, true, true, true, true, true, false] = [8]
 d9 : Region.ready .any ops #[true, true, true, true, true, true, true, true, true] = []
theorem C2 {T E sz bytes : Nat} (hT : RowT T E sz bytes) (hsz : sz ≤ 1000) {d : TypeDesc} (hd : (match d with | .struct _ | .array _ _ => true | _ => false) = true) (hu : Tryz.prog.underlying E = some d) (X : Array Value) (hi : (Tryz.prog.info? E).map (·.size) = some X.size)
  (f q s : Nat) (pos : String) (id : Nat) (a : Act) (w : World) (Q : Exit → Act → World → Prop) (ok : TkOk (tkOps T E f q s pos)) (hS : s + 7 < a.tmps.size) (hq : q < s) (h3 : 3 < s)
  (g b : Nat) (a3 : a.eval (.tmp 3) = .pointer (some ⟨g, 0, none⟩)) (aq : a.eval (.tmp q) = .pointer (some ⟨b, 0, none⟩)) (XC : Array Value) (hg : Blk w g 55 XC) (hb : Blk w b E X) (hX : X.size = sz) (h1 : X.all (·.oneCell') = true)
  (A : Option Addr) (n c : Nat) (ys : List Value) (hf : XC[f]? = some (.slice A n c)) (hr : Rd w A (n * sz) ys) (hy : ∀ u ∈ ys, u.oneCell' = true) (hn : n ≤ 1000000)
  (hfa : ∀ W, (Instr.fieldAt 55 (.pointer (some ⟨g, 0, none⟩)) f).run Tryz.prog W = .ok (.pointer (some ⟨g, f, none⟩)) W)
  (hld : ∀ W v, W.cell? ⟨g, f, none⟩ = some v → (Instr.loadAt T (.pointer (some ⟨g, f, none⟩))).run Tryz.prog W = .ok v W)
  (hst : ∀ (W : World) v A' m c', W.cell? ⟨g, f, none⟩ = some v → W.frozen? ⟨g, f, none⟩ = false → (Instr.storeAt T (.pointer (some ⟨g, f, none⟩)) (.slice A' m c')).run Tryz.prog W = .ok () (W.setCell ⟨g, f, none⟩ (.slice A' m c')))
  (h : ∀ v0 v3 v5 A' c' w', w'.ownsRow w.heap.size E sz (.slice A' (n + 1) c') (n + 1) (ys ++ X.toList) → Blk w' g 55 (XC.setIfInBounds f (.slice A' (n + 1) c')) → Ch w w' g none →
   Q .normal ((((((((a.put (some (s + 1)) (.pointer (some ⟨g, f, none⟩))).put (some (s + 2)) (.slice A n c)).put (some (s + 4)) (.agg X)).put (some s) v0).put (some (s + 3)) v3).put (some (s + 5)) v5).put (some (s + 6)) (.slice A' (n + 1) c')).put (some (s + 7)) (.pointer (some ⟨g, f, none⟩))) w') :
  (Code.region id (tkOps T E f q s pos) true).wp Tryz.prog Q a w := by
 have hXl : X.toList.length = 1 * sz := by rw [Array.length_toList, hX, Nat.one_mul]
 have hXo : ∀ u ∈ X.toList, u.oneCell' = true := fun u hu => by
  rw [Array.all_eq_true_iff_forall_mem] at h1;exact h1 u (by simpa using hu)
 have hgl := hg.lt;have hC : ∀ W, Below w.heap.size w W → W.cell? ⟨g, f, none⟩ = some (.slice A n c) ∧ Blk W b E X := fun W hW => ⟨((hg.below hW hg.lt).cell f).trans hf, hb.below hW hb.lt⟩
 have hB0 : Below w.heap.size w w.drew := (Below.refl _ _).drew
 -- the end, whatever came before
 have TAIL : ∀ (W : World) v0 v3 k, Below w.heap.size w W → W.ownsRow w.heap.size E sz v3 n ys → Blk W k E X →
   AnyT Tryz.prog .any (tkOps T E f q s pos) (NoPanic Q) (fun W => W.cell? ⟨g, f, none⟩ = some (.slice A n c) ∧ Blk W b E X) (fun i => i == 8) 3 #[true, true, true, true, true, true, false, false, false]
    ((((((a.put (some (s + 1)) (.pointer (some ⟨g, f, none⟩))).put (some (s + 2)) (.slice A n c)).put (some (s + 4)) (.agg X)).put (some s) v0).put (some (s + 3)) v3).put (some (s + 5)) (.slice (some ⟨k, 0, none⟩) 1 1)) W := by
  intro W v0 v3 k hW ho hk;refine AP (rs := [6]) ok.d3 (by simp) ?_;refine ReadyT.cons (o := tk6 T E f q s pos) rfl (fun K hK => ?_) ReadyT.nil;refine Ft hT rfl (.tmp (s + 3)) (.tmp (s + 5)) rfl W v3 n ys X.toList w.heap.size ?_ ho (some ⟨k, 0, none⟩) 1 1 ?_ ⟨hXl, fun j u hj => ⟨k, 0, rfl, ?_⟩⟩ hXo hW.size (by omega) ?_
  ·rw [AX (by omega)];exact Ck (by simp only [Cu]; omega)
  ·exact Ck (by simp only [Cu]; omega)
  ·rw [Nat.zero_add, hk.cell j, ← Array.getElem?_toList];exact hj
  intro v6 w6 ho6 hg6 hb6;obtain ⟨A6, c6, rfl⟩ := Ax ho6;have hW6 := hb6 w hW;refine hK.out _ _ (.inr (hC w6 hW6)) ?_;clear hK K;refine AP (rs := [7]) ok.d7 (by simp) ?_;refine ReadyT.cons (o := tk7 T E f q s pos) rfl (fun K hK => ?_) ReadyT.nil;rw [if_pos (EM rfl)];unfold Oper.wp execOp;simp only [AX (show s + 6 ≠ 3 by omega), AX (show s + 5 ≠ 3 by omega), AX (show s + 3 ≠ 3 by omega), AX (show s ≠ 3 by omega), AX (show s + 4 ≠ 3 by omega), AX (show s + 2 ≠ 3 by omega), AX (show s + 1 ≠ 3 by omega), a3, Sem.run_bind, hfa, Sem.run_pure, Result.andThen_ok];refine hK.out _ _ (.inr (hC w6 hW6)) ?_;clear hK K;have hgW := hg.below hW6 hgl;have e7 : ((((((((a.put (some (s + 1)) (.pointer (some ⟨g, f, none⟩))).put (some (s + 2)) (.slice A n c)).put (some (s + 4)) (.agg X)).put (some s) v0).put (some (s + 3)) v3).put (some (s + 5)) (.slice (some ⟨k, 0, none⟩) 1 1)).put (some (s + 6)) (.slice A6 (n + 1) c6)).put (some (s + 7)) (.pointer (some ⟨g, f, none⟩))).eval (.tmp (s + 7)) = .pointer (some ⟨g, f, none⟩) := Ck (by simp only [Cu]; omega);have e6 : ((((((((a.put (some (s + 1)) (.pointer (some ⟨g, f, none⟩))).put (some (s + 2)) (.slice A n c)).put (some (s + 4)) (.agg X)).put (some s) v0).put (some (s + 3)) v3).put (some (s + 5)) (.slice (some ⟨k, 0, none⟩) 1 1)).put (some (s + 6)) (.slice A6 (n + 1) c6)).put (some (s + 7)) (.pointer (some ⟨g, f, none⟩))).eval (.tmp (s + 6)) = .slice A6 (n + 1) c6 := (AX (by omega)).trans (Ck (by simp only [Cu]; omega));have hfin := h v0 v3 (.slice (some ⟨k, 0, none⟩) 1 1) A6 c6 _ (CQ (i := f) (u := .slice A6 (n + 1) c6) ho6 hgl) (hgW.set_ f _) ((chb (g := g) (row := none) hW6).set f _);show AnyT _ _ _ _ _ _ 1 #[true, true, true, true, true, true, true, true, false] ((((((((a.put (some (s + 1)) (.pointer (some ⟨g, f, none⟩))).put (some (s + 2)) (.slice A n c)).put (some (s + 4)) (.agg X)).put (some s) v0).put (some (s + 3)) v3).put (some (s + 5)) (.slice (some ⟨k, 0, none⟩) 1 1)).put (some (s + 6)) (.slice A6 (n + 1) c6)).put (some (s + 7)) (.pointer (some ⟨g, f, none⟩))) w6;generalize ((((((((a.put (some (s + 1)) (.pointer (some ⟨g, f, none⟩))).put (some (s + 2)) (.slice A n c)).put (some (s + 4)) (.agg X)).put (some s) v0).put (some (s + 3)) v3).put (some (s + 5)) (.slice (some ⟨k, 0, none⟩) 1 1)).put (some (s + 6)) (.slice A6 (n + 1) c6)).put (some (s + 7)) (.pointer (some ⟨g, f, none⟩))) = b8 at e7 e6 hfin ⊢;refine AP (rs := [8]) ok.d8 (by simp) ?_;refine ReadyT.cons (o := tk8 T E f q s pos) rfl (fun K hK => ?_) ReadyT.nil;rw [if_pos (EM rfl)];unfold Oper.wp execOp;simp only [e7, e6, Sem.run_bind, hst w6 _ A6 (n + 1) c6 (hC w6 hW6).1 (hgW.frozen f), Sem.run_pure, Result.andThen_ok];refine hK.out _ _ (.inl rfl) ?_;clear hK K;refine Fw ok.d9 ?_ _;refine NoPanic.normal ?_;exact hfin
 refine wp_region_noPanic ?_;refine DZ (fun W => W.cell? ⟨g, f, none⟩ = some (.slice A n c) ∧ Blk W b E X) (fun i => i == 8) (by kernel_rfl) (hC _ hB0) (fun hHeld => ?_);refine AY (i := 1) (oi := tk1 T E f q s pos) (v := .pointer (some ⟨g, f, none⟩)) (fuel := 8) rfl ok.ns ok.f1 ok.r1 ok.l1 (fun _ _ _ h => h) (.inl ⟨EM rfl, fun W hW => ?_⟩) hHeld ?_
 ·unfold execOp;simp only [a3, Sem.run_bind, hfa, Sem.run_pure, Result.andThen_ok]
 refine AY (i := 2) (oi := tk2 T E f q s pos) (v := .slice A n c) (fuel := 7) rfl ok.ns ok.f2 ok.r2 ok.l2 (fun _ _ _ h => h) (.inl ⟨EM rfl, fun W hW => ?_⟩) hHeld ?_
 ·unfold execOp;simp only [Ck (show s + 1 < a.tmps.size by omega), Sem.run_bind, hld W _ hW.1, Sem.run_pure, Result.andThen_ok]
 refine AY (i := 4) (oi := tk4 T E f q s pos) (v := .agg X) (fuel := 6) rfl ok.ns ok.f4 ok.r4 ok.l4 (fun _ _ _ h => h) (Dg hd hu hi (fun W h => h.2) (EM rfl) (.tmp q) rfl ?_) hHeld ?_
 ·rw [AX (by omega), AX (by omega)];exact aq
 have rdW : ∀ W, Below w.heap.size w W → Rd W A (n * sz) ys := fun W hW => hr.below hW
 refine AP (rs := [0, 5]) ok.d0 (by simp) ?_;refine ReadyT.cons (o := tk0 T E f q s pos) rfl (fun K hK => ?_) (ReadyT.cons (o := tk5 T E f q s pos) rfl (fun K hK => ?_) ReadyT.nil)
 ·-- 0 first
  refine G5 hT rfl rfl ?_;have hW1 := hB0.alloc hB0.size (.cells #[] E);have ho1 := World.ownsRow_made (base := w.heap.size) (e := E) (size := sz) w.drew #[] 0 (Nat.le_refl _) (by decide) (by simp);refine hK.out _ _ (.inr (hC _ hW1)) ?_;clear hK K;refine AP (rs := [3, 5]) ok.d1 (by simp) ?_;refine ReadyT.cons (o := tk3 T E f q s pos) rfl (fun K hK => ?_) (ReadyT.cons (o := tk5 T E f q s pos) rfl (fun K hK => ?_) ReadyT.nil)
  ·refine Ft hT rfl (.tmp s) (.tmp (s + 2)) rfl _ (.slice (some ⟨w.drew.heap.size, 0, none⟩) 0 0) 0 [] ys w.heap.size ?_ ho1 A n c ?_ (rdW _ hW1) hy hW1.size (by omega) ?_
   ·exact Ck (by simp only [Cu]; omega)
   ·rw [AX (by omega), AX (by omega)];exact Ck (by simp only [Cu]; omega)
   intro v3 w3 ho3 hg3 hb3;rw [Nat.zero_add, List.nil_append] at ho3;have hW3 := hb3 w hW1;refine hK.out _ _ (.inr (hC _ hW3)) ?_;clear hK K;refine AP (rs := [5]) ok.d2 (by simp) ?_;refine ReadyT.cons (o := tk5 T E f q s pos) rfl (fun K hK => ?_) ReadyT.nil;refine Fc hT rfl (.tmp (s + 4)) rfl X ?_ hX hsz ?_
   ·rw [AX (by omega), AX (by omega)];exact Ck (by simp only [Cu]; omega)
   have hW5 := hW3.alloc hW3.size (.cells X E);refine hK.out _ _ (.inr (hC _ hW5)) ?_;clear hK K;exact TAIL _ _ v3 w3.heap.size hW5 (ho3.alloc _) (Blk.new w3 E X)
  ·refine Fc hT rfl (.tmp (s + 4)) rfl X ?_ hX hsz ?_
   ·rw [AX (by omega)];exact Ck (by simp only [Cu]; omega)
   have hW5 := hW1.alloc hW1.size (.cells X E);refine hK.out _ _ (.inr (hC _ hW5)) ?_;clear hK K;refine AP (rs := [3]) ok.d4 (by simp) ?_;refine ReadyT.cons (o := tk3 T E f q s pos) rfl (fun K hK => ?_) ReadyT.nil;refine Ft hT rfl (.tmp s) (.tmp (s + 2)) rfl _ (.slice (some ⟨w.drew.heap.size, 0, none⟩) 0 0) 0 [] ys w.heap.size ?_ (ho1.alloc _) A n c ?_ (rdW _ hW5) hy hW5.size (by omega) ?_
   ·rw [AX (by omega)];exact Ck (by simp only [Cu]; omega)
   ·rw [AX (by omega), AX (by omega), AX (by omega)];exact Ck (by simp only [Cu]; omega)
   intro v3 w3 ho3 hg3 hb3;rw [Nat.zero_add, List.nil_append] at ho3;have hW3 := hb3 w hW5;have hk3 := (Blk.new (w.drew.alloc (.cells #[] E)) E X).grown hg3 (by intro e; have e2 : some (w.drew.alloc (.cells #[] E)).heap.size = some w.drew.heap.size := e; rw [World.size_alloc] at e2; injection e2 with e2; exact Nat.succ_ne_self _ e2);refine hK.out _ _ (.inr (hC _ hW3)) ?_;clear hK K;rw [Ii (show s + 5 ≠ s + 3 by omega)];exact TAIL _ _ v3 _ hW3 ho3 hk3
 ·-- 5 first
  refine Fc hT rfl (.tmp (s + 4)) rfl X ?_ hX hsz ?_
  ·exact Ck (by simp only [Cu]; omega)
  have hW1 := hB0.alloc hB0.size (.cells X E);refine hK.out _ _ (.inr (hC _ hW1)) ?_;clear hK K;refine AP (rs := [0]) ok.d5 (by simp) ?_;refine ReadyT.cons (o := tk0 T E f q s pos) rfl (fun K hK => ?_) ReadyT.nil;refine G5 hT rfl rfl ?_;have hW5 := hW1.alloc hW1.size (.cells #[] E);have ho1 := World.ownsRow_made (base := w.heap.size) (e := E) (size := sz) (w.drew.alloc (.cells X E)) #[] 0 hW1.size (by decide) (by simp);refine hK.out _ _ (.inr (hC _ hW5)) ?_;clear hK K;refine AP (rs := [3]) ok.d4 (by simp) ?_;refine ReadyT.cons (o := tk3 T E f q s pos) rfl (fun K hK => ?_) ReadyT.nil;refine Ft hT rfl (.tmp s) (.tmp (s + 2)) rfl _ (.slice (some ⟨(w.drew.alloc (.cells X E)).heap.size, 0, none⟩) 0 0) 0 [] ys w.heap.size ?_ ho1 A n c ?_ (rdW _ hW5) hy hW5.size (by omega) ?_
  ·exact Ck (by simp only [Cu]; omega)
  ·rw [AX (by omega), AX (by omega), AX (by omega)];exact Ck (by simp only [Cu]; omega)
  intro v3 w3 ho3 hg3 hb3;rw [Nat.zero_add, List.nil_append] at ho3;have hW3 := hb3 w hW5;have hk3 := ((Blk.new w.drew E X).alloc (.cells #[] E)).grown hg3 (by intro e; have e2 : some w.drew.heap.size = some (w.drew.alloc (.cells X E)).heap.size := e; rw [World.size_alloc] at e2; injection e2 with e2; exact Nat.succ_ne_self _ e2.symm);refine hK.out _ _ (.inr (hC _ hW3)) ?_;clear hK K;rw [Ii (show s + 5 ≠ s by omega), Ii (show s + 5 ≠ s + 3 by omega)];exact TAIL _ _ v3 _ hW3 ho3 hk3
end Go.Proofs.YteadlcncnhbmjaaGreatDoor
