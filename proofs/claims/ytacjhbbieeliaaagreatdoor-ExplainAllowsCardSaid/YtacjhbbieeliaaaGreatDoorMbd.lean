/- The text Km. -/
import Derived.Maps.OwnSet
import Derived.Maps.OwnOps
import Derived.Test.YtacjhbbieeliaaaGreatDoorMbc
set_option linter.unusedSimpArgs false
set_option maxHeartbeats 16000000
set_option maxRecDepth 100000
set_option linter.unusedVariables false
namespace Go.Proofs.YtacjhbbieeliaaaGreatDoor
open Go.RowKit Go.Lib Go.Maps
set_option linter.unusedVariables false
abbrev W64 (n : Int) : Prop := (Lit.int .i64 n).wf = true
theorem lawI : Keyed Tryz.prog 3 := int_keyed Tryz.underlying3
theorem zeroI (w : World) : (zeroValue 3).run Tryz.prog w = .ok (.int .i64 0) w := by kernel_rfl
def FarM (w : World) (B n : Nat) (far : Co.Far) : Prop := ∃ D : DataW Unit, w.ownsMap Tryz.prog 3 (plainElem Tryz.prog 3) B n D ∧ ∀ x, has D (.int .i64 x) = (far x).isSome ∧ D.atKey (.int .i64 x) (.lit (.int .i64 0)) = .lit (.int .i64 (((far x).getD 0 : Nat) : Int))
section
variable {w w' : World} {B n : Nat} {far : Co.Far} {ops : Array Oper} {rest : List Oper} {o : Oper} {a : Act} {Q : Exit → Act → World → Prop}
theorem FarM.lt (h : FarM w B n far) : B < w.heap.size := by obtain ⟨D, h, _⟩ := h; exact h.lt
theorem FarM.kept {row : Option Nat} (h : FarM w B n far) (hg : w.grownBy w' row) (hne : some B ≠ row) : FarM w' B n far := by
 obtain ⟨D, h1, h2⟩ := h
 exact ⟨D, h1.kept hg hne, h2⟩
theorem FarM.bel (h : FarM w B n far) (hb : Below w.heap.size w w') : FarM w' B n far := h.kept (row := none) ⟨hb.os, hb.tape, hb.output, hb.size, fun k hk _ => hb.block k hk⟩ (by simp)
theorem FarM.drewN (h : FarM w B n far) (k : Nat) : FarM (w.drewN k) B n far := h.bel (below_drewN (Below.refl _ w) k)
theorem FarM.made (w : World) : FarM (w.alloc (.map #[] 0)) w.heap.size 0 (fun _ => none) := ⟨.map [], World.ownsMap_made _ _ _ _, fun x => ⟨rfl, rfl⟩⟩
theorem far_look (hg : o.guard = none) (m x : Operand) (hop : o.op = .lookup 120 m x true) (hm : a.eval m = .map (some B)) (h : FarM w B n far) (id : Int) (hx : a.eval x = .int .i64 id) (hw : W64 id)
  (hK : wpList Tryz.prog ops Q rest (a.put o.dst (.tuple #[.int .i64 (((far id).getD 0 : Nat) : Int), .bool (far id).isSome])) w) : wpList Tryz.prog ops Q (o :: rest) a w := by
 obtain ⟨D, h1, h2⟩ := h
 refine wpList_lookup_own_ok_int w hg m x _ hop _ _ .i64 lawI Tryz.underlying120 Tryz.underlying3 (zeroI w) B n D hm h1 _ _ hx (keyOf_int_mk Tryz.underlying3 hw) (fun c hat hwc => ?_)
 obtain ⟨h3, h4⟩ := h2 id
 rw [h3]
 rw [h4] at hat
 injection hat with hat
 injection hat with _ hat
 rw [← hat]
 exact hK
theorem far_upd {D : DataW Unit} (h1 : w.ownsMap Tryz.prog 3 (plainElem Tryz.prog 3) B n D) (h2 : ∀ x, has D (.int .i64 x) = (far x).isSome ∧ D.atKey (.int .i64 x) (.lit (.int .i64 0)) = .lit (.int .i64 (((far x).getD 0 : Nat) : Int))) (id : Int) (k : Nat) (x : Int) :
  has (D.put (.int .i64 id) (.lit (.int .i64 (k : Int)))) (.int .i64 x) = ((if x = id then some k else far x).isSome) ∧ (D.put (.int .i64 id) (.lit (.int .i64 (k : Int)))).atKey (.int .i64 x) (.lit (.int .i64 0)) = .lit (.int .i64 (((if x = id then some k else far x).getD 0 : Nat) : Int)) := by
 by_cases hx : x = id
 ·subst hx
  rw [if_pos rfl]
  exact ⟨has_put_same h1.isMap (by simp [WideAt.IsKeyLit]) _, atKey_put_same h1.isMap (by simp [WideAt.IsKeyLit]) _ _⟩
 ·rw [if_neg hx]
  have hne : (Lit.int .i64 x) ≠ .int .i64 id := fun e => hx (by injection e)
  rw [has_put_other hne, atKey_put_other hne]
  exact h2 x
theorem far_put (hg : o.guard = none) (m x v : Operand) (hop : o.op = .mapUpdate 120 m x v ∨ o.op = .insert 120 m x v) (hm : a.eval m = .map (some B)) (h : FarM w B n far) (hn : n < 1000000000) (id : Int) (hx : a.eval x = .int .i64 id) (hw : W64 id)
  (k : Nat) (hv : a.eval v = .int .i64 (k : Int)) (hk : k < 1000000000)
  (hK : ∀ w', FarM w' B (n + 1) (fun y => if y = id then some k else far y) → w.grownBy w' (some B) → wpList Tryz.prog ops Q rest (a.put o.dst undef) w') : wpList Tryz.prog ops Q (o :: rest) a w := by
 obtain ⟨D, h1, h2⟩ := h
 have hkw : (Lit.int .i64 (k : Int)).wf = true := WalkArith.wf_i64 (by omega)
 obtain ⟨w', hrun, r1, r2⟩ := h1.update lawI Tryz.underlying120 (by unfold maxLen; omega) (keyOf_int_mk Tryz.underlying3 hw) (plainElem_int Tryz.underlying3 hkw)
 refine wpList_plain hg fun K' hK' => ?_
 unfold Oper.wp
 rcases hop with hop | hop
 ·simp [execOp, hop, hm, hx, hv, hrun, Result.andThen]
  exact hK' _ _ (hK w' ⟨_, r1, far_upd h1 h2 id k⟩ r2)
 ·simp [execOp, hop, hm, hx, hv, hrun, Result.andThen]
  exact hK' _ _ (hK w' ⟨_, r1, far_upd h1 h2 id k⟩ r2)
end
end Go.Proofs.YtacjhbbieeliaaaGreatDoor
