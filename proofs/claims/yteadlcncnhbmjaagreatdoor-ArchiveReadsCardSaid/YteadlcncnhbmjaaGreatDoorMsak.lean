/- The text An8. -/
import Derived.Laws.EntriesVeiled
import Derived.Test.YteadlcncnhbmjaaGreatDoorMsaj
set_option linter.unusedSimpArgs false
set_option maxHeartbeats 16000000
set_option maxRecDepth 100000
set_option linter.unusedVariables false
namespace Go.Proofs.YteadlcncnhbmjaaGreatDoor
open Go.RowKit Go.Lib
theorem CK : (Tryz.prog.info? 82).map (·.size) = some 3 := by kernel_rfl
abbrev fldV (nm : ByteArray) (F G : FuncId) (cf cg : Array Value) : Value := .agg #[.string nm, .func (.func F) #[] cf, .func (.func G) #[] cg]
theorem Cm (nm : ByteArray) (acc : FuncId) (w : World) :
  Calls Tryz.prog 105 #[.string nm, .func (.func acc) #[] #[]] w fun e w' => e = .returned (fldV nm 189 190 #[.pointer (some ⟨w.heap.size, 0, none⟩)] #[.pointer (some ⟨w.heap.size, 0, none⟩)]) ∧ Below w.heap.size w w' ∧ w'.cell? ⟨w.heap.size, 0, none⟩ = some (.func (.func acc) #[] #[]) := by
 go_enter Tryz.func105, Tryz.ntmps105;go_wp2_with fail;have hk := Blk.new (w.alloc (.cells #[.func (.func acc) #[] #[]] 153)) 82 #[.string nm, .func (.func 189) #[] #[.pointer (some ⟨w.heap.size, 0, none⟩)], .func (.func 190) #[] #[.pointer (some ⟨w.heap.size, 0, none⟩)]];rw [show (w.alloc (.cells #[.func (.func acc) #[] #[]] 153)).heap.size = w.heap.size + 1 from by simp] at hk;refine bodyPost_ret (v := fldV nm 189 190 #[.pointer (some ⟨w.heap.size, 0, none⟩)] #[.pointer (some ⟨w.heap.size, 0, none⟩)]) (results_cell_row rfl _ _ (w.heap.size + 1) _ _ (0, 0) _ rfl hk Tryz.underlying82 rfl CK) rfl ⟨rfl, ?_, ?_⟩
 ·exact ((Below.refl _ _).alloc (Nat.le_refl _) _).alloc (by simp <;> omega) _
 ·exact (World.grownBy_alloc _ _ none).cell (by exact (Blk.new w 153 #[.func (.func acc) #[] #[]]).cell 0) (by simp)
theorem El (nm : ByteArray) (acc : FuncId) (w : World) :
  Calls Tryz.prog 107 #[.string nm, .func (.func acc) #[] #[]] w fun e w' => e = .returned (fldV nm 191 192 #[.pointer (some ⟨w.heap.size, 0, none⟩)] #[.pointer (some ⟨w.heap.size, 0, none⟩)]) ∧ Below w.heap.size w w' ∧ w'.cell? ⟨w.heap.size, 0, none⟩ = some (.func (.func acc) #[] #[]) := by
 go_enter Tryz.func107, Tryz.ntmps107;go_wp2_with fail;have hk := Blk.new (w.alloc (.cells #[.func (.func acc) #[] #[]] 156)) 82 #[.string nm, .func (.func 191) #[] #[.pointer (some ⟨w.heap.size, 0, none⟩)], .func (.func 192) #[] #[.pointer (some ⟨w.heap.size, 0, none⟩)]];rw [show (w.alloc (.cells #[.func (.func acc) #[] #[]] 156)).heap.size = w.heap.size + 1 from by simp] at hk;refine bodyPost_ret (v := fldV nm 191 192 #[.pointer (some ⟨w.heap.size, 0, none⟩)] #[.pointer (some ⟨w.heap.size, 0, none⟩)]) (results_cell_row rfl _ _ (w.heap.size + 1) _ _ (0, 0) _ rfl hk Tryz.underlying82 rfl CK) rfl ⟨rfl, ?_, ?_⟩
 ·exact ((Below.refl _ _).alloc (Nat.le_refl _) _).alloc (by simp <;> omega) _
 ·exact (World.grownBy_alloc _ _ none).cell (by exact (Blk.new w 156 #[.func (.func acc) #[] #[]]).cell 0) (by simp)
theorem Jd (nm : ByteArray) (acc : FuncId) (w : World) :
  Calls Tryz.prog 169 #[.string nm, .func (.func acc) #[] #[]] w fun e w' => e = .returned (fldV nm 212 213 #[.pointer (some ⟨w.heap.size, 0, none⟩)] #[.pointer (some ⟨w.heap.size, 0, none⟩)]) ∧ Below w.heap.size w w' ∧ w'.cell? ⟨w.heap.size, 0, none⟩ = some (.func (.func acc) #[] #[]) := by
 go_enter Tryz.func169, Tryz.ntmps169;go_wp2_with fail;have hk := Blk.new (w.alloc (.cells #[.func (.func acc) #[] #[]] 205)) 82 #[.string nm, .func (.func 212) #[] #[.pointer (some ⟨w.heap.size, 0, none⟩)], .func (.func 213) #[] #[.pointer (some ⟨w.heap.size, 0, none⟩)]];rw [show (w.alloc (.cells #[.func (.func acc) #[] #[]] 205)).heap.size = w.heap.size + 1 from by simp] at hk;refine bodyPost_ret (v := fldV nm 212 213 #[.pointer (some ⟨w.heap.size, 0, none⟩)] #[.pointer (some ⟨w.heap.size, 0, none⟩)]) (results_cell_row rfl _ _ (w.heap.size + 1) _ _ (0, 0) _ rfl hk Tryz.underlying82 rfl CK) rfl ⟨rfl, ?_, ?_⟩
 ·exact ((Below.refl _ _).alloc (Nat.le_refl _) _).alloc (by simp <;> omega) _
 ·exact (World.grownBy_alloc _ _ none).cell (by exact (Blk.new w 205 #[.func (.func acc) #[] #[]]).cell 0) (by simp)
theorem Jt (nm : ByteArray) (acc : FuncId) (w : World) :
  Calls Tryz.prog 177 #[.string nm, .func (.func acc) #[] #[]] w fun e w' => e = .returned (fldV nm 214 216 #[.pointer (some ⟨w.heap.size, 0, none⟩)] #[.pointer (some ⟨w.heap.size, 0, none⟩)]) ∧ Below w.heap.size w w' ∧ w'.cell? ⟨w.heap.size, 0, none⟩ = some (.func (.func acc) #[] #[]) := by
 go_enter Tryz.func177, Tryz.ntmps177;go_wp2_with fail;have hk := Blk.new (w.alloc (.cells #[.func (.func acc) #[] #[]] 208)) 82 #[.string nm, .func (.func 214) #[] #[.pointer (some ⟨w.heap.size, 0, none⟩)], .func (.func 216) #[] #[.pointer (some ⟨w.heap.size, 0, none⟩)]];rw [show (w.alloc (.cells #[.func (.func acc) #[] #[]] 208)).heap.size = w.heap.size + 1 from by simp] at hk;refine bodyPost_ret (v := fldV nm 214 216 #[.pointer (some ⟨w.heap.size, 0, none⟩)] #[.pointer (some ⟨w.heap.size, 0, none⟩)]) (results_cell_row rfl _ _ (w.heap.size + 1) _ _ (0, 0) _ rfl hk Tryz.underlying82 rfl CK) rfl ⟨rfl, ?_, ?_⟩
 ·exact ((Below.refl _ _).alloc (Nat.le_refl _) _).alloc (by simp <;> omega) _
 ·exact (World.grownBy_alloc _ _ none).cell (by exact (Blk.new w 208 #[.func (.func acc) #[] #[]]).cell 0) (by simp)
theorem JB (nm : ByteArray) (acc : FuncId) (w : World) :
  Calls Tryz.prog 164 #[.string nm, .func (.func acc) #[] #[]] w fun e w' => e = .returned (fldV nm 210 211 #[.pointer (some ⟨w.heap.size + 1, 0, none⟩), .pointer (some ⟨w.heap.size, 0, none⟩)] #[.pointer (some ⟨w.heap.size + 1, 0, none⟩)]) ∧ Below w.heap.size w w' ∧ w'.cell? ⟨w.heap.size + 1, 0, none⟩ = some (.func (.func acc) #[] #[]) ∧ w'.cell? ⟨w.heap.size, 0, none⟩ = some (.string nm) := by
 go_enter Tryz.func164, Tryz.ntmps164;go_wp2_with fail;have hk := Blk.new ((w.alloc (.cells #[.string nm] 9)).alloc (.cells #[.func (.func acc) #[] #[]] 202)) 82 #[.string nm, .func (.func 210) #[] #[.pointer (some ⟨w.heap.size + 1, 0, none⟩), .pointer (some ⟨w.heap.size, 0, none⟩)], .func (.func 211) #[] #[.pointer (some ⟨w.heap.size + 1, 0, none⟩)]];rw [show ((w.alloc (.cells #[.string nm] 9)).alloc (.cells #[.func (.func acc) #[] #[]] 202)).heap.size = w.heap.size + 2 from by simp] at hk;refine bodyPost_ret (v := fldV nm 210 211 #[.pointer (some ⟨w.heap.size + 1, 0, none⟩), .pointer (some ⟨w.heap.size, 0, none⟩)] #[.pointer (some ⟨w.heap.size + 1, 0, none⟩)]) (results_cell_row rfl _ _ (w.heap.size + 2) _ _ (0, 0) _ rfl hk Tryz.underlying82 rfl CK) rfl ⟨rfl, ?_, ?_⟩
 ·exact (((Below.refl _ _).alloc (Nat.le_refl _) _).alloc (by simp) _).alloc (by simp <;> omega) _
 ·have h1 := (Blk.new (w.alloc (.cells #[.string nm] 9)) 202 #[.func (.func acc) #[] #[]]).cell 0;rw [show (w.alloc (.cells #[.string nm] 9)).heap.size = w.heap.size + 1 from by simp] at h1;exact ⟨(World.grownBy_alloc _ _ none).cell h1 (by simp), (World.grownBy_alloc _ _ none).cell ((World.grownBy_alloc _ _ none).cell ((Blk.new w 9 #[.string nm]).cell 0) (by simp)) (by simp)⟩
theorem Na (w : World) :
  Calls Tryz.prog 163 #[] w fun e w' => e = .returned (fldV ⟨#[107, 105, 110, 100]⟩ 208 209 #[] #[]) ∧ Below w.heap.size w w' := by
 go_enter Tryz.func163, Tryz.ntmps163;go_wp2_with fail;have hk := Blk.new w 82 #[.string ⟨#[107, 105, 110, 100]⟩, .func (.func 208) #[] #[], .func (.func 209) #[] #[]];refine bodyPost_ret (v := fldV ⟨#[107, 105, 110, 100]⟩ 208 209 #[] #[]) (results_cell_row rfl _ _ w.heap.size _ _ (0, 0) _ rfl hk Tryz.underlying82 rfl CK) rfl ⟨rfl, (Below.refl _ _).alloc (Nat.le_refl _) _⟩
theorem Ol (w : World) :
  Calls Tryz.prog 180 #[] w fun e w' => e = .returned (fldV ⟨#[117, 115, 101, 114, 115]⟩ 218 221 #[] #[]) ∧ Below w.heap.size w w' := by
 go_enter Tryz.func180, Tryz.ntmps180;go_wp2_with fail;have hk := Blk.new w 82 #[.string ⟨#[117, 115, 101, 114, 115]⟩, .func (.func 218) #[] #[], .func (.func 221) #[] #[]];refine bodyPost_ret (v := fldV ⟨#[117, 115, 101, 114, 115]⟩ 218 221 #[] #[]) (results_cell_row rfl _ _ w.heap.size _ _ (0, 0) _ rfl hk Tryz.underlying82 rfl CK) rfl ⟨rfl, (Below.refl _ _).alloc (Nat.le_refl _) _⟩
theorem N1 (w : World) :
  Calls Tryz.prog 181 #[] w fun e w' => e = .returned (fldV ⟨#[107, 105, 110, 100, 115]⟩ 224 227 #[] #[]) ∧ Below w.heap.size w w' := by
 go_enter Tryz.func181, Tryz.ntmps181;go_wp2_with fail;have hk := Blk.new w 82 #[.string ⟨#[107, 105, 110, 100, 115]⟩, .func (.func 224) #[] #[], .func (.func 227) #[] #[]];refine bodyPost_ret (v := fldV ⟨#[107, 105, 110, 100, 115]⟩ 224 227 #[] #[]) (results_cell_row rfl _ _ w.heap.size _ _ (0, 0) _ rfl hk Tryz.underlying82 rfl CK) rfl ⟨rfl, (Below.refl _ _).alloc (Nat.le_refl _) _⟩
end Go.Proofs.YteadlcncnhbmjaaGreatDoor
