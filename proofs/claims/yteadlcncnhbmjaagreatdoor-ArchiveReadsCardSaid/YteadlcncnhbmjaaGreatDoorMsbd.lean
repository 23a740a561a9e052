/- The text Cn4. -/
import Derived.Test.YteadlcncnhbmjaaGreatDoorMsbc
set_option linter.unusedSimpArgs false
set_option maxHeartbeats 16000000
set_option maxRecDepth 100000
set_option linter.unusedVariables false
namespace Go.Proofs.YteadlcncnhbmjaaGreatDoor
open Go.RowKit Go.Lib
theorem EvOf.setv {ok : Nat → Prop} {w : World} {cells : Array Value} {e : List Ar.FV} (h : EvOf ok w cells e) {i : Nat} {v : Ar.FV} {c : Value} (hi : i < 29) (hv : v.kind = Ar.Bs i ∧ v.Ok) (hc : CellOf ok w c v) : EvOf ok w (cells.setIfInBounds i c) (e.set i v) := by
 refine ⟨by rw [Array.size_setIfInBounds]; exact h.size, h.fits.set hv, fun j u hj => ?_⟩;by_cases hji : j = i
 ·subst hji;rw [List.getElem?_set_self (by rw [h.len]; exact hi)] at hj;injection hj with hj;subst hj;exact ⟨c, by rw [Array.getElem?_setIfInBounds, if_pos rfl, if_pos (by rw [h.size]; exact hi)], hc⟩
 ·rw [List.getElem?_set_ne (Ne.symm hji)] at hj;obtain ⟨c', h1, h2⟩ := h.cell j u hj;exact ⟨c', by rw [Array.getElem?_setIfInBounds, if_neg (Ne.symm hji)]; exact h1, h2⟩
theorem Mc (ok : Nat → Prop) (cells : Array Value) (e : List Ar.FV) (n : Int) (w : World) (i : Nat) (j : Int) (hij : (i = 0 ∧ j = 0) ∨ (i = 3 ∧ j = 3) ∨ (i = 6 ∧ j = 6) ∨ (i = 7 ∧ j = 7) ∨ (i = 11 ∧ j = 11) ∨ (i = 12 ∧ j = 12) ∨ (i = 19 ∧ j = 19) ∨ (i = 20 ∧ j = 20) ∨ (i = 21 ∧ j = 21) ∨ (i = 22 ∧ j = 22) ∨ (i = 23 ∧ j = 23) ∨ (i = 24 ∧ j = 24) ∨ (i = 25 ∧ j = 25) ∨ (i = 26 ∧ j = 26) ∨ (i = 28 ∧ j = 28)) (h : EvOf ok w cells e) (hn : Ar.inInt n) :
  Calls Tryz.prog 131 #[.agg cells, .int .i64 j, .int .i64 n] w fun r w' => (∃ cells', r = .returned (.agg cells') ∧ EvOf ok w' cells' (e.set i (.num n))) ∧ Below w.heap.size w w' := by
 have hi : i < 29 := by omega
 have hk : Ar.FK.num = Ar.Bs i := by rcases hij with ⟨rfl, rfl⟩ | ⟨rfl, rfl⟩ | ⟨rfl, rfl⟩ | ⟨rfl, rfl⟩ | ⟨rfl, rfl⟩ | ⟨rfl, rfl⟩ | ⟨rfl, rfl⟩ | ⟨rfl, rfl⟩ | ⟨rfl, rfl⟩ | ⟨rfl, rfl⟩ | ⟨rfl, rfl⟩ | ⟨rfl, rfl⟩ | ⟨rfl, rfl⟩ | ⟨rfl, rfl⟩ | ⟨rfl, rfl⟩ <;> rfl
 have hv := h.setv (v := .num n) (c := .int .i64 n) hi ⟨hk, hn⟩ rfl;have HS : Hid ((Tryz.prog.info? 40).map (·.size) = some (cells.setIfInBounds i (.int .i64 n)).size) := hid (by rw [Aj, hv.size]);have HZ : Hid (zeroEv.size = (cells.setIfInBounds i (.int .i64 n)).size) := hid (by rw [hv.size]; rfl);have HV := hid hv;have HO := hid hv.one;obtain ⟨ci, hci, -⟩ := h.cell i _ (List.getElem?_eq_getElem (by rw [h.len]; exact hi));clear h hi hk hv;rcases hij with ⟨rfl, rfl⟩ | ⟨rfl, rfl⟩ | ⟨rfl, rfl⟩ | ⟨rfl, rfl⟩ | ⟨rfl, rfl⟩ | ⟨rfl, rfl⟩ | ⟨rfl, rfl⟩ | ⟨rfl, rfl⟩ | ⟨rfl, rfl⟩ | ⟨rfl, rfl⟩ | ⟨rfl, rfl⟩ | ⟨rfl, rfl⟩ | ⟨rfl, rfl⟩ | ⟨rfl, rfl⟩ | ⟨rfl, rfl⟩
 all_goals
  go_enter Tryz.func131, Tryz.ntmps131
  go_wp2_with (first
   | (refine wpList_load_row rfl 40 _ rfl w.heap.size rfl 40 _ (0, 0) _ ((Blk.new w 40 _).alloc _) Tryz.underlying40 rfl HS.out ?_)
   | ((with_reducible refine AF rfl 40 _ _ rfl (w.heap.size + 1) _ ?_ ?_ 40 _ (Cy w _ 40 _) HS.out ?_ HO.out ?_); rfl; rfl; exact HZ.out; intro w4 hk4 hs4 hbl4))
  have HB : Hid (Below w.heap.size w w4) := hid ((((Below.refl w.heap.size w).alloc (Nat.le_refl _) _).alloc (by rw [World.size_alloc]; exact Nat.le_succ _) _).trans (hbl4 w.heap.size (Nat.le_succ _)));refine bodyPost_ret (v := .agg _) (results_cell_row rfl _ _ (w.heap.size + 1) _ _ (0, 0) _ rfl hk4 Tryz.underlying40 rfl HS.out) rfl ?_;exact ⟨⟨_, rfl, HV.out.below HB.out⟩, HB.out⟩
end Go.Proofs.YteadlcncnhbmjaaGreatDoor
