/- The walks of the digits. -/
import Derived.Test.YtejoionamkmeeaaW1
import Derived.Test.YtejoionamkmeeaaDig
import Derived.Laws.OwnMore
import Derived.Deep.Draws
import Derived.Laws.Rows
import Derived.Laws.Tables
import Derived.Laws.CopyOwn
namespace Go.Proofs.Ytejoionamkmeeaa
open Go.RowKit

def Blk (w : World) (g : Nat) (t : TypeId) (cs : Array Value) : Prop := w.heap[g]? = some (.cells cs t (0, 0))

section
variable {w w' : World} {g : Nat} {t : TypeId} {cs : Array Value}
theorem Blk.lt (h : Blk w g t cs) : g < w.heap.size := by
  rcases Nat.lt_or_ge g w.heap.size with hlt | hge
  · exact hlt
  · unfold Blk at h; rw [Array.getElem?_eq_none hge] at h; cases h
theorem Blk.cell (h : Blk w g t cs) (i : Nat) : w.cell? ⟨g, i, none⟩ = cs[i]? := cell_of_row w g i cs t (0, 0) h
theorem Blk.frozen (h : Blk w g t cs) (i : Nat) : w.frozen? ⟨g, i, none⟩ = false := by
  unfold Blk at h
  simp [World.frozen?, h]
theorem Blk.new (w : World) (t : TypeId) (cs : Array Value) : Blk (w.alloc (.cells cs t)) w.heap.size t cs := heap_alloc_new w _
theorem Blk.drew (h : Blk w g t cs) : Blk w.drew g t cs := h
theorem Blk.drewN (h : Blk w g t cs) (n : Nat) : Blk (w.drewN n) g t cs := h
theorem Blk.alloc (h : Blk w g t cs) (o : Obj) : Blk (w.alloc o) g t cs := (Below.heap_alloc w o g h.lt).trans h
theorem Blk.set_ (h : Blk w g t cs) (i : Nat) (u : Value) : Blk (w.setCell ⟨g, i, none⟩ u) g t (cs.setIfInBounds i u) := by
  unfold Blk at h ⊢
  simp [World.setCell, Array.getElem?_modify, h]
theorem Blk.far (h : Blk w g t cs) {p : Addr} (hp : g ≠ p.block) (u : Value) : Blk (w.setCell p u) g t cs := (Below.heap_setCell w p u g hp).trans h
theorem Blk.below {B : Nat} (h : Blk w g t cs) (hb : Below B w w') (hg : g < B) : Blk w' g t cs := (hb.block g hg).trans h
end

theorem start_any (w : World) : Calls Try.prog 19 #[] w fun e w' => e = .returned (.int .i64 860922984064492325) ∧ w = w' := by
  go_enter Try.func19, Try.ntmps19
  go_wp2
  go_ret
  exact ⟨rfl, rfl⟩
theorem rstart_any (w : World) : Calls Try.prog 20 #[] w fun e w' => e = .returned (.int .i64 860922984064492325) ∧ w = w' := by
  go_enter Try.func20, Try.ntmps20
  go_wp2
  go_ret
  exact ⟨rfl, rfl⟩
theorem sum_any (A : Option Addr) (len cap : Nat) (bs : List UInt8) (w : World) (hr : Bs w A len bs) (hlen : len ≤ 1000) :
    Calls Try.prog 12 #[.slice A len cap] w fun e w' => e = .returned (.int .i64 (Sm.fold (Sm.cut 860922984064492325) bs)) ∧ w = w' := by
  go_enter Try.func12, Try.ntmps12
  go_wp2_with (first | (go_at_call 19; refine (start_any _).mono ?_; rintro e w' ⟨rfl, rfl⟩) | (go_at_call 10; refine (fold_any _ _ _ _ _ _ hr hlen).mono ?_; rintro e w' ⟨rfl, rfl⟩))
  go_ret
  exact ⟨rfl, rfl⟩
theorem rsum_any (A : Option Addr) (len cap : Nat) (bs : List UInt8) (w : World) (hr : Bs w A len bs) (hlen : len ≤ 1000) :
    Calls Try.prog 13 #[.slice A len cap] w fun e w' => e = .returned (.int .i64 (Sm.fold (Sm.cut 860922984064492325) bs)) ∧ w = w' := by
  go_enter Try.func13, Try.ntmps13
  go_wp2_with (first | (go_at_call 20; refine (rstart_any _).mono ?_; rintro e w' ⟨rfl, rfl⟩) | (go_at_call 11; refine (rfold_any _ _ _ _ _ _ hr hlen).mono ?_; rintro e w' ⟨rfl, rfl⟩))
  go_ret
  exact ⟨rfl, rfl⟩
theorem within_any (n : Nat) (w : World) (hn : n < 4611686018427387904) :
    Calls Try.prog 14 #[.int .i64 n] w fun e w' => e = .returned (.bool true) ∧ w = w' := by
  have h1 : decide ((n : Int) < 4611686018427387904) = true := decide_eq_true (by omega)
  have h2 : decide ((0 : Int) ≤ (n : Int)) = true := decide_eq_true (by omega)
  clear hn
  go_enter Try.func14, Try.ntmps14
  go_wp2
  go_ret
  exact ⟨rfl, rfl⟩

theorem digits_any (n : Int) (w : World) :
    Calls Try.prog 21 #[.int .i64 n] w fun e w' => e = .returned (.agg (Sm.dcells (Sm.cut n) 16)) ∧ Below w.heap.size w w' := by
  have hst := Sm.start_and n
  have hlt0 := Sm.cut_lt n
  generalize Sm.cut n = v at *
  go_enter Try.func21, Try.ntmps21
  go_wp2
  clear hst
  rw [← Sm.dcells_zero v]
  go_loopw [3, 5, 9] (fun u i j wr => ∃ k : Nat, k ≤ 16 ∧ j = .int .i64 k ∧ u = .int .u64 ((v / 16 ^ k : Nat) : Int) ∧ Blk wr w.heap.size 37 (Sm.dcells v 0) ∧ Blk wr (w.heap.size + 1) 37 (Sm.dcells v k) ∧ Below w.heap.size w wr) (fun _ _ j _ => 16 - (intOf j).toNat)
  case atStart =>
    refine ⟨0, by omega, rfl, by simp, (Blk.new _ _ _).alloc _, ?_, ((Below.refl _ _).alloc (Nat.le_refl _) _).alloc (by simp) _⟩
    have := Blk.new (w.alloc (.cells (Sm.dcells v 0) 37)) 37 (Sm.dcells v 0)
    simpa using this
  case round =>
    obtain ⟨k, hk, rfl, rfl, hb1, hb2, hbel⟩ := hrel
    by_cases hlt : k < 16
    · have HS := Lib.hid (Sm.dcells_succ v k hlt)
      have HP := Lib.hid (Sm.pow_step v k)
      have hq0 := Sm.div_lt v k hlt0
      have hfz := hb2.frozen (15 - k)
      obtain ⟨old, hcell⟩ : ∃ old, wr.cell? ⟨w.heap.size + 1, 15 - k, none⟩ = some old := ⟨_, (hb2.cell (15 - k)).trans (Array.getElem?_eq_getElem (by rw [Sm.dcells_size]; omega))⟩
      generalize hq : v / 16 ^ k = q at *
      have hrem := Sm.rem16 q
      have hquo := Sm.quo16 q hq0
      have HX := Lib.hid (Sm.hx_get (q % 16) (by omega))
      have hm : q % 16 < 16 := by omega
      generalize q % 16 = m at *
      generalize hq2 : q / 16 = q2 at *
      have HQ := Lib.hid hq
      have HQ2 := Lib.hid hq2
      have hsz := hb2.lt
      clear hq hq2
      go_wp2
      go_roundw
      case rel =>
        refine ⟨k + 1, by omega, by go_num, congrArg (Value.int .u64) (by rw [← HP.out, ← HQ2.out]; omega), hb1.far (by simp) _, ?_, hbel.setCell (by simp) _⟩
        rw [← HS.out, ← HX.out]
        exact hb2.set_ _ _
      case measure => simp [intOf]; omega
    · have : k = 16 := by omega
      subst this
      go_wp2_with (first | (refine wpList_load_row rfl 37 _ rfl (w.heap.size + 1) rfl 37 (Sm.dcells v 16) (0, 0) _ hb2 Try.underlying37 rfl (by rw [Sm.dcells_size]; kernel_rfl) ?_) | (refine wpList_store_row rfl 37 _ _ rfl w.heap.size (Sm.dcells v 16) rfl rfl 37 (Sm.dcells v 0) hb1 (by rw [Sm.dcells_size]; kernel_rfl) (by rw [Sm.dcells_size, Sm.dcells_size]) (Sm.dcells_one _ _) ?_))
      refine bodyPost_ret (v := .agg (Sm.dcells v 16)) (results_cell_row rfl _ _ w.heap.size 37 (Sm.dcells v 16) (0, 0) _ rfl (setRow_heap _ _ _ _ _ _ hb1) Try.underlying37 rfl (by rw [Sm.dcells_size]; kernel_rfl)) rfl ⟨rfl, ?_⟩
      exact below_setRow hbel (Nat.le_refl _) _
end Go.Proofs.Ytejoionamkmeeaa
