/- The walks of Hex. -/
import Derived.Test.YtejoionamkmeeaaW2
import Derived.Laws.BytesArg
namespace Go.Proofs.Ytejoionamkmeeaa
open Go.RowKit

theorem wpList_store_row' {P : Program} {ops : Array Oper} {rest : List Oper} {o : Oper} {a : Act} {w : World} {Q : Exit → Act → World → Prop} (hgd : o.guard = none) (ty : TypeId) (x y : Operand) (ho : o.op = .store ty x y)
    (g : Nat) (cells : Array Value) (hx : a.eval x = .pointer (some ⟨g, 0, none⟩)) (hy : a.eval y = .agg cells)
    (t : TypeId) (old : Array Value) (hg : Blk w g t old) (hi : (P.info? ty).map (·.size) = some cells.size)
    (hold : old.size = cells.size) (h1 : cells.all (·.oneCell') = true)
    (h : ∀ w', Blk w' g t cells → w'.heap.size = w.heap.size → (∀ B, B ≤ g → Below B w w') → wpList P ops Q rest (a.put o.dst undef) w') : wpList P ops Q (o :: rest) a w :=
  wpList_store_row hgd ty x y ho g cells hx hy t old hg hi hold h1
    (h _ (setRow_heap _ _ _ _ _ _ hg) (setRow_size _ _ _) fun _ hB => below_setRow (Below.refl _ _) hB _)

def bytesV (bs : List UInt8) : Array Value := (bs.map fun c => Value.int .u8 (c.toNat : Int)).toArray
theorem strOf (bs : List UInt8) : strOfNums (bs.map fun c => (c.toNat : Int)) = ⟨bs.toArray⟩ := by
  unfold strOfNums
  have e : (bs.map fun c => (c.toNat : Int)).map (fun n => UInt8.ofNat n.toNat) = bs := by
    rw [List.map_map]
    exact (List.map_congr_left fun c _ => by simp).trans (List.map_id bs)
  rw [e]
theorem Bs.of_blk {w : World} {g : Nat} {t : TypeId} {bs : List UInt8} (h : Blk w g t (bytesV bs)) : Bs w (some ⟨g, 0, none⟩) bs.length bs := by
  refine ⟨rfl, fun j hj => ⟨g, 0, bs[j], rfl, List.getElem?_eq_getElem hj, ?_⟩⟩
  rw [h.cell]
  simp [bytesV, hj]
theorem run_conv_bs {P : Program} (w : World) (src dst e : TypeId) (hs : P.underlying src = some (.slice e)) (he : P.underlying e = some (.int .u8)) (hd : P.underlying dst = some .string)
    (A : Option Addr) (n cap : Nat) (bs : List UInt8) (h : Bs w A n bs) : (convert src dst (.slice A n cap)).run P w = .ok (.string ⟨bs.toArray⟩) w := by
  obtain ⟨hl, hc⟩ := h
  rcases Nat.eq_zero_or_pos n with rfl | hn
  · obtain rfl : bs = [] := List.eq_nil_of_length_eq_zero hl
    cases A with
    | none => rw [run_convert_bytes_nil w src e hs he 0 cap dst hd]; rfl
    | some a =>
      rw [run_convert_bytes_string w src dst e _ 0 cap hs he hd, run_bytesToString w a 0 cap [] (by simp [loadCells, loadCellsFrom])]
      rfl
  · obtain ⟨b, off, c, rfl, _, _⟩ := hc 0 hn
    rw [run_convert_bytes_arg w src e hs he b off n cap (bs.map fun c => (c.toNat : Int)) (by simpa using hl) (fun i hi => by
      obtain ⟨b', off', c', e1, e2, e3⟩ := hc i hi
      injection e1 with e1
      injection e1 with e1 e4
      subst e1 e4
      rw [e3]
      obtain ⟨h1, h2⟩ := List.getElem?_eq_some_iff.1 e2
      simp [List.getD, h1, h2]) dst hd, strOf]

theorem hex_any (n : Int) (w : World) :
    Calls Try.prog 15 #[.int .i64 n] w fun e w' => e = .returned (.string ⟨(Sm.digs (Sm.cut n)).toArray⟩) ∧ Below w.heap.size w w' := by
  go_enter Try.func15, Try.ntmps15
  go_wp2_with (first | (go_at_call 21; refine (digits_any _ _).mono ?_; rintro e w1 ⟨rfl, hb1⟩) | (refine wpList_store_row' rfl 37 _ _ rfl _ (Sm.dcells (Sm.cut n) 16) rfl rfl 37 _ (Blk.new _ _ _) (by rw [Sm.dcells_size]; kernel_rfl) (by rw [Sm.dcells_size]; rfl) (Sm.dcells_one _ _) ?_; intro w2 hk2 hs2 hbl2; rw [Sm.dcells_full] at hk2; have hcv := run_conv_bs w2 22 9 5 Try.underlying22 Try.underlying5 Try.underlying9 (some ⟨w1.heap.size, 0, none⟩) 16 16 _ (Bs.of_blk hk2)))
  go_ret
  have hs1 := hb1.size
  exact ⟨rfl, (hb1.alloc (by omega) _).trans (hbl2 _ (by omega))⟩
end Go.Proofs.Ytejoionamkmeeaa
