/- The text Kk. -/
import Derived.Test.YtacjhbbieeliaaaGreatDoorMaw
import Derived.Test.YtacjhbbieeliaaaGreatDoorMbb
set_option linter.unusedSimpArgs false
set_option maxHeartbeats 16000000
set_option maxRecDepth 100000
set_option linter.unusedVariables false
namespace Go.Proofs.YtacjhbbieeliaaaGreatDoor
open Go.RowKit Go.Lib
set_option linter.unusedVariables false
set_option linter.unusedSimpArgs false
def hasId (id : Int) (e : Co.Ev) : Bool := e.id == id
theorem get_is (l : List Co.Ev) (id : Int) : l.find? (hasId id) = Co.getE l id := rfl
theorem place1_any (ok : Nat → Prop) (N : Nat) (kk : Int) (x : Co.Ev) (X : List Value) (w : World) (hN : w.cell? ⟨N, 0, none⟩ = some (.int .i64 kk)) (h : EvV ok w X x) :
  Calls Tryz.prog 132 #[.agg X.toArray, .pointer (some ⟨N, 0, none⟩)] w fun e w' => e = .returned (.bool (hasId kk x)) ∧ Below w.heap.size w w' := by
 have hb := (Below.refl w.heap.size w).alloc (Nat.le_refl _) (.cells X.toArray 34)
 have hc3 : (w.alloc (.cells X.toArray 34)).cell? ⟨w.heap.size, 0, none⟩ = some (.int .i64 x.id) := ((Blk.new w 34 X.toArray).cell 0).trans (by rw [List.getElem?_toArray]; exact h.c0)
 have hcn : (w.alloc (.cells X.toArray 34)).cell? ⟨N, 0, none⟩ = some (.int .i64 kk) := (Below.cell hb (block_lt hN)).trans hN
 have HB := hid hb
 clear h hN hb
 generalize hw1 : w.alloc (.cells X.toArray 34) = w1 at *
 go_enter Tryz.func132, Tryz.ntmps132
 go_wp2_with fail
 go_ret
 exact ⟨rfl, HB.out⟩
theorem place_any (ok : Nat → Prop) (l : List Co.Ev) (A : Option Addr) (cap : Nat) (kk : Int) (w : World) (h : EvRow ok w A l) (hl : l.length ≤ 1000000) :
  Calls Tryz.prog 108 #[.slice A l.length cap, .int .i64 kk] w fun e w' => e = .returned (.int .i64 (ixF (hasId kk) 0 l)) ∧ Below w.heap.size w w' := by
 have hb := (Below.refl w.heap.size w).alloc (Nat.le_refl _) (.cells #[.int .i64 kk] 3)
 have HB := hid hb
 have hcn : (w.alloc (.cells #[.int .i64 kk] 3)).cell? ⟨w.heap.size, 0, none⟩ = some (.int .i64 kk) := (Blk.new w 3 #[.int .i64 kk]).cell 0
 have HC := hid (ixfunc_any ok l A cap 132 #[.pointer (some ⟨w.heap.size, 0, none⟩)] (hasId kk) _ (h.bel hb) hl (enters_of Tryz.func132 (by kernel_rfl) rfl) (fun x X W hX hW => place1_any ok w.heap.size kk x X W ((hW.cell (p := ⟨w.heap.size, 0, none⟩) (by show w.heap.size < (w.alloc _).heap.size; simp)).trans hcn) hX))
 clear h hcn hb
 go_enter Tryz.func108, Tryz.ntmps108
 go_wp2_with fail
 refine HC.out.mono ?_
 rintro e w2 ⟨rfl, hb2⟩
 have HB2 := hid (HB.out.trans (hb2.mono HB.out.size))
 clear hb2
 go_wp2_with fail
 go_ret
 exact ⟨rfl, HB2.out⟩
theorem get_any (ok : Nat → Prop) (l : List Co.Ev) (A : Option Addr) (cap : Nat) (id : Int) (w : World) (h : EvRow ok w A l) (hl : l.length ≤ 1000000) :
  Calls Tryz.prog 74 #[.slice A l.length cap, .int .i64 id] w fun e w' => FoundA ok (Co.getE l id) e w' ∧ Below w.heap.size w w' := by
 have hb0 := (Below.refl w.heap.size w).alloc (Nat.le_refl _) (.cells zEv 34)
 have HK := hid (Blk.new w 34 zEv)
 have HP := hid (place_any ok l A cap id _ (h.bel hb0) hl)
 have HROW := hid (h.bel hb0)
 have HB0 := hid hb0
 have HH := hid h
 clear h hb0
 have hs0 : w.heap.size < (w.alloc (.cells zEv 34)).heap.size := by simp
 generalize hw1 : w.alloc (.cells zEv 34) = w1 at *
 have HIX := hid (ix_find0 (hasId id) l)
 generalize ixF (hasId id) 0 l = i0 at *
 rcases HIX.out with ⟨rfl, hf⟩ | ⟨i, x, rfl, hi, hf⟩
 ·have HG : Hid (Co.getE l id = none) := hid hf
  clear hf HIX
  go_enter Tryz.func74, Tryz.ntmps74
  go_wp2_with fail
  refine HP.out.mono ?_
  rintro e w2 ⟨rfl, hb2⟩
  have HB2 := hid (HB0.out.trans (hb2.mono HB0.out.size))
  have HK2 := hid (HK.out.below hb2 hs0)
  clear hb2
  go_wp2_with ((with_reducible refine store_rowe rfl 34 _ _ rfl w.heap.size zEv ?_ ?_ 34 zEv HK2.out size_zev ?_ (by kernel_rfl) ?_); rfl; rfl; rfl)
  refine bodyPost_ret (results_row_tmp rfl _ _ w.heap.size _ _ _ rfl (setRow_heap _ _ _ _ _ _ HK2.out) Tryz.underlying34 rfl size_zev) rfl ⟨⟨zEv, by rw [HG.out]; rfl, by rw [HG.out]; exact zev_evV⟩, below_setRow HB2.out (Nat.le_refl _) _⟩
 ·have HG : Hid (Co.getE l id = some x) := hid hf
  obtain ⟨b, off, X, rfl, hok, hr, hv⟩ := HH.out i x hi
  have hil : i < l.length := (List.getElem?_eq_some_iff.1 hi).1
  have hone := EvS.all hv
  have HL2 := hid (size_evL hv)
  have HL3 := hid (size_evA hv)
  have HSZ : Hid (zEv.size = X.toArray.size) := hid (by show 29 = X.toArray.size; rw [List.size_toArray, hv.len])
  have hbl : b < w.heap.size := range_lt hr (by rw [hv.len]; decide)
  have HR := hid hr
  have HV := hid hv
  clear hf HIX hi hr hv
  go_enter Tryz.func74, Tryz.ntmps74
  go_wp2_with fail
  refine HP.out.mono ?_
  rintro e w2 ⟨rfl, hb2⟩
  have HB2 := hid (HB0.out.trans (hb2.mono HB0.out.size))
  have HK2 := hid (HK.out.below hb2 hs0)
  have hrr : w2.rangeAt b (off + i * 29) X := range_keep HR.out (HB2.out.block b hbl)
  clear hb2
  go_wp2_with (first
   | ((with_reducible refine wpList_load_mid rfl 34 _ rfl b (off + i * 29) ?_ X _ hrr Tryz.underlying34 ?_ HL2.out ?_); rfl; rfl)
   | ((with_reducible refine store_rowe rfl 34 _ _ rfl w.heap.size X.toArray ?_ ?_ 34 zEv HK2.out HL3.out ?_ hone ?_); rfl; rfl; exact HSZ.out))
  have hbf := below_setRow HB2.out (Nat.le_refl _) X.toArray
  refine bodyPost_ret (results_row_tmp rfl _ _ w.heap.size _ _ _ rfl (setRow_heap _ _ _ _ _ _ HK2.out) Tryz.underlying34 rfl HL3.out) rfl ⟨⟨X.toArray, by rw [HG.out]; rfl, by rw [HG.out]; exact EvV.bel HV.out hbf⟩, hbf⟩
end Go.Proofs.YtacjhbbieeliaaaGreatDoor
