/- A slice of bytes that came in, as a list of bytes. -/
import Derived.Test.YtejoionamkmeeaaW8
import Derived.OpenShut
namespace Go.Proofs.Ytejoionamkmeeaa
open Go.RowKit
def IsRow (k : IntKind) (w : World) (a : Option Addr) (len cap : Nat) (zs : List Int) : Prop :=
  (a = none ∧ len = 0 ∧ cap = 0 ∧ zs = []) ∨
  ∃ x, a = some x ∧ len ≤ cap ∧ cap ≤ maxLen ∧ zs.length = cap ∧ (∀ i, i < zs.length → w.cell? (x.add i) = some (.int k (zs.getD i 0))) ∧ ∀ n ∈ zs, (Lit.int k n).wf = true
def rowBytes (zs : List Int) (len : Nat) : List UInt8 := (zs.take len).map fun n => UInt8.ofNat n.toNat
theorem byte_of (n : Int) (h : (Lit.int .u8 n).wf = true) : ((UInt8.ofNat n.toNat).toNat : Int) = n := by
  have h2 := bounds_u8 h
  rw [UInt8.toNat_ofNat']
  omega
theorem rowBs {w : World} {a : Option Addr} {len cap : Nat} {zs : List Int} (h : IsRow .u8 w a len cap zs) : Bs w a len (rowBytes zs len) := by
  rcases h with ⟨rfl, rfl, rfl, rfl⟩ | ⟨x, rfl, hl, hm, hz, hc, hw⟩
  · exact ⟨rfl, fun j hj => absurd hj (by omega)⟩
  · refine ⟨by unfold rowBytes; rw [List.length_map, List.length_take]; omega, fun j hj => ?_⟩
    obtain ⟨b, off, spot⟩ := x
    have hj' : j < zs.length := by omega
    have h1 := hc j hj'
    have hspot : spot = none := by simpa [Addr.add] using World.cell?_spot (hc 0 (by omega))
    subst hspot
    rw [Addr.add_mid] at h1
    have e : zs.getD j 0 = zs[j] := by simp [List.getD, hj']
    rw [e] at h1
    refine ⟨b, off, UInt8.ofNat (zs[j]).toNat, rfl, ?_, ?_⟩
    · unfold rowBytes
      rw [List.getElem?_map, List.getElem?_take_of_lt hj, List.getElem?_eq_getElem hj']
      rfl
    · rw [h1, byte_of _ (hw _ (List.getElem_mem hj'))]
end Go.Proofs.Ytejoionamkmeeaa
