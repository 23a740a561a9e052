/- The events that came in. -/
import Derived.Test.YtfdcbmmafhjlfaaGreatSy3
namespace Go.Proofs.YtfdcbmmafhjlfaaGreat
open Go.RowKit Go.ChangeShapes Go.WideShapes Go.Deep
set_option linter.unusedVariables false

section
variable {H : Type} {enc : TypeId × Value → H} {w : World} {base fuel : Nat} {held : Bool} {cs : List Value} {x : DataW H × List MemPlace}
theorem open_evs (h : Tr enc w base held fuel 28 cs x) : ∃ A n c, cs = [.slice A n c] ∧ Evf w A n := by
  rcases open_slice Tryz.underlying28 h with ⟨h0, _⟩ | ⟨a, len, cap, m, n, D, Pl, hcs, _, hl, _, hm, _, hi⟩
  · exact ⟨none, 0, 0, h0, fun k hk => by omega⟩
  · refine ⟨some a, len, cap, hcs, fun k hk => ?_⟩
    have hC : Tryz.prog.cellsOf 41 = 29 := by kernel_rfl
    have key : ∀ k, k < len → ∃ cs', EvForm w cs' ∧ ∀ j, j < 29 → w.cell? (a.add (k * 29 + j)) = cs'[j]? := by
      intro k hk
      obtain ⟨cs', h1, h2⟩ := hi k (by rw [hm]; simp; omega)
      rw [hC] at h1
      obtain ⟨_, hcl, hat⟩ := World.cells?_some h1
      exact ⟨cs', ev_open h2 hcl, fun j hj => by rw [← Go.Deep.add_add]; exact hat j hj⟩
    obtain ⟨cs0, hf0, h0⟩ := key 0 (by omega)
    have h00 := h0 0 (by omega)
    rw [List.getElem?_eq_getElem (by rw [hf0.len]; omega)] at h00
    obtain ⟨b, off, ha, _⟩ := spot_none h00 h00
    subst ha
    obtain ⟨cs', hf, h1⟩ := key k hk
    refine ⟨b, off, cs', rfl, hf, fun j v hv => ?_⟩
    have hj : j < 29 := by rw [← hf.len]; exact (List.getElem?_eq_some_iff.1 hv).1
    have h2 := h1 j hj
    rw [Addr.add_mid, hv] at h2
    rw [Nat.add_assoc]
    exact h2
end
end Go.Proofs.YtfdcbmmafhjlfaaGreat
