/- The text Lt2. -/
import Derived.Deep.Slices
import Derived.Below
import Derived.ChangeArms
import Derived.Deep.MidRow
import Derived.Test.YtipclcaafpckcaaGreatDoorMtab
import Derived.Test.YtipclcaafpckcaaGreatDoorMbc
set_option linter.unusedSimpArgs false
set_option maxHeartbeats 16000000
set_option maxRecDepth 100000
set_option linter.unusedVariables false
namespace Go.Proofs.YtipclcaafpckcaaGreatDoor
open Go.ChangeShapes Go.WideShapes Go.Deep Go.RowKit Go.Lib
set_option linter.unusedVariables false
theorem list_of {α : Type} {p : Nat → α → Prop} : ∀ n : Nat, (∀ i, i < n → ∃ x, p i x) → ∃ l : List α, l.length = n ∧ ∀ i x, l[i]? = some x → p i x
 | 0, _ => ⟨[], rfl, fun i x h => by simp at h⟩
 | n + 1, h => by
  obtain ⟨l, hl, hp⟩ := list_of n (fun i hi => h i (by omega))
  obtain ⟨x, hx⟩ := h n (by omega)
  refine ⟨l ++ [x], by rw [List.length_append, hl]; rfl, fun i y hy => ?_⟩
  by_cases hi : i < n
  ·rw [List.getElem?_append_left (by omega)] at hy
   exact hp i y hy
  ·have hlt := (List.getElem?_eq_some_iff.1 hy).1
   rw [List.length_append, List.length_singleton] at hlt
   obtain rfl : i = n := by omega
   rw [List.getElem?_append_right (by omega), hl, Nat.sub_self] at hy
   injection hy with hy
   rw [← hy]
   exact hx
theorem take_1 {cs : List Value} {k : Nat} {v : Value} (h : (cs.drop k).take 1 = [v]) : cs[k]? = some v := by
 have h1 : ((cs.drop k).take 1)[0]? = some v := by rw [h]; rfl
 rw [List.getElem?_take_of_lt (by omega), List.getElem?_drop, Nat.add_zero] at h1
 exact h1
theorem laidOut : laidOutB Tryz.prog = true := by kernel_rfl
abbrev okB : Nat → Prop := fun _ => True
section
variable {H : Type} {enc : TypeId × Value → H} {w : World} {base : Nat} {held : Bool}
abbrev Tr (enc : TypeId × Value → H) (w : World) (base : Nat) (held : Bool) (fuel : Nat) (t : TypeId) (cs : List Value) (x : DataW H × List MemPlace) : Prop := DataW.trod enc Tryz.prog w base (fun _ => true) held fuel t cs = some x
theorem part {fuel : Nat} {cs : List Value} {x : DataW H × List MemPlace} {t : TypeId} {fs : Array Field} (ht : Tryz.prog.underlying t = some (.struct fs)) (h : Tr enc w base held fuel t cs x) :
  ∃ n, fuel = n + 1 ∧ cs.length = Tryz.prog.cellsOf t ∧ ∀ (i : Nat) (f : Field), fs[i]? = some f → ∀ o m, f.offset = o → Tryz.prog.cellsOf f.type = m → ∃ y, Tr enc w base held n f.type ((cs.drop o).take m) y := by
 obtain ⟨ys, n, hn, _, hl, hyl, h2⟩ := DataW.trod_struct ht h
 refine ⟨n, hn, hl, fun i f hf o m ho hm => ?_⟩
 have h3 := h2 i f hf
 have hi : i < ys.length := by rw [hyl]; exact (Array.getElem?_eq_some_iff.1 hf).1
 rw [List.getElem?_eq_getElem hi, ho, hm] at h3
 exact ⟨_, h3⟩
theorem part_num {fuel : Nat} {cs : List Value} {t : TypeId} (ht : Tryz.prog.underlying t = some (.int .i64)) {k : Nat} {y : DataW H × List MemPlace} (h : Tr enc w base held fuel t ((cs.drop k).take 1) y) : ∃ v, cs[k]? = some (.int .i64 v) := by
 obtain ⟨n, h1, _, h2⟩ := DataW.trod_int ht h
 exact ⟨n, take_1 h1⟩
theorem part_txt {fuel : Nat} {cs : List Value} {k : Nat} {y : DataW H × List MemPlace} (h : Tr enc w base held fuel 9 ((cs.drop k).take 1) y) : ∃ s : List UInt8, cs[k]? = some (.string (bstr s)) := by
 obtain ⟨s, h1, _⟩ := DataW.trod_string Tryz.underlying9 h
 exact ⟨s.data.toList, take_1 h1⟩
theorem slice_eld {fuel sz : Nat} {cs : List Value} {x : DataW H × List MemPlace} {t e : TypeId} (ht : Tryz.prog.underlying t = some (.slice e)) (hsz : Tryz.prog.cellsOf e = sz) (hs0 : 0 < sz) (h : Tr enc w base held fuel t cs x) :
  (cs = [.slice none 0 0]) ∨ ∃ (b off len cap n : Nat) (els rest : List (DataW H × List MemPlace)), x.1 = .slice (els.map (·.1)) (rest.map (·.1)) ∧ els.length = len ∧ fuel = n + 1 ∧ (0 < len → cs = [.slice (some ⟨b, off, none⟩) len cap]) ∧ (∃ a, cs = [.slice (some a) len cap]) ∧ len ≤ cap ∧ ∀ i, i < len → ∃ cs' y, els[i]? = some y ∧ cs'.length = sz ∧ w.rangeAt b (off + i * sz) cs' ∧ Tr enc w base held n e cs' y := by
 rcases DataW.trod_slice ht h with ⟨h0, _⟩ | ⟨a, len, cap, els, rest, n, hn, hcs, hxe, _, hl, _, hlen, hel, _, _⟩
 ·exact .inl h0
 have hc : ∀ i, i < len → ∃ cs' y, els[i]? = some y ∧ cs'.length = sz ∧ (∀ j, j < sz → w.cell? ((a.add (i * sz)).add j) = cs'[j]?) ∧ Tr enc w base held n e cs' y := fun i hi => by
  have h1 := hel i hi
  rw [hsz, List.getElem?_eq_getElem (by omega)] at h1
  cases hcc : w.cells? base (a.add (i * sz)) sz with
  | none => rw [hcc] at h1; cases h1
  | some cs' =>
   rw [hcc] at h1
   obtain ⟨_, hcl, hat⟩ := World.cells?_some hcc
   exact ⟨cs', _, List.getElem?_eq_getElem (by omega), hcl, hat, h1⟩
 have hspot : 0 < len → a.spot = none := fun h0 => by
  obtain ⟨cs', y, _, h1, h2, _⟩ := hc 0 h0
  have h3 := h2 0 hs0
  rw [List.getElem?_eq_getElem (by omega), Nat.zero_mul] at h3
  have h4 := World.cell?_spot h3
  simpa [Addr.add] using h4
 refine .inr ⟨a.block, a.off, len, cap, n, els, rest, by rw [hxe], hlen, hn, fun h0 => ?_, ⟨a, hcs⟩, hl, fun i hi => ?_⟩
 ·have hsp := hspot h0
  obtain ⟨b, off, sp⟩ := a
  obtain rfl : sp = none := hsp
  exact hcs
 ·obtain ⟨cs', y, h0, h1, h2, h4⟩ := hc i hi
  have hsp := hspot (by omega)
  obtain ⟨b, off, sp⟩ := a
  obtain rfl : sp = none := hsp
  refine ⟨cs', y, h0, h1, fun j v hj => ?_, h4⟩
  have h5 := (h2 j (by have := (List.getElem?_eq_some_iff.1 hj).1; omega)).trans hj
  rw [Go.Deep.add_add, Addr.add_mid, ← Nat.add_assoc] at h5
  exact h5
theorem cells_reason : Tryz.prog.cellsOf 25 = 4 := by kernel_rfl
theorem four_cells {cs : List Value} {a b c d : Value} (hl : cs.length = 4) (h0 : cs[0]? = some a) (h1 : cs[1]? = some b) (h2 : cs[2]? = some c) (h3 : cs[3]? = some d) : cs = [a, b, c, d] := by
 match cs, hl with
 | [p, q, r, s], _ => simp at h0 h1 h2 h3; rw [h0, h1, h2, h3]
theorem bulk_one (d : DataW H) : 1 ≤ Rows.uptoBulk d := by
 cases d with
 | lit l => cases l <;> simp [Rows.uptoBulk]
 | nil => simp [Rows.uptoBulk]
 | ptr d => simp [Rows.uptoBulk]
 | slice elems spare => simp [Rows.uptoBulk]
 | agg parts => simp [Rows.uptoBulk]
 | iface t d => simp [Rows.uptoBulk]
 | map entries => simp [Rows.uptoBulk]
 | held h => simp [Rows.uptoBulk]
theorem kids_bulk : ∀ (ks : List Rn.Tr) (els : List (DataW H × List MemPlace)), ks.length = els.length → (∀ (i : Nat) (c : Rn.Tr) (y : DataW H × List MemPlace), ks[i]? = some c → els[i]? = some y → 2 * Rn.nodes c ≤ Rows.uptoBulk y.1) → 2 * Rn.nodesL ks ≤ Rows.uptoBulkAll (els.map (·.1))
 | [], els, _, _ => by unfold Rn.nodesL; omega
 | c :: r, [], h, _ => by cases h
 | c :: r, y :: t, h, hp => by
  have h1 := hp 0 c y rfl rfl
  have h2 := kids_bulk r t (by simpa using h) (fun i c' y' hc hy => hp (i + 1) c' y' (by simpa using hc) (by simpa using hy))
  unfold Rn.nodesL
  rw [List.map_cons, Rows.uptoBulkAll]
  omega
theorem reason_open : ∀ (fuel : Nat) (cs : List Value) (x : DataW H × List MemPlace), Tr enc w base held fuel 25 cs x → ∃ c, RnV w okB cs.toArray c ∧ 2 * Rn.nodes c ≤ Rows.uptoBulk x.1 := by
 intro fuel
 induction fuel using Nat.strongRecOn with
 | ind fuel ih =>
  intro cs x h
  obtain ⟨ys, n, rfl, hx, hcl, hyl, hp⟩ := DataW.trod_struct Tryz.underlying25 h
  rw [cells_reason] at hcl
  have hy4 : ys.length = 4 := hyl
  obtain ⟨y0, y1, y2, y3, rfl⟩ : ∃ a b c d, ys = [a, b, c, d] := by
   match ys, hy4 with
   | [a, b, c, d], _ => exact ⟨a, b, c, d, rfl⟩
  have get : ∀ (i : Nat) (f : Field) (o m : Nat) (y : DataW H × List MemPlace), _ → f.offset = o → Tryz.prog.cellsOf f.type = m → [y0, y1, y2, y3][i]? = some y → Tr enc w base held n f.type ((cs.drop o).take m) y := fun i f o m y hf ho hm hy => by
   have h3 := hp i f hf
   rw [ho, hm, hy] at h3
   exact h3
  have g0 := get 0 _ 0 1 y0 rfl rfl (by kernel_rfl) rfl
  have g1 := get 1 _ 1 1 y1 rfl rfl (by kernel_rfl) rfl
  have g2 := get 2 _ 2 1 y2 rfl rfl (by kernel_rfl) rfl
  have g3 := get 3 _ 3 1 y3 rfl rfl (by kernel_rfl) rfl
  obtain ⟨t, e0⟩ := part_txt g0
  obtain ⟨o, e1⟩ := part_num Tryz.underlying3 g1
  obtain ⟨nn, e2⟩ := part_num Tryz.underlying22 g2
  have hbx : Rows.uptoBulk y3.1 + 2 ≤ Rows.uptoBulk x.1 := by
   rw [hx]
   have q0 := bulk_one y0.1
   simp only [List.map_cons, List.map_nil, Rows.uptoBulk, Rows.uptoBulkAll]
   omega
  rcases slice_eld Tryz.underlying23 cells_reason (by decide) g3 with h0 | ⟨b, off, len, cap, m, els, rest, hxe, hlen, hm, hcs, ⟨a, ha⟩, hl, hi⟩
  ·rw [four_cells hcl e0 e1 e2 (take_1 h0)]
   refine ⟨_, RnV.make (ks := []) (fun i c h => by cases h), ?_⟩
   have := Rn.nodes_eq (.mk t o nn [])
   have q3 := bulk_one y3.1
   simp only [Rn.Tr.kids, Rn.nodesL] at this
   omega
  ·obtain ⟨ks, h1, h2⟩ := list_of (p := fun (i : Nat) (c : Rn.Tr) => ∃ (cs' : List Value) (y : DataW H × List MemPlace), els[i]? = some y ∧ cs'.length = 4 ∧ w.rangeAt b (off + i * 4) cs' ∧ RnV w okB cs'.toArray c ∧ 2 * Rn.nodes c ≤ Rows.uptoBulk y.1) len (fun i hi' => by
    obtain ⟨cs', y, k0, k1, k2, k3⟩ := hi i hi'
    obtain ⟨c, hc, hn⟩ := ih m (by omega) cs' y k3
    exact ⟨c, cs', y, k0, k1, k2, hc, hn⟩)
   have hkb := kids_bulk ks els (by omega) (fun i c y hc hy => by
    obtain ⟨cs', y', k0, _, _, _, k5⟩ := h2 i c hc
    rw [hy] at k0
    injection k0 with k0
    rw [k0]
    exact k5)
   have hb3 : Rows.uptoBulkAll (els.map (·.1)) + 1 ≤ Rows.uptoBulk y3.1 := by
    rw [hxe]
    simp only [Rows.uptoBulk]
    omega
   have hnd := Rn.nodes_eq (.mk t o nn ks)
   simp only [Rn.Tr.kids] at hnd
   by_cases h0 : 0 < len
   ·rw [four_cells hcl e0 e1 e2 (take_1 (hcs h0)), ← h1]
    exact ⟨_, RnV.make (ks := ks) (fun i c hic => by
     obtain ⟨cs', y, _, k1, k2, k3, _⟩ := h2 i c hic
     exact ⟨b, off, cs', rfl, trivial, k2, k1, k3⟩), by omega⟩
   ·obtain rfl : len = 0 := by omega
    obtain rfl : ks = [] := List.length_eq_zero_iff.1 h1
    rw [four_cells hcl e0 e1 e2 (take_1 ha)]
    exact ⟨_, RnV.make (ks := []) (fun i c h => by cases h), by omega⟩
end
end Go.Proofs.YtipclcaafpckcaaGreatDoor
