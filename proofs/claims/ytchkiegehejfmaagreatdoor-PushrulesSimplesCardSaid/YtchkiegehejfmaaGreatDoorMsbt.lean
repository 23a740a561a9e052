/- The text Gt2. -/
import Derived.Deep.Slices
import Derived.Below
import Derived.ChangeArms
import Derived.Deep.MidRow
import Derived.Test.YtchkiegehejfmaaGreatDoorMsap
import Derived.Test.YtchkiegehejfmaaGreatDoorMsbs
set_option linter.unusedSimpArgs false
set_option maxHeartbeats 16000000
set_option maxRecDepth 100000
set_option linter.unusedVariables false
namespace Go.Proofs.YtchkiegehejfmaaGreatDoor
open Go.ChangeShapes Go.WideShapes Go.Deep Go.RowKit Go.Lib
theorem FA {α : Type} {p : Nat → α → Prop} : ∀ n : Nat, (∀ i, i < n → ∃ x, p i x) → ∃ l : List α, l.length = n ∧ ∀ i x, l[i]? = some x → p i x
 | 0, _ => ⟨[], rfl, fun i x h => by simp at h⟩
 | n + 1, h => by
  obtain ⟨l, hl, hp⟩ := FA n (fun i hi => h i (by omega));obtain ⟨x, hx⟩ := h n (by omega);refine ⟨l ++ [x], by rw [List.length_append, hl]; rfl, fun i y hy => ?_⟩;by_cases hi : i < n
  ·rw [List.getElem?_append_left (by omega)] at hy;exact hp i y hy
  ·have hlt := (List.getElem?_eq_some_iff.1 hy).1;rw [List.length_append, List.length_singleton] at hlt;obtain rfl : i = n := by omega
   rw [List.getElem?_append_right (by omega), hl, Nat.sub_self] at hy;injection hy with hy;rw [← hy];exact hx
theorem Dj {cs : List Value} {k : Nat} {v : Value} (h : (cs.drop k).take 1 = [v]) : cs[k]? = some v := by
 have h1 : ((cs.drop k).take 1)[0]? = some v := by rw [h]; rfl
 rw [List.getElem?_take_of_lt (by omega), List.getElem?_drop, Nat.add_zero] at h1;exact h1
theorem Fz : laidOutB Tryz.prog = true := by kernel_rfl
abbrev okB : Nat → Prop := fun _ => True
section
variable {H : Type} {enc : TypeId × Value → H} {w : World} {base : Nat} {held : Bool}
abbrev Tr (enc : TypeId × Value → H) (w : World) (base : Nat) (held : Bool) (fuel : Nat) (t : TypeId) (cs : List Value) (x : DataW H × List MemPlace) : Prop := DataW.trod enc Tryz.prog w base (fun _ => true) held fuel t cs = some x
theorem part {fuel : Nat} {cs : List Value} {x : DataW H × List MemPlace} {t : TypeId} {fs : Array Field} (ht : Tryz.prog.underlying t = some (.struct fs)) (h : Tr enc w base held fuel t cs x) :
  ∃ n, fuel = n + 1 ∧ cs.length = Tryz.prog.cellsOf t ∧ ∀ (i : Nat) (f : Field), fs[i]? = some f → ∀ o m, f.offset = o → Tryz.prog.cellsOf f.type = m → ∃ y, Tr enc w base held n f.type ((cs.drop o).take m) y := by
 obtain ⟨ys, n, hn, _, hl, hyl, h2⟩ := DataW.trod_struct ht h;refine ⟨n, hn, hl, fun i f hf o m ho hm => ?_⟩;have h3 := h2 i f hf;have hi : i < ys.length := by rw [hyl]; exact (Array.getElem?_eq_some_iff.1 hf).1
 rw [List.getElem?_eq_getElem hi, ho, hm] at h3;exact ⟨_, h3⟩
theorem Ep {fuel : Nat} {cs : List Value} {t : TypeId} (ht : Tryz.prog.underlying t = some (.int .i64)) {k : Nat} {y : DataW H × List MemPlace} (h : Tr enc w base held fuel t ((cs.drop k).take 1) y) : ∃ v, cs[k]? = some (.int .i64 v) := by
 obtain ⟨n, h1, _, h2⟩ := DataW.trod_int ht h;exact ⟨n, Dj h1⟩
theorem GS {fuel : Nat} {cs : List Value} {k : Nat} {y : DataW H × List MemPlace} (h : Tr enc w base held fuel 9 ((cs.drop k).take 1) y) : ∃ s : List UInt8, cs[k]? = some (.string (bstr s)) := by
 obtain ⟨s, h1, _⟩ := DataW.trod_string Tryz.underlying9 h;exact ⟨s.data.toList, Dj h1⟩
theorem F2 {fuel sz : Nat} {cs : List Value} {x : DataW H × List MemPlace} {t e : TypeId} (ht : Tryz.prog.underlying t = some (.slice e)) (hsz : Tryz.prog.cellsOf e = sz) (hs0 : 0 < sz) (h : Tr enc w base held fuel t cs x) :
  cs = [.slice none 0 0] ∨ ∃ b off len cap n, fuel = n + 1 ∧ (0 < len → cs = [.slice (some ⟨b, off, none⟩) len cap]) ∧ (∃ a, cs = [.slice (some a) len cap]) ∧ len ≤ cap ∧ ∀ i, i < len → ∃ cs' y, cs'.length = sz ∧ w.rangeAt b (off + i * sz) cs' ∧ Tr enc w base held n e cs' y := by
 rcases DataW.trod_slice ht h with ⟨h0, _⟩ | ⟨a, len, cap, els, rest, n, hn, hcs, _, _, hl, _, hlen, hel, _, _⟩
 ·exact .inl h0
 have hc : ∀ i, i < len → ∃ cs' y, cs'.length = sz ∧ (∀ j, j < sz → w.cell? ((a.add (i * sz)).add j) = cs'[j]?) ∧ Tr enc w base held n e cs' y := fun i hi => by
  have h1 := hel i hi;rw [hsz, List.getElem?_eq_getElem (by omega)] at h1
  cases hcc : w.cells? base (a.add (i * sz)) sz with
  | none => rw [hcc] at h1; cases h1
  | some cs' =>
   rw [hcc] at h1;obtain ⟨_, hcl, hat⟩ := World.cells?_some hcc;exact ⟨cs', _, hcl, hat, h1⟩
 have hspot : 0 < len → a.spot = none := fun h0 => by
  obtain ⟨cs', y, h1, h2, _⟩ := hc 0 h0;have h3 := h2 0 hs0;rw [List.getElem?_eq_getElem (by omega), Nat.zero_mul] at h3;have h4 := World.cell?_spot h3
  simpa [Addr.add] using h4
 refine .inr ⟨a.block, a.off, len, cap, n, hn, fun h0 => ?_, ⟨a, hcs⟩, hl, fun i hi => ?_⟩
 ·have hsp := hspot h0;obtain ⟨b, off, sp⟩ := a;obtain rfl : sp = none := hsp;exact hcs
 ·obtain ⟨cs', y, h1, h2, h4⟩ := hc i hi;have hsp := hspot (by omega);obtain ⟨b, off, sp⟩ := a;obtain rfl : sp = none := hsp;refine ⟨cs', y, h1, fun j v hj => ?_, h4⟩;have h5 := (h2 j (by have := (List.getElem?_eq_some_iff.1 hj).1; omega)).trans hj;rw [Go.Deep.add_add, Addr.add_mid, ← Nat.add_assoc] at h5;exact h5
theorem Dv : Tryz.prog.cellsOf 36 = 4 := by kernel_rfl
theorem Cc {cs : List Value} {a b c d : Value} (hl : cs.length = 4) (h0 : cs[0]? = some a) (h1 : cs[1]? = some b) (h2 : cs[2]? = some c) (h3 : cs[3]? = some d) : cs = [a, b, c, d] := by
 match cs, hl with
 | [p, q, r, s], _ => simp at h0 h1 h2 h3; rw [h0, h1, h2, h3]
theorem DK : ∀ (fuel : Nat) (cs : List Value) (x : DataW H × List MemPlace), Tr enc w base held fuel 36 cs x → ∃ c, CnV w okB cs.toArray c := by
 intro fuel
 induction fuel using Nat.strongRecOn with
 | ind fuel ih =>
  intro cs x h;obtain ⟨n, rfl, hcl, hp⟩ := part Tryz.underlying36 h;rw [Dv] at hcl;obtain ⟨y0, g0⟩ := hp 0 _ rfl 0 1 rfl (by kernel_rfl);obtain ⟨y1, g1⟩ := hp 1 _ rfl 1 1 rfl (by kernel_rfl);obtain ⟨y2, g2⟩ := hp 2 _ rfl 2 1 rfl (by kernel_rfl);obtain ⟨y3, g3⟩ := hp 3 _ rfl 3 1 rfl (by kernel_rfl);obtain ⟨o, e0⟩ := Ep Tryz.underlying33 g0;obtain ⟨t, e1⟩ := GS g1;obtain ⟨nn, e2⟩ := Ep Tryz.underlying3 g2;rcases F2 Tryz.underlying34 Dv (by decide) g3 with h0 | ⟨b, off, len, cap, m, hm, hcs, ⟨a, ha⟩, hl, hi⟩
  ·rw [Cc hcl e0 e1 e2 (Dj h0)];exact ⟨_, CnV.make (ks := []) CnRow.nil⟩
  ·obtain ⟨ks, h1, h2⟩ := FA (p := fun i c => ∃ cs', cs'.length = 4 ∧ w.rangeAt b (off + i * 4) cs' ∧ CnV w okB cs'.toArray c) len (fun i hi' => by
    obtain ⟨cs', y, k1, k2, k3⟩ := hi i hi';obtain ⟨c, hc⟩ := ih m (by omega) cs' y k3
    exact ⟨c, cs', k1, k2, hc⟩)
   by_cases h0 : 0 < len
   ·rw [Cc hcl e0 e1 e2 (Dj (hcs h0)), ← h1]
    exact ⟨_, CnV.make (ks := ks) (fun i c hic => by
     obtain ⟨cs', k1, k2, k3⟩ := h2 i c hic
     exact ⟨b, off, cs', rfl, trivial, k2, k1, k3⟩)⟩
   ·obtain rfl : len = 0 := by omega
    rw [Cc hcl e0 e1 e2 (Dj ha)];exact ⟨_, CnV.make (ks := []) CnRow.nil⟩
end
end Go.Proofs.YtchkiegehejfmaaGreatDoor
