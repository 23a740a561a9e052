/- The texts Ang, Anh, Ani of this proof, one behind the other. -/
import Derived.Maps.Own
import Derived.Test.YteadlcncnhbmjaaGreatDoorMsam
set_option linter.unusedSimpArgs false
set_option maxHeartbeats 16000000
set_option maxRecDepth 100000
set_option linter.unusedVariables false
namespace Go.Proofs.YteadlcncnhbmjaaGreatDoor
open Go.RowKit Go.Lib
def FMap (w : World) (m : Nat) (L : List Fld) : Prop :=
 ∃ es clock, w.heap[m]? = some (.map es clock) ∧ (∀ x ∈ es.toList, ∃ f ∈ L, x.key = .string (bstr f.nm) ∧ x.val = .agg f.vals.toArray) ∧ ∀ f ∈ L, ∃ x ∈ es.toList, x.key = .string (bstr f.nm)
theorem Kr {a b : List UInt8} (h : bstr a = bstr b) : a = b := by
 have := congrArg (fun s : ByteArray => s.data.toList) h;exact this
theorem FMap.made (w : World) : FMap (w.alloc (.map #[] 0)) w.heap.size [] := ⟨#[], 0, heap_alloc_new w _, by simp, by simp⟩
theorem FMap.grown {w w' : World} {m : Nat} {L : List Fld} {row : Option Nat} (h : FMap w m L) (hg : w.grownBy w' row) (hne : some m ≠ row) : FMap w' m L := by
 obtain ⟨es, c, h1, h2, h3⟩ := h;exact ⟨es, c, (hg.block m (Array.getElem?_eq_some_iff.1 h1).1 hne).trans h1, h2, h3⟩
theorem FMap.keys {es : Array MapEntry} {L : List Fld} (h2 : ∀ x ∈ es.toList, ∃ f ∈ L, x.key = .string (bstr f.nm) ∧ x.val = .agg f.vals.toArray) : ∀ x ∈ es.toList, MapKept.IsKey .string x.key := by
 intro x hx;obtain ⟨f, _, e, _⟩ := h2 x hx;rw [e];exact trivial
theorem FMap.put {w : World} {m : Nat} {L : List Fld} {f : Fld} (h : FMap w m L) (hn : ∀ g ∈ L, g.nm ≠ f.nm) :
  ∃ w', (Instr.mapUpdate 84 (.map (some m)) (.string (bstr f.nm)) (.agg f.vals.toArray)).run Tryz.prog w = .ok () w' ∧ FMap w' m (L ++ [f]) ∧ w.grownBy w' (some m) := by
 obtain ⟨es, clock, hb, h2, h3⟩ := h;have hk := Tryz.underlying9;have hkey : MapKept.IsKey .string (.string (bstr f.nm)) := trivial;rcases MapKept.findNow_spec hkey es.toList 0 (FMap.keys h2) with ⟨h1, _⟩ | ⟨j, e, _, hj, he⟩
 ·have hlt := (Array.getElem?_eq_some_iff.1 hb).1;refine ⟨{ w with heap := w.heap.setIfInBounds m (.map (es.push { key := .string (bstr f.nm), val := .agg f.vals.toArray, born := clock }) (clock + 1)) }, ?_, ⟨_, _, (MapKept.heap_set hb).1, ?_, ?_⟩, ⟨rfl, rfl, rfl, by simp, fun i hi hne => (MapKept.heap_set hb).2 i (fun e => hne (by rw [e]))⟩⟩
  ·simp [Instr.mapUpdate, run_underlying Tryz.underlying84, MapKept.run_getObj_map hb, MapKept.run_checkKey hk hkey, MapKept.run_findKey hk h1, MapKept.run_setObj_map _ hb, Result.andThen]
  ·intro x hx;rw [Array.toList_push] at hx;rcases List.mem_append.1 hx with hx | hx
   ·obtain ⟨g, hg, e⟩ := h2 x hx;exact ⟨g, List.mem_append_left _ hg, e⟩
   ·rw [List.mem_singleton.1 hx];exact ⟨f, List.mem_append_right _ (List.mem_singleton.2 rfl), rfl, rfl⟩
  ·intro g hg;rw [Array.toList_push];rcases List.mem_append.1 hg with hg | hg
   ·obtain ⟨x, hx, e⟩ := h3 g hg;exact ⟨x, List.mem_append_left _ hx, e⟩
   ·rw [List.mem_singleton.1 hg];exact ⟨_, List.mem_append_right _ (List.mem_singleton.2 rfl), rfl⟩
 ·obtain ⟨g, hg, e1, _⟩ := h2 e (List.mem_of_getElem? hj);rw [he] at e1;injection e1 with e1;exact absurd (Kr e1).symm (hn g hg)
theorem FMap.get {w : World} {m : Nat} {L : List Fld} (h : FMap w m L) (u : List UInt8) :
  (∃ f ∈ L, f.nm = u ∧ (Instr.lookup 84 (.map (some m)) (.string (bstr u)) true).run Tryz.prog w = .ok (.tuple #[.agg f.vals.toArray, .bool true]) w) ∨
  ((∀ f ∈ L, f.nm ≠ u) ∧ (Instr.lookup 84 (.map (some m)) (.string (bstr u)) true).run Tryz.prog w = .ok (.tuple #[.agg #[.string ByteArray.empty, .nilFunc, .nilFunc], .bool false]) w) := by
 obtain ⟨es, clock, hb, h2, h3⟩ := h;have hk := Tryz.underlying9;have hkey : MapKept.IsKey .string (.string (bstr u)) := trivial;have hz : (zeroValue 82).run Tryz.prog w = .ok (.agg #[.string ByteArray.empty, .nilFunc, .nilFunc]) w := by
  obtain ⟨i, hi, hz, _⟩ := Cf F5;simp [zeroValue, typeInfo, hi, hz]
 rcases MapKept.findNow_spec hkey es.toList 0 (FMap.keys h2) with ⟨h1, hno⟩ | ⟨j, e, h1, hj, he⟩
 ·refine .inr ⟨fun f hf e => ?_, ?_⟩
  ·obtain ⟨x, hx, e2⟩ := h3 f hf;exact hno x hx (by rw [e2, e])
  ·simp [Instr.lookup, run_underlying Tryz.underlying84, MapKept.run_getObj_map hb, MapKept.run_checkKey hk hkey, MapKept.run_findKey hk h1, hz, Result.andThen]
 ·obtain ⟨f, hf, e1, e2⟩ := h2 e (List.mem_of_getElem? hj);rw [he] at e1;injection e1 with e1;refine .inl ⟨f, hf, (Kr e1).symm, ?_⟩;simp [Instr.lookup, run_underlying Tryz.underlying84, MapKept.run_getObj_map hb, MapKept.run_checkKey hk hkey, MapKept.run_findKey hk h1, e2, Result.andThen]
theorem Q3 {ops : Array Oper} {rest : List Oper} {o : Oper} {a : Act} {Q : Exit → Act → World → Prop} {w : World} {m : Nat} {L : List Fld} (hg : o.guard = none) (x y v : Operand) (hop : o.op = Op.mapUpdate 84 x y v) (f : Fld)
  (hx : a.eval x = .map (some m)) (hy : a.eval y = .string (bstr f.nm)) (hv : a.eval v = .agg f.vals.toArray) (h : FMap w m L) (hn : ∀ g ∈ L, g.nm ≠ f.nm)
  (hK : ∀ w', FMap w' m (L ++ [f]) → w.grownBy w' (some m) → wpList Tryz.prog ops Q rest (a.put o.dst undef) w') : wpList Tryz.prog ops Q (o :: rest) a w := by
 refine wpList_plain hg fun K' hK' => ?_
 obtain ⟨w', hrun, r1, r2⟩ := h.put hn;unfold Oper.wp;simp [execOp, hop, hx, hy, hv, hrun, Result.andThen];exact hK' _ _ (hK w' r1 r2)
end Go.Proofs.YteadlcncnhbmjaaGreatDoor
namespace Ar
theorem Hd : ∀ (l : Str) (a acc u : Nat), acc < 10 ^ a → Go.Lib.parseUint10 acc l = .ok u → u < 10 ^ (a + l.length)
 | [], a, acc, u, ha, h => by
  unfold Go.Lib.parseUint10 at h;injection h with h;subst h
  simpa using ha
 | c :: r, a, acc, u, ha, h => by
  unfold Go.Lib.parseUint10 at h;split at h
  ·split at h
   ·cases h
   ·split at h
    ·cases h
    ·rename_i hc _ _;have := Hd r (a + 1) (acc * 10 + (c.toNat - 48)) u (by rw [Nat.pow_succ]; omega) h;rwa [show a + 1 + r.length = a + (c :: r).length from by rw [List.length_cons]; omega] at this
  ·cases h
theorem NC {l : Str} {u : Nat} (h : Go.Lib.parseMag l = .ok u) : l ≠ [] ∧ (digs u).length ≤ l.length := by
 unfold Go.Lib.parseMag at h;split at h
 ·cases h
 ·rename_i h0;have := Hd l 0 0 u (by decide) h;refine ⟨h0, ?_⟩;have hl := List.length_pos_iff.2 h0;have h2 := Go.Proofs.YteadlcncnhbmjaaGreatDoor.DP (l.length - 1) u (by rw [show l.length - 1 + 1 = 0 + l.length from by omega]; exact this);omega
theorem ET {l : Str} {v : Int} (h : Go.Lib.atoiAll l = .ok v) : inInt v ∧ (itoa v).length ≤ l.length := by
 unfold Go.Lib.atoiAll at h
 cases l with
 | nil => cases h
 | cons c r =>
  simp only at h;split at h
  ·cases h
  ·cases h
  ·rename_i u hu;have hm := NC hu;split at h
   ·cases h
   ·split at h
    ·cases h
    ·rename_i h1 h2;injection h with h;subst h;by_cases hc : c.toNat = 45
     ·rw [if_pos hc];rw [if_pos (.inr hc)] at hm;refine ⟨⟨by omega, by omega⟩, ?_⟩;have hl := List.length_pos_iff.2 hm.1;rw [List.length_cons];unfold itoa;split
      ·rw [List.length_cons, show (-(u : Int)).natAbs = u from by omega]; omega
      ·rw [show (-(u : Int)).natAbs = u from by omega]; omega
     ·rw [if_neg hc];refine ⟨⟨by omega, by omega⟩, ?_⟩;have : (digs u).length ≤ (c :: r).length := by
       split at hm
       ·have := hm.2; rw [List.length_cons]; omega
       ·exact hm.2
      unfold itoa;rw [if_neg (by omega), show ((u : Int)).natAbs = u from by omega];exact this
structure OneB {α : Type} (one : RS → α × RS) (tx : α → Str) (ok : Nat → α → Prop) : Prop where
 good : ∀ r, ok r.1.length (one r).1
 wide : ∀ r, (tx (one r).1).length + (one r).2.1.length ≤ r.1.length + 4
 tight : ∀ r, (one r).2.2 = false → (tx (one r).1).length + (one r).2.1.length ≤ r.1.length
theorem digs0 : (digs 0).length = 1 := by rw [BN 0 (by decide)]; rfl
theorem itoa0 : (itoa 0).length = 1 := digs0
theorem rnum_b : OneB rnum itoa (fun _ n => inInt n) := by
 have key : ∀ r : RS, inInt (rnum r).1 ∧ (itoa (rnum r).1).length + (rnum r).2.1.length ≤ r.1.length + 1 ∧ ((rnum r).2.2 = false → (itoa (rnum r).1).length + (rnum r).2.1.length ≤ r.1.length) := by
  intro r;unfold rnum;split
  ·rename_i v hv;have h := ET hv;have e : (r.1.takeWhile numch).length + (r.1.dropWhile numch).length = r.1.length := by rw [← List.length_append, List.takeWhile_append_dropWhile]
   exact ⟨h.1, by simp only; omega, fun _ => by simp only; omega⟩
  ·exact ⟨⟨(by decide : (-9223372036854775808 : Int) ≤ 0), (by decide : (0 : Int) ≤ 9223372036854775807)⟩, by simp only; rw [itoa0]; omega, fun h => by cases h⟩
 exact ⟨fun r => (key r).1, fun r => by have := (key r).2.1; omega, fun r => (key r).2.2⟩
theorem rtext_b : OneB rtext quote (fun n s => s.length ≤ n) := by
 have key : ∀ r : RS, (rtext r).1.length ≤ r.1.length ∧ (quote (rtext r).1).length + (rtext r).2.1.length ≤ r.1.length + 2 ∧ ((rtext r).2.2 = false → (quote (rtext r).1).length + (rtext r).2.1.length ≤ r.1.length) := by
  intro r;unfold rtext;split
  ·rename_i p hp;have h := Bm hp;have e : (quote p.1).length + p.2.length = r.1.length := by rw [h, List.length_append]
   have h2 : p.1.length ≤ (quote p.1).length := by
    have : ∀ l : Str, l.length ≤ (l.flatMap esc).length := by
     intro l
     induction l with
     | nil => exact Nat.le_refl _
     | cons c l ih =>
      rw [List.flatMap_cons, List.length_append, List.length_cons];have := (Hv c).1;omega
    have := this p.1;show p.1.length ≤ (34 :: (p.1.flatMap esc ++ [34])).length;rw [List.length_cons, List.length_append];omega
   exact ⟨by simp only; omega, by simp only; omega, fun _ => by simp only; omega⟩
  ·exact ⟨Nat.zero_le _, by simp only; show 2 + _ ≤ _; omega, fun h => by cases h⟩
 exact ⟨fun r => (key r).1, fun r => by have := (key r).2.1; omega, fun r => (key r).2.2⟩
theorem O1 (t : Str) (r : RS) (h : (eat t r).2 = false) : r.2 = false ∧ (eat t r).1.length + t.length = r.1.length := by
 unfold eat at h ⊢;split at h
 ·rename_i hp;have : t.length ≤ r.1.length := by
   have := List.isPrefixOf_iff_prefix.1 hp;exact this.length_le
  rw [if_pos hp];exact ⟨h, by simp only [List.length_drop]; omega⟩
 ·cases h
theorem PY (r : RS) (h : r.2 = true) : (rnum r).2.2 = true := by
 unfold rnum;split
 ·exact h
 ·rfl
theorem OT {α : Type} {one : RS → α × RS} {tx : α → Str} {ok : Nat → α → Prop} (two : RS → (α × Int) × RS) (ty : α × Int → Str) (he : ∀ r, two r = (((one r).1, (rnum (eat [58] (one r).2)).1), (rnum (eat [58] (one r).2)).2)) (ht : ∀ p, (ty p).length = (tx p.1).length + 1 + (itoa p.2).length)
  (h : OneB one tx ok) (hw : ∀ r, (tx (one r).1).length + (one r).2.1.length ≤ r.1.length + 2) : OneB two ty (fun n p => ok n p.1 ∧ inInt p.2) := by
 have hn := rnum_b;refine ⟨fun r => ?_, fun r => ?_, fun r hr => ?_⟩
 ·rw [he];exact ⟨h.good r, hn.good (eat [58] (one r).2)⟩
 ·rw [he, ht];have h1 := hw r;have h2 := Bn [58] (one r).2;have h3 : (itoa (rnum (eat [58] (one r).2)).1).length + (rnum (eat [58] (one r).2)).2.1.length ≤ (eat [58] (one r).2).1.length + 1 := by
   generalize eat [58] (one r).2 = q;unfold rnum;split
   ·rename_i v hv;have hb := ET hv;have e : (q.1.takeWhile numch).length + (q.1.dropWhile numch).length = q.1.length := by rw [← List.length_append, List.takeWhile_append_dropWhile]
    simp only;omega
   ·simp only;rw [itoa0];omega
  simp only;omega
 ·rw [he] at hr ⊢;rw [ht];have hb : (eat [58] (one r).2).2 = false := by
   cases hh : (eat [58] (one r).2).2 with
   | false => rfl
   | true => have := PY _ hh; rw [this] at hr; cases hr
  have hg := O1 _ _ hb;have h1 := h.tight r hg.1;have h3 := hn.tight (eat [58] (one r).2) hr;simp only at *;simp only [List.length_cons, List.length_nil] at hg;omega
theorem Fv {α : Type} {one : RS → α × RS} {tx : α → Str} {ok : Nat → α → Prop} (h : OneB one tx ok) (hmono : ∀ n m a, n ≤ m → ok n a → ok m a) (hlen : ∀ r, (one r).2.1.length ≤ r.1.length) : ∀ (n : Nat) (r : RS),
  (∀ x ∈ (Au one n r).1, ok r.1.length x) ∧ (Au one n r).1.length + (Au one n r).2.1.length ≤ r.1.length + 1 ∧ (join [44] ((Au one n r).1.map tx)).length + (Au one n r).2.1.length ≤ r.1.length + 4
 | 0, r => by
  refine ⟨fun x hx => absurd hx (List.not_mem_nil), ?_, ?_⟩
  ·show 0 + r.1.length ≤ _;omega
  ·show 0 + r.1.length ≤ _;omega
 | n + 1, r => by
  have h1 := hlen r;have hh := Dl [44] (one r).2;unfold Au;split
  ·rename_i hc;have h2 := hh.2 hc;simp only [List.length_cons, List.length_nil] at h2;have ht := h.tight r h2.2;obtain ⟨i1, i2, i3⟩ := Fv h hmono hlen n (has [44] (one r).2).2;refine ⟨fun x hx => ?_, ?_, ?_⟩
   ·rcases List.mem_cons.1 hx with rfl | hx
    ·exact h.good r
    ·exact hmono _ _ _ (by omega) (i1 x hx)
   ·simp only [List.length_cons];omega
   ·simp only [List.map_cons];generalize (Au one n (has [44] (one r).2).2) = p at *;have hj : (join [44] (tx (one r).1 :: p.1.map tx)).length ≤ (tx (one r).1).length + 1 + (join [44] (p.1.map tx)).length := by
     cases p.1.map tx with
     | nil => show (tx (one r).1).length ≤ _; omega
     | cons y l =>
      show (tx (one r).1 ++ [44] ++ join [44] (y :: l)).length ≤ _;rw [List.length_append, List.length_append];simp
    omega
  ·refine ⟨fun x hx => ?_, ?_, ?_⟩
   ·rw [List.mem_singleton.1 hx];exact h.good r
   ·show 1 + (has [44] (one r).2).2.1.length ≤ _;omega
   ·show (tx (one r).1).length + (has [44] (one r).2).2.1.length ≤ _;have := h.wide r;omega
theorem M6 (r : RS) : (quote (rtext r).1).length + (rtext r).2.1.length ≤ r.1.length + 2 := by
 unfold rtext;split
 ·rename_i p hp;have h := Bm hp;have e : (quote p.1).length + p.2.length = r.1.length := by rw [h, List.length_append]
  simp only;omega
 ·simp only;show 2 + _ ≤ _;omega
theorem OS (r : RS) : (itoa (rnum r).1).length + (rnum r).2.1.length ≤ r.1.length + 2 := by
 unfold rnum;split
 ·rename_i v hv;have hb := ET hv;have e : (r.1.takeWhile numch).length + (r.1.dropWhile numch).length = r.1.length := by rw [← List.length_append, List.takeWhile_append_dropWhile]
  simp only;omega
 ·simp only;rw [itoa0];omega
theorem RV : OneB rusr usrT (fun n p => p.1.length ≤ n ∧ inInt p.2) := OT rusr usrT (fun _ => rfl) (fun p => by unfold usrT; rw [List.length_append, List.length_cons]; omega) rtext_b M6
theorem RO : OneB rknd kndT (fun _ p => inInt p.1 ∧ inInt p.2) := OT rknd kndT (fun _ => rfl) (fun p => by unfold kndT; rw [List.length_append, List.length_cons]; omega) rnum_b OS
def FV.Fine (n : Nat) (v : FV) : Prop := v.WOk ∧ v.text.length ≤ n + 4
theorem F0 (k : FK) (r : RS) (n : Nat) (h : r.1.length ≤ n) (hn : n ≤ 100000) : (readK k r).1.Fine n := by
 cases k with
 | num =>
  have h1 := rnum_b.good r;have h2 := OS r;have ht : (FV.num (rnum r).1).text.length ≤ n + 4 := by
   show (if (rnum r).1 = 0 then [] else itoa (rnum r).1).length ≤ _;split
   ·exact Nat.zero_le _
   ·omega
  exact ⟨⟨h1, by show (FV.num (rnum r).1).text.length ≤ _; omega, trivial⟩, ht⟩
 | txt =>
  have h1 := rtext_b.good r;have h2 := M6 r;have ht : (FV.txt (rtext r).1).text.length ≤ n + 4 := by
   show (if (rtext r).1 = [] then [] else quote (rtext r).1).length ≤ _;split
   ·exact Nat.zero_le _
   ·omega
  exact ⟨⟨trivial, by show (FV.txt (rtext r).1).text.length ≤ _; omega, by show (rtext r).1.length ≤ _; omega⟩, ht⟩
 | flg => exact ⟨⟨trivial, Nat.zero_le _, trivial⟩, Nat.zero_le _⟩
 | nums =>
  obtain ⟨h1, h2, h3⟩ := Fv rnum_b (fun _ _ _ _ h => h) Bd (r.1.length + 1) r;show (FV.nums (Au rnum (r.1.length + 1) r).1).Fine n;generalize Au rnum (r.1.length + 1) r = p at *;have ht : (FV.nums p.1).text.length ≤ n + 4 := by show (join [44] (p.1.map itoa)).length ≤ _; omega
  exact ⟨⟨h1, by show (FV.nums p.1).text.length ≤ _; omega, by show p.1.length ≤ _; omega⟩, ht⟩
 | txts =>
  obtain ⟨h1, h2, h3⟩ := Fv rtext_b (fun _ _ _ h k => Nat.le_trans k h) BY (r.1.length + 1) r;show (FV.txts (Au rtext (r.1.length + 1) r).1).Fine n;generalize Au rtext (r.1.length + 1) r = p at *;have ht : (FV.txts p.1).text.length ≤ n + 4 := by show (join [44] (p.1.map quote)).length ≤ _; omega
  exact ⟨⟨trivial, by show (FV.txts p.1).text.length ≤ _; omega, ⟨by show p.1.length ≤ _; omega, fun x hx => by have := h1 x hx; omega⟩⟩, ht⟩
 | usrs =>
  obtain ⟨h1, h2, h3⟩ := Fv RV (fun _ _ _ h k => ⟨Nat.le_trans k.1 h, k.2⟩) Et (r.1.length + 1) r;show (FV.usrs (Au rusr (r.1.length + 1) r).1).Fine n;generalize Au rusr (r.1.length + 1) r = p at *;have ht : (FV.usrs p.1).text.length ≤ n + 4 := by show (join [44] (p.1.map usrT)).length ≤ _; omega
  exact ⟨⟨fun x hx => (h1 x hx).2, by show (FV.usrs p.1).text.length ≤ _; omega, ⟨by show p.1.length ≤ _; omega, fun x hx => by have := (h1 x hx).1; omega⟩⟩, ht⟩
 | knds =>
  obtain ⟨h1, h2, h3⟩ := Fv RO (fun _ _ _ _ h => h) Ev (r.1.length + 1) r;show (FV.knds (Au rknd (r.1.length + 1) r).1).Fine n;generalize Au rknd (r.1.length + 1) r = p at *;have ht : (FV.knds p.1).text.length ≤ n + 4 := by show (join [44] (p.1.map kndT)).length ≤ _; omega
  exact ⟨⟨fun x hx => h1 x hx, by show (FV.knds p.1).text.length ≤ _; omega, by show p.1.length ≤ _; omega⟩, ht⟩
theorem Ew (k : FK) (n : Nat) : k.zero.Fine n := by
 cases k <;> refine ⟨⟨?_, Nat.zero_le _, ?_⟩, Nat.zero_le _⟩ <;> first | trivial | exact ⟨by decide, by decide⟩ | (intro x hx; cases hx) | exact Nat.zero_le _ | exact ⟨Nat.zero_le _, fun x hx => by cases hx⟩
theorem J9 (sep : Str) (M : Nat) : ∀ l : List Str, (∀ x ∈ l, x.length ≤ M) → (join sep l).length ≤ l.length * (M + sep.length)
 | [], _ => Nat.zero_le _
 | [x], h => by
  have := h x (by simp);show x.length ≤ 1 * (M + sep.length);omega
 | x :: y :: l, h => by
  have h1 := h x (by simp);have h2 := J9 sep M (y :: l) (fun z hz => h z (by simp at hz ⊢; exact .inr hz));show (x ++ sep ++ join sep (y :: l)).length ≤ _;rw [List.length_append, List.length_append, List.length_cons, Nat.add_mul];omega
theorem JT (e : List FV) (n : Nat) (hn : n ≤ 100000) (h : ∀ v ∈ e, v.Fine n) : (line e).length ≤ 100000000 := by
 have h0 : (items NK e).length ≤ 29 := by
  unfold items;refine Nat.le_trans (List.length_filter_le _ _) ?_;rw [List.length_zipWith];exact Nat.le_trans (Nat.min_le_left _ _) (by decide)
 have h1 : ∀ x ∈ items NK e, x.length ≤ 200000 := by
  intro x hx;unfold items at hx;have hx := (List.mem_filter.1 hx).1;obtain ⟨i, hi, e1⟩ := List.mem_iff_getElem.1 hx;rw [List.getElem_zipWith] at e1;have hi2 := hi;rw [List.length_zipWith] at hi2;have a1 := Go.Proofs.YteadlcncnhbmjaaGreatDoor.Gu (NK[i]'(by omega)) (List.getElem_mem _);have a2 := (h (e[i]'(by omega)) (List.getElem_mem _)).2;rw [← e1];generalize (NK[i]'(by omega)) = nk at *;generalize (e[i]'(by omega)) = v at *
  cases v with
  | flg b => cases b with
   | false => exact Nat.zero_le _
   | true => show nk.1.length ≤ _; omega
  | _ =>
   rw [CA nk.1 rfl];split
   ·exact Nat.zero_le _
   ·rw [List.length_append, List.length_cons];omega
 have := J9 [32] 200000 (items NK e) h1;show (join [32] (items NK e)).length ≤ _;simp only [List.length_cons, List.length_nil] at this;omega
end Ar
namespace Go.Proofs.YteadlcncnhbmjaaGreatDoor
open Go.RowKit Go.Lib
def zeroC : Ar.FK → Value
  | .num => .int .i64 0 | .txt => .string ⟨#[]⟩ | .flg => .bool false | _ => .slice none 0 0
def zeroEv : Array Value := (Ar.NK.map fun p => zeroC p.2).toArray
theorem NM (ok : Nat → Prop) (w : World) (k : Ar.FK) : CellOf ok w (zeroC k) k.zero := by
  cases k with
  | num => rfl
  | txt => rfl
  | flg => rfl
  | nums => exact ⟨none, 0, rfl, ⟨rfl, fun j v h => by simp [intL] at h⟩, fun h => absurd h (by decide)⟩
  | txts => exact ⟨none, 0, rfl, ⟨rfl, fun j v h => by simp [strL] at h⟩, fun h => absurd h (by decide)⟩
  | usrs => exact ⟨none, 0, rfl, ⟨rfl, fun j v h => by simp [usrL] at h⟩, fun h => absurd h (by decide)⟩
  | knds => exact ⟨none, 0, rfl, ⟨rfl, fun j v h => by simp [kndL] at h⟩, fun h => absurd h (by decide)⟩
theorem Oa (k : Ar.FK) : k.zero.kind = k := by cases k <;> rfl
theorem Rn (k : Ar.FK) : k.zero.Ok := (Ar.Ew k 0).1.1
theorem GH (ok : Nat → Prop) (w : World) : EvOf ok w zeroEv (Ar.zeros Ar.NK) := by
  refine ⟨by decide, ⟨by decide, fun i nk v h1 h2 => ?_⟩, fun i v h => ?_⟩
  · unfold Ar.zeros at h2
    rw [List.getElem?_map, h1] at h2;injection h2 with h2;rw [← h2];exact ⟨Oa _, Rn _⟩
  · unfold Ar.zeros at h
    rw [List.getElem?_map] at h
    cases hn : Ar.NK[i]? with
    | none => rw [hn] at h; cases h
    | some nk =>
      rw [hn] at h;injection h with h;rw [← h];refine ⟨zeroC nk.2, ?_, NM ok w nk.2⟩;unfold zeroEv;rw [List.getElem?_toArray, List.getElem?_map, hn];rfl
theorem La {L : List Fld} {base : Nat} {w : World} (hA : AllF base w 0 L) (hl : L.length = 29) {k : Nat} {f : Fld} (hk : L[k]? = some f) : ∀ g ∈ L.take k, g.nm ≠ f.nm := by
  intro g hg e;obtain ⟨j, hj, hgj⟩ := List.mem_iff_getElem.1 hg;rw [List.length_take] at hj;rw [List.getElem_take] at hgj;have hj1 : L[j]? = some g := by rw [List.getElem?_eq_getElem (by omega), hgj]
  have h1 := hA.at hj1;have h2 := hA.at hk;rw [Nat.zero_add] at h1 h2;obtain ⟨⟨n1, a1, b1, _⟩, _⟩ := h1;obtain ⟨⟨n2, a2, b2, _⟩, _⟩ := h2;have c1 : (Ar.NK.map (·.1))[j]? = some f.nm := by rw [List.getElem?_map, a1, ← e, b1]; rfl
  have c2 : (Ar.NK.map (·.1))[k]? = some f.nm := by rw [List.getElem?_map, a2, b2]; rfl
  have hkl : j < (Ar.NK.map (·.1)).length := (List.getElem?_eq_some_iff.1 c1).1;have := (List.getElem?_inj hkl Ar.Gh).1 (c1.trans c2.symm);omega
theorem Rd.grown' {w w' : World} {A : Option Addr} {n : Nat} {vs : List Value} {row : Option Nat} (h : Rd w A n vs) (hg : w.grownBy w' row) (hne : ∀ a, A = some a → some a.block ≠ row) : Rd w' A n vs :=
  ⟨h.1, fun j v hj => by
    obtain ⟨g, o, e, hc⟩ := h.2 j v hj
    exact ⟨g, o, e, hg.cell hc (show some g ≠ row from hne ⟨g, o, none⟩ e)⟩⟩
def REv (s : List UInt8) (base : Nat) (r : Ending) (w' : World) : Prop :=
  (∃ e cells, Ar.parse s = some e ∧ r = .returned (.tuple #[.agg cells, .int .i64 0]) ∧ EvOf (fun b => base ≤ b) w' cells e) ∨ (Ar.parse s = none ∧ r = .returned (.tuple #[.agg zeroEv, .int .i64 10]))
theorem Ac {P : Program} {fn : Func} {p u : Tmp} {ty : TypeId} (h : fn.results = #[.cell p ty, .tmp u]) (tmps : Array Value) (w : World) (g : Nat) (t : TypeId) (cs : Array Value) (d : TypeDesc)
    (hp : tmps.getD p undef = .pointer (some ⟨g, 0, none⟩)) (hg : Blk w g t cs)
    (hu : P.underlying ty = some d) (hd : (match d with | .struct _ | .array _ _ => true | _ => false) = true) (hi : (P.info? ty).map (·.size) = some cs.size) :
    (results fn tmps).run P w = .ok (.tuple #[.agg cs, tmps.getD u undef]) w := by
  rw [results_cell_tmp h];simp only [hp, asAddr, Sem.run_pure, Result.andThen_ok];rw [run_loadVar_row w g t ty cs (0, 0) d hg hu hd hi];rfl
theorem B0 {ops : Array Oper} {rest : List Oper} {o : Oper} {a : Act} {w : World} {Q : Exit → Act → World → Prop} (hw : Region.wanted o (yielded ops a.tmps) = true) (ty : TypeId) (x : Operand) (ho : o.op = .load ty x)
    (g : Nat) (hx : a.eval x = .pointer (some ⟨g, 0, none⟩)) (t : TypeId) (cs : Array Value) (fr : Nat × Nat) (d : TypeDesc) (hd : (match d with | .struct _ | .array _ _ => true | _ => false) = true) (hg : w.heap[g]? = some (.cells cs t fr))
    (hu : Tryz.prog.underlying ty = some d) (hi : (Tryz.prog.info? ty).map (·.size) = some cs.size)
    (h : wpList Tryz.prog ops Q rest (a.put o.dst (.agg cs)) w) : wpList Tryz.prog ops Q (o :: rest) a w :=
  wpList_step fun K hK => by
    rw [if_pos hw];exact wp_load_row ty x ho g hx t cs fr d hg hu (by cases d <;> first | rfl | cases hd) hi (hK _ _ h)
theorem CellOf.one {ok : Nat → Prop} {w : World} {c : Value} {v : Ar.FV} (h : CellOf ok w c v) : c.oneCell' = true := by
  cases v with
  | num n => rw [show c = .int .i64 n from h]; rfl
  | txt s => rw [show c = .string (bstr s) from h]; rfl
  | flg b => rw [show c = .bool b from h]; rfl
  | nums l => obtain ⟨A, cap, rfl, _⟩ := h; rfl
  | txts l => obtain ⟨A, cap, rfl, _⟩ := h; rfl
  | usrs l => obtain ⟨A, cap, rfl, _⟩ := h; rfl
  | knds l => obtain ⟨A, cap, rfl, _⟩ := h; rfl
theorem EvOf.one {ok : Nat → Prop} {w : World} {cells : Array Value} {e : List Ar.FV} (h : EvOf ok w cells e) : cells.all (·.oneCell') = true := by
  rw [Array.all_eq_true];intro i hi;have hie : i < e.length := by rw [h.len]; rw [h.size] at hi; exact hi
  obtain ⟨c, h1, h2⟩ := h.cell i e[i] (List.getElem?_eq_getElem hie);rw [Array.getElem?_eq_getElem hi] at h1;injection h1 with h1;rw [h1];exact h2.one
theorem Br : zeroEv.all (·.oneCell') = true := by simp [zeroEv, Ar.NK, zeroC, Value.oneCell']
theorem Js {s : List UInt8} {e : List Ar.FV} {r : Ar.RS} (h : Ar.loopG (Ar.zeros Ar.NK) (s, false) = some (e, r)) (hb : r.2 = true ∨ Ar.line e ≠ s) : Ar.parse s = none := by
  unfold Ar.parse;rw [show Ar.loopF (s.length + 1) (Ar.zeros Ar.NK) (s, false) = some (e, r) from h];exact if_pos hb
theorem LP {s : List UInt8} {e : List Ar.FV} {r : Ar.RS} (h : Ar.loopG (Ar.zeros Ar.NK) (s, false) = some (e, r)) (hb : r.2 = false) (hl : Ar.line e = s) : Ar.parse s = some e := by
  unfold Ar.parse;rw [show Ar.loopF (s.length + 1) (Ar.zeros Ar.NK) (s, false) = some (e, r) from h]
  exact if_neg (fun h => by rcases h with h | h; · rw [hb] at h; cases h
                            · exact h hl)
theorem Mo {s : List UInt8} (h : Ar.loopG (Ar.zeros Ar.NK) (s, false) = none) : Ar.parse s = none := by
  unfold Ar.parse;rw [show Ar.loopF (s.length + 1) (Ar.zeros Ar.NK) (s, false) = none from h]
theorem FMap.below {w w' : World} {m : Nat} {L : List Fld} (h : FMap w m L) (hb : Below w.heap.size w w') : FMap w' m L := h.grown (Bo hb none) (by simp)
theorem Q7 {base : Nat} {w : World} {L : List Fld} (hA : AllF base w 0 L) (hl : L.length = 29) {u : List UInt8} (h : ∀ f ∈ L, f.nm ≠ u) : Ar.NK.findIdx? (fun p => decide (p.1 = u)) = none := by
  rw [List.findIdx?_eq_none_iff];intro p hp;obtain ⟨i, hi, rfl⟩ := List.mem_iff_getElem.1 hp;have hi2 : i < L.length := by rw [hl]; exact hi
  obtain ⟨⟨nk, h1, h2, _⟩, _⟩ := hA.at (List.getElem?_eq_getElem hi2);rw [Nat.zero_add, List.getElem?_eq_getElem hi] at h1;injection h1 with h1;rw [h1];exact decide_eq_false (by rw [← h2]; exact h _ (List.getElem_mem hi2))
theorem Nq : ∀ p ∈ Ar.NK, (Ar.isFlg p.2 = true ↔ (p.1 = [115, 116, 97, 116, 101] ∨ p.1 = [116, 104, 114, 101, 97, 100])) := by decide
theorem MJ {i : Nat} {nk : List UInt8 × Ar.FK} (h : Ar.NK[i]? = some nk) : Ar.NK.findIdx? (fun p => decide (p.1 = nk.1)) = some i := by
  obtain ⟨hi, he⟩ := List.getElem?_eq_some_iff.1 h;rw [List.findIdx?_eq_some_iff_getElem];refine ⟨hi, by rw [he]; exact decide_eq_true rfl, fun j hj hd => ?_⟩;have hj2 : j < Ar.NK.length := Nat.lt_trans hj hi;have e := of_decide_eq_true hd;have c1 : (Ar.NK.map (·.1))[j]? = some nk.1 := by rw [List.getElem?_map, List.getElem?_eq_getElem hj2, ← e]; rfl
  have c2 : (Ar.NK.map (·.1))[i]? = some nk.1 := by rw [List.getElem?_map, h]; rfl
  have := (List.getElem?_inj (by rw [List.length_map]; exact hj2) Ar.Gh).1 (c1.trans c2.symm);omega
theorem Ay (x y : List UInt8) : ((bstr x).toList == y) = (x == y) := by rw [Lib.toList_data]; rfl
structure RI (W0 : World) (n : Nat) (x : World) (e : List Ar.FV) (r : Ar.RS) (cells : Array Value) : Prop where
  bel : Below W0.heap.size W0 x
  rd : RdS x W0.heap.size r
  len : r.1.length ≤ n
  blk : Blk x (W0.heap.size + 1) 40 cells
  ev : EvOf (fun b => W0.heap.size + 1 < b) x cells e
  fine : ∀ v ∈ e, v.Fine n
theorem RI.eat {W0 x x' : World} {n : Nat} {e : List Ar.FV} {r r' : Ar.RS} {cells : Array Value} (h : RI W0 n x e r cells) (hg : x.grownBy x' (some W0.heap.size)) (hr : RdS x' W0.heap.size r') (hl : r'.1.length ≤ n) : RI W0 n x' e r' cells :=
  ⟨h.bel.grown hg h.bel.size (fun g e => by injection e with e; omega), hr, hl, h.blk.grown hg (by simp), h.ev.keep (fun b hb hlt => ⟨hb, hg.block b hlt (by intro e; injection e with e; omega)⟩), h.fine⟩
theorem RI.start {W0 : World} {s : ByteArray} : RI W0 s.size ((W0.alloc (.cells #[.string s, .bool false] 87)).alloc (.cells zeroEv 40)) (Ar.zeros Ar.NK) (s.data.toList, false) zeroEv where
  bel := ((Below.refl _ _).alloc (Nat.le_refl _) _).alloc (by simp) _
  rd := by
    have h := Blk.new W0 87 #[.string s, .bool false];exact h.alloc _
  len := by rw [AI]; exact Nat.le_refl _
  blk := by
    have h := Blk.new (W0.alloc (.cells #[.string s, .bool false] 87)) 40 zeroEv;rwa [World.size_alloc] at h
  ev := GH _ _
  fine v hv := by
    unfold Ar.zeros at hv;obtain ⟨p, _, rfl⟩ := List.mem_map.1 hv;exact Ar.Ew _ _
theorem F9 (k : Ar.FK) (r : Ar.RS) : (Ar.readK k r).1.kind = k := by cases k <;> rfl
theorem RI.reads {W0 x x' : World} {n i : Nat} {e : List Ar.FV} {r r' : Ar.RS} {v : Ar.FV} {cells : Array Value} {k : Ar.FK} (h : RI W0 n x e r cells) (hx : W0.heap.size + 2 ≤ x.heap.size) (hi : i < 29) (hk : ((Ar.NK[i]?).map (·.2)).getD .num = k) (hv : v.kind = k) (hf : v.Fine n) (hl : r'.1.length ≤ n)
    (hR : Reads x x' W0.heap.size (W0.heap.size + 1) i r' (fun W c => CellOf (fun b => x.heap.size ≤ b) W c v)) : ∃ cells', RI W0 n x' (e.set i v) r' cells' := by
  obtain ⟨w2, c, hg, rfl, hrd, hC⟩ := hR;have hkb : Blk w2 (W0.heap.size + 1) 40 cells := h.blk.grown hg (by simp);have hsz := hg.size;have hoth : ∀ b, b ≠ W0.heap.size + 1 → (w2.setCell ⟨W0.heap.size + 1, i, none⟩ c).heap[b]? = w2.heap[b]? := fun b hb => heap_setCell_other _ _ _ _ hb
  have hgs := Az w2 (W0.heap.size + 1) i c;refine ⟨cells.setIfInBounds i c, ⟨?_, ?_, hl, hkb.set_ i c, ?_, ?_⟩⟩
  · exact (h.bel.grown hg h.bel.size (fun g e => by injection e with e; omega)).grown hgs (by omega) (fun g e => by injection e with e; omega)
  · exact hrd.keep hgs (by simp)
  · refine ⟨by rw [Array.size_setIfInBounds]; exact h.ev.size, ⟨by rw [List.length_set]; exact h.ev.fits.1, fun j nk u h1 h2 => ?_⟩, fun j u hj => ?_⟩
    · by_cases hji : j = i
      · subst hji
        rw [List.getElem?_set_self (by rw [h.ev.len]; exact hi)] at h2;injection h2 with h2;rw [h1] at hk;subst h2;exact ⟨hv.trans hk.symm, hf.1.1⟩
      · rw [List.getElem?_set_ne (Ne.symm hji)] at h2
        exact h.ev.fits.2 j nk u h1 h2
    · by_cases hji : j = i
      · subst hji
        rw [List.getElem?_set_self (by rw [h.ev.len]; exact hi)] at hj;injection hj with hj;subst hj;refine ⟨c, ?_, hC.keep (fun b hb hlt => ⟨by omega, hoth b (by omega)⟩)⟩;rw [Array.getElem?_setIfInBounds, if_pos rfl, if_pos (by rw [h.ev.size]; exact hi)]
      · rw [List.getElem?_set_ne (Ne.symm hji)] at hj
        obtain ⟨d, h1, h2⟩ := h.ev.cell j u hj;refine ⟨d, ?_, h2.keep fun b hb hlt => ⟨hb, ?_⟩⟩
        · rw [Array.getElem?_setIfInBounds, if_neg (Ne.symm hji)]
          exact h1
        · rw [hoth b (by omega)]
          exact hg.block b hlt (by intro e; injection e with e; omega)
  · intro u hu
    rcases List.mem_or_eq_of_mem_set hu with hu | rfl
    · exact h.fine u hu
    · exact hf
theorem MC {i : Nat} {e : List Ar.FV} {r r2 : Ar.RS} {k : Ar.FK} (hk : ((Ar.NK[i]?).map (·.2)).getD .num = k) (h2 : (if Ar.isFlg k then (Ar.word r).2 else Ar.eat [61] (Ar.word r).2) = r2) (hb : r2.2 = true) : Ar.CB i e r = (e, if r2.1 = [] then r2 else Ar.eat [32] r2) := by
  subst hk h2;unfold Ar.CB;simp only [hb, if_true]
theorem Fi {i : Nat} {e : List Ar.FV} {r r2 : Ar.RS} {k : Ar.FK} (hk : ((Ar.NK[i]?).map (·.2)).getD .num = k) (h2 : (if Ar.isFlg k then (Ar.word r).2 else Ar.eat [61] (Ar.word r).2) = r2) (hb : r2.2 = false) : Ar.CB i e r = (e.set i (Ar.readK k r2).1, if (Ar.readK k r2).2.1 = [] then (Ar.readK k r2).2 else Ar.eat [32] (Ar.readK k r2).2) := by
  subst hk h2;unfold Ar.CB;simp only [hb, Bool.false_eq_true, if_false]
theorem Fx {s : List UInt8} (h : s ≠ []) : (bstr s).toList.isEmpty = false := by
  rw [Cx]
  cases s with
  | nil => exact absurd rfl h
  | cons c q => rfl
theorem FB {s : List UInt8} (h : s = []) : (bstr s).toList.isEmpty = true := by rw [Cx, h]; rfl
theorem FU (s : ByteArray) (w : World) (hs : s.size ≤ 100000) (hRd : Ready w) :
    Calls Tryz.prog 20 #[.string s] w fun r w' => REv s.data.toList w.heap.size r w' ∧ Below w.heap.size w w' := by
  have HRY := hid hRd;clear hRd;have hmk : ∀ W : World, (Instr.makeMap 84 none).run Tryz.prog W = .ok (.map (some W.heap.size)) (W.alloc (.map #[] 0)) := fun W => run_makeMap _ W
  have HKR := hid (Blk.new w 40 zeroEv);have HMM := hid (FMap.made (w.alloc (.cells zeroEv 40)));rw [show (w.alloc (.cells zeroEv 40)).heap.size = w.heap.size + 1 from by simp] at HMM;have HB0 := hid (((Below.refl w.heap.size w).alloc (Nat.le_refl _) (.cells zeroEv 40)).alloc (by simp) (.map #[] 0));replace HKR := hid (HKR.out.alloc (.map #[] 0));go_enter Tryz.func20, Tryz.ntmps20;go_wp2_with fail;clear hmk;refine (IN _).mono ?_;rintro r w1 ⟨A, cap, L, rfl, hl1, ho, ha, hb⟩;obtain ⟨A', cap', e1, hrd, hbk⟩ := (SlcOf.of_own ho);injection e1 with e1 e2 e3;subst e1 e3;have HR1 := hid hrd;have HBK : Hid (∀ a, A = some a → w.heap.size + 2 ≤ a.block) := hid (fun a e => by have := hbk (by decide) a e; rw [World.size_alloc, World.size_alloc] at this; exact this);clear hbk;have HA1 := hid ha;have HKR1 : Hid (Blk w1 w.heap.size 40 zeroEv) := hid (HKR.out.below hb HKR.out.lt);have HM1 : Hid (FMap w1 (w.heap.size + 1) []) := hid (HMM.out.grown (Bo hb none) (by simp));have HB1 : Hid (Below w.heap.size w w1) := hid (HB0.out.trans (hb.mono HB0.out.size));have HL1 := hid hl1;have hs1 : w.heap.size + 2 ≤ w1.heap.size := by have := hb.size; rw [World.size_alloc, World.size_alloc] at this; exact this
  clear ho ha hb hrd hl1;go_wp2_with fail
  go_loopw [14] (fun ix wr => ∃ k : Nat, k ≤ 29 ∧ ix = .int .i64 k ∧ FMap wr (w.heap.size + 1) (L.take k) ∧ w1.grownBy wr (some (w.heap.size + 1))) (fun ix _ => 29 - (RowKit.intOf ix).toNat)
  case atStart => exact ⟨0, by omega, rfl, HM1.out, ⟨rfl, rfl, rfl, Nat.le_refl _, fun _ _ _ => rfl⟩⟩
  case round =>
    obtain ⟨k, hk, rfl, hm, hg⟩ := hrel;have HM := hid hm;have HG := hid hg;have hgs := hg.size;clear hm hg;by_cases hlt : k < 29
    · obtain ⟨f, hf⟩ : ∃ f, L[k]? = some f := ⟨L[k]'(by rw [HL1.out]; exact hlt), List.getElem?_eq_getElem _⟩
      obtain ⟨ba, oa, rfl, hc0, hc1, hc2⟩ := Fld.at (HR1.out.grown' HG.out (fun a e => by have := HBK.out a e; intro e2; injection e2 with e2; omega)) hf;have HN := hid (La HA1.out HL1.out hf);have HTK := hid (BF hf);have HMA := hid (HM.out.grown (World.grownBy_alloc wr (.cells f.vals.toArray 82) none) (by simp));have hbx3 := (Blk.new wr 82 #[.string (bstr f.nm), .func (.func f.F) #[] f.cf, .func (.func f.G) #[] f.cg]);have hb0 := hbx3.cell 0;have hb1 := hbx3.cell 1;have hb2 := hbx3.cell 2;rw [show (#[.string (bstr f.nm), .func (.func f.F) #[] f.cf, .func (.func f.G) #[] f.cg] : Array Value)[0]? = some (.string (bstr f.nm)) from rfl] at hb0;rw [show (#[.string (bstr f.nm), .func (.func f.F) #[] f.cf, .func (.func f.G) #[] f.cg] : Array Value)[1]? = some (.func (.func f.F) #[] f.cf) from rfl] at hb1;rw [show (#[.string (bstr f.nm), .func (.func f.F) #[] f.cf, .func (.func f.G) #[] f.cg] : Array Value)[2]? = some (.func (.func f.G) #[] f.cg) from rfl] at hb2;clear hf hbx3;go_wp2_with (at_mapUpdate; refine Q3 rfl _ _ _ rfl f rfl rfl rfl HMA.out HN.out ?_; intro w4 hm4 hg4)
      go_roundw
      case rel => exact ⟨k + 1, by omega, by go_num, by rw [HTK.out]; exact hm4, (World.grownBy.trans HG.out (World.grownBy_alloc wr _ _)).trans hg4⟩
      case measure => simp [RowKit.intOf]; omega
    · obtain rfl : k = 29 := by omega
      rw [show ((29 : Nat) : Int) = 29 from rfl];have HMF : Hid (FMap wr (w.heap.size + 1) L) := hid (by have := HM.out; rwa [List.take_of_length_le (by rw [HL1.out]; exact Nat.le_refl _)] at this);go_wp2_with fail;have HBW : Hid (Below w.heap.size w wr) := hid (HB1.out.grown HG.out (by omega) (fun g e => by injection e with e; omega));have HKW : Hid (Blk wr w.heap.size 40 zeroEv) := hid (HKR1.out.grown HG.out (by simp));have hws : w.heap.size + 2 ≤ wr.heap.size := by omega
      generalize hW2 : wr = w2 at *;clear hW2
      go_loopw [10] (fun _ x => ∃ (e : List Ar.FV) (r : Ar.RS) (cells : Array Value), Hid (Ar.loopG (Ar.zeros Ar.NK) (s.data.toList, false) = Ar.loopG e r) ∧ RI w2 s.size x e r cells) (fun _ x => rdLen x w2.heap.size)
      case atStart => exact ⟨_, _, zeroEv, hid rfl, RI.start⟩
      case round =>
        obtain ⟨e, r, cells, hsp, hri⟩ := hrel;have hc0 := hri.rd.c0;have hc1 := hri.rd.c1;have HRI := hid hri;have hxs := hri.bel.size;have hrl := hri.len;clear hri;obtain ⟨R, hR⟩ : ∃ R, bstr r.1 = R := ⟨_, rfl⟩;have hem := Cx r.1;rw [hR] at hc0 hem;by_cases hstop : r.1 = [] ∨ r.2 = true
        · have HEND := hid (hsp.out.trans (Ar.NZ hstop))
          have hcase : (R.toList.isEmpty = true) ∨ (R.toList.isEmpty = false ∧ r.2 = true) := by
            rw [hem]
            cases hr1 : r.1 with
            | nil => exact .inl rfl
            | cons c q => rcases hstop with h | h
                          · rw [hr1] at h; cases h
                          · exact .inr ⟨rfl, h⟩
          have HKX : Hid (Blk wr w.heap.size 40 zeroEv) := hid (HKW.out.below HRI.out.bel (by omega));have HBX : Hid (Below w.heap.size w wr) := hid (HBW.out.trans (HRI.out.bel.mono (by omega)));clear hstop hsp hem;by_cases hbad : r.2 = true
          · have HP := hid (Js HEND.out (.inl hbad))
            rw [hbad] at hc1;clear hbad;have hk9 := setRow_heap wr w.heap.size zeroEv zeroEv 40 (0, 0) HKX.out;have HK9 := hid hk9;clear hk9;rcases hcase with h1 | ⟨h1, h2⟩
            · go_wp2_with (refine wpList_store_row rfl 40 _ _ rfl w.heap.size zeroEv rfl rfl 40 zeroEv HKX.out Aj rfl Br ?_)
              exact bodyPost_ret (Ac rfl _ _ w.heap.size _ zeroEv _ rfl HK9.out Tryz.underlying40 rfl Aj) rfl ⟨.inr ⟨HP.out, rfl⟩, below_setRow HBX.out (Nat.le_refl _) _⟩
            · go_wp2_with (refine wpList_store_row rfl 40 _ _ rfl w.heap.size zeroEv rfl rfl 40 zeroEv HKX.out Aj rfl Br ?_)
              exact bodyPost_ret (Ac rfl _ _ w.heap.size _ zeroEv _ rfl HK9.out Tryz.underlying40 rfl Aj) rfl ⟨.inr ⟨HP.out, rfl⟩, below_setRow HBX.out (Nat.le_refl _) _⟩
          · have hgood : r.2 = false := by simpa using hbad
            rw [hgood] at hc1;have h1 : R.toList.isEmpty = true := by
              rcases hcase with h | ⟨_, h⟩
              · exact h
              · exact absurd h hbad
            have HGD := hid hgood;have HBLK := hid HRI.out.blk;have HES := hid HRI.out.ev.size;clear hbad hcase hgood;go_wp2_with (refine B0 (by rfl) 40 _ rfl (w2.heap.size + 1) rfl 40 cells (0, 0) _ (by rfl) HBLK.out Tryz.underlying40 (by rw [Aj, HES.out]) ?_);refine (Eq _ cells e wr HRI.out.ev (fun v hv => (HRI.out.fine v hv).1) (Ar.JT e s.size hs HRI.out.fine)).mono ?_;rintro q w3 ⟨rfl, hb3⟩;have HK3 : Hid (Blk w3 w.heap.size 40 zeroEv) := hid (HKX.out.below hb3 HKX.out.lt);have HE3 : Hid (Blk w3 (w2.heap.size + 1) 40 cells) := hid (HBLK.out.below hb3 HBLK.out.lt);have HB3 : Hid (Below w.heap.size w w3) := hid (HBX.out.trans (hb3.mono HBX.out.size));have HV3 : Hid (EvOf (fun b => w2.heap.size + 1 < b) w3 cells e) := hid (HRI.out.ev.below hb3);have hcmp := CO (Ar.line e) s.data.toList;rw [show bstr s.data.toList = s from Bg rfl] at hcmp;clear hb3;by_cases heq : Ar.line e = s.data.toList
            · have HP := hid (LP HEND.out HGD.out heq)
              have hq : ((bstr (Ar.line e)).toList == s.toList) = true := by rw [hcmp, heq]; exact beq_self_eq_true _
              clear hcmp heq;generalize bstr (Ar.line e) = Y at *;have HK9 := hid (setRow_heap w3 w.heap.size zeroEv cells 40 (0, 0) HK3.out);have H1C := hid HV3.out.one;have HVF : Hid (EvOf (fun b => w.heap.size ≤ b) (w3.setRow w.heap.size cells) cells e) := hid (HV3.out.keep (fun b hb hlt => ⟨by omega, setRow_other w3 w.heap.size b cells (by omega)⟩));go_wp2_with (first | (refine wpList_load_row rfl 40 _ rfl (w2.heap.size + 1) rfl 40 cells (0, 0) _ HE3.out Tryz.underlying40 rfl (by rw [Aj, HES.out]) ?_) | (refine wpList_store_row rfl 40 _ _ rfl w.heap.size cells rfl rfl 40 zeroEv HK3.out (by rw [Aj, HES.out]) (by rw [HES.out]; rfl) H1C.out ?_));exact bodyPost_ret (Ac rfl _ _ w.heap.size _ cells _ rfl HK9.out Tryz.underlying40 rfl (by rw [Aj, HES.out])) rfl ⟨.inl ⟨e, cells, HP.out, rfl, HVF.out⟩, below_setRow HB3.out (Nat.le_refl _) _⟩
            · have HP := hid (Js HEND.out (.inr heq))
              have hq : ((bstr (Ar.line e)).toList == s.toList) = false := by rw [hcmp]; exact beq_eq_false_iff_ne.2 heq
              clear hcmp heq;have HK9 := hid (setRow_heap w3 w.heap.size zeroEv zeroEv 40 (0, 0) HK3.out);generalize bstr (Ar.line e) = Y at *;go_wp2_with (refine wpList_store_row rfl 40 _ _ rfl w.heap.size zeroEv rfl rfl 40 zeroEv HK3.out Aj rfl Br ?_);exact bodyPost_ret (Ac rfl _ _ w.heap.size _ zeroEv _ rfl HK9.out Tryz.underlying40 rfl Aj) rfl ⟨.inr ⟨HP.out, rfl⟩, below_setRow HB3.out (Nat.le_refl _) _⟩
        · have hne : R.toList.isEmpty = false := by
            rw [hem]
            cases hr1 : r.1 with
            | nil => exact absurd (.inl hr1) hstop
            | cons c q => rfl
          have hgood : r.2 = false := by
            cases hb : r.2 with
            | false => rfl
            | true => exact absurd (.inr hb) hstop
          rw [hgood] at hc1;have HST := hid hstop;have HGD := hid hgood;clear hstop hgood hem;go_wp2_with fail;refine (Pr w2.heap.size r wr HRI.out.rd (by omega)).mono ?_;rintro q w3 ⟨rfl, hr3, hg3⟩;have hwl := Ar.Kp r;have HR3 := hid (HRI.out.eat hg3 hr3 (by omega));have hs3 := HR3.out.bel.size;have HM3 := hid (HMF.out.below HR3.out.bel);clear hr3 hg3;rcases HM3.out.get (Ar.word r).1 with ⟨f, hf, hnm, hlk⟩ | ⟨hno, hlk⟩
          · obtain ⟨i, hLi⟩ := List.mem_iff_getElem?.1 hf
            have hi := (List.getElem?_eq_some_iff.1 hLi).1;have hAF := HA1.out.at hLi;rw [Nat.zero_add] at hAF;obtain ⟨⟨nk, hnk, hnn, hS⟩, hBx⟩ := hAF;have hi29 : i < 29 := by rw [HL1.out] at hi; exact hi
            have hrnd := hsp.out.trans (Ar.Lh HST.out (show Ar.NK.findIdx? (fun p => decide (p.1 = (Ar.word r).1)) = some i from by rw [← hnm, hnn]; exact MJ hnk));have hk0 : ((Ar.NK[i]?).map (·.2)).getD .num = nk.2 := by rw [hnk]; rfl
            have hfl := Nq nk (List.mem_of_getElem? hnk);rw [← hnn] at hfl;have HWN := hid (Ar.GO (show Ar.NK.findIdx? (fun p => decide (p.1 = (Ar.word r).1)) = some i from by rw [← hnm, hnn]; exact MJ hnk)).1;have hEN := hS.entG;have HS := hid hS;have HBXI := hid hBx;have HRN := hid hrnd;have HK0 := hid hk0;have hq1 := Ay f.nm [115, 116, 97, 116, 101];have hq2 := Ay f.nm [116, 104, 114, 101, 97, 100];have hfv : f.vals.toArray = #[.string (bstr f.nm), .func (.func f.F) #[] f.cf, .func (.func f.G) #[] f.cg] := rfl;rw [hfv] at hlk;have HNM := hid hnm;rw [hnm] at hq1 hq2 hfl hlk;clear hfv hnm;clear hnk hnn hS hBx hrnd hk0 hLi hi hf;by_cases hflag : Ar.isFlg nk.2 = true
            · have hf1 := hfl.1 hflag
              have HGA := hid (World.grownBy_alloc w3 (.cells #[.string (bstr (Ar.word r).1), .func (.func f.F) #[] f.cf, .func (.func f.G) #[] f.cg] 82) (some w2.heap.size));have HR3A := hid (HR3.out.eat HGA.out (HR3.out.rd.keep (World.grownBy_alloc w3 (.cells #[.string (bstr (Ar.word r).1), .func (.func f.F) #[] f.cf, .func (.func f.G) #[] f.cg] 82) none) (by simp)) HR3.out.len);have hbk3 := (Blk.new w3 82 #[.string (bstr (Ar.word r).1), .func (.func f.F) #[] f.cf, .func (.func f.G) #[] f.cg]);have hcG := hbk3.cell 2;rw [show (#[.string (bstr (Ar.word r).1), .func (.func f.F) #[] f.cf, .func (.func f.G) #[] f.cg] : Array Value)[2]? = some (.func (.func f.G) #[] f.cg) from rfl] at hcG;have hd1 := HR3A.out.rd.c1;have hw2 : (Ar.word r).2.2 = false := HGD.out;rw [hw2] at hd1;have HB4 := hid hw2;have HF2 : Hid ((if Ar.isFlg nk.2 then (Ar.word r).2 else Ar.eat [61] (Ar.word r).2) = (Ar.word r).2) := hid (if_pos hflag);clear hbk3 hflag hfl hw2;rcases hf1 with hw | hw
              · have hq1' : ((bstr (Ar.word r).1).toList == [115, 116, 97, 116, 101]) = true := by rw [hq1, hw]; rfl
                clear hq1 hq2 hw;have HQ := hid (Fi (e := e) HK0.out HF2.out HB4.out);have HBX4 : Hid (f.Boxed _ ((w3.alloc (.cells #[.string (bstr (Ar.word r).1), .func (.func f.F) #[] f.cf, .func (.func f.G) #[] f.cg] 82)))) := hid (fun p hp => ⟨(HBXI.out p hp).1, (Bo HR3A.out.bel none).cell (HG.out.cell (HBXI.out p hp).2 (by have := (HBXI.out p hp).1; simp only [World.size_alloc] at this; intro e; injection e with e; omega)) (by simp)⟩);have hb3s : 3 ≤ w.heap.size := AV HRY.out.2.2.choose_spec.choose_spec;have HRY4 : Hid (Ready ((w3.alloc (.cells #[.string (bstr (Ar.word r).1), .func (.func f.F) #[] f.cf, .func (.func f.G) #[] f.cg] 82)))) := hid ((HRY.out.below HBW.out).below HR3A.out.bel);have hlen4 := HR3A.out.len;go_wp2_with fail;refine (HS.out.reads _ _ w2.heap.size (w2.heap.size + 1) ((Ar.word r).2) cells HBX4.out HR3A.out.rd (by omega) HRY4.out (by omega) HR3A.out.blk (by omega) (by rw [HR3A.out.ev.size]; exact hi29)).mono ?_;rintro q w6 ⟨rfl, hR6⟩;have hlk6 := Ar.FF nk.2 ((Ar.word r).2);obtain ⟨cells6, hri6⟩ := HR3A.out.reads (by have := HR3A.out.blk.lt; omega) hi29 HK0.out (F9 _ _) (Ar.F0 nk.2 ((Ar.word r).2) s.size (by omega) hs) (by omega) hR6;have HR6 := hid hri6;clear hri6 hR6;have hd0 := HR6.out.rd.c0;by_cases hnil : ((Ar.readK nk.2 ((Ar.word r).2)).2).1 = []
                · have hem := FB hnil
                  have HQ2 : Hid (Ar.CB i e r = (e.set i (Ar.readK nk.2 ((Ar.word r).2)).1, (Ar.readK nk.2 ((Ar.word r).2)).2)) := hid (by rw [HQ.out, if_pos hnil]);clear hnil;go_wp2_with fail
                  go_roundw
                  case rel => exact ⟨e.set i (Ar.readK nk.2 ((Ar.word r).2)).1, (Ar.readK nk.2 ((Ar.word r).2)).2, cells6, hid (by rw [HRN.out, HQ2.out]), HR6.out⟩
                  case measure =>
                    show rdLen _ w2.heap.size < rdLen _ w2.heap.size;rw [Ba HR6.out.rd, Ba HRI.out.rd];have := Ar.Cn (i := i) (e := e) HWN.out;rwa [HQ2.out] at this
                · have hem := Fx hnil
                  have HQ2 : Hid (Ar.CB i e r = (e.set i (Ar.readK nk.2 ((Ar.word r).2)).1, Ar.eat [32] ((Ar.readK nk.2 ((Ar.word r).2)).2))) := hid (by rw [HQ.out, if_neg hnil]);clear hnil;have hlen := HR6.out.len;go_wp2_with fail;refine (BK w2.heap.size ⟨#[32]⟩ _ _ HR6.out.rd (by omega)).mono ?_;rintro q w9 ⟨rfl, hr9, hg9⟩;rw [show (⟨#[32]⟩ : ByteArray).data.toList = [32] from rfl] at hr9;have hel9 := Ar.Bn [32] ((Ar.readK nk.2 ((Ar.word r).2)).2);have HR9 := hid (HR6.out.eat hg9 hr9 (by omega));clear hr9 hg9;go_wp2_with fail
                  go_roundw
                  case rel => exact ⟨e.set i (Ar.readK nk.2 ((Ar.word r).2)).1, _, cells6, hid (by rw [HRN.out, HQ2.out]), HR9.out⟩
                  case measure =>
                    show rdLen _ w2.heap.size < rdLen _ w2.heap.size;rw [Ba HR9.out.rd, Ba HRI.out.rd];have := Ar.Cn (i := i) (e := e) HWN.out;rwa [HQ2.out] at this
              · have hq1' : ((bstr (Ar.word r).1).toList == [115, 116, 97, 116, 101]) = false := by rw [hq1, hw]; rfl
                have hq2' : ((bstr (Ar.word r).1).toList == [116, 104, 114, 101, 97, 100]) = true := by rw [hq2, hw]; rfl
                clear hq1 hq2 hw;have HQ := hid (Fi (e := e) HK0.out HF2.out HB4.out);have HBX4 : Hid (f.Boxed _ ((w3.alloc (.cells #[.string (bstr (Ar.word r).1), .func (.func f.F) #[] f.cf, .func (.func f.G) #[] f.cg] 82)))) := hid (fun p hp => ⟨(HBXI.out p hp).1, (Bo HR3A.out.bel none).cell (HG.out.cell (HBXI.out p hp).2 (by have := (HBXI.out p hp).1; simp only [World.size_alloc] at this; intro e; injection e with e; omega)) (by simp)⟩);have hb3s : 3 ≤ w.heap.size := AV HRY.out.2.2.choose_spec.choose_spec;have HRY4 : Hid (Ready ((w3.alloc (.cells #[.string (bstr (Ar.word r).1), .func (.func f.F) #[] f.cf, .func (.func f.G) #[] f.cg] 82)))) := hid ((HRY.out.below HBW.out).below HR3A.out.bel);have hlen4 := HR3A.out.len;go_wp2_with fail;refine (HS.out.reads _ _ w2.heap.size (w2.heap.size + 1) ((Ar.word r).2) cells HBX4.out HR3A.out.rd (by omega) HRY4.out (by omega) HR3A.out.blk (by omega) (by rw [HR3A.out.ev.size]; exact hi29)).mono ?_;rintro q w6 ⟨rfl, hR6⟩;have hlk6 := Ar.FF nk.2 ((Ar.word r).2);obtain ⟨cells6, hri6⟩ := HR3A.out.reads (by have := HR3A.out.blk.lt; omega) hi29 HK0.out (F9 _ _) (Ar.F0 nk.2 ((Ar.word r).2) s.size (by omega) hs) (by omega) hR6;have HR6 := hid hri6;clear hri6 hR6;have hd0 := HR6.out.rd.c0;by_cases hnil : ((Ar.readK nk.2 ((Ar.word r).2)).2).1 = []
                · have hem := FB hnil
                  have HQ2 : Hid (Ar.CB i e r = (e.set i (Ar.readK nk.2 ((Ar.word r).2)).1, (Ar.readK nk.2 ((Ar.word r).2)).2)) := hid (by rw [HQ.out, if_pos hnil]);clear hnil;go_wp2_with fail
                  go_roundw
                  case rel => exact ⟨e.set i (Ar.readK nk.2 ((Ar.word r).2)).1, (Ar.readK nk.2 ((Ar.word r).2)).2, cells6, hid (by rw [HRN.out, HQ2.out]), HR6.out⟩
                  case measure =>
                    show rdLen _ w2.heap.size < rdLen _ w2.heap.size;rw [Ba HR6.out.rd, Ba HRI.out.rd];have := Ar.Cn (i := i) (e := e) HWN.out;rwa [HQ2.out] at this
                · have hem := Fx hnil
                  have HQ2 : Hid (Ar.CB i e r = (e.set i (Ar.readK nk.2 ((Ar.word r).2)).1, Ar.eat [32] ((Ar.readK nk.2 ((Ar.word r).2)).2))) := hid (by rw [HQ.out, if_neg hnil]);clear hnil;have hlen := HR6.out.len;go_wp2_with fail;refine (BK w2.heap.size ⟨#[32]⟩ _ _ HR6.out.rd (by omega)).mono ?_;rintro q w9 ⟨rfl, hr9, hg9⟩;rw [show (⟨#[32]⟩ : ByteArray).data.toList = [32] from rfl] at hr9;have hel9 := Ar.Bn [32] ((Ar.readK nk.2 ((Ar.word r).2)).2);have HR9 := hid (HR6.out.eat hg9 hr9 (by omega));clear hr9 hg9;go_wp2_with fail
                  go_roundw
                  case rel => exact ⟨e.set i (Ar.readK nk.2 ((Ar.word r).2)).1, _, cells6, hid (by rw [HRN.out, HQ2.out]), HR9.out⟩
                  case measure =>
                    show rdLen _ w2.heap.size < rdLen _ w2.heap.size;rw [Ba HR9.out.rd, Ba HRI.out.rd];have := Ar.Cn (i := i) (e := e) HWN.out;rwa [HQ2.out] at this
            · have hnf : (Ar.word r).1 ≠ [115, 116, 97, 116, 101] ∧ (Ar.word r).1 ≠ [116, 104, 114, 101, 97, 100] := ⟨fun h => hflag (hfl.2 (.inl h)), fun h => hflag (hfl.2 (.inr h))⟩
              have hq1' : ((bstr (Ar.word r).1).toList == [115, 116, 97, 116, 101]) = false := by rw [hq1]; exact beq_eq_false_iff_ne.2 hnf.1
              have hq2' : ((bstr (Ar.word r).1).toList == [116, 104, 114, 101, 97, 100]) = false := by rw [hq2]; exact beq_eq_false_iff_ne.2 hnf.2
              clear hq1 hq2 hfl hnf;have HGA := hid (World.grownBy_alloc w3 (.cells #[.string (bstr (Ar.word r).1), .func (.func f.F) #[] f.cf, .func (.func f.G) #[] f.cg] 82) (some w2.heap.size));have HR3A := hid (HR3.out.eat HGA.out (HR3.out.rd.keep (World.grownBy_alloc w3 (.cells #[.string (bstr (Ar.word r).1), .func (.func f.F) #[] f.cf, .func (.func f.G) #[] f.cg] 82) none) (by simp)) HR3.out.len);have hwl3 := HR3.out.len;go_wp2_with fail;refine (BK w2.heap.size ⟨#[61]⟩ (Ar.word r).2 _ HR3A.out.rd (by omega)).mono ?_;rintro q w4 ⟨rfl, hr4, hg4⟩;rw [show (⟨#[61]⟩ : ByteArray).data.toList = [61] from rfl] at hr4;have hel := Ar.Bn [61] (Ar.word r).2;have HR4 := hid (HR3A.out.eat hg4 hr4 (by omega));clear hr4;have hlt3 := HR3.out.blk.lt;have hbk3 := (Blk.new w3 82 #[.string (bstr (Ar.word r).1), .func (.func f.F) #[] f.cf, .func (.func f.G) #[] f.cg]).grown hg4 (by intro e; injection e with e; omega);have hcG := hbk3.cell 2;rw [show (#[.string (bstr (Ar.word r).1), .func (.func f.F) #[] f.cf, .func (.func f.G) #[] f.cg] : Array Value)[2]? = some (.func (.func f.G) #[] f.cg) from rfl] at hcG;have hd1 := HR4.out.rd.c1;have HEQ : Hid (∃ q, q = Ar.eat [61] (Ar.word r).2) := hid ⟨_, rfl⟩;clear hbk3 hg4 hlk;generalize hr2 : Ar.eat [61] (Ar.word r).2 = r2 at *;have HF2 : Hid ((if Ar.isFlg nk.2 then (Ar.word r).2 else Ar.eat [61] (Ar.word r).2) = r2) := hid (by rw [if_neg hflag]; exact hr2);clear hr2 hflag HEQ;by_cases hb4 : r2.2 = true
              · have HQ := hid (MC (e := e) HK0.out HF2.out hb4)
                rw [hb4] at hd1;clear hb4;have hd0 := HR4.out.rd.c0;by_cases hnil : (r2).1 = []
                · have hem := FB hnil
                  have HQ2 : Hid (Ar.CB i e r = (e, r2)) := hid (by rw [HQ.out, if_pos hnil]);clear hnil;go_wp2_with fail
                  go_roundw
                  case rel => exact ⟨e, r2, cells, hid (by rw [HRN.out, HQ2.out]), HR4.out⟩
                  case measure =>
                    show rdLen _ w2.heap.size < rdLen _ w2.heap.size;rw [Ba HR4.out.rd, Ba HRI.out.rd];have := Ar.Cn (i := i) (e := e) HWN.out;rwa [HQ2.out] at this
                · have hem := Fx hnil
                  have HQ2 : Hid (Ar.CB i e r = (e, Ar.eat [32] (r2))) := hid (by rw [HQ.out, if_neg hnil]);clear hnil;have hlen := HR4.out.len;go_wp2_with fail;refine (BK w2.heap.size ⟨#[32]⟩ _ _ HR4.out.rd (by omega)).mono ?_;rintro q w9 ⟨rfl, hr9, hg9⟩;rw [show (⟨#[32]⟩ : ByteArray).data.toList = [32] from rfl] at hr9;have hel9 := Ar.Bn [32] (r2);have HR9 := hid (HR4.out.eat hg9 hr9 (by omega));clear hr9 hg9;go_wp2_with fail
                  go_roundw
                  case rel => exact ⟨e, _, cells, hid (by rw [HRN.out, HQ2.out]), HR9.out⟩
                  case measure =>
                    show rdLen _ w2.heap.size < rdLen _ w2.heap.size;rw [Ba HR9.out.rd, Ba HRI.out.rd];have := Ar.Cn (i := i) (e := e) HWN.out;rwa [HQ2.out] at this
              · have hb4' : r2.2 = false := by simpa using hb4
                rw [hb4'] at hd1;have HB4 := hid hb4';clear hb4 hb4';have HQ := hid (Fi (e := e) HK0.out HF2.out HB4.out);have HBX4 : Hid (f.Boxed _ (w4)) := hid (fun p hp => ⟨(HBXI.out p hp).1, (Bo HR4.out.bel none).cell (HG.out.cell (HBXI.out p hp).2 (by have := (HBXI.out p hp).1; simp only [World.size_alloc] at this; intro e; injection e with e; omega)) (by simp)⟩);have hb3s : 3 ≤ w.heap.size := AV HRY.out.2.2.choose_spec.choose_spec;have HRY4 : Hid (Ready (w4)) := hid ((HRY.out.below HBW.out).below HR4.out.bel);have hlen4 := HR4.out.len;go_wp2_with fail;refine (HS.out.reads _ _ w2.heap.size (w2.heap.size + 1) (r2) cells HBX4.out HR4.out.rd (by omega) HRY4.out (by omega) HR4.out.blk (by omega) (by rw [HR4.out.ev.size]; exact hi29)).mono ?_;rintro q w6 ⟨rfl, hR6⟩;have hlk6 := Ar.FF nk.2 (r2);obtain ⟨cells6, hri6⟩ := HR4.out.reads (by have := HR4.out.blk.lt; omega) hi29 HK0.out (F9 _ _) (Ar.F0 nk.2 (r2) s.size (by omega) hs) (by omega) hR6;have HR6 := hid hri6;clear hri6 hR6;have hd0 := HR6.out.rd.c0;by_cases hnil : ((Ar.readK nk.2 (r2)).2).1 = []
                · have hem := FB hnil
                  have HQ2 : Hid (Ar.CB i e r = (e.set i (Ar.readK nk.2 (r2)).1, (Ar.readK nk.2 (r2)).2)) := hid (by rw [HQ.out, if_pos hnil]);clear hnil;go_wp2_with fail
                  go_roundw
                  case rel => exact ⟨e.set i (Ar.readK nk.2 (r2)).1, (Ar.readK nk.2 (r2)).2, cells6, hid (by rw [HRN.out, HQ2.out]), HR6.out⟩
                  case measure =>
                    show rdLen _ w2.heap.size < rdLen _ w2.heap.size;rw [Ba HR6.out.rd, Ba HRI.out.rd];have := Ar.Cn (i := i) (e := e) HWN.out;rwa [HQ2.out] at this
                · have hem := Fx hnil
                  have HQ2 : Hid (Ar.CB i e r = (e.set i (Ar.readK nk.2 (r2)).1, Ar.eat [32] ((Ar.readK nk.2 (r2)).2))) := hid (by rw [HQ.out, if_neg hnil]);clear hnil;have hlen := HR6.out.len;go_wp2_with fail;refine (BK w2.heap.size ⟨#[32]⟩ _ _ HR6.out.rd (by omega)).mono ?_;rintro q w9 ⟨rfl, hr9, hg9⟩;rw [show (⟨#[32]⟩ : ByteArray).data.toList = [32] from rfl] at hr9;have hel9 := Ar.Bn [32] ((Ar.readK nk.2 (r2)).2);have HR9 := hid (HR6.out.eat hg9 hr9 (by omega));clear hr9 hg9;go_wp2_with fail
                  go_roundw
                  case rel => exact ⟨e.set i (Ar.readK nk.2 (r2)).1, _, cells6, hid (by rw [HRN.out, HQ2.out]), HR9.out⟩
                  case measure =>
                    show rdLen _ w2.heap.size < rdLen _ w2.heap.size;rw [Ba HR9.out.rd, Ba HRI.out.rd];have := Ar.Cn (i := i) (e := e) HWN.out;rwa [HQ2.out] at this
          · have HP := hid (Mo (hsp.out.trans (Ar.MD HST.out (Q7 HA1.out HL1.out hno))))
            have HK3 : Hid (Blk w3 w.heap.size 40 zeroEv) := hid (HKW.out.below HR3.out.bel (by omega));have HB3 : Hid (Below w.heap.size w w3) := hid (HBW.out.trans (HR3.out.bel.mono (by omega)));clear hno;go_wp2_with (refine wpList_store_row rfl 40 _ _ rfl w.heap.size zeroEv rfl rfl 40 zeroEv (HK3.out.alloc _) Aj rfl Br ?_);exact bodyPost_ret (Ac rfl _ _ w.heap.size _ zeroEv _ rfl (setRow_heap _ w.heap.size zeroEv zeroEv 40 (0, 0) (HK3.out.alloc _)) Tryz.underlying40 rfl Aj) rfl ⟨.inr ⟨HP.out, rfl⟩, below_setRow (HB3.out.alloc HB3.out.size _) (Nat.le_refl _) _⟩
end Go.Proofs.YteadlcncnhbmjaaGreatDoor
