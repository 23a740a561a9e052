/- The texts Yc, Us, Ut of this proof, one behind the other. -/
import Derived.Deep.QuietTactic
import Derived.Laws.StructEq
import Derived.Test.YtchkiegehejfmaaGreatDoorMsak
import Derived.Test.YtchkiegehejfmaaGreatDoorMsaf
set_option linter.unusedSimpArgs false
set_option maxHeartbeats 16000000
set_option maxRecDepth 100000
set_option linter.unusedVariables false
namespace Pr
def hdT (r : List Tk) : Tk := r.headD ⟨0, []⟩
theorem headIs_hd (w : Str) (r : List Tk) : headIs w r = ((hdT r).form == 1 && (hdT r).text == w) := by
 cases r with
 | nil => rfl
 | cons t r => rfl
theorem takeF_yes {f : Int} {r : List Tk} (hf : f ≠ 0) (h : (hdT r).form = f) : takeF f r = some ((hdT r).text, r.tail) := by
 cases r with
 | nil => exact absurd h (fun e => hf e.symm)
 | cons t r => exact if_pos h
theorem takeF_no {f : Int} {r : List Tk} (h : (hdT r).form ≠ f) : takeF f r = none := by
 cases r with
 | nil => rfl
 | cons t r => exact if_neg h
theorem hd_at {L : List Tk} {i : Nat} (hi : i ≤ L.length) : (L ++ [⟨0, []⟩])[i]? = some (hdT (L.drop i)) := by
 rcases Nat.lt_or_ge i L.length with h | h
 ·rw [List.getElem?_append_left h, List.getElem?_eq_getElem h, List.drop_eq_getElem_cons h];rfl
 ·have : i = L.length := by omega
  subst this;rw [List.getElem?_append_right (Nat.le_refl _), Nat.sub_self, List.drop_length];rfl
theorem hd_lt {L : List Tk} {i : Nat} (h : (hdT (L.drop i)).form ≠ 0) : i < L.length := by
 rcases Nat.lt_or_ge i L.length with h' | h'
 ·exact h'
 ·rw [List.drop_eq_nil_of_le h'] at h;exact absurd rfl h
end Pr
namespace Go.Proofs.YtchkiegehejfmaaGreatDoor
open Go.RowKit Go.Lib
theorem G5 : ∀ (L : List Pr.Tk) (i : Nat) (t : Pr.Tk), L[i]? = some t → (tkL L)[i * 2]? = some (.int .i64 t.form) ∧ (tkL L)[i * 2 + 1]? = some (.string (bstr t.text))
 | [], i, t, h => by cases h
 | x :: L, 0, t, h => by injection h with h; subst h; exact ⟨rfl, rfl⟩
 | x :: L, i + 1, t, h => by
  have := G5 L i t h;rw [show (i + 1) * 2 = i * 2 + 2 by omega];exact this
structure PSt (w : World) (g : Nat) (A : Option Addr) (cap : Nat) (L : List Pr.Tk) (i o : Nat) : Prop where
 blk : Blk w g 88 #[.slice A (L.length + 1) cap, .int .i64 (i : Int), .int .i64 (o : Int)]
 row : Rd w A ((L.length + 1) * 2) (tkL (L ++ [⟨0, []⟩]))
 far : ∀ a, A = some a → a.block ≠ g
section
variable {w w' : World} {g : Nat} {A : Option Addr} {cap : Nat} {L : List Pr.Tk} {i o : Nat}
theorem PSt.lt (h : PSt w g A cap L i o) : g < w.heap.size := h.blk.lt
theorem PSt.some_ (h : PSt w g A cap L i o) : ∃ b off, A = some ⟨b, off, none⟩ := by
 obtain ⟨hl, hr⟩ := h.row;have hlen : (tkL (L ++ [⟨0, []⟩])).length = (L.length + 1) * 2 := hl;obtain ⟨b, off, hA, _⟩ := hr 0 _ (List.getElem?_eq_getElem (by rw [hlen]; omega));exact ⟨b, off, hA⟩
theorem PSt.tok (h : PSt w g A cap L i o) (hi : i ≤ L.length) : ∃ b off, A = some ⟨b, off, none⟩ ∧ w.cell? ⟨b, off + i * 2, none⟩ = some (.int .i64 (Pr.hdT (L.drop i)).form) ∧ w.cell? ⟨b, off + i * 2 + 1, none⟩ = some (.string (bstr (Pr.hdT (L.drop i)).text)) := by
 obtain ⟨b, off, rfl⟩ := h.some_;obtain ⟨h1, h2⟩ := G5 _ _ _ (Pr.hd_at hi);obtain ⟨b1, o1, e1, c1⟩ := h.row.2 _ _ h1;obtain ⟨b2, o2, e2, c2⟩ := h.row.2 _ _ h2;injection e1 with e1;injection e1 with e1 e1' _;injection e2 with e2;injection e2 with e2 e2' _;subst e1 e1' e2 e2';exact ⟨b, off, rfl, c1, c2⟩
theorem A3 {w w' : World} {A : Option Addr} {n : Nat} {vs : List Value} (h : Rd w A n vs) (hb : ∀ a, A = some a → a.block < w.heap.size → w'.heap[a.block]? = w.heap[a.block]?) : Rd w' A n vs := by
 refine ⟨h.1, fun j v hj => ?_⟩;obtain ⟨b, off, rfl, hc⟩ := h.2 j v hj;refine ⟨b, off, rfl, ?_⟩;rw [World.cell?_of_block (w := w) (a := ⟨b, off + j, none⟩) (hb ⟨b, off, none⟩ rfl (show b < w.heap.size from An hc))];exact hc
theorem PSt.below {B : Nat} (h : PSt w g A cap L i o) (hb : Below B w w') (hB : w.heap.size ≤ B) : PSt w' g A cap L i o :=
 ⟨h.blk.below hb (Nat.lt_of_lt_of_le h.lt hB), A3 h.row (fun a ha hl => hb.block _ (by omega)), h.far⟩
theorem PSt.bel (h : PSt w g A cap L i o) (hb : Below w.heap.size w w') : PSt w' g A cap L i o := h.below hb (Nat.le_refl _)
theorem PSt.drewN (h : PSt w g A cap L i o) (q : Nat) : PSt (w.drewN q) g A cap L i o := ⟨h.blk, h.row, h.far⟩
theorem PSt.set1 (h : PSt w g A cap L i o) (n : Nat) : PSt (w.setCell ⟨g, 1, none⟩ (.int .i64 (n : Int))) g A cap L n o :=
 ⟨h.blk.set_ 1 _, A3 h.row (fun a ha hl => Below.heap_setCell _ _ _ _ (h.far a ha)), h.far⟩
theorem PSt.set2 (h : PSt w g A cap L i o) (n : Nat) : PSt (w.setCell ⟨g, 2, none⟩ (.int .i64 (n : Int))) g A cap L i n :=
 ⟨h.blk.set_ 2 _, A3 h.row (fun a ha hl => Below.heap_setCell _ _ _ _ (h.far a ha)), h.far⟩
end
theorem Bf (w : World) (g i : Nat) (u : Value) : w.grownBy (w.setCell ⟨g, i, none⟩ u) (some g) :=
 ⟨rfl, rfl, rfl, by simp [World.setCell], fun k hk hne => Below.heap_setCell _ _ _ _ (fun e => hne (by rw [e]))⟩
theorem As {w w' : World} {g : Nat} (h : Below w.heap.size w w') : w.grownBy w' (some g) := ⟨h.os, h.tape, h.output, h.size, fun k hk _ => h.block k hk⟩
theorem At {w w' w'' : World} {g : Nat} (h : w.grownBy w' (some g)) (h2 : w'.grownBy w'' (some g)) : w.grownBy w'' (some g) :=
 ⟨h2.os.trans h.os, h2.tape.trans h.tape, h2.output.trans h.output, Nat.le_trans h.size h2.size, fun k hk hne => (h2.block k (Nat.lt_of_lt_of_le hk h.size) hne).trans (h.block k hk hne)⟩
theorem AV (w : World) (g q : Nat) : w.grownBy (w.drewN q) (some g) := As (below_drewN (Below.refl _ _) q)
theorem F9 : Tryz.prog.underlying 92 = some (.struct (Tryz.prog.fieldsOf 92)) := by kernel_rfl
theorem Hu : Tryz.prog.stoodInHeld 92 = false := by kernel_rfl
theorem Io : (Tryz.prog.fieldsOf 92).toList.map (fun f => (f.name, f.type, f.offset)) = [("form", 3, 0), ("text", 9, 1)] := by kernel_rfl
theorem Is : ∃ a b : Field, (Tryz.prog.fieldsOf 92).toList = [a, b] ∧ a.name ≠ "_" ∧ b.name ≠ "_" ∧ a.type = 3 ∧ b.type = 9 ∧ a.offset = 0 ∧ b.offset = 1 := by
 have h := Io;generalize (Tryz.prog.fieldsOf 92).toList = l at h;have hl : l.length = 2 := by have := congrArg List.length h; rwa [List.length_map] at this
 obtain ⟨a, b, rfl⟩ : ∃ a b, l = [a, b] := by
  match l, hl with
  | [a, b], _ => exact ⟨a, b, rfl⟩
 simp only [List.map_cons, List.map_nil, List.cons.injEq, Prod.mk.injEq, and_true] at h;obtain ⟨⟨a1, a2, a3⟩, b1, b2, b3⟩ := h;exact ⟨a, b, rfl, by rw [a1]; decide, by rw [b1]; decide, a2, b2, a3, b3⟩
theorem GP : Tryz.prog.eqGuardType Tryz.prog.depth 92 = false := by kernel_rfl
theorem Hw (w : World) (f g : Int) (t s : ByteArray) : (binOp .eql 92 (.agg #[.int .i64 f, .string t]) (.agg #[.int .i64 g, .string s])).run Tryz.prog w = .ok (.bool (f == g && t.toList == s.toList)) w := by
 obtain ⟨a, b, hab, ha, hb, hat, hbt, hao, hbo⟩ := Is;rw [run_eql_struct, show (10000 : Nat) = 9999 + 1 from rfl, run_equalIn_agg w 9999 92 _ _ F9 Hu, hab];have hi : Tryz.prog.underlying 3 = some (.int .i64) := by kernel_rfl
 have hs : Tryz.prog.underlying 9 = some .string := by kernel_rfl
 have ei := fun (w : World) (x y : Int) => run_equalIn_int (P := Tryz.prog) w 9998 3 .i64 .i64 x y hi
 have es := fun (w : World) (x y : ByteArray) => run_equalIn_string (P := Tryz.prog) w 9998 9 x y hs
 have p0 : ∀ (w : World) (f : Int) (t : ByteArray), (part 3 #[.int .i64 f, .string t] 0).run Tryz.prog w = .ok (.int .i64 f) w := fun _ _ _ => by kernel_rfl
 have p1 : ∀ (w : World) (f : Int) (t : ByteArray), (part 9 #[.int .i64 f, .string t] 1).run Tryz.prog w = .ok (.string t) w := fun _ _ _ => by kernel_rfl
 simp only [Op.eqFields, hat, hbt, hao, hbo, ha, hb, if_true, ne_eq, not_false_eq_true, Sem.run_bind, p0, p1, Result.andThen_ok, ei]
 cases hfg : f == g with
 | false => simp [Sem.run_pure]
 | true =>
  simp only [Bool.not_true, Bool.false_eq_true, if_false, Sem.run_bind, p0, p1, Result.andThen_ok, es];cases hts : t.toList == s.toList <;> simp [Sem.run_pure]
theorem FE (s : List UInt8) (g : Nat) (A : Option Addr) (cap : Nat) (L : List Pr.Tk) (i o : Nat) (w : World) (h : PSt w g A cap L i o) (hi : i ≤ L.length) (hL : L.length ≤ 1000000) (hs : s.length ≤ 1000) :
  Calls Tryz.prog 141 #[.pointer (some ⟨g, 0, none⟩), .string (bstr s)] w fun e w' => e = .returned (.bool (Pr.headIs s (L.drop i))) ∧ ∃ q, w' = w.drewN q := by
 obtain ⟨b, off, rfl, hc1, hc2⟩ := h.tok hi;have hb0 := h.blk.cell 0;have hb1 := h.blk.cell 1;simp only [List.getElem?_toArray, List.getElem?_cons_succ, List.getElem?_cons_zero] at hb0 hb1;have HH := hid (Pr.headIs_hd s (L.drop i));generalize Pr.headIs s (L.drop i) = R at *;generalize (Pr.hdT (L.drop i)).form = f at *;generalize (Pr.hdT (L.drop i)).text = t at *;clear h;go_enter Tryz.func141, Tryz.ntmps141;go_wp2_with fail;have hI0 : (0 : Int) ≤ (i : Int) := by omega
 have hI1 : (i : Int) < ((L.length : Int) + 1) := by omega
 have hq := fun w => Hw w f 1 (bstr t) (bstr s)
 have hg := GP;have hcmp : ((bstr t).toList == (bstr s).toList) = (t == s) := by rw [AD, Lib.toList_data]; rfl
 go_quiet (fail)
 go_wp2_with fail;go_ret;exact ⟨congrArg (fun b => Ending.returned (.bool b)) HH.out.symm, _, rfl⟩
theorem DS (s : List UInt8) (g : Nat) (A : Option Addr) (cap : Nat) (L : List Pr.Tk) (i o : Nat) (w : World) (h : PSt w g A cap L i o) (hi : i ≤ L.length) (hL : L.length ≤ 1000000) (hs : s.length ≤ 1000) :
  Calls Tryz.prog 110 #[.pointer (some ⟨g, 0, none⟩), .string (bstr s)] w fun e w' => e = .returned (.bool (Pr.headIs s (L.drop i))) ∧ PSt w' g A cap L (if Pr.headIs s (L.drop i) then i + 1 else i) o ∧ w.grownBy w' (some g) := by
 have hb1 := h.blk.cell 1;simp only [List.getElem?_toArray, List.getElem?_cons_succ, List.getElem?_cons_zero] at hb1;have hf1 := h.blk.frozen 1;have HP := hid h;have HC := hid (FE s g A cap L i o w h hi hL hs)
 cases hR : Pr.headIs s (L.drop i) with
 | true =>
  rw [hR] at HC;clear h hR;go_enter Tryz.func110, Tryz.ntmps110;go_wp2_with (go_at_call 141; refine HC.out.mono ?_; rintro e w' ⟨rfl, q, rfl⟩);go_ret;exact ⟨rfl, (HP.out.drewN q).set1 (i + 1), At (AV w g q) (Bf _ _ _ _)⟩
 | false =>
  rw [hR] at HC;clear h hR;go_enter Tryz.func110, Tryz.ntmps110;go_wp2_with (go_at_call 141; refine HC.out.mono ?_; rintro e w' ⟨rfl, q, rfl⟩);go_ret;exact ⟨rfl, HP.out.drewN q, AV w g q⟩
theorem CC (s : List UInt8) (g : Nat) (A : Option Addr) (cap : Nat) (L : List Pr.Tk) (i o : Nat) (w : World) (h : PSt w g A cap L i o) (hi : i ≤ L.length) (hL : L.length ≤ 1000000) (hs : s.length ≤ 1000) :
  Calls Tryz.prog 61 #[.pointer (some ⟨g, 0, none⟩), .string (bstr s)] w fun e w' => (if Pr.headIs s (L.drop i) then e = .returned (.tuple #[]) ∧ PSt w' g A cap L (i + 1) o else e = .panicked brk) ∧ w.grownBy w' (some g) := by
 have HC := hid (DS s g A cap L i o w h hi hL hs)
 cases hR : Pr.headIs s (L.drop i) with
 | true =>
  rw [hR] at HC;simp only [if_true];clear h hR;go_enter Tryz.func61, Tryz.ntmps61;go_wp2_with (go_at_call 110; refine HC.out.mono ?_; rintro e w' ⟨rfl, hp, hg⟩; have HP := hid hp; have HG := hid hg; clear hp hg)
  go_end0
  exact ⟨⟨rfl, HP.out⟩, HG.out⟩
 | false =>
  rw [hR] at HC;simp only [Bool.false_eq_true, if_false];clear h hR;go_enter Tryz.func61, Tryz.ntmps61;go_wp2_with (go_at_call 110; refine HC.out.mono ?_; rintro e w' ⟨rfl, hp, hg⟩; have HP := hid hp; have HG := hid hg; clear hp hg);exact ⟨rfl, rfl, HG.out⟩
theorem Bg (f : Int) (g : Nat) (A : Option Addr) (cap : Nat) (L : List Pr.Tk) (i o : Nat) (w : World) (h : PSt w g A cap L i o) (hi : i ≤ L.length) (hL : L.length ≤ 1000000) :
  Calls Tryz.prog 62 #[.pointer (some ⟨g, 0, none⟩), .int .i64 f] w fun e w' => (if (Pr.hdT (L.drop i)).form = f then e = .returned (.string (bstr (Pr.hdT (L.drop i)).text)) ∧ PSt w' g A cap L (i + 1) o else e = .panicked brk) ∧ w.grownBy w' (some g) := by
 obtain ⟨b, off, rfl, hc1, hc2⟩ := h.tok hi;have hb0 := h.blk.cell 0;have hb1 := h.blk.cell 1;simp only [List.getElem?_toArray, List.getElem?_cons_succ, List.getElem?_cons_zero] at hb0 hb1;have hf1 := h.blk.frozen 1;have HP := hid h;have hlt := h.lt;have hI0 : (0 : Int) ≤ (i : Int) := by omega
 have hI1 : (i : Int) < ((L.length : Int) + 1) := by omega
 have hltb : b < w.heap.size := An hc1;generalize (Pr.hdT (L.drop i)).form = f1 at *;generalize (Pr.hdT (L.drop i)).text = t at *;clear h;by_cases hf : f1 = f
 ·subst hf;simp only [if_true];go_enter Tryz.func62, Tryz.ntmps62;go_wp2_with fail
  go_region
  have HA : Hid (PSt (w.alloc (.cells #[.int .i64 f1, .string (bstr t)] 92)).drew g (some ⟨b, off, none⟩) cap L i o) := hid (HP.out.bel (((Below.refl w.heap.size w).alloc (Nat.le_refl _) (.cells #[.int .i64 f1, .string (bstr t)] 92)).drew));have HG : Hid (w.grownBy (w.alloc (.cells #[.int .i64 f1, .string (bstr t)] 92)).drew (some g)) := hid (As (((Below.refl w.heap.size w).alloc (Nat.le_refl _) (.cells #[.int .i64 f1, .string (bstr t)] 92)).drew));have HK : Hid (Blk (w.alloc (.cells #[.int .i64 f1, .string (bstr t)] 92)).drew w.heap.size 92 #[.int .i64 f1, .string (bstr t)]) := hid (Blk.new w 92 #[.int .i64 f1, .string (bstr t)]);have hne : g ≠ w.heap.size := by omega
  have hne2 : ¬ w.heap.size = g := by omega
  generalize (w.alloc (.cells #[.int .i64 f1, .string (bstr t)] 92)).drew = w1 at *;generalize w.heap.size = N at *;have hb1 := HA.out.blk.cell 1;simp only [List.getElem?_toArray, List.getElem?_cons_succ, List.getElem?_cons_zero] at hb1;have hf1 := HA.out.blk.frozen 1;have hk0 := HK.out.cell 0;have hk1 := HK.out.cell 1;simp only [List.getElem?_toArray, List.getElem?_cons_succ, List.getElem?_cons_zero] at hk0 hk1;clear hb0 hc1 hc2 hlt hltb;go_wp2_with fail;go_ret;exact ⟨⟨rfl, HA.out.set1 (i + 1)⟩, At HG.out (Bf _ _ _ _)⟩
 ·simp only [if_neg hf];have hfn : (f1 != f) = true := by rw [bne_iff_ne]; exact hf
  clear hf;go_enter Tryz.func62, Tryz.ntmps62;go_wp2_with fail
  go_region
  have HA : Hid (PSt (w.alloc (.cells #[.int .i64 f1, .string (bstr t)] 92)).drew g (some ⟨b, off, none⟩) cap L i o) := hid (HP.out.bel (((Below.refl w.heap.size w).alloc (Nat.le_refl _) (.cells #[.int .i64 f1, .string (bstr t)] 92)).drew));have HG : Hid (w.grownBy (w.alloc (.cells #[.int .i64 f1, .string (bstr t)] 92)).drew (some g)) := hid (As (((Below.refl w.heap.size w).alloc (Nat.le_refl _) (.cells #[.int .i64 f1, .string (bstr t)] 92)).drew));have HK : Hid (Blk (w.alloc (.cells #[.int .i64 f1, .string (bstr t)] 92)).drew w.heap.size 92 #[.int .i64 f1, .string (bstr t)]) := hid (Blk.new w 92 #[.int .i64 f1, .string (bstr t)]);have hne : g ≠ w.heap.size := by omega
  have hne2 : ¬ w.heap.size = g := by omega
  generalize (w.alloc (.cells #[.int .i64 f1, .string (bstr t)] 92)).drew = w1 at *;generalize w.heap.size = N at *;have hb1 := HA.out.blk.cell 1;simp only [List.getElem?_toArray, List.getElem?_cons_succ, List.getElem?_cons_zero] at hb1;have hf1 := HA.out.blk.frozen 1;have hk0 := HK.out.cell 0;have hk1 := HK.out.cell 1;simp only [List.getElem?_toArray, List.getElem?_cons_succ, List.getElem?_cons_zero] at hk0 hk1;clear hb0 hc1 hc2 hlt hltb;go_wp2_with fail;exact ⟨rfl, rfl, HG.out⟩
end Go.Proofs.YtchkiegehejfmaaGreatDoor
namespace Pr
mutual
def fine : Cn → Prop
 | .mk o _ _ ks => (o = 4 → ks.length = 1) ∧ fineL ks
def fineL : List Cn → Prop
 | [] => True
 | c :: r => fine c ∧ fineL r
end
theorem DZ : ∀ l : List Cn, fineL l ↔ ∀ c ∈ l, fine c
 | [] => by simp [fineL]
 | c :: r => by
  unfold fineL;rw [DZ r];simp
theorem fine_open (c : Cn) : fine c ↔ (c.op = 4 → c.kids.length = 1) ∧ ∀ k ∈ c.kids, fine k := by
 obtain ⟨o, t, n, ks⟩ := c;rw [fine, DZ];rfl
theorem B5 (a b : List Cn) : nodesL (a ++ b) = nodesL a + nodesL b := by
 induction a with
 | nil => simp [nodesL]
 | cons c r ih => rw [List.cons_append, nodesL, nodesL, ih]; omega
theorem nodes_mem {l : List Cn} {c : Cn} (h : c ∈ l) : nodes c ≤ nodesL l := by
 obtain ⟨i, hi⟩ := List.mem_iff_getElem?.1 h;exact nodes_kid hi
theorem fine_always : fine always := by rw [fine_open]; exact ⟨fun h => absurd h (by decide), fun k h => by cases h⟩
theorem fine_never : fine never := by
 rw [fine_open];refine ⟨fun _ => rfl, fun k h => ?_⟩;rw [show never.kids = [always] from rfl] at h;rw [List.mem_singleton.1 h];exact fine_always
theorem Dk (zero unit : Cn) : ∀ (l out : List Cn) (r : List Cn), gathF zero unit out l = some r → nodesL r ≤ nodesL out + nodesL l ∧ r.length ≤ out.length + l.length ∧ ∀ c ∈ r, c ∈ out ∨ c ∈ l
 | [], out, r, h => by
  rw [gathF] at h;injection h with h;subst h;exact ⟨by simp [nodesL], by simp, fun c hc => .inl hc⟩
 | x :: l, out, r, h => by
  rw [gathF] at h;split at h
  ·cases h
  ·split at h
   ·obtain ⟨h1, h2, h3⟩ := Dk zero unit l _ r h;rw [B5] at h1;rw [List.length_append] at h2;simp only [nodesL, List.length_cons, List.length_nil] at h1 h2 ⊢;refine ⟨by omega, by omega, fun c hc => ?_⟩;rcases h3 c hc with h | h
    ·rcases List.mem_append.1 h with h | h
     ·exact .inl h
     ·exact .inr (List.mem_singleton.1 h ▸ List.mem_cons_self ..)
    ·exact .inr (List.mem_cons_of_mem _ h)
   ·obtain ⟨h1, h2, h3⟩ := Dk zero unit l _ r h;simp only [nodesL, List.length_cons] at h1 h2 ⊢;refine ⟨by omega, by omega, fun c hc => ?_⟩;rcases h3 c hc with h | h
    ·exact .inl h
    ·exact .inr (List.mem_cons_of_mem _ h)
theorem Eg (op : Int) (l : List Cn) (zero unit : Cn) : (gath op l zero unit = zero) ∨ (gath op l zero unit = unit) ∨ (gath op l zero unit ∈ l) ∨ ∃ r, gath op l zero unit = .mk op [] 0 r ∧ nodesL r ≤ nodesL l ∧ r.length ≤ l.length ∧ ∀ c ∈ r, c ∈ l := by
 unfold gath
 cases h : gathF zero unit [] l with
 | none => exact .inl rfl
 | some r =>
  obtain ⟨h1, h2, h3⟩ := Dk zero unit l [] r h;simp only [nodesL, List.length_nil, Nat.zero_add] at h1 h2
  match r, h1, h2, h3 with
  | [], _, _, _ => exact .inr (.inl rfl)
  | [x], _, _, h3 => exact .inr (.inr (.inl (by rcases h3 x (List.mem_cons_self ..) with h | h; cases h; exact h)))
  | x :: y :: r, h1, h2, h3 => exact .inr (.inr (.inr ⟨_, rfl, h1, h2, fun c hc => by rcases h3 c hc with h | h; cases h; exact h⟩))
theorem gath_fine {op : Int} {l : List Cn} {zero unit : Cn} (ho : op ≠ 4) (hl : ∀ c ∈ l, fine c) (hz : fine zero) (hu : fine unit) : fine (gath op l zero unit) := by
 rcases Eg op l zero unit with h | h | h | ⟨r, h, _, _, hr⟩
 ·rw [h]; exact hz
 ·rw [h]; exact hu
 ·exact hl _ h
 ·rw [h, fine_open];exact ⟨fun e => absurd e ho, fun k hk => hl _ (hr k hk)⟩
theorem C6 {op : Int} {l : List Cn} {zero unit : Cn} {n : Nat} (hl : nodesL l ≤ n) (hz : nodes zero ≤ n + 1) (hu : nodes unit ≤ n + 1) : nodes (gath op l zero unit) ≤ n + 1 := by
 rcases Eg op l zero unit with h | h | h | ⟨r, h, h1, _, hr⟩
 ·rw [h]; exact hz
 ·rw [h]; exact hu
 ·have := nodes_mem h; omega
 ·rw [h, nodes]; omega
theorem EC {op : Int} {x : Cn} (h : fine x) : ∀ c ∈ spread op x, fine c := by
 unfold spread;split
 ·exact ((fine_open x).1 h).2
 ·intro c hc;rw [List.mem_singleton.1 hc];exact h
theorem Eb (op : Int) (x : Cn) : nodesL (spread op x) ≤ nodes x := by
 unfold spread;split
 ·rw [nodes_eq x]; omega
 ·simp [nodesL]
theorem flat_snoc (op : Int) (ks : List Cn) (x : Cn) : flat op (ks ++ [x]) = flat op ks ++ spread op (simple x) := by
 induction ks with
 | nil => simp [flat]
 | cons k r ih => rw [List.cons_append, flat, flat, ih, List.append_assoc]
theorem Fo {x : Cn} (h : fine x) : fine (notOf x) := by
 unfold notOf;split
 ·rename_i ho;obtain ⟨h1, h2⟩ := (fine_open x).1 h;have h3 := h1 ho
  match hk : x.kids, h3 with
  | [k], _ => exact h2 k (by rw [hk]; exact List.mem_cons_self ..)
 ·rw [fine_open];refine ⟨fun _ => rfl, fun k hk => ?_⟩;rw [List.mem_singleton.1 hk];exact h
mutual
theorem EQ : ∀ c : Cn, fine (simple c)
 | .mk o t n ks => by
  have hl := fun op => flat_fine op ks
  rw [simple];split
  ·exact gath_fine (by decide) (hl 2) fine_never fine_always
  ·split
   ·exact gath_fine (by decide) (hl 3) fine_always fine_never
   ·split
    ·exact Fo (gath_fine (by decide) (hl 3) fine_always fine_never)
    ·split
     ·rw [fine_open];exact ⟨fun e => by rename_i h _; exact absurd e h, fun k hk => by cases hk⟩
     ·exact fine_never
theorem flat_fine : ∀ (op : Int) (ks : List Cn), ∀ c ∈ flat op ks, fine c
 | op, [] => fun c hc => by cases hc
 | op, k :: r => fun c hc => by
  rw [flat] at hc;rcases List.mem_append.1 hc with h | h
  ·exact EC (EQ k) c h
  ·exact flat_fine op r c h
end
theorem CK {x : Cn} {n : Nat} (h : fine x) (hx : nodes x ≤ n + 1) : nodes (notOf x) ≤ n + 2 := by
 unfold notOf;split
 ·rename_i ho;have h3 := ((fine_open x).1 h).1 ho
  match hk : x.kids, h3 with
  | [k], _ =>
   have := nodes_eq x;rw [hk, nodesL, nodesL] at this;show nodes k ≤ _;omega
 ·rw [nodes, nodesL, nodesL]; omega
mutual
theorem simple_nodes : ∀ c : Cn, nodes (simple c) ≤ 2 * nodes c
 | .mk o t n ks => by
  have hl := fun op => flat_nodes op ks
  have h1 : nodes always = 1 := rfl;have h2 : nodes never = 2 := rfl;rw [simple, nodes];split
  ·have := C6 (op := 2) (l := flat 2 ks) (zero := never) (unit := always) (n := 2 * nodesL ks + 1) (by have := hl 2; omega) (by omega) (by omega);omega
  ·split
   ·have := C6 (op := 3) (l := flat 3 ks) (zero := always) (unit := never) (n := 2 * nodesL ks + 1) (by have := hl 3; omega) (by omega) (by omega);omega
   ·split
    ·have hf := gath_fine (op := 3) (by decide) (flat_fine 3 ks) fine_always fine_never;rcases Eg 3 (flat 3 ks) always never with h | h | h | ⟨r, h, h3, _, hr⟩
     ·rw [h];have : nodes (notOf always) = 2 := rfl;omega
     ·rw [h];have : nodes (notOf never) = 1 := rfl;omega
     ·have h4 := nodes_mem h;have h5 := nodes_pos (gath 3 (flat 3 ks) always never);have := CK (n := 2 * nodesL ks) hf (by have := hl 3; omega);omega
     ·have := CK (n := 2 * nodesL ks) hf (by rw [h, nodes]; have := hl 3; omega);omega
    ·split
     ·rw [nodes, nodesL]; omega
     ·omega
theorem flat_nodes : ∀ (op : Int) (ks : List Cn), nodesL (flat op ks) ≤ 2 * nodesL ks
 | op, [] => by simp [flat, nodesL]
 | op, k :: r => by
  have h1 := Eb op (simple k);have h2 := simple_nodes k;have h3 := flat_nodes op r;rw [flat, B5, nodesL];omega
end
theorem simple_eq (c : Cn) : simple c = if c.op = 2 then gath 2 (flat 2 c.kids) never always
  else if c.op = 3 then gath 3 (flat 3 c.kids) always never
  else if c.op = 4 then notOf (gath 3 (flat 3 c.kids) always never)
  else if known c.op then .mk c.op (if useText c.op then c.text else []) (if useN c.op then c.num else 0) [] else never := by
 cases c;rw [simple];rfl
end Pr
namespace Go.Proofs.YtchkiegehejfmaaGreatDoor
open Go.RowKit Go.Lib
def BB (m : Nat) : Prop := ∀ (ok : Nat → Prop) (c : Pr.Cn) (V : Array Value) (w : World), Pr.nodes c ≤ m → CnV w ok V c → Calls Tryz.prog 15 #[.agg V] w fun e w' => (∃ X, e = .returned (.agg X) ∧ CnV w' (fun b => w.heap.size ≤ b) X (Pr.simple c)) ∧ Below w.heap.size w w'
theorem Ft (op : Int) {ks : List Pr.Cn} {k : Nat} {x : Pr.Cn} (h : ks[k]? = some x) : Pr.flat op (ks.take (k + 1)) = Pr.flat op (ks.take k) ++ Pr.spread op (Pr.simple x) := by rw [take_snoc h, Pr.flat_snoc]
theorem AJ (a : Int) (s : ByteArray) (n : Int) (A : Option Addr) (l c : Nat) : (#[.int .i64 a, .string s, .int .i64 n, .slice A l c] : Array Value).all (·.oneCell') = true := by simp [Value.oneCell']
theorem Gu (m : Nat) (HSI : BB m) (ok : Nat → Prop) (op : Int) (ks : List Pr.Cn) (A : Option Addr) (cap : Nat) (w : World) (hm : Pr.nodesL ks ≤ m) (hm6 : m ≤ 1000000) (hr : CnRow w ok A ks) :
  Calls Tryz.prog 83 #[.int .i64 op, .slice A ks.length cap] w fun e w' => (∃ B cap', e = .returned (.slice B (Pr.flat op ks).length cap') ∧ (Pr.flat op ks).length ≤ cap' ∧ CnRow w' (fun b => w.heap.size ≤ b) B (Pr.flat op ks)) ∧ Below w.heap.size w w' := by
 have HR := hid hr;have hkl := Pr.kids_nodes ks
 have HFN : Hid (∀ k, (Pr.flat op (ks.take k)).length ≤ 2000000) := hid (fun k => by
  have h1 := Pr.kids_nodes (Pr.flat op (ks.take k));have h2 := Pr.flat_nodes op (ks.take k);have h3 := Pr.nodesL_le ks k
  omega)
 have HI := hid HSI;clear hr HSI;go_enter Tryz.func83, Tryz.ntmps83;go_wp2_with fail
 go_loopw [5, 11] (fun out ix wr => ∃ k : Nat, k ≤ ks.length ∧ ix = .int .i64 (k : Int) ∧ CnO wr w.heap.size (fun b => w.heap.size ≤ b) out (Pr.flat op (ks.take k)) ∧ Below w.heap.size w wr) (fun _ ix _ => ks.length - (RowKit.intOf ix).toNat)
 case atStart => exact ⟨0, Nat.zero_le _, rfl, CnO.nil, Below.refl _ _⟩
 case round =>
  obtain ⟨k, hk, rfl, ho, hb⟩ := hrel;have HO := hid ho;have HB := hid hb;have hws := hb.size;clear ho hb;by_cases hlt : k < ks.length
  ·obtain ⟨x, hx⟩ : ∃ x, ks[k]? = some x := ⟨_, List.getElem?_eq_getElem hlt⟩;obtain ⟨b, off, cs, rfl, hok, hr, hcl, hcv⟩ := (HR.out.below HB.out) k x hx;have HXK := hid hx;have hnk := Pr.nodes_kid hx;have HFA := hid (Ft op hx);have hf1 := HFN.out (k + 1);have HCV := hid hcv;have hone := hcv.one;have HL2 : Hid ((Tryz.prog.info? 36).map (·.size) = some cs.length) := hid (by rw [Aa, hcl]);have HL3 : Hid ((Tryz.prog.info? 36).map (·.size) = some cs.toArray.size) := hid (by rw [Aa, List.size_toArray, hcl]);have HSZ : Hid (zCn.size = cs.toArray.size) := hid (by show 4 = cs.toArray.size; rw [List.size_toArray, hcl]);obtain ⟨A0, c0, rfl, hc0⟩ := HO.out.len;clear hx hcv
   go_wp2_with (first
    | ((with_reducible refine wpList_load_mid rfl 36 _ rfl b (off + k * 4) ?_ cs _ hr Tryz.underlying36 ?_ HL2.out ?_); rfl; rfl)
    | ((with_reducible refine Ah rfl 36 _ _ rfl wr.heap.size cs.toArray ?_ ?_ 36 _ (Blk.new wr 36 _) HL3.out ?_ hone ?_); rfl; rfl; exact HSZ.out; intro w3 hk3 hs3 hbl3)
    | (refine wpList_load_row rfl 36 _ rfl wr.heap.size rfl 36 cs.toArray (0, 0) _ hk3 Tryz.underlying36 rfl HL3.out ?_))
   have HBR : Hid (Below wr.heap.size wr w3) := hid (((Below.refl _ wr).alloc (Nat.le_refl _) (.cells zCn 36)).trans (hbl3 wr.heap.size (Nat.le_refl _)));clear hk3 hs3 hbl3;refine (HI.out ok x cs.toArray w3 (by omega) (HCV.out.bel HBR.out)).mono ?_;rintro e w4 ⟨⟨X, rfl, hx4⟩, hb4⟩;have HB34 : Hid (Below wr.heap.size wr w4) := hid (HBR.out.trans (hb4.mono HBR.out.size));have HB4 := hid (HB.out.trans (HB34.out.mono hws));have hw4 := HB4.out.size;have HO4 := hid (HO.out.bel HB34.out);have HX4 : Hid (CnV w4 (fun b => wr.heap.size ≤ b) X (Pr.simple x)) := hid (hx4.keep fun b hb _ => ⟨Nat.le_trans HBR.out.size hb, rfl⟩);clear hx4 hb4;generalize Pr.simple x = y at *;generalize Pr.flat op (ks.take k) = F at *;rw [HFA.out] at hf1;obtain ⟨A', c', rfl, hry⟩ := HX4.out.open;have HRY := hid hry;have hbx := (Below.refl w4.heap.size w4).alloc (Nat.le_refl _) (.cells #[.int .i64 y.op, .string (bstr y.text), .int .i64 y.num, .slice A' y.kids.length c'] 36);have HO5 := hid (HO4.out.bel hbx);have HB5 := hid (HB4.out.alloc hw4 (.cells #[.int .i64 y.op, .string (bstr y.text), .int .i64 y.num, .slice A' y.kids.length c'] 36));have HX5 := hid (HX4.out.bel hbx);have HR5 := hid (hry.below hbx);have HK5 := hid (Blk.new w4 36 #[.int .i64 y.op, .string (bstr y.text), .int .i64 y.num, .slice A' y.kids.length c']);have HS5 : Hid ((Tryz.prog.info? 36).map (·.size) = some (#[.int .i64 y.op, .string (bstr y.text), .int .i64 y.num, .slice A' y.kids.length c'] : Array Value).size) := hid (by rw [Aa]; rfl);have hout4 : ∀ q, (Value.slice A0 F.length c0).ownBlock = some q → q < wr.heap.size := by
    intro q hq;obtain ⟨xs, h1, _⟩ := HO.out;exact (h1.lt q hq).2
   clear hry hbx;have hw5 : w.heap.size ≤ (w4.alloc (.cells #[.int .i64 y.op, .string (bstr y.text), .int .i64 y.num, .slice A' y.kids.length c'] 36)).heap.size := HB5.out.size;by_cases hyo : y.op = op
   ·have hsp : Pr.spread op y = y.kids := by unfold Pr.spread; rw [if_pos hyo]
    have hyb : (y.op == op) = true := beq_iff_eq.2 hyo;rw [hsp] at HFA hf1;rw [List.length_append] at hf1;have hlen : F.length + y.kids.length ≤ 100000000000 := by omega
    obtain ⟨xs, hown, hcs⟩ := HO5.out;obtain ⟨ys, hrd, hone2, hcs2⟩ := HR5.out.rd;have HCS := hid hcs;have HCS2 : Hid (CnsV (w4.alloc (.cells #[.int .i64 y.op, .string (bstr y.text), .int .i64 y.num, .slice A' y.kids.length c'] 36)) (fun b => w.heap.size ≤ b ∧ some b ≠ (Value.slice A0 F.length c0).ownBlock) ys y.kids) := hid (CnsV.keep hcs2 fun b hb _ => ⟨⟨Nat.le_trans hws hb, fun e => by have := hout4 b e.symm; omega⟩, rfl⟩);clear hcs hcs2 hyo hsp;go_wp2_with ((refine AC rowCn rfl _ _ rfl _ (.slice A0 F.length c0) _ xs ys w.heap.size rfl hown A' _ _ rfl hrd hone2 hw5 hlen ?_); intro v6 w6 ho6 hg6 hb6 hwh6)
    go_roundw
    case rel => exact ⟨k + 1, hlt, by go_num, by rw [HFA.out]; exact CnO.app hown HCS.out HCS2.out ho6 hg6 hwh6, hb6 _ HB5.out⟩
    case measure => simp [RowKit.intOf]; omega
   ·have hsp : Pr.spread op y = [y] := by unfold Pr.spread; rw [if_neg hyo]
    have hyb : (y.op == op) = false := beq_eq_false_iff_ne.2 hyo;rw [hsp] at HFA hf1;rw [List.length_append] at hf1;have hlen : F.length + 1 ≤ 100000000000 := by simp at hf1; omega
    have hbz := (Below.refl (w4.alloc (.cells #[.int .i64 y.op, .string (bstr y.text), .int .i64 y.num, .slice A' y.kids.length c'] 36)).heap.size (w4.alloc (.cells #[.int .i64 y.op, .string (bstr y.text), .int .i64 y.num, .slice A' y.kids.length c'] 36))).alloc (Nat.le_refl _) (.cells #[.int .i64 y.op, .string (bstr y.text), .int .i64 y.num, .slice A' y.kids.length c'] 36);obtain ⟨xs, hown, hcs⟩ := HO5.out.bel hbz;have HCS := hid hcs;have HCS2 := hid (CnsV.one ((HX5.out.bel hbz).keep (ok' := fun b => w.heap.size ≤ b ∧ some b ≠ (Value.slice A0 F.length c0).ownBlock) fun b hb _ => ⟨⟨Nat.le_trans hws hb, fun e => by have := hout4 b e.symm; omega⟩, rfl⟩));have hrd : Rd ((w4.alloc (.cells #[.int .i64 y.op, .string (bstr y.text), .int .i64 y.num, .slice A' y.kids.length c'] 36)).alloc (.cells #[.int .i64 y.op, .string (bstr y.text), .int .i64 y.num, .slice A' y.kids.length c'] 36)) (some ⟨w4.heap.size + 1, 0, none⟩) (1 * 4) [.int .i64 y.op, .string (bstr y.text), .int .i64 y.num, .slice A' y.kids.length c'] := by
     have := Rd.of_blk (vs := [.int .i64 y.op, .string (bstr y.text), .int .i64 y.num, .slice A' y.kids.length c']) (Blk.new (w4.alloc (.cells #[.int .i64 y.op, .string (bstr y.text), .int .i64 y.num, .slice A' y.kids.length c'] 36)) 36 #[.int .i64 y.op, .string (bstr y.text), .int .i64 y.num, .slice A' y.kids.length c']);rw [World.size_alloc] at this;exact this
    have hw6 : w.heap.size ≤ ((w4.alloc (.cells #[.int .i64 y.op, .string (bstr y.text), .int .i64 y.num, .slice A' y.kids.length c'] 36)).alloc (.cells #[.int .i64 y.op, .string (bstr y.text), .int .i64 y.num, .slice A' y.kids.length c'] 36)).heap.size := by rw [World.size_alloc]; omega
    have HB6 := hid (HB5.out.alloc hw5 (.cells #[.int .i64 y.op, .string (bstr y.text), .int .i64 y.num, .slice A' y.kids.length c'] 36));have hone2 : ∀ u ∈ ([.int .i64 y.op, .string (bstr y.text), .int .i64 y.num, .slice A' y.kids.length c'] : List Value), u.oneCell' = true := by intro u hu; simp at hu; rcases hu with rfl | rfl | rfl | rfl <;> rfl
    clear hcs hyo hsp hbz
    go_wp2_with (first
     | (refine Ac (by rfl) 36 _ rfl w4.heap.size rfl 36 _ (0, 0) _ rfl HK5.out Tryz.underlying36 HS5.out ?_)
     | ((refine AC rowCn rfl _ _ rfl _ (.slice A0 F.length c0) _ xs _ w.heap.size rfl hown _ 1 1 rfl hrd hone2 hw6 hlen ?_); intro v6 w6 ho6 hg6 hb6 hwh6))
    go_roundw
    case rel => exact ⟨k + 1, hlt, by go_num, by rw [HFA.out]; exact CnO.app hown HCS.out HCS2.out ho6 hg6 hwh6, hb6 _ HB6.out⟩
    case measure => simp [RowKit.intOf]; omega
  ·obtain rfl : k = ks.length := by omega
   rw [List.take_length] at HO;obtain ⟨B, cap', rfl, hcap, hrow⟩ := HO.out.row (ok' := fun b => w.heap.size ≤ b) (fun b h => h) (fun q hq => by obtain ⟨xs, h1, _⟩ := HO.out; exact (h1.lt q hq).1);have HRO := hid hrow;clear hrow;go_wp2_with fail;go_ret;exact ⟨⟨B, cap', rfl, hcap, HRO.out⟩, HB.out⟩
end Go.Proofs.YtchkiegehejfmaaGreatDoor
