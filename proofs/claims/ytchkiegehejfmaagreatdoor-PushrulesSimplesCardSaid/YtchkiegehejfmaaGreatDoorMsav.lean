/- The texts Yk, Yl, Uo of this proof, one behind the other. -/
import Derived.Recover
import Derived.Test.YtchkiegehejfmaaGreatDoorMsau
import Derived.Test.YtchkiegehejfmaaGreatDoorMsap
set_option linter.unusedSimpArgs false
set_option maxHeartbeats 16000000
set_option maxRecDepth 100000
set_option linter.unusedVariables false
namespace Go.Proofs.YtchkiegehejfmaaGreatDoor
open Go.RowKit Go.Lib
structure G6 (w w' : World) (N0 N1 : Nat) : Prop where
 x : Blk w' N0 45 zRl
 ok : Blk w' N1 4 #[.bool false]
 bel : ∀ B, B ≤ N0 → B ≤ N1 → Below B w w'
theorem FI (N0 N1 : Nat) (X0 : Array Value) (v1 : Value) (older : List PanicEntry) (w : World) (h0 : Blk w N0 45 X0) (hs0 : X0.size = 6) (h1 : Blk w N1 4 #[v1]) (hne : N0 ≠ N1) :
  CallsD Tryz.prog 59 #[.pointer (some ⟨N0, 0, none⟩), .pointer (some ⟨N1, 0, none⟩)] (.panicking ({ v := .iface 82 (.agg #[]), recovered := false } :: older)) w fun e u' w' => e = .returned (.tuple #[]) ∧ u' = .panicking ({ v := .iface 82 (.agg #[]), recovered := true } :: older) ∧ G6 w w' N0 N1 := by
 refine callsD_of_wpS Tryz.func59 rfl fun c₀ cs hu => ?_
 apply wpS_seq;apply wpS_region;simp [wpOpsS, go_sem, recoverD, hu, Tryz.ntmps59, Exit.thenS];refine wpS_of_wp ?_;rw [show (#[.pointer (some ⟨N0, 0, none⟩), .pointer (some ⟨N1, 0, none⟩)] ++ ((Array.replicate 15 undef).setIfInBounds 3 (.iface 82 (.agg #[]))).setIfInBounds 0 (.iface 82 (.agg #[])) : Array Value) = #[.pointer (some ⟨N0, 0, none⟩), .pointer (some ⟨N1, 0, none⟩), .iface 82 (.agg #[]), undef, undef, .iface 82 (.agg #[]), undef, undef, undef, undef, undef, undef, undef, undef, undef, undef, undef] from rfl];have hta : ∀ w : World, (Instr.typeAssert (.iface 82 (.agg #[])) 20 82 true).run Tryz.prog w = .ok (.tuple #[.agg #[], .bool true]) w := fun _ => by kernel_rfl
 have HB1 := hid (fun B (h : B ≤ w.heap.size) => (Below.refl B w).alloc h (.cells #[] 82));have h0a := h0.alloc (.cells #[] 82);have h1a := h1.alloc (.cells #[] 82);have HL0 := hid h0.lt;have HL1 := hid h1.lt;have HSX : Hid ((Tryz.prog.info? 45).map (·.size) = some (zRl : Array Value).size) := hid (by rw [AB]; rfl);have HSZ : Hid (X0.size = (zRl : Array Value).size) := hid (by rw [hs0]; rfl);have HK0 := hid h0a;have HK1 := hid h1a;clear h0 h1 h0a h1a hs0;go_wp2_with ((with_reducible refine Ab rfl 45 _ _ rfl N0 zRl ?_ ?_ 45 _ HK0.out HSX.out HSZ.out (by simp [Value.oneCell']) ?_); rfl; rfl; intro w5 hk5 hs5 hbl5 hoth5; have hk1 : Blk w5 N1 4 #[v1] := (hoth5 N1 (Ne.symm hne)).trans HK1.out; have hc1 := hk1.cell 0; have hf1 := hk1.frozen 0; have HC := hid (⟨hk5.far (p := ⟨N1, 0, none⟩) hne (.bool false), hk1.set_ 0 (.bool false), fun B hB0 hB1 => ((HB1.out B (by have := HL0.out; omega)).trans (hbl5 B hB0)).setCell hB1 (.bool false)⟩ : G6 w (w5.setCell ⟨N1, 0, none⟩ (.bool false)) N0 N1); (simp only [List.getElem?_toArray, List.getElem?_cons_zero] at hc1); clear hk5 hs5 hbl5 hoth5 hk1);simp only [bodyPostS];refine ⟨trivial, _, rfl, .tuple #[], ?_, rfl, rfl, HC.out⟩;simp [results, Tryz.results59]
theorem EW (N0 N1 : Nat) (w : World) :
  CallsD Tryz.prog 59 #[.pointer (some ⟨N0, 0, none⟩), .pointer (some ⟨N1, 0, none⟩)] .returning w fun e u' w' => e = .returned (.tuple #[]) ∧ u' = .returning ∧ w' = w := by
 refine callsD_of_wpS Tryz.func59 rfl fun c₀ cs hu => ?_
 apply wpS_seq;apply wpS_region;simp [wpOpsS, go_sem, recoverD, hu, Tryz.ntmps59, Exit.thenS];apply wpS_seq;apply wpS_region;simp [wpOpsS, go_sem, recoverD, hu, Tryz.ntmps59, Exit.thenS];refine wpS_cond (t := false) (by simp [Act.eval, Array.replicate]) ?_;simp only [Bool.false_eq_true, if_false];refine wpS_of_wp (wp_skip ?_);cases c₀
 simp_all [bodyPostS, results, Tryz.results59]
end Go.Proofs.YtchkiegehejfmaaGreatDoor
namespace Pr
theorem Cf : ∀ (n : Nat) (r acc t q : Str), r.length ≤ n → quoteP acc r = some (t, q) → t.length + q.length ≤ acc.length + r.length
 | _, [], acc, t, q, _, h => by simp [quoteP] at h
 | 0, c :: r, acc, t, q, hn, h => by simp at hn
 | n + 1, c :: r, acc, t, q, hn, h => by
  rw [List.length_cons] at hn;unfold quoteP at h;split at h
  ·injection h with h; injection h with h1 h2; subst h1 h2; simp
  ·split at h
   ·cases r with
    | nil => cases h
    | cons d r =>
     simp only at h;rw [List.length_cons] at hn;split at h
     ·have := Cf n r _ t q (by omega) h;rw [List.length_append] at this;simp at this ⊢; omega
     ·cases h
   ·have := Cf n r _ t q (by omega) h;rw [List.length_append] at this;simp at this ⊢; omega
def rE (nm : Str) (c : Cn) : Option (List Str) → Option Rl
 | none => none
 | some l => some ⟨nm, c, l⟩
def rD2 (f : Nat) (nm : Str) (c : Cn) : Option (Str × List Tk) → Option Rl
 | none => none
 | some (a, r) => rE nm c (moreP f [a] r)
def rC (f : Nat) (nm : Str) : Option (Cn × List Tk) → Option Rl
 | none => none
 | some (c, r) => if headIs doW r then rD2 f nm c (takeF 1 r.tail) else none
def rB (f : Nat) (nm : Str) (r : List Tk) : Option Rl := if headIs whenW r then rC f nm (condP f 0 r.tail) else none
def rA (f : Nat) : Option (Str × List Tk) → Option Rl
 | none => none
 | some (nm, r) => rB f nm r
theorem EU (w : Str) (r : List Tk) : needP w r = if headIs w r then some r.tail else none := rfl
theorem ruleP_eq (L : List Tk) : ruleP L = if headIs ruleW L then rA (L.length + 1) (takeF 1 L.tail) else none := by
 unfold ruleP;rw [EU]
 cases headIs ruleW L with
 | false => rfl
 | true =>
  simp only [if_true]
  cases takeF 1 L.tail with
  | none => rfl
  | some tq =>
   obtain ⟨nm, r2⟩ := tq;simp only [rA, rB, EU]
   cases headIs whenW r2 with
   | false => rfl
   | true =>
    simp only [if_true]
    cases condP (L.length + 1) 0 r2.tail with
    | none => rfl
    | some cq =>
     obtain ⟨c, r4⟩ := cq;simp only [rC]
     cases headIs doW r4 with
     | false => rfl
     | true =>
      simp only [if_true]
      cases takeF 1 r4.tail with
      | none => rfl
      | some aq =>
       obtain ⟨a, r6⟩ := aq;simp only [rD2];cases moreP (L.length + 1) [a] r6 <;> rfl
theorem Dm : ∀ (n m : Nat) (acc : List Str) (r : List Tk), r.length < n → r.length < m → moreP n acc r = moreP m acc r
 | 0, _, _, _, h, _ => by omega
 | _ + 1, 0, _, _, _, h => by omega
 | n + 1, m + 1, acc, [], _, _ => rfl
 | n + 1, m + 1, acc, t :: r, h1, h2 => by
  rw [List.length_cons] at h1 h2;rw [moreP, moreP];split
  ·cases ht : takeF 1 r with
   | none => rfl
   | some aq =>
    obtain ⟨a, q⟩ := aq;have hq := congrArg List.length (takeF_of ht);rw [List.length_cons] at hq;exact Dm n m _ q (by omega) (by omega)
  ·rfl
def moreA (acc : List Str) (r : List Tk) : Option (List Str) := moreP (r.length + 1) acc r
theorem moreP_A {n : Nat} {acc : List Str} {r : List Tk} (h : r.length < n) : moreP n acc r = moreA acc r := Dm _ _ _ _ h (by omega)
theorem moreA_nil (acc : List Str) : moreA acc [] = some acc := rfl
def moreB (acc : List Str) : Option (Str × List Tk) → Option (List Str)
 | none => none
 | some (a, q) => moreA (acc ++ [a]) q
theorem moreA_more {acc : List Str} {r : List Tk} (h : (hdT r).form = 5) : moreA acc r = moreB acc (takeF 1 r.tail) := by
 cases r with
 | nil => cases h
 | cons t r =>
  have h5 : t.form = 5 := h;unfold moreA;rw [List.length_cons, moreP, if_pos h5];show _ = moreB acc (takeF 1 r)
  cases ht : takeF 1 r with
  | none => rfl
  | some aq =>
   obtain ⟨a, q⟩ := aq;have hq := congrArg List.length (takeF_of ht);rw [List.length_cons] at hq;exact moreP_A (by omega)
theorem moreA_no {acc : List Str} {r : List Tk} (h : (hdT r).form ≠ 5) (hr : r ≠ []) : moreA acc r = none := by
 cases r with
 | nil => exact absurd rfl hr
 | cons t r => exact if_neg h
theorem Ck : ∀ (n : Nat) (acc : List Tk) (s : Str) (L : List Tk), toks n acc s = some L → s.length ≤ 1000000 → TkOk acc → TkOk L ∧ L.length ≤ acc.length + s.length
 | 0, _, _, _, h, _, _ => by cases h
 | n + 1, acc, [], L, h, _, ha => by injection h with h; subst h; exact ⟨ha, by simp⟩
 | n + 1, acc, c :: r, L, h, hs, ha => by
  rw [List.length_cons] at hs;rw [toks] at h;have app : ∀ t : Tk, t.text.length ≤ 1000000 ∧ (t.form = 1 → t.text ≠ []) ∧ t.form ≠ 0 → TkOk (acc ++ [t]) := fun t ht x hx => by
   rcases List.mem_append.1 hx with hx | hx
   ·exact ha x hx
   ·rw [List.mem_singleton.1 hx]; exact ht
  split at h
  ·obtain ⟨h1, h2⟩ := Ck n acc r L h (by omega) ha;exact ⟨h1, by rw [List.length_cons]; omega⟩
  ·split at h
   ·rename_i g2;have h3 : markOf c ≠ 1 := by rcases (show markOf c = 0 ∨ markOf c = 3 ∨ markOf c = 4 ∨ markOf c = 5 by unfold markOf; split; simp; split; simp; split <;> simp) with e | e | e | e <;> rw [e] <;> decide
    obtain ⟨h1, h2⟩ := Ck n _ r L h (by omega) (app ⟨markOf c, []⟩ ⟨by simp, fun e => absurd e h3, g2⟩);exact ⟨h1, by rw [List.length_append] at h2; rw [List.length_cons]; simp at h2; omega⟩
   ·split at h
    ·cases hq : quoteP [] r with
     | none => rw [hq] at h; cases h
     | some tq =>
      obtain ⟨t, q⟩ := tq;have hl := quoteP_len _ _ _ _ _ (Nat.le_refl _) hq;have hl2 := Cf _ _ _ _ _ (Nat.le_refl _) hq;rw [hq] at h;obtain ⟨h1, h2⟩ := Ck n _ q L h (by omega) (app ⟨2, t⟩ ⟨by simp at hl2; show t.length ≤ _; omega, by simp, by simp⟩);exact ⟨h1, by rw [List.length_append] at h2; rw [List.length_cons]; simp at h2; omega⟩
    ·rename_i g1 g2 g3;have hw := wordc_of g1 g2 g3;have hd : (c :: r).dropWhile wordc = r.dropWhile wordc := by rw [List.dropWhile_cons, if_pos hw]
     have ht : (c :: r).takeWhile wordc = c :: r.takeWhile wordc := by rw [List.takeWhile_cons, if_pos hw]
     have hdl := dropWhile_le (p := wordc) r;have htl : (r.takeWhile wordc).length ≤ r.length := (List.takeWhile_sublist wordc).length_le;rw [hd, ht] at h;obtain ⟨h1, h2⟩ := Ck n _ _ L h (by omega) (app ⟨1, c :: r.takeWhile wordc⟩ ⟨by simp; omega, by simp, by simp⟩);exact ⟨h1, by rw [List.length_append] at h2; rw [List.length_cons]; simp at h2; omega⟩
theorem tkz_ok {s : Str} {L : List Tk} (h : tkz s = some L) (hs : s.length ≤ 1000000) : TkOk L ∧ L.length ≤ s.length := by
 obtain ⟨h1, h2⟩ := Ck _ [] s L h hs (fun t ht => by cases ht);exact ⟨h1, by simpa using h2⟩
end Pr
namespace Go.Proofs.YtchkiegehejfmaaGreatDoor
open Go.RowKit Go.Lib
def LnA (w : World) (x : Option Pr.Rl) (e : Ending) (w' : World) : Prop := (match x with
  | none => e = .returned (.tuple #[.agg zRl, .bool false])
  | some r => ∃ X, e = .returned (.tuple #[.agg X, .bool true]) ∧ RlV w' (fun b => w.heap.size ≤ b) X r) ∧ Below w.heap.size w w'
structure LnM (w0 : World) (g : Nat) (X : Array Value) (wr : World) : Prop where
 lt : w0.heap.size + 1 < g
 x : Blk wr w0.heap.size 45 X
 ok : Blk wr (w0.heap.size + 1) 4 #[.bool false]
 sz : X.size = 6
 bel : Below w0.heap.size w0 wr
theorem LnM.by_ {w0 wr w' : World} {g : Nat} {X : Array Value} (h : LnM w0 g X wr) (hg : wr.grownBy w' (some g)) : LnM w0 g X w' := by
 have h1 := h.lt;have h2 := h.bel.size;exact ⟨h1, h.x.grown hg (fun e => by injection e with e; omega), h.ok.grown hg (fun e => by injection e with e; omega), h.sz, h.bel.trans ⟨hg.os, hg.tape, hg.output, hg.size, fun k hk => hg.block k (by omega) (fun e => by injection e with e; omega)⟩⟩
theorem LnM.set {w0 wr : World} {g : Nat} {X : Array Value} (h : LnM w0 g X wr) (i : Nat) (v : Value) : LnM w0 g (X.setIfInBounds i v) (wr.setCell ⟨w0.heap.size, i, none⟩ v) :=
 ⟨h.lt, h.x.set_ i v, h.ok.far (by show w0.heap.size + 1 ≠ w0.heap.size; omega) v, by rw [Array.size_setIfInBounds]; exact h.sz, h.bel.setCell (Nat.le_refl _) v⟩
theorem LnM.low {w0 wr w' : World} {g : Nat} {X : Array Value} (h : LnM w0 g X wr) (hb : Below g wr w') : LnM w0 g X w' := by
 have h1 := h.lt;exact ⟨h1, h.x.below hb (by omega), h.ok.below hb h1, h.sz, h.bel.trans (hb.mono (by omega))⟩
theorem LnA.no {w w' : World} {x : Option Pr.Rl} (hx : x = none) (hb : Below w.heap.size w w') : LnA w x (.returned (.tuple #[.agg zRl, .bool false])) w' := by subst hx; exact ⟨rfl, hb⟩
theorem CN {fn : Func} {p q : Tmp} (h : fn.results = #[.cell p 45, .cell q 4]) (tmps : Array Value) (w : World) (g k : Nat) (cs : Array Value) (b : Value)
  (hp : tmps.getD p undef = .pointer (some ⟨g, 0, none⟩)) (hq : tmps.getD q undef = .pointer (some ⟨k, 0, none⟩)) (hg : Blk w g 45 cs) (hs : cs.size = 6) (hk : Blk w k 4 #[b]) : (results fn tmps).run Tryz.prog w = .ok (.tuple #[.agg cs, b]) w := by
 have hp' : tmps[p]?.getD undef = .pointer (some ⟨g, 0, none⟩) := by simpa using hp
 have hq' : tmps[q]?.getD undef = .pointer (some ⟨k, 0, none⟩) := by simpa using hq
 have h1 := run_loadVar_row (P := Tryz.prog) w g 45 45 cs (0, 0) _ hg Tryz.underlying45 rfl (by rw [AB, hs]);have h2 := hk.cell 0;simp only [List.getElem?_toArray, List.getElem?_cons_zero] at h2;have h3 : (loadVar 4 ⟨k, 0, none⟩).run Tryz.prog w = .ok b w := by simp [go_sem, h2]
 simp [results, h, hp', hq', asAddr, h1, h3]
theorem Ba {w0 wr : World} {g : Nat} {X : Array Value} {a : Act} {x : Option Pr.Rl} (h : LnM w0 g X wr) (hx : x = none)
  (hd : a.defers = [{ target := .fn (.func 59) #[.pointer (some ⟨w0.heap.size, 0, none⟩), .pointer (some ⟨w0.heap.size + 1, 0, none⟩)], args := #[] }])
  (h2 : a.tmps.getD 2 undef = .pointer (some ⟨w0.heap.size, 0, none⟩)) (h3 : a.tmps.getD 3 undef = .pointer (some ⟨w0.heap.size + 1, 0, none⟩)) : bodyPostD Tryz.prog Tryz.f30 (LnA w0 x) (.panic brk) a wr := by
 show Leaves _ _ _ _ a.defers _ _;rw [hd];refine leaves_cons (f := 59) (args := #[.pointer (some ⟨w0.heap.size, 0, none⟩), .pointer (some ⟨w0.heap.size + 1, 0, none⟩)]) (by simp) (by simp [go_sem]) ?_;refine (FI w0.heap.size (w0.heap.size + 1) X (.bool false) [] wr h.x h.sz h.ok (by omega)).mono ?_;rintro e u' w' ⟨rfl, rfl, hC⟩;show ∃ v, (results Tryz.f30 a.tmps).run Tryz.prog w' = .ok v w' ∧ LnA w0 x (.returned v) w';refine ⟨.tuple #[.agg zRl, .bool false], CN (by kernel_rfl) a.tmps w' w0.heap.size (w0.heap.size + 1) zRl (.bool false) h2 h3 hC.x rfl hC.ok, LnA.no hx (h.bel.trans (hC.bel _ (Nat.le_refl _) (by omega)))⟩
theorem PSt.other {w w' : World} {g : Nat} {A : Option Addr} {cap : Nat} {L : List Pr.Tk} {i o N : Nat} (h : PSt w g A cap L i o) (hg : g ≠ N) (hA : ∀ a, A = some a → a.block ≠ N) (hb : ∀ k, k ≠ N → w'.heap[k]? = w.heap[k]?) : PSt w' g A cap L i o :=
 ⟨(hb g hg).trans h.blk, A3 h.row (fun a ha _ => hb _ (hA a ha)), h.far⟩
theorem AX (w : World) (g i : Nat) (u : Value) : ∀ k, k ≠ g → (w.setCell ⟨g, i, none⟩ u).heap[k]? = w.heap[k]? := fun k hk => Below.heap_setCell _ _ _ _ hk
def lineZ : Option (List Pr.Tk) → Option Pr.Rl
 | none => none
 | some L => Pr.ruleP L
theorem LnA.yes {w w' : World} {x : Option Pr.Rl} {r : Pr.Rl} {X : Array Value} (hx : x = some r) (hX : RlV w' (fun b => w.heap.size ≤ b) X r) (hb : Below w.heap.size w w') : LnA w x (.returned (.tuple #[.agg X, .bool true])) w' := by subst hx; exact ⟨⟨X, rfl, hX⟩, hb⟩
theorem FW {w0 wr : World} {X : Array Value} {a : Act} {x : Option Pr.Rl} (hX : Blk wr w0.heap.size 45 X) (hs : X.size = 6) (hok : Blk wr (w0.heap.size + 1) 4 #[.bool true]) (hR : LnA w0 x (.returned (.tuple #[.agg X, .bool true])) wr)
  (hd : a.defers = [{ target := .fn (.func 59) #[.pointer (some ⟨w0.heap.size, 0, none⟩), .pointer (some ⟨w0.heap.size + 1, 0, none⟩)], args := #[] }])
  (h2 : a.tmps.getD 2 undef = .pointer (some ⟨w0.heap.size, 0, none⟩)) (h3 : a.tmps.getD 3 undef = .pointer (some ⟨w0.heap.size + 1, 0, none⟩)) : bodyPostD Tryz.prog Tryz.f30 (LnA w0 x) .ret a wr := by
 show Leaves _ _ _ _ a.defers _ _;rw [hd];refine leaves_cons (f := 59) (args := #[.pointer (some ⟨w0.heap.size, 0, none⟩), .pointer (some ⟨w0.heap.size + 1, 0, none⟩)]) (by simp) (by simp [go_sem]) ?_;refine (EW w0.heap.size (w0.heap.size + 1) wr).mono ?_;rintro e u' w' ⟨rfl, rfl, rfl⟩;show ∃ v, (results Tryz.f30 a.tmps).run Tryz.prog w' = .ok v w' ∧ LnA w0 x (.returned v) w';exact ⟨.tuple #[.agg X, .bool true], CN (by kernel_rfl) a.tmps w' w0.heap.size (w0.heap.size + 1) X (.bool true) h2 h3 hX hs hok, hR⟩
theorem BM {P : Program} {fn : Func} {t1 t2 : Array Value} {R : Ending → World → Prop} (h : results fn t1 = results fn t2) : ∀ (ds : List Deferred) (u : FrameMode) (w : World), Leaves P fn t1 R ds u w → Leaves P fn t2 R ds u w
 | [], .returning, w, hl => by obtain ⟨v, h1, h2⟩ := hl; exact ⟨v, by rw [← h]; exact h1, h2⟩
 | [], .panicking _, w, hl => hl
 | [], .run, _, hl => hl
 | d :: ds, u, w, hl => by
  obtain ⟨h0, fv, cp, f, args, h1, h2, h3⟩ := hl;refine ⟨h0, fv, cp, f, args, h1, h2, h3.mono ?_⟩;rintro e u' w' hh
  cases e with
  | returned v => exact BM h ds _ _ hh
  | panicked ch => exact BM h ds _ _ hh
  | outgrown => exact hh
theorem GX : Tryz.f30.results = #[.cell 2 45, .cell 3 4] := by kernel_rfl
theorem C8 {a : Act} {k : Nat} {v : Value} {R : Ending → World → Prop} {c : List PanicEntry} {w : World} (h2 : k ≠ 2) (h3 : k ≠ 3) (h : bodyPostD Tryz.prog Tryz.f30 R (.panic c) (a.put (some k) v) w) : bodyPostD Tryz.prog Tryz.f30 R (.panic c) a w := by
 refine BM ?_ _ _ _ h;unfold results;rw [GX];simp [Act.put, h2, h3]
theorem DG (w : World) (a : Addr) (v : Value) : (w.setCell a v).heap.size = w.heap.size := by simp [World.setCell]
structure LnT (w0 : World) (g N5 : Nat) (nm : List UInt8) (c : Pr.Cn) (B : Option Addr) (bc : Nat) (al : List (List UInt8)) (D : Value) (wr : World) : Prop where
 mem : LnM w0 g #[.string (bstr nm), .int .i64 c.op, .string (bstr c.text), .int .i64 c.num, .slice B c.kids.length bc, D] wr
 cn : CnRow wr (fun b => g < b ∧ b < N5) B c.kids
 own : wr.ownsRow N5 9 1 D al.length (strL al)
 n5 : g < N5 ∧ N5 ≤ wr.heap.size
section
variable {w0 wr w' w14 w15 : World} {g N5 bc : Nat} {nm a : List UInt8} {c : Pr.Cn} {B : Option Addr} {al : List (List UInt8)} {D v9 : Value}
theorem LnT.by_ (h : LnT w0 g N5 nm c B bc al D wr) (hg : wr.grownBy w' (some g)) : LnT w0 g N5 nm c B bc al D w' := by
 have h1 := h.n5;exact ⟨h.mem.by_ hg, h.cn.keep fun b hb hl => ⟨hb, hg.block b hl (fun e => by injection e with e; have := hb.1; omega)⟩, D2 h.own hg (fun e => by have := (h.own.lt _ e).1; omega), h1.1, Nat.le_trans h1.2 hg.size⟩
theorem LnT.push (h : LnT w0 g N5 nm c B bc al D w14) (ho : w15.ownsRow N5 9 1 v9 (al.length + 1) (strL al ++ [.string (bstr a)])) (hg : w14.grownBy w15 D.ownBlock) (hw : v9.ownBlock = D.ownBlock ∨ v9.ownBlock = some w14.heap.size) :
  Blk w15 w0.heap.size 45 #[.string (bstr nm), .int .i64 c.op, .string (bstr c.text), .int .i64 c.num, .slice B c.kids.length bc, D] ∧ LnT w0 g N5 nm c B bc (al ++ [a]) v9 (w15.setCell ⟨w0.heap.size, 5, none⟩ v9) ∧ (∀ k, k < N5 → k ≠ w0.heap.size → (w15.setCell ⟨w0.heap.size, 5, none⟩ v9).heap[k]? = w14.heap[k]?) := by
 have h1 := h.n5;have h2 := h.mem.lt;have hb : Below N5 w14 w15 := (Below.refl N5 w14).grown hg h1.2 (fun k e => (h.own.lt k e).1);have hm := h.mem.low (hb.mono (by omega));have ho9 : ∀ k, v9.ownBlock = some k → N5 ≤ k := fun k hk => (ho.lt k hk).1
 refine ⟨hm.x, ⟨hm.set 5 v9, h.cn.keep fun b hb2 hl => ⟨hb2, (Below.heap_setCell _ _ _ _ (by show b ≠ w0.heap.size; have := hb2.1; omega)).trans (hb.block b hb2.2)⟩, ?_, h1.1, by rw [DG]; exact Nat.le_trans h1.2 hb.size⟩, fun k hk hn => (Below.heap_setCell _ _ _ _ hn).trans (hb.block k hk)⟩;rw [List.length_append, Bi];exact Cr ho (fun e => by have := ho9 _ e; omega) v9
end
structure LnS (w0 : World) (g N5 : Nat) (nm : List UInt8) (c : Pr.Cn) (B : Option Addr) (bc : Nat) (A : Option Addr) (cap : Nat) (L : List Pr.Tk) (M : Option (List (List UInt8))) (j : Nat) (al : List (List UInt8)) (D : Value) (wr : World) : Prop where
 st : PSt wr g A cap L j 0
 le : j ≤ L.length
 tm : LnT w0 g N5 nm c B bc al D wr
 few : al.length ≤ j
 eq : Pr.moreA al (L.drop j) = M
theorem Fs (s : List UInt8) : Pr.lineP s = lineZ (Pr.tkz s) := by
 unfold Pr.lineP;show (match Pr.tkz s with | none => none | some L => Pr.ruleP L) = _;cases Pr.tkz s <;> rfl
theorem GB (S : ByteArray) (w : World) (hs : S.size ≤ 1000000) : Calls Tryz.prog 30 #[.string S] w (LnA w (Pr.lineP S.data.toList)) := by
 have hmf : ∀ (fn : Fn) (first cap : Array Value) (w : World), (Instr.makeFunc fn first cap).run Tryz.prog w = .ok (.func fn first cap) w := fun _ _ _ _ => rfl
 have hs1 : (w.alloc (.cells zRl 45)).heap.size = w.heap.size + 1 := World.size_alloc ..
 have HS2 : Hid (((w.alloc (.cells zRl 45)).alloc (.cells #[.bool false] 4)).heap.size = w.heap.size + 2) := hid (by rw [World.size_alloc, hs1])
 have HM1 : Hid (LnM w (w.heap.size + 2) zRl ((w.alloc (.cells zRl 45)).alloc (.cells #[.bool false] 4))) := hid (by
  refine ⟨by omega, (Blk.new w 45 zRl).alloc _, ?_, rfl, ((Below.refl _ _).alloc (Nat.le_refl _) _).alloc (by rw [hs1]; omega) _⟩;have := Blk.new (w.alloc (.cells zRl 45)) 4 #[.bool false]
  rwa [hs1] at this)
 have HTO := hid (Fm S ((w.alloc (.cells zRl 45)).alloc (.cells #[.bool false] 4)) hs);have HOK := hid (fun L h => Pr.tkz_ok (s := S.data.toList) (L := L) h (by rw [← Am]; exact hs));obtain ⟨RES, hRES⟩ : ∃ R, Pr.lineP S.data.toList = R := ⟨_, rfl⟩;have HR0 : Hid (RES = lineZ (Pr.tkz S.data.toList)) := hid (by rw [← hRES, Fs]);rw [hRES];generalize Pr.tkz S.data.toList = X at *;clear hRES hs1
 go_enter_defers Tryz.func30, Tryz.ntmps30
 go_wp2_with fail;refine HTO.out.mono ?_;rintro e w2 ⟨hr, hb2⟩;have hM2 : LnM w (w.heap.size + 2) zRl w2 := HM1.out.low (by have := HS2.out; exact hb2.mono (by omega))
 cases X with
 | none =>
  obtain rfl : e = .panicked brk := hr;exact Ba hM2 HR0.out rfl rfl rfl
 | some L =>
  obtain ⟨A, cap, rfl, hown⟩ := hr;obtain ⟨hTok, hLl⟩ := HOK.out L rfl;have HTOK := hid hTok;have hL : L.length ≤ 1000000 := by rw [← Am] at hLl; omega
  have hs2 : w.heap.size + 2 ≤ w2.heap.size := by have h1 := hb2.size; have h2 := HS2.out; omega
  have HAN : Hid (∀ a, A = some a → w.heap.size + 2 ≤ a.block ∧ a.block < w2.heap.size) := hid (fun a ha => by
   have := hown.lt a.block (by rw [ha]; rfl);have h2 := HS2.out
   omega)
  obtain ⟨A', cap', e1, -, hrow, -⟩ := AU hown;injection e1 with e1 e2 e3;subst e1 e3;have HP3 : Hid (PSt (w2.alloc (.cells #[.slice A (L.length + 1) cap, .int .i64 0, .int .i64 0] 88)) w2.heap.size A cap L 0 0) := hid ⟨Blk.new _ _ _, A3 hrow (fun a ha hl => Below.heap_alloc _ _ _ hl), fun a ha => by have := (HAN.out a ha).2; omega⟩
  have HM3 : Hid (LnM w w2.heap.size zRl (w2.alloc (.cells #[.slice A (L.length + 1) cap, .int .i64 0, .int .i64 0] 88))) := hid (by
   have hz : Below w2.heap.size w2 (w2.alloc (.cells #[.slice A (L.length + 1) cap, .int .i64 0, .int .i64 0] 88)) := (Below.refl _ _).alloc (Nat.le_refl _) _
   exact ⟨by omega, hM2.x.below hz (by omega), hM2.ok.below hz (by omega), rfl, hM2.bel.trans (hz.mono (by omega))⟩)
  have HR1 : Hid (RES = if Pr.headIs Pr.ruleW L then Pr.rA (L.length + 1) (Pr.takeF 1 L.tail) else none) := hid (by rw [HR0.out]; exact Pr.ruleP_eq L);have HS3 : Hid ((w2.alloc (.cells #[.slice A (L.length + 1) cap, .int .i64 0, .int .i64 0] 88)).heap.size = w2.heap.size + 1) := hid (World.size_alloc ..);clear hown hrow hTok hLl hb2 hM2 HTO HM1 e2;generalize hg : w2.heap.size = g at *;go_wp2_with fail;generalize hw3 : w2.alloc (.cells #[.slice A (L.length + 1) cap, .int .i64 0, .int .i64 0] 88) = w3 at *;have HGT : Hid (w.heap.size + 1 < g) := hid HM3.out.lt;refine (CC Pr.ruleW g A cap L 0 0 w3 HP3.out (Nat.zero_le _) hL (by decide)).mono ?_;rintro e w4 ⟨hr, hg4⟩;have HM4 := hid (HM3.out.by_ hg4);clear hg4;rw [List.drop_zero] at hr
  cases h1 : Pr.headIs Pr.ruleW L with
  | false =>
   rw [h1] at hr;obtain rfl : e = .panicked brk := hr;exact Ba HM4.out (by rw [HR1.out, h1]; rfl) rfl rfl rfl
  | true =>
   rw [h1] at hr;obtain ⟨rfl, hp4⟩ := hr;have HP4 := hid hp4;have hl1 : 1 ≤ L.length := by cases L with | nil => cases h1 | cons t r => simp
   have HR2 : Hid (RES = Pr.rA (L.length + 1) (Pr.takeF 1 (L.drop 1))) := hid (by rw [HR1.out, h1, if_pos rfl, List.drop_one]);clear hp4 h1;go_wp2_with fail;refine (Bg 1 g A cap L 1 0 w4 HP4.out hl1 hL).mono ?_;rintro e w5 ⟨hr, hg5⟩;have HM5 := hid (HM4.out.by_ hg5);clear hg5;by_cases hf1 : (Pr.hdT (L.drop 1)).form = 1
   ·rw [if_pos hf1] at hr;obtain ⟨rfl, hp5⟩ := hr;have hl2 := Pr.hd_lt (L := L) (i := 1) (by rw [hf1]; decide);have HR3 : Hid (RES = Pr.rB (L.length + 1) (Pr.hdT (L.drop 1)).text (L.drop 2)) := hid (by rw [HR2.out, Pr.takeF_yes (by decide) hf1, Pr.tail_at]; rfl);generalize (Pr.hdT (L.drop 1)).text = nm at *;have hfx := HM5.out.x.frozen 0;have hcx := HM5.out.x.cell 0;simp only [List.getElem?_toArray, List.getElem?_cons_zero] at hcx;have HM6 : Hid (LnM w g #[.string (bstr nm), .int .i64 0, .string ⟨#[]⟩, .int .i64 0, .slice none 0 0, .slice none 0 0] (w5.setCell ⟨w.heap.size, 0, none⟩ (.string (bstr nm)))) := hid (HM5.out.set 0 (.string (bstr nm)));have HP6 : Hid (PSt (w5.setCell ⟨w.heap.size, 0, none⟩ (.string (bstr nm))) g A cap L 2 0) := hid (hp5.other (by have := HGT.out; omega) (fun a ha => by have := (HAN.out a ha).1; omega) (AX _ _ _ _));clear hp5 hf1;generalize hw6 : w5.setCell ⟨w.heap.size, 0, none⟩ (.string (bstr nm)) = w6 at *;go_wp2_with fail;refine (CC Pr.whenW g A cap L 2 0 w6 HP6.out hl2 hL (by decide)).mono ?_;rintro e w7 ⟨hr, hg7⟩;have HM7 := hid (HM6.out.by_ hg7);clear hg7 hw6 hfx hcx
    cases h2 : Pr.headIs Pr.whenW (L.drop 2) with
    | false =>
     rw [h2] at hr;obtain rfl : e = .panicked brk := hr;exact Ba HM7.out (by rw [HR3.out]; unfold Pr.rB; rw [h2]; rfl) rfl rfl rfl
    | true =>
     rw [h2] at hr;obtain ⟨rfl, hp7⟩ := hr;have HP7 := hid hp7;have hl3 : 3 ≤ L.length := by
      rcases Nat.lt_or_ge 2 L.length with h | h
      ·omega
      ·rw [List.drop_eq_nil_of_le h] at h2; cases h2
     have HR4 : Hid (RES = Pr.rC (L.length + 1) nm (Pr.condP (L.length + 1) 0 (L.drop 3))) := hid (by rw [HR3.out]; unfold Pr.rB; rw [h2, if_pos rfl, Pr.tail_at])
     have HSH : Hid (∀ c q, Pr.condP (L.length + 1) 0 (L.drop 3) = some (c, q) → q.length < (L.drop 3).length) := hid (fun c q hq => by
      obtain ⟨p, e, hp⟩ := Pr.condP_of _ _ _ _ _ hq;have := List.length_pos_iff.2 hp
      rw [e, List.length_append]; omega)
     have HCO := hid (FP g A cap L 3 w7 HP7.out hl3 hL HTOK.out);generalize Pr.condP (L.length + 1) 0 (L.drop 3) = X at *;clear hp7 h2;go_wp2_with fail;refine HCO.out.mono ?_;rintro e w8 ⟨hr, hg8⟩;have HM8 := hid (HM7.out.by_ hg8);have HW7 : Hid (g < w7.heap.size) := hid HP7.out.lt
     cases X with
     | none =>
      obtain rfl : e = .panicked brk := hr;exact Ba HM8.out (by rw [HR4.out]; rfl) rfl rfl rfl
     | some cq =>
      obtain ⟨c, q⟩ := cq;obtain ⟨V, j, hj, rfl, rfl, hV, hP8⟩ := hr;have HP8 := hid hP8;have hlt8 := hg8.size;have hV8 : CnV w8 (fun b => g < b ∧ b < w8.heap.size) V c := hV.keep fun b hb hl => ⟨⟨by have := HW7.out; omega, hl⟩, rfl⟩
      obtain ⟨B, bc, rfl, hrow⟩ := hV8.open;have HCN := hid hrow
      have H3J : Hid (3 < j) := hid (by
       have := HSH.out c _ rfl;rw [List.length_drop, List.length_drop] at this
       omega)
      have HR5 : Hid (RES = if Pr.headIs Pr.doW (L.drop j) then Pr.rD2 (L.length + 1) nm c (Pr.takeF 1 (L.drop (j + 1))) else none) := hid (by rw [HR4.out, ← Pr.tail_at]; rfl);have hx1 := HM8.out.x.cell 1;have hx2 := HM8.out.x.cell 2;have hx3 := HM8.out.x.cell 3;have hx4 := HM8.out.x.cell 4;have hz1 := HM8.out.x.frozen 1;have hz2 := HM8.out.x.frozen 2;have hz3 := HM8.out.x.frozen 3;have hz4 := HM8.out.x.frozen 4;simp only [List.getElem?_toArray, List.getElem?_cons_succ, List.getElem?_cons_zero] at hx1 hx2 hx3 hx4;clear hV hV8 hrow hP8 hg8 HCO HSH;go_wp2_with fail;have HM9 : Hid (LnM w g #[.string (bstr nm), .int .i64 c.op, .string (bstr c.text), .int .i64 c.num, .slice B c.kids.length bc, .slice none 0 0] ((((w8.setCell ⟨w.heap.size, 1, none⟩ (.int .i64 c.op)).setCell ⟨w.heap.size, 2, none⟩ (.string (bstr c.text))).setCell ⟨w.heap.size, 3, none⟩ (.int .i64 c.num)).setCell ⟨w.heap.size, 4, none⟩ (.slice B c.kids.length bc))) := hid ((((HM8.out.set 1 (.int .i64 c.op)).set 2 (.string (bstr c.text))).set 3 (.int .i64 c.num)).set 4 (.slice B c.kids.length bc));have HOT : Hid (∀ k, k ≠ w.heap.size → ((((w8.setCell ⟨w.heap.size, 1, none⟩ (.int .i64 c.op)).setCell ⟨w.heap.size, 2, none⟩ (.string (bstr c.text))).setCell ⟨w.heap.size, 3, none⟩ (.int .i64 c.num)).setCell ⟨w.heap.size, 4, none⟩ (.slice B c.kids.length bc)).heap[k]? = w8.heap[k]?) := hid (fun k hk => by rw [AX _ _ _ _ k hk, AX _ _ _ _ k hk, AX _ _ _ _ k hk, AX _ _ _ _ k hk]);have HSZ9 : Hid (((((w8.setCell ⟨w.heap.size, 1, none⟩ (.int .i64 c.op)).setCell ⟨w.heap.size, 2, none⟩ (.string (bstr c.text))).setCell ⟨w.heap.size, 3, none⟩ (.int .i64 c.num)).setCell ⟨w.heap.size, 4, none⟩ (.slice B c.kids.length bc)).heap.size = w8.heap.size) := hid (by simp [World.setCell]);clear hx1 hx2 hx3 hx4 hz1 hz2 hz3 hz4;generalize (((w8.setCell ⟨w.heap.size, 1, none⟩ (.int .i64 c.op)).setCell ⟨w.heap.size, 2, none⟩ (.string (bstr c.text))).setCell ⟨w.heap.size, 3, none⟩ (.int .i64 c.num)).setCell ⟨w.heap.size, 4, none⟩ (.slice B c.kids.length bc) = w9 at *;have HP9 : Hid (PSt w9 g A cap L j 0) := hid (HP8.out.other (by have := HGT.out; omega) (fun a ha => by have := (HAN.out a ha).1; omega) HOT.out);have HC9 : Hid (CnRow w9 (fun b => g < b ∧ b < w9.heap.size) B c.kids) := hid (HCN.out.keep fun b hb hl => ⟨⟨hb.1, by rw [HSZ9.out]; exact hb.2⟩, HOT.out b (by have := HGT.out; have := hb.1; omega)⟩);refine (CC Pr.doW g A cap L j 0 w9 HP9.out hj hL (by decide)).mono ?_;rintro e w10 ⟨hr, hg10⟩;have HM10 := hid (HM9.out.by_ hg10);have HC10 : Hid (CnRow w10 (fun b => g < b ∧ b < w10.heap.size) B c.kids) := hid (HC9.out.keep fun b hb hl => ⟨⟨hb.1, by have := hg10.size; have := hb.2; omega⟩, hg10.block b hl (fun e => by injection e with e; have := hb.1; omega)⟩);clear hg10
      cases h3 : Pr.headIs Pr.doW (L.drop j) with
      | false =>
       rw [h3] at hr;obtain rfl : e = .panicked brk := hr;exact Ba HM10.out (by rw [HR5.out, h3]; rfl) rfl rfl rfl
      | true =>
       rw [h3] at hr;obtain ⟨rfl, hp10⟩ := hr;have HP10 := hid hp10;have hj1 : j + 1 ≤ L.length := by
        rcases Nat.lt_or_ge j L.length with h | h
        ·omega
        ·rw [List.drop_eq_nil_of_le h] at h3; cases h3
       have HR6 : Hid (RES = Pr.rD2 (L.length + 1) nm c (Pr.takeF 1 (L.drop (j + 1)))) := hid (by rw [HR5.out, h3, if_pos rfl]);clear hp10 h3;go_wp2_with fail;refine (Bg 1 g A cap L (j + 1) 0 w10 HP10.out hj1 hL).mono ?_;rintro e w11 ⟨hr, hg11⟩;have HM11 := hid (HM10.out.by_ hg11);have HC11 : Hid (CnRow w11 (fun b => g < b ∧ b < w11.heap.size) B c.kids) := hid (HC10.out.keep fun b hb hl => ⟨⟨hb.1, by have := hg11.size; have := hb.2; omega⟩, hg11.block b hl (fun e => by injection e with e; have := hb.1; omega)⟩);clear hg11;by_cases hf2 : (Pr.hdT (L.drop (j + 1))).form = 1
       ·rw [if_pos hf2] at hr;obtain ⟨rfl, hp11⟩ := hr;have hj2 := Pr.hd_lt (L := L) (i := j + 1) (by rw [hf2]; decide);have HR7 : Hid (RES = Pr.rE nm c (Pr.moreA [(Pr.hdT (L.drop (j + 1))).text] (L.drop (j + 2)))) := hid (by rw [HR6.out, Pr.takeF_yes (by decide) hf2, Pr.tail_at]; show Pr.rE nm c (Pr.moreP _ _ _) = _; rw [Pr.moreP_A (by rw [List.length_drop]; omega)]);generalize (Pr.hdT (L.drop (j + 1))).text = a0 at *;obtain ⟨M, hM⟩ : ∃ M, Pr.moreA [a0] (L.drop (j + 2)) = M := ⟨_, rfl⟩;rw [hM] at HR7;have HMM := hid hM;have hzA : Below w11.heap.size w11 (w11.alloc (.cells #[.string (bstr a0)] 9)) := (Below.refl _ _).alloc (Nat.le_refl _) _;have HMA := hid (HM11.out.by_ (As hzA));have hx5 := HMA.out.x.cell 5;have hz5 := HMA.out.x.frozen 5;simp only [List.getElem?_toArray, List.getElem?_cons_succ, List.getElem?_cons_zero] at hx5;have hgl : g < w11.heap.size := hp11.lt
        have HL0 : Hid (LnS w g w11.heap.size nm c B bc A cap L M (j + 2) [a0] (.slice (some ⟨w11.heap.size, 0, none⟩) 1 1) ((w11.alloc (.cells #[.string (bstr a0)] 9)).setCell ⟨w.heap.size, 5, none⟩ (.slice (some ⟨w11.heap.size, 0, none⟩) 1 1))) := hid (by
         refine ⟨(hp11.bel hzA).other (by have := HGT.out; omega) (fun a ha => by have := (HAN.out a ha).1; omega) (AX _ _ _ _), by omega, ⟨HMA.out.set 5 _, ?_, ?_, ⟨hgl, by rw [DG, World.size_alloc]; omega⟩⟩, by have := H3J.out; show 1 ≤ j + 2; omega, HMM.out⟩
         ·exact HC11.out.keep fun b hb hl => ⟨hb, (AX _ _ _ _ b (by have := hb.1; have := HGT.out; omega)).trans (hzA.block b hl)⟩
         ·exact Cr (AR (World.ownsRow_lit (base := w11.heap.size) (e := 9) (size := 1) w11 #[.string (bstr a0)] 1 (Nat.le_refl _) (by decide) rfl) (Below.refl _ _)) (fun e => by (have e2 : w11.heap.size = w.heap.size := by injection e); (have := HGT.out); omega) _)
        clear hzA hM hp11 hf2 HMA;go_wp2_with fail;generalize hN5 : w11.heap.size = N5 at *;generalize (w11.alloc (.cells #[.string (bstr a0)] 9)).setCell ⟨w.heap.size, 5, none⟩ (.slice (some ⟨N5, 0, none⟩) 1 1) = w12 at *;clear hN5 hx5 hz5 hw3;obtain ⟨b0, off0, hA0⟩ := HL0.out.st.some_;subst hA0;have HAN2 : Hid (b0 ≠ w.heap.size ∧ b0 < g) := hid (by have := HAN.out _ rfl; simp only at this; omega)
        go_loopw [37] (fun _ wr => ∃ (j : Nat) (al : List (List UInt8)) (D : Value), LnS w g N5 nm c B bc (some ⟨b0, off0, none⟩) cap L M j al D wr) (fun _ wr => L.length - atOf wr g)
        case atStart => exact ⟨_, _, _, HL0.out⟩
        case round =>
         obtain ⟨j, al, D, hS⟩ := hrel;have HN := hid hS;have hj := hS.le;obtain ⟨A0, c0, rfl, hc0, -⟩ := AU hS.tm.own;obtain ⟨b1, off1, e1, hc1, hc2⟩ := hS.st.tok hj;injection e1 with e1;injection e1 with e1 e2 _;subst e1 e2;have hb0 := hS.st.blk.cell 0;have hb1 := hS.st.blk.cell 1;simp only [List.getElem?_toArray, List.getElem?_cons_succ, List.getElem?_cons_zero] at hb0 hb1;have hI0 : (0 : Int) ≤ (j : Int) := by omega
         have hI1 : (j : Int) < ((L.length : Int) + 1) := by omega
         have HHL := hid (Pr.hd_lt (L := L) (i := j));have HM5 := hid (fun h : (Pr.hdT (L.drop j)).form = 5 => (Pr.moreA_more (acc := al) h).symm.trans HN.out.eq);have HM0 := hid (fun (h : (Pr.hdT (L.drop j)).form ≠ 5) hr => (Pr.moreA_no (acc := al) h hr).symm.trans HN.out.eq);have HTE := hid (Bg 0 g (some ⟨b0, off0, none⟩) cap L j 0)
         have HFZ : Hid ((Pr.hdT (L.drop j)).form = 0 ↔ L.drop j = []) := hid (by
          constructor
          ·intro h;rcases Nat.lt_or_ge j L.length with h2 | h2
           ·have h3 := Pr.hd_at (L := L) hj;rw [List.getElem?_append_left h2] at h3;exact absurd h (HTOK.out _ (List.mem_of_getElem? h3)).2.2
           ·exact List.drop_eq_nil_of_le h2
          ·intro h; rw [h]; rfl)
         generalize (Pr.hdT (L.drop j)).form = f at *;generalize (Pr.hdT (L.drop j)).text = t at *;clear hS;by_cases hf5 : f = 5
         ·subst hf5;have hjl := HHL.out (by decide);have HXM := hid (HM5.out rfl);go_wp2_with fail
          go_quiet (fail)
          have HPD := hid (HN.out.st.drewN nq);have HTD := hid (HN.out.tm.by_ (AV wr g nq));generalize wr.drewN nq = w13 at *;have hb1 := HPD.out.blk.cell 1;simp only [List.getElem?_toArray, List.getElem?_cons_succ, List.getElem?_cons_zero] at hb1;have hf1 := HPD.out.blk.frozen 1;have HP14 : Hid (PSt (w13.setCell ⟨g, 1, none⟩ (.int .i64 ((j : Int) + 1))) g (some ⟨b0, off0, none⟩) cap L (j + 1) 0) := hid (HPD.out.set1 (j + 1));have HT14 := hid (HTD.out.by_ (Bf w13 g 1 (.int .i64 ((j : Int) + 1))));generalize hw14 : w13.setCell ⟨g, 1, none⟩ (.int .i64 ((j : Int) + 1)) = w14 at *
          go_upto_region 11 with fail
          have HPX : Hid (PSt w14.drew g (some ⟨b0, off0, none⟩) cap L (j + 1) 0) := hid ⟨HP14.out.blk, HP14.out.row, HP14.out.far⟩;have HTX : Hid (LnT w g N5 nm c B bc al (.slice A0 al.length c0) w14.drew) := hid (HT14.out.by_ (As ((Below.refl _ w14).drew)));have HTK := hid (Bg 1 g (some ⟨b0, off0, none⟩) cap L (j + 1) 0 w14.drew HPX.out (by omega) hL);have hc5 := HTX.out.mem.x.cell 5;simp only [List.getElem?_toArray, List.getElem?_cons_succ, List.getElem?_cons_zero] at hc5;clear hw14 hb1 hf1;refine CL (fun W => W.cell? ⟨w.heap.size, 5, none⟩ = some (.slice A0 al.length c0)) (fun i => i == 7) (by kernel_rfl) hc5 (fun hHeld => ?_);refine Bo (i := 0) (oi := _) (v := ?_) rfl (by kernel_rfl) (by kernel_rfl) (by kernel_rfl) (by kernel_rfl) (fun _ _ _ h => C8 (k := 45) (by decide) (by decide) h) (Or.inl ⟨by rfl, ?_⟩) hHeld ?_;rotate_left
          ·intro wq hSw;go_simp
           (try with_reducible rfl)
          (try simp only [Act.put, pk1, pk2, pk3, pk4, pk5, pk6])
          refine Bo (i := 1) (oi := _) (v := ?_) rfl (by kernel_rfl) (by kernel_rfl) (by kernel_rfl) (by kernel_rfl) (fun _ _ _ h => C8 (k := 46) (by decide) (by decide) h) (Or.inl ⟨by rfl, ?_⟩) hHeld ?_;rotate_left
          ·intro wq hSw;go_simp
           (try with_reducible rfl)
          (try simp only [Act.put, pk1, pk2, pk3, pk4, pk5, pk6])
          refine Bo (i := 2) (oi := _) (v := ?_) rfl (by kernel_rfl) (by kernel_rfl) (by kernel_rfl) (by kernel_rfl) (fun _ _ _ h => C8 (k := 47) (by decide) (by decide) h) (Or.inl ⟨by rfl, ?_⟩) hHeld ?_;rotate_left
          ·intro wq hSw;go_simp
           (try with_reducible rfl)
          (try simp only [Act.put, pk1, pk2, pk3, pk4, pk5, pk6])
          refine AO (rs := [3]) (by kernel_rfl) (by simp) ?_;refine ReadyT.cons (o := _) rfl (fun K hK => ?_) ReadyT.nil;go_simp
          go_at_call 62
          refine HTK.out.mono ?_;rintro e w15 ⟨hr, hg15⟩;have HT15 := hid (HTX.out.by_ hg15);clear hg15;have HH1 := hid (Pr.hd_lt (L := L) (i := j + 1));have HXM2 : Hid (Pr.moreB al (Pr.takeF 1 (L.drop (j + 1))) = M) := hid (by rw [← HXM.out, Pr.tail_at]);have HY1 := hid (Pr.takeF_yes (f := 1) (r := L.drop (j + 1)) (by decide));have HN1 := hid (Pr.takeF_no (f := 1) (r := L.drop (j + 1)));rw [Pr.tail_at] at HY1;generalize (Pr.hdT (L.drop (j + 1))).form = f6 at *;generalize (Pr.hdT (L.drop (j + 1))).text = a at *;by_cases hf6 : f6 = 1
          ·rw [if_pos hf6] at hr;obtain ⟨rfl, hp15⟩ := hr;have hj2 := HH1.out (by rw [hf6]; decide);have HXE : Hid (Pr.moreA (al ++ [a]) (L.drop (j + 2)) = M) := hid (by rw [← HXM2.out, HY1.out hf6]; rfl);have hz : Below w15.heap.size w15 (w15.alloc (.cells #[.string (bstr a)] 9)) := (Below.refl _ _).alloc (Nat.le_refl _) _;have HP16 := hid (hp15.bel hz);have HT16 := hid (HT15.out.by_ (As hz));have hown := HT16.out.own;have hrd : Rd (w15.alloc (.cells #[.string (bstr a)] 9)) (some ⟨w15.heap.size, 0, none⟩) (1 * 1) [.string (bstr a)] := Rd.of_blk (vs := [.string (bstr a)]) (Blk.new w15 9 #[.string (bstr a)]);have hone2 : ∀ u ∈ ([.string (bstr a)] : List Value), u.oneCell' = true := by intro u hu; simp at hu; subst hu; rfl
           have hbase := HT16.out.n5.2;have HFEW := hid HN.out.few;have hlen8 : al.length + 1 ≤ 100000000000 := by have := HFEW.out; omega
           have hc7 := HT15.out.mem.x.cell 5;have hc8 := HT16.out.mem.x.cell 5;simp only [List.getElem?_toArray, List.getElem?_cons_succ, List.getElem?_cons_zero] at hc7 hc8;clear hp15 hz hf6 hHeld;refine hK.out _ _ (.inr hc7) ?_;clear hK K
           (try simp only [Act.put, pk1, pk2, pk3, pk4, pk5, pk6])
           refine AO (rs := [4]) (by kernel_rfl) (by simp) ?_;refine ReadyT.cons (o := _) rfl (fun K hK => ?_) ReadyT.nil;go_simp;refine hK.out _ _ (.inr hc8) ?_;clear hK K
           (try simp only [Act.put, pk1, pk2, pk3, pk4, pk5, pk6])
           refine AO (rs := [5]) (by kernel_rfl) (by simp) ?_;refine ReadyT.cons (o := _) rfl (fun K hK => ?_) ReadyT.nil;refine Ej rowSt rfl _ _ rfl (w15.alloc (.cells #[.string (bstr a)] 9)) (.slice A0 al.length c0) al.length (strL al) [.string (bstr a)] N5 ?_ hown (some ⟨w15.heap.size, 0, none⟩) 1 1 ?_ hrd hone2 hbase hlen8 ?_
           ·kernel_rfl
           ·kernel_rfl
           intro v9 w9 ho9 hg9 hb9 hwh9;obtain ⟨A9, c9, rfl, -⟩ := AU ho9;obtain ⟨hk9, ht10, hoth10⟩ := HT16.out.push ho9 hg9 hwh9;have HT10 := hid ht10
           have HP10 : Hid (PSt (w9.setCell ⟨w.heap.size, 5, none⟩ (.slice A9 (al.length + 1) c9)) g (some ⟨b0, off0, none⟩) cap L (j + 2) 0) := hid (by
            have h5 := HT16.out.n5.1;have h6 := HAN2.out;have h7 := HGT.out
            exact ⟨(hoth10 g h5 (by omega)).trans HP16.out.blk, A3 HP16.out.row (fun a ha _ => by injection ha with ha; subst ha; exact hoth10 b0 (by omega) h6.1), HP16.out.far⟩)
           have hf9 := hk9.frozen 5;have hc9 := hk9.cell 5;simp only [List.getElem?_toArray, List.getElem?_cons_succ, List.getElem?_cons_zero] at hc9;clear ho9 hg9 hb9 hwh9 ht10 hoth10 hown hrd hc7 hc8;refine hK.out _ _ (.inr hc9) ?_;clear hK K
           (try simp only [Act.put, pk1, pk2, pk3, pk4, pk5, pk6])
           refine AO (rs := [6]) (by kernel_rfl) (by simp) ?_;refine ReadyT.cons (o := _) rfl (fun K hK => ?_) ReadyT.nil;go_simp;refine hK.out _ _ (.inr hc9) ?_;clear hK K
           (try simp only [Act.put, pk1, pk2, pk3, pk4, pk5, pk6])
           refine AO (rs := [7]) (by kernel_rfl) (by simp) ?_;refine ReadyT.cons (o := _) rfl (fun K hK => ?_) ReadyT.nil;go_simp;refine hK.out _ _ (.inl rfl) ?_;clear hK K
           (try simp only [Act.put, pk1, pk2, pk3, pk4, pk5, pk6])
           refine DN (by kernel_rfl) ?_ _;have HAO := hid (CU HP10.out);have HAJ := hid (CU HN.out.st);generalize hw10 : w9.setCell ⟨w.heap.size, 5, none⟩ (.slice A9 (al.length + 1) c9) = w10 at *;go_wp2_with fail
           go_roundw
           case rel => exact ⟨j + 2, al ++ [a], _, ⟨HP10.out, by omega, HT10.out, by have := HFEW.out; rw [List.length_append]; show al.length + 1 ≤ j + 2; omega, HXE.out⟩⟩
           case measure => rw [HAO.out, HAJ.out]; omega
          ·rw [if_neg hf6] at hr;obtain rfl : e = .panicked brk := hr;exact Ba HT15.out.mem (by rw [HR7.out, ← HXM2.out, HN1.out hf6]; rfl) rfl rfl rfl
         ·have hy : (f == 5) = false := by rw [beq_eq_false_iff_ne]; exact hf5
          have HNF := hid hf5;clear hf5;go_wp2_with fail
          go_quiet (fail)
          have HPD := hid (HN.out.st.drewN nq);have HTD := hid (HN.out.tm.by_ (AV wr g nq));generalize wr.drewN nq = w13 at *;go_wp2_with fail;refine (HTE.out w13 HPD.out hj hL).mono ?_;rintro e w14 ⟨hr, hg14⟩;have HT14 := hid (HTD.out.by_ hg14);clear hg14;by_cases hf0 : f = 0
          ·rw [if_pos hf0] at hr;obtain ⟨rfl, -⟩ := hr
           have HXE : Hid (RES = some ⟨nm, c, al⟩) := hid (by
            have h1 := HN.out.eq;rw [HFZ.out.1 hf0, Pr.moreA_nil] at h1;rw [HR7.out, ← h1]
            rfl)
           have HB14 := hid HT14.out.mem.x;have HSX : Hid ((Tryz.prog.info? 45).map (·.size) = some (#[.string (bstr nm), .int .i64 c.op, .string (bstr c.text), .int .i64 c.num, .slice B c.kids.length bc, .slice A0 al.length c0] : Array Value).size) := hid (by rw [AB]; rfl);have hone : (#[.string (bstr nm), .int .i64 c.op, .string (bstr c.text), .int .i64 c.num, .slice B c.kids.length bc, .slice A0 al.length c0] : Array Value).all (·.oneCell') = true := by simp [Value.oneCell']
           have hc1' := HT14.out.mem.ok.cell 0;have hf1' := HT14.out.mem.ok.frozen 0;simp only [List.getElem?_toArray, List.getElem?_cons_zero] at hc1';have HOK14 := hid HT14.out.mem.ok;clear hf0 hb0 hb1 hc1 hc2
           go_wp2_with (first
            | (refine Ac (by rfl) 45 _ rfl w.heap.size rfl 45 _ (0, 0) _ rfl HB14.out Tryz.underlying45 HSX.out ?_)
            | ((with_reducible refine Ab rfl 45 _ _ rfl w.heap.size #[.string (bstr nm), .int .i64 c.op, .string (bstr c.text), .int .i64 c.num, .slice B c.kids.length bc, .slice A0 al.length c0] ?_ ?_ 45 _ HB14.out HSX.out rfl hone ?_); rfl; rfl; intro w15 hk15 hs15 hbl15 hoth15; have hok15 : Blk w15 (w.heap.size + 1) 4 #[.bool false] := (hoth15 _ (by omega)).trans HOK14.out; have hcq := hok15.cell 0; have hfq := hok15.frozen 0; (simp only [List.getElem?_toArray, List.getElem?_cons_zero] at hcq)))
           refine FW (hk15.far (p := ⟨w.heap.size + 1, 0, none⟩) (by show w.heap.size ≠ w.heap.size + 1; omega) (.bool true)) rfl (hok15.set_ 0 (.bool true)) ?_ rfl rfl rfl;have hbw : Below w.heap.size w (w15.setCell ⟨w.heap.size + 1, 0, none⟩ (.bool true)) := (HT14.out.mem.bel.trans (hbl15 _ (Nat.le_refl _))).setCell (by show w.heap.size ≤ w.heap.size + 1; omega) _;have hoth : ∀ k, k ≠ w.heap.size → k ≠ w.heap.size + 1 → (w15.setCell ⟨w.heap.size + 1, 0, none⟩ (.bool true)).heap[k]? = w14.heap[k]? := fun k h1 h2 => (AX _ _ _ _ k h2).trans (hoth15 k h1)
           have hgt := HGT.out;have hn5 := HT14.out.n5;obtain ⟨A1, c1, e1, hcap1, hrd1, hbl1⟩ := AU HT14.out.own;injection e1 with e1 e2 e3;subst e1 e3;refine LnA.yes HXE.out ⟨B, bc, A0, c0, rfl, HT14.out.cn.keep fun b hb hl => ⟨by have := hb.1; omega, hoth b (by have := hb.1; omega) (by have := hb.1; omega)⟩, ?_, hcap1, fun a ha hp => ?_⟩ hbw
           ·have hrd2 : Rd w14 A0 al.length (strL al) := by rw [Nat.mul_one] at hrd1; exact hrd1
            exact A3 hrd2 (fun a ha hl => by have h5 := (HT14.out.own.lt a.block (by rw [ha]; rfl)).1; exact hoth _ (by omega) (by omega))
           ·have h5 := (HT14.out.own.lt a.block (by rw [ha]; rfl)).1;omega
          ·rw [if_neg hf0] at hr;obtain rfl : e = .panicked brk := hr;exact Ba HT14.out.mem (by rw [HR7.out, ← HM0.out HNF.out (fun h => hf0 (HFZ.out.2 h))]; rfl) rfl rfl rfl
       ·rw [if_neg hf2] at hr;obtain rfl : e = .panicked brk := hr;exact Ba HM11.out (by rw [HR6.out, Pr.takeF_no hf2]; rfl) rfl rfl rfl
   ·rw [if_neg hf1] at hr;obtain rfl : e = .panicked brk := hr;exact Ba HM5.out (by rw [HR2.out, Pr.takeF_no hf1]; rfl) rfl rfl rfl
end Go.Proofs.YtchkiegehejfmaaGreatDoor
namespace Pr
def Rl.Good (x : Rl) : Prop := x.name.length ≤ 1000000 ∧ small x.wh ∧ nodes x.wh ≤ 1000000 ∧ ∀ a ∈ x.acts, a.length ≤ 1000000
end Pr
namespace Go.Proofs.YtchkiegehejfmaaGreatDoor
open Go.RowKit Go.Lib
theorem BG {ops : Array Oper} {rest : List Oper} {o : Oper} {a : Act} {w : World} {Q : Exit → Act → World → Prop} (hw : Region.wanted o (yielded ops a.tmps) = true) (ty : TypeId) (x : Operand) (ho : o.op = .load ty x)
  (b n : Nat) (hx : a.eval x = .pointer (some ⟨b, n, none⟩)) (cs : List Value) (d : TypeDesc) (hc : w.rangeAt b n cs)
  (hu : Tryz.prog.underlying ty = some d) (hd : d.isRow = true) (hi : (Tryz.prog.info? ty).map (·.size) = some cs.length)
  (h : wpList Tryz.prog ops Q rest (a.put o.dst (.agg cs.toArray)) w) : wpList Tryz.prog ops Q (o :: rest) a w :=
 wpList_step fun K hK => by
  rw [if_pos hw];exact wp_load_mid ty x ho b n hx cs d hc hu hd hi (hK _ _ h)
structure RuX (ok : Nat → Prop) (g : Nat) (A : Option Addr) (cap : Nat) (D : Option Addr) (dcap : Nat) (x : Pr.Rl) (W : World) : Prop where
 nm : W.cell? ⟨g, 0, none⟩ = some (.string (bstr x.name))
 wh : W.rangeAt g 1 [.int .i64 x.wh.op, .string (bstr x.wh.text), .int .i64 x.wh.num, .slice A x.wh.kids.length cap]
 dl : W.cell? ⟨g, 5, none⟩ = some (.slice D x.acts.length dcap)
 row : CnRow W ok A x.wh.kids
 rd : Rd W D x.acts.length (strL x.acts)
section
variable {ok : Nat → Prop} {g : Nat} {A D : Option Addr} {cap dcap : Nat} {x : Pr.Rl} {W W' : World}
theorem RuX.bel (h : RuX ok g A cap D dcap x W) (hb : Below W.heap.size W W') : RuX ok g A cap D dcap x W' :=
 ⟨(Below.cell hb (An h.nm)).trans h.nm, Aw h.wh (hb.block _ (An h.nm)), (Below.cell hb (An h.dl)).trans h.dl, h.row.below hb, h.rd.below hb⟩
theorem RuX.cn (h : RuX ok g A cap D dcap x W) : CnV W ok ([.int .i64 x.wh.op, .string (bstr x.wh.text), .int .i64 x.wh.num, .slice A x.wh.kids.length cap] : List Value).toArray x.wh := CnV.of h.row cap
theorem RuX.new {w : World} {X : Array Value} (h : RlV w ok X x) : ∃ A cap D dcap, x.acts.length ≤ dcap ∧ RuX ok w.heap.size A cap D dcap x (w.alloc (.cells X 45)) := by
 have hb := (Below.refl w.heap.size w).alloc (Nat.le_refl _) (.cells X 45);have h2 := h.bel hb;obtain ⟨A, cap, D, dcap, rfl, h3, h4, h5, h6⟩ := h2;have hk := Blk.new w 45 #[.string (bstr x.name), .int .i64 x.wh.op, .string (bstr x.wh.text), .int .i64 x.wh.num, .slice A x.wh.kids.length cap, .slice D x.acts.length dcap];refine ⟨A, cap, D, dcap, h5, hk.cell 0, fun j v hj => ?_, hk.cell 5, h3, h4⟩;have := hk.cell (1 + j);rw [this]
 match j, hj with
 | 0, hj => exact hj
 | 1, hj => exact hj
 | 2, hj => exact hj
 | 3, hj => exact hj
 | n + 4, hj => simp at hj
end
theorem Gt (ok ok' : Nat → Prop) (l : List Pr.Rl) (E : Option Addr) (ecap : Nat) (x : Pr.Rl) (X : Array Value) (w : World) (hn : l.length ≤ 1000000) (hl : RlRow w ok' E l) (hx : RlV w ok X x) (hg : x.Good) :
  Calls Tryz.prog 53 #[.slice E l.length ecap, .agg X] w fun e w' => e = .returned (.int .i64 (Pr.ruleE l x)) ∧ Below w.heap.size w w' := by
 have hb1 := (Below.refl w.heap.size w).alloc (Nat.le_refl _) (.cells X 45);have HB1 := hid hb1;obtain ⟨A, cap, D, dcap, hdc, hru⟩ := RuX.new hx;have HR1 := hid hru;have HL1 := hid (hl.bel hb1);obtain ⟨hg1, hg2, hg3, hg4⟩ := hg;have HGS := hid hg2;have HGA := hid hg4;clear hl hx hb1 hru hg2 hg4;generalize hw1 : w.alloc (.cells X 45) = w1 at *;have h10 := HR1.out.nm;have HN := hid (fun W => DQ (bstr x.name) W (by rw [Ai]; exact hg1));rw [show (bstr x.name).data.toList = x.name from rfl] at HN;have HSZ : Hid ((Tryz.prog.info? 36).map (·.size) = some ([.int .i64 x.wh.op, .string (bstr x.wh.text), .int .i64 x.wh.num, .slice A x.wh.kids.length cap] : List Value).length) := hid (by rw [Aa]; rfl);have HRE : Hid (Pr.ruleE l x = if Pr.okName true x.name = false then 3 else if l.any (fun y => y.name == x.name) then 4 else if 40 < Pr.nodes x.wh ∨ 8 < Pr.depth x.wh then 29 else if Pr.treeE x.wh ≠ 0 then Pr.treeE x.wh else Pr.doE x.acts) := hid rfl;have HTK := hid (FK ok' x.name l E ecap w.heap.size w1 hn HL1.out h10);obtain ⟨Z, hZ⟩ : ∃ Z, Pr.ruleE l x = Z := ⟨_, rfl⟩;rw [hZ] at HRE ⊢;clear hZ;generalize hNM : bstr x.name = NM at *;go_enter Tryz.func53, Tryz.ntmps53;go_wp2_with fail;refine (HN.out _).mono ?_;rintro e w2 ⟨rfl, rfl⟩
 cases hok : Pr.okName true x.name with
 | false =>
  have HZ : Hid (Z = 3) := hid (by rw [HRE.out, if_pos hok]);go_wp2_with fail;go_ret;exact ⟨congrArg (fun z => Ending.returned (.int .i64 z)) HZ.out.symm, HB1.out⟩
 | true =>
  go_wp2_with fail;refine HTK.out.mono ?_;rintro e w2 ⟨rfl, hb2⟩;have HB2 := hid (HB1.out.trans (hb2.mono HB1.out.size));have HR2 := hid (HR1.out.bel hb2);clear hb2
  cases hany : l.any (fun y => y.name == x.name) with
  | true =>
   have HZ : Hid (Z = 4) := hid (by rw [HRE.out, if_neg (by rw [hok]; decide), if_pos hany]);clear hany hok;go_wp2_with fail;go_ret;exact ⟨congrArg (fun z => Ending.returned (.int .i64 z)) HZ.out.symm, HB2.out⟩
  | false =>
   have HRE2 : Hid (Z = if 40 < Pr.nodes x.wh ∨ 8 < Pr.depth x.wh then 29 else if Pr.treeE x.wh ≠ 0 then Pr.treeE x.wh else Pr.doE x.acts) := hid (by rw [HRE.out, if_neg (by rw [hok]; decide), if_neg (by rw [hany]; decide)]);clear hany hok;have hrg2 := HR2.out.wh;go_wp2_with ((with_reducible refine wpList_load_mid rfl 36 _ rfl w.heap.size 1 ?_ _ _ hrg2 Tryz.underlying36 ?_ HSZ.out ?_); rfl; rfl);refine (BF (Pr.nodes x.wh) ok x.wh _ w2 (Nat.le_refl _) hg3 HR2.out.cn).mono ?_;rintro e w3 ⟨rfl, hb3⟩;have HB3 := hid (HB2.out.trans (hb3.mono HB2.out.size));have HR3 := hid (HR2.out.bel hb3);clear hb3;by_cases h40 : 40 < Pr.nodes x.wh
   ·have HZ : Hid (Z = 29) := hid (by rw [HRE2.out, if_pos (.inl h40)]);have h40i : (40 : Int) < (Pr.nodes x.wh : Int) := by omega
    go_wp2_with fail;go_ret;exact ⟨congrArg (fun z => Ending.returned (.int .i64 z)) HZ.out.symm, HB3.out⟩
   ·have h40i : ¬ (40 : Int) < (Pr.nodes x.wh : Int) := by omega
    have h40d : decide ((40 : Int) < (Pr.nodes x.wh : Int)) = false := decide_eq_false h40i;have hrg3 := HR3.out.wh;go_wp2_with (refine BG (by simp only [h40d]; rfl) 36 _ rfl w.heap.size 1 rfl _ _ hrg3 Tryz.underlying36 rfl HSZ.out ?_);refine (Dc (Pr.nodes x.wh) ok x.wh _ w3 (Nat.le_refl _) hg3 HR3.out.cn).mono ?_;rintro e w4 ⟨rfl, hb4⟩;have HB4 := hid (HB3.out.trans (hb4.mono HB3.out.size));have HR4 := hid (HR3.out.bel hb4);clear hb4;by_cases h8 : 8 < Pr.depth x.wh
    ·have HZ : Hid (Z = 29) := hid (by rw [HRE2.out, if_pos (.inr h8)]);have h8i : (8 : Int) < (Pr.depth x.wh : Int) := by omega
     go_wp2_with fail;go_ret;exact ⟨congrArg (fun z => Ending.returned (.int .i64 z)) HZ.out.symm, HB4.out⟩
    ·have h8i : ¬ (8 : Int) < (Pr.depth x.wh : Int) := by omega
     have HRE3 : Hid (Z = if Pr.treeE x.wh ≠ 0 then Pr.treeE x.wh else Pr.doE x.acts) := hid (by rw [HRE2.out, if_neg (by omega)]);have hrg4 := HR4.out.wh;go_wp2_with ((with_reducible refine wpList_load_mid rfl 36 _ rfl w.heap.size 1 ?_ _ _ hrg4 Tryz.underlying36 ?_ HSZ.out ?_); rfl; rfl);refine (DW (Pr.nodes x.wh) ok x.wh _ w4 (Nat.le_refl _) hg3 HGS.out HR4.out.cn).mono ?_;rintro e w5 ⟨rfl, hb5⟩;have HB5 := hid (HB4.out.trans (hb5.mono HB4.out.size));have HR5 := hid (HR4.out.bel hb5);clear hb5;generalize Pr.treeE x.wh = T at *;by_cases hT : T = 0
     ·subst hT;have HZ : Hid (Z = Pr.doE x.acts) := hid (by rw [HRE3.out, if_neg (by simp)]);have h55 := HR5.out.dl;go_wp2_with fail;refine (Ea x.acts D dcap w5 hdc HGA.out HR5.out.rd).mono ?_;rintro e w6 ⟨rfl, hb6⟩;have HB6 := hid (HB5.out.trans (hb6.mono HB5.out.size));clear hb6;go_wp2_with fail;go_ret;exact ⟨congrArg (fun z => Ending.returned (.int .i64 z)) HZ.out.symm, HB6.out⟩
     ·have HZ : Hid (Z = T) := hid (by rw [HRE3.out, if_pos hT]);have hTb : (T == 0) = false := beq_eq_false_iff_ne.2 hT;have hTn : (T != 0) = true := by rw [bne, hTb]; rfl
      clear hT;go_wp2_with fail;go_ret;exact ⟨congrArg (fun z => Ending.returned (.int .i64 z)) HZ.out.symm, HB5.out⟩
end Go.Proofs.YtchkiegehejfmaaGreatDoor
