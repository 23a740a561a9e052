/- The texts Yi, Yj of this proof, one behind the other. -/
import Derived.Laws.EntriesVeiled
import Derived.Shelf.Abstract
import Derived.Test.YtchkiegehejfmaaGreatDoorMsat
set_option linter.unusedSimpArgs false
set_option maxHeartbeats 16000000
set_option maxRecDepth 100000
set_option linter.unusedVariables false
namespace Go.Proofs.YtchkiegehejfmaaGreatDoor
open Go.RowKit Go.Lib
theorem F7 (g : Nat) (A : Option Addr) (cap : Nat) (L : List Pr.Tk) (i o : Nat) (rd : List Pr.Tk → Option (Pr.Cn × List Pr.Tk)) (w : World)
  (h : PSt w g A cap L i o) (hi : i ≤ L.length) (hL : L.length ≤ 1000000) (hS : Pr.Shrinks rd) (hR : RdOk 142 g A cap L o rd i) :
  Calls Tryz.prog 112 #[.pointer (some ⟨g, 0, none⟩)] w (CdA w g A cap L o (Pr.joinC 2 rd Pr.andW (L.drop i))) := by
 have hlt := h.lt;have HAL := hid h.rowlt;have hmf : ∀ (fn : Fn) (first cap : Array Value) (w : World), (Instr.makeFunc fn first cap).run Tryz.prog w = .ok (.func fn first cap) w := fun _ _ _ _ => rfl
 have hz0 : Below w.heap.size w (w.alloc (.cells zCn 36)) := (Below.refl w.heap.size w).alloc (Nat.le_refl _) (.cells zCn 36);have HK1 := hid (Blk.new w 36 zCn);have HS1 : Hid ((w.alloc (.cells zCn 36)).heap.size = w.heap.size + 1) := hid (World.size_alloc ..);have HG1 : Hid (w.grownBy (w.alloc (.cells zCn 36)) (some g)) := hid (As hz0);have HJ := hid (CO 142 (enters_of Tryz.func142 (by kernel_rfl) rfl) g A cap L i o 2 Pr.andW rd (w.alloc (.cells zCn 36)) (h.bel hz0) hi hL (by decide) hS hR);generalize Pr.joinC 2 rd Pr.andW (L.drop i) = X at *;clear h hz0 hS hR;go_enter Tryz.func112, Tryz.ntmps112;go_wp2_with fail;refine HJ.out.mono ?_;rintro e w2 ⟨hr, hg2⟩;have HG2 := hid (At HG1.out hg2);have HK2 : Hid (Blk w2 w.heap.size 36 zCn) := hid (HK1.out.grown hg2 (by intro e; injection e with e; omega));clear hg2
 cases X with
 | none =>
  obtain rfl : e = .panicked brk := hr;exact ⟨rfl, CdA.bad rfl HG2.out⟩
 | some cq =>
  obtain ⟨c, q⟩ := cq;obtain ⟨V, j, hj, rfl, rfl, hV, hP⟩ := hr;have HV : Hid (CnV w2 (fun b => w.heap.size + 1 ≤ b) V c) := hid (hV.keep fun b hb _ => ⟨by have := HS1.out; omega, rfl⟩);have HP2 := hid hP;have HSX : Hid ((Tryz.prog.info? 36).map (·.size) = some V.size) := hid (by rw [Aa, hV.size]);have HSZ : Hid (zCn.size = V.size) := hid (by rw [hV.size]; rfl);have HOV := hid hV.one;clear hV hP HJ;go_wp2_with ((with_reducible refine Ab rfl 36 _ _ rfl w.heap.size V ?_ ?_ 36 _ HK2.out HSX.out HSZ.out HOV.out ?_); rfl; rfl; intro w5 hk5 hs5 hbl5 hoth5);have HG5 : Hid (w.grownBy w5 (some g)) := hid (AA HG2.out (hbl5 w.heap.size (Nat.le_refl _)));have HP5 : Hid (PSt w5 g A cap L j o) := hid (HP2.out.low hlt HAL.out (hbl5 w.heap.size (Nat.le_refl _)));exact bodyPost_ret (v := .agg V) (results_cell_row rfl _ _ w.heap.size 36 _ (0, 0) _ rfl hk5 Tryz.underlying36 rfl HSX.out) rfl (CdA.good rfl hj (HV.out.keep fun b hb hl => ⟨by omega, hoth5 b (by omega)⟩) HP5.out HG5.out)
theorem C7 (g : Nat) (A : Option Addr) (cap : Nat) (L : List Pr.Tk) (i o : Nat) (rd : List Pr.Tk → Option (Pr.Cn × List Pr.Tk)) (w : World)
  (h : PSt w g A cap L i o) (hi : i ≤ L.length) (hL : L.length ≤ 1000000) (hS : Pr.Shrinks rd) (hR : RdOk 112 g A cap L o rd i) :
  Calls Tryz.prog 63 #[.pointer (some ⟨g, 0, none⟩)] w (CdA w g A cap L o (Pr.joinC 3 rd Pr.orW (L.drop i))) := by
 have hlt := h.lt;have HAL := hid h.rowlt;have hmf : ∀ (fn : Fn) (first cap : Array Value) (w : World), (Instr.makeFunc fn first cap).run Tryz.prog w = .ok (.func fn first cap) w := fun _ _ _ _ => rfl
 have hz0 : Below w.heap.size w (w.alloc (.cells zCn 36)) := (Below.refl w.heap.size w).alloc (Nat.le_refl _) (.cells zCn 36);have HK1 := hid (Blk.new w 36 zCn);have HS1 : Hid ((w.alloc (.cells zCn 36)).heap.size = w.heap.size + 1) := hid (World.size_alloc ..);have HG1 : Hid (w.grownBy (w.alloc (.cells zCn 36)) (some g)) := hid (As hz0);have HJ := hid (CO 112 (enters_of Tryz.func112 (by kernel_rfl) rfl) g A cap L i o 3 Pr.orW rd (w.alloc (.cells zCn 36)) (h.bel hz0) hi hL (by decide) hS hR);generalize Pr.joinC 3 rd Pr.orW (L.drop i) = X at *;clear h hz0 hS hR;go_enter Tryz.func63, Tryz.ntmps63;go_wp2_with fail;refine HJ.out.mono ?_;rintro e w2 ⟨hr, hg2⟩;have HG2 := hid (At HG1.out hg2);have HK2 : Hid (Blk w2 w.heap.size 36 zCn) := hid (HK1.out.grown hg2 (by intro e; injection e with e; omega));clear hg2
 cases X with
 | none =>
  obtain rfl : e = .panicked brk := hr;exact ⟨rfl, CdA.bad rfl HG2.out⟩
 | some cq =>
  obtain ⟨c, q⟩ := cq;obtain ⟨V, j, hj, rfl, rfl, hV, hP⟩ := hr;have HV : Hid (CnV w2 (fun b => w.heap.size + 1 ≤ b) V c) := hid (hV.keep fun b hb _ => ⟨by have := HS1.out; omega, rfl⟩);have HP2 := hid hP;have HSX : Hid ((Tryz.prog.info? 36).map (·.size) = some V.size) := hid (by rw [Aa, hV.size]);have HSZ : Hid (zCn.size = V.size) := hid (by rw [hV.size]; rfl);have HOV := hid hV.one;clear hV hP HJ;go_wp2_with ((with_reducible refine Ab rfl 36 _ _ rfl w.heap.size V ?_ ?_ 36 _ HK2.out HSX.out HSZ.out HOV.out ?_); rfl; rfl; intro w5 hk5 hs5 hbl5 hoth5);have HG5 : Hid (w.grownBy w5 (some g)) := hid (AA HG2.out (hbl5 w.heap.size (Nat.le_refl _)));have HP5 : Hid (PSt w5 g A cap L j o) := hid (HP2.out.low hlt HAL.out (hbl5 w.heap.size (Nat.le_refl _)));exact bodyPost_ret (v := .agg V) (results_cell_row rfl _ _ w.heap.size 36 _ (0, 0) _ rfl hk5 Tryz.underlying36 rfl HSX.out) rfl (CdA.good rfl hj (HV.out.keep fun b hb hl => ⟨by omega, hoth5 b (by omega)⟩) HP5.out HG5.out)
end Go.Proofs.YtchkiegehejfmaaGreatDoor
namespace Pr
theorem Ct (n o : Nat) (r : List Tk) : oneP (n + 1) o r =
  if (hdT r).form = 3 then (if 100 ≤ o then none else match condP n (o + 1) r.tail with
   | none => none
   | some (c, z) => (match takeF 4 z with
    | none => none
    | some (_, y) => some (c, y)))
  else if (hdT r).form ≠ 1 then none
  else if (hdT r).text = notW then (if 100 ≤ o then none else match oneP n (o + 1) r.tail with
   | none => none
   | some (c, z) => some (.mk 4 [] 0 [c], z))
  else match findOp (hdT r).text 17 1 with
   | none => none
   | some (p, true) => some (.mk p [] 0 [], r.tail)
   | some (p, false) => fieldP p r.tail := by
 cases r with
 | nil => rfl
 | cons t q => rfl
def closP : Option (Cn × List Tk) → Option (Cn × List Tk)
 | none => none
 | some (c, z) => match takeF 4 z with
  | none => none
  | some (_, y) => some (c, y)
def notP : Option (Cn × List Tk) → Option (Cn × List Tk)
 | none => none
 | some (c, z) => some (.mk 4 [] 0 [c], z)
def wordP (_ : Str) (q : List Tk) : Option (Int × Bool) → Option (Cn × List Tk)
 | none => none
 | some (p, true) => some (.mk p [] 0 [], q)
 | some (p, false) => fieldP p q
theorem closP_yes {c : Cn} {z y : List Tk} {t : Str} (h : takeF 4 z = some (t, y)) : closP (some (c, z)) = some (c, y) := by show (match takeF 4 z with | none => none | some (_, y) => some (c, y)) = _; rw [h]
theorem closP_no {c : Cn} {z : List Tk} (h : takeF 4 z = none) : closP (some (c, z)) = none := by show (match takeF 4 z with | none => none | some (_, y) => some (c, y)) = _; rw [h]
def TkOk (L : List Tk) : Prop := ∀ t ∈ L, t.text.length ≤ 1000000 ∧ (t.form = 1 → t.text ≠ []) ∧ t.form ≠ 0
theorem oneP_paren {n o : Nat} {r : List Tk} (h : (hdT r).form = 3) : oneP (n + 1) o r = closP (if 100 ≤ o then none else condP n (o + 1) r.tail) := by
 rw [Ct, if_pos h];split
 ·rfl
 ·cases condP n (o + 1) r.tail <;> rfl
theorem oneP_other {n o : Nat} {r : List Tk} (h : (hdT r).form ≠ 3) (h1 : (hdT r).form ≠ 1) : oneP (n + 1) o r = none := by rw [Ct, if_neg h, if_pos h1]
theorem oneP_not {n o : Nat} {r : List Tk} (h1 : (hdT r).form = 1) (h : (hdT r).text = notW) : oneP (n + 1) o r = notP (if 100 ≤ o then none else oneP n (o + 1) r.tail) := by
 rw [Ct, if_neg (by rw [h1]; decide), if_neg (by rw [h1]; decide), if_pos h];split
 ·rfl
 ·cases oneP n (o + 1) r.tail <;> rfl
theorem oneP_word {n o : Nat} {r : List Tk} (h1 : (hdT r).form = 1) (h : (hdT r).text ≠ notW) : oneP (n + 1) o r = wordP (hdT r).text r.tail (findOp (hdT r).text 17 1) := by
 rw [Ct, if_neg (by rw [h1]; decide), if_neg (by rw [h1]; decide), if_neg h]
 cases findOp (hdT r).text 17 1 with
 | none => rfl
 | some pb => obtain ⟨p, b⟩ := pb; cases b <;> rfl
theorem findOp_at {w : Str} {n : Nat} {o : Int} : findOp w (n + 1) o = if simpleW o = w then some (o, true) else if fieldW o = w then some (o, false) else findOp w n (o + 1) := rfl
theorem fieldW_range {o : Int} (h : fieldW o ≠ []) : 5 ≤ o ∧ o ≤ 12 := by
 unfold fieldW at h
 repeat' (first | (split at h) | omega)
 all_goals first | omega | exact absurd rfl h
end Pr
namespace Go.Proofs.YtchkiegehejfmaaGreatDoor
open Go.RowKit Go.Lib
theorem Blk.other_ {w w' : World} {g k : Nat} {t : TypeId} {cs : Array Value} (h : Blk w g t cs) (ho : ∀ j, j ≠ k → w'.heap[j]? = w.heap[j]?) (hk : g ≠ k) : Blk w' g t cs := (ho g hk).trans h
theorem FD {w : World} {ok : Nat → Prop} {N : Nat} {o : Int} {s : ByteArray} {m : Int} {B : Option Addr} {l bc : Nat} {c : Pr.Cn} (h : Blk w N 36 #[.int .i64 o, .string s, .int .i64 m, .slice B l bc]) (hN : ok N) (hV : CnV w ok #[.int .i64 o, .string s, .int .i64 m, .slice B l bc] c) : CnRow w ok (some ⟨N, 0, none⟩) [c] := fun i c' hi => by
 cases i with
 | succ i => simp at hi
 | zero =>
  injection hi with hi;subst hi;refine ⟨N, 0, [.int .i64 o, .string s, .int .i64 m, .slice B l bc], rfl, hN, fun j v hj => ?_, rfl, hV⟩;rw [h.cell, Nat.zero_mul, Nat.add_zero, Nat.zero_add];rw [← hj];simp
def OneTo (n : Nat) : Prop := ∀ (g : Nat) (A : Option Addr) (cap : Nat) (L : List Pr.Tk) (i o : Nat) (w : World), PSt w g A cap L i o → i ≤ L.length → L.length - i < n → L.length ≤ 1000000 → Pr.TkOk L → o ≤ 100 →
 Calls Tryz.prog 142 #[.pointer (some ⟨g, 0, none⟩)] w (CdA w g A cap L o (Pr.oneP n o (L.drop i)))
section
variable {n : Nat} (H : OneTo n) {g : Nat} {A : Option Addr} {cap : Nat} {L : List Pr.Tk} {i o : Nat} (hL : L.length ≤ 1000000) (hT : Pr.TkOk L) (ho : o ≤ 100)
include H hL hT ho
theorem OneTo.rd (hn : L.length - i < n) : RdOk 142 g A cap L o (Pr.oneP n o) i := fun j w hj hl hp => H g A cap L j o w hp hl (by omega) hL hT ho
theorem OneTo.rdBoth (hn : L.length - i < n) : RdOk 112 g A cap L o (Pr.bothP n o) i := fun j w hj hl hp => F7 g A cap L j o (Pr.oneP n o) w hp hl hL (Pr.oneP_of n o) (OneTo.rd H hL hT ho (by omega))
theorem OneTo.rdCond (hn : L.length - i < n) : RdOk 63 g A cap L o (Pr.condP n o) i := fun j w hj hl hp => C7 g A cap L j o (Pr.bothP n o) w hp hl hL (Pr.bothP_of n o) (OneTo.rdBoth H hL hT ho (by omega))
end
theorem FS (n : Nat) (H : OneTo n) : OneTo (n + 1) := by
 intro g A cap L i o w h hi hn hL hT ho;have hlt := h.lt;have HAL := hid h.rowlt;have hmf : ∀ (fn : Fn) (first cap : Array Value) (w : World), (Instr.makeFunc fn first cap).run Tryz.prog w = .ok (.func fn first cap) w := fun _ _ _ _ => rfl
 have hz0 : Below w.heap.size w (w.alloc (.cells zCn 36)) := (Below.refl w.heap.size w).alloc (Nat.le_refl _) (.cells zCn 36);have HK1 := hid (Blk.new w 36 zCn);have HS1 : Hid ((w.alloc (.cells zCn 36)).heap.size = w.heap.size + 1) := hid (World.size_alloc ..);have HG1 : Hid (w.grownBy (w.alloc (.cells zCn 36)) (some g)) := hid (As hz0);have HP1 := hid (h.bel hz0);obtain ⟨RES, hRES⟩ : ∃ R, Pr.oneP (n + 1) o (L.drop i) = R := ⟨_, rfl⟩;have HE3 : Hid ((Pr.hdT (L.drop i)).form = 3 → RES = Pr.closP (if 100 ≤ o then none else Pr.condP n (o + 1) (L.drop (i + 1)))) := hid (fun h => by rw [← hRES, Pr.oneP_paren h, Pr.tail_at]);have HE0 : Hid ((Pr.hdT (L.drop i)).form ≠ 3 → (Pr.hdT (L.drop i)).form ≠ 1 → RES = none) := hid (fun h h1 => by rw [← hRES, Pr.oneP_other h h1]);have HEN : Hid ((Pr.hdT (L.drop i)).form = 1 → (Pr.hdT (L.drop i)).text = Pr.notW → RES = Pr.notP (if 100 ≤ o then none else Pr.oneP n (o + 1) (L.drop (i + 1)))) := hid (fun h h1 => by rw [← hRES, Pr.oneP_not h h1, Pr.tail_at]);have HEW : Hid ((Pr.hdT (L.drop i)).form = 1 → (Pr.hdT (L.drop i)).text ≠ Pr.notW → RES = Pr.wordP (Pr.hdT (L.drop i)).text (L.drop (i + 1)) (Pr.findOp (Pr.hdT (L.drop i)).text 17 1)) := hid (fun h h1 => by rw [← hRES, Pr.oneP_word h h1, Pr.tail_at]);rw [hRES];have HIN := hid H;have HTX := hid hT;have HNN := hid hn;obtain ⟨b, off, rfl, hc1, hc2⟩ := HP1.out.tok hi;have hb0 := HP1.out.blk.cell 0;have hb1 := HP1.out.blk.cell 1;simp only [List.getElem?_toArray, List.getElem?_cons_succ, List.getElem?_cons_zero] at hb0 hb1;have hI0 : (0 : Int) ≤ (i : Int) := by omega
 have hI1 : (i : Int) < ((L.length : Int) + 1) := by omega
 have hltb : b < w.heap.size := HAL.out _ rfl;have HHL := hid (Pr.hd_lt (L := L) (i := i));have HTK := hid (fun f W (hP : PSt W g (some ⟨b, off, none⟩) cap L i o) => Bg f g (some ⟨b, off, none⟩) cap L i o W hP hi hL)
 have HTX2 : Hid ((Pr.hdT (L.drop i)).form = 1 → (Pr.hdT (L.drop i)).text ≠ []) := hid (fun hf => by
  have := HHL.out (by rw [hf]; decide);have h2 := Pr.hd_at (L := L) (i := i) (by omega);rw [List.getElem?_append_left (by omega)] at h2
  exact (HTX.out _ (List.mem_of_getElem? h2)).2.1 hf)
 generalize (Pr.hdT (L.drop i)).form = f at *;generalize (Pr.hdT (L.drop i)).text = t at *;clear h hRES hz0 H hT hn;by_cases hf3 : f = 3
 ·subst hf3;have HX := hid (HE3.out rfl);have hil := HHL.out (by decide);have HRC := hid (fun ho2 : o < 100 => OneTo.rdCond HIN.out hL HTX.out (o := o + 1) (by omega) (g := g) (A := some ⟨b, off, none⟩) (cap := cap) (i := i + 1) (by have := HNN.out; omega));have HWI := hid (fun W hP => CM 63 (enters_of Tryz.func63 (by kernel_rfl) rfl) g (some ⟨b, off, none⟩) cap L (i + 1) o (Pr.condP n (o + 1)) W hP (by omega) ho HRC.out);have HSH : Hid (∀ c q, (if 100 ≤ o then none else Pr.condP n (o + 1) (L.drop (i + 1))) = some (c, q) → True) := hid (fun _ _ _ => trivial);generalize (if 100 ≤ o then none else Pr.condP n (o + 1) (L.drop (i + 1))) = X at *;clear HE3 HE0 HEN HEW HRC;go_enter Tryz.func142, Tryz.ntmps142;go_wp2_with fail
  go_quiet (fail)
  have HPD := hid (HP1.out.drewN nq);have HGD := hid (At HG1.out (AV _ g nq));have HKD := hid (HK1.out.drewN nq);have HSD : Hid (((w.alloc (.cells zCn 36)).drewN nq).heap.size = w.heap.size + 1) := hid HS1.out;generalize (w.alloc (.cells zCn 36)).drewN nq = w1 at *;have hb1 := HPD.out.blk.cell 1;simp only [List.getElem?_toArray, List.getElem?_cons_succ, List.getElem?_cons_zero] at hb1;have hf1 := HPD.out.blk.frozen 1;have HP2 : Hid (PSt (w1.setCell ⟨g, 1, none⟩ (.int .i64 ((i : Int) + 1))) g (some ⟨b, off, none⟩) cap L (i + 1) o) := hid (HPD.out.set1 (i + 1));have HG2 := hid (At HGD.out (Bf w1 g 1 (.int .i64 ((i : Int) + 1))));have HK2 := hid (HKD.out.far (p := ⟨g, 1, none⟩) (by show w.heap.size ≠ g; omega) (.int .i64 ((i : Int) + 1)));have HS2 : Hid ((w1.setCell ⟨g, 1, none⟩ (.int .i64 ((i : Int) + 1))).heap.size = w.heap.size + 1) := hid (by rw [← HSD.out]; simp [World.setCell]);generalize hw2 : w1.setCell ⟨g, 1, none⟩ (.int .i64 ((i : Int) + 1)) = w2 at *;go_wp2_with fail;refine (HWI.out w2 HP2.out).mono ?_;rintro e w3 ⟨hr, hg3⟩;have HG3 := hid (At HG2.out hg3);have HK3 : Hid (Blk w3 w.heap.size 36 zCn) := hid (HK2.out.grown hg3 (by intro e; injection e with e; omega));have hs3 : w.heap.size + 1 ≤ w3.heap.size := by have h1 := hg3.size; have h2 := HS2.out; omega
  clear hg3
  cases X with
  | none =>
   obtain rfl : e = .panicked brk := hr;exact ⟨rfl, CdA.bad HX.out HG3.out⟩
  | some cq =>
   obtain ⟨c, q⟩ := cq;obtain ⟨V, j, hj, rfl, rfl, hV, hP⟩ := hr;have HV : Hid (CnV w3 (fun b => w.heap.size + 1 ≤ b) V c) := hid (hV.keep fun b hb _ => ⟨by have := HS2.out; omega, rfl⟩);have HP3 := hid hP;have HSX : Hid ((Tryz.prog.info? 36).map (·.size) = some V.size) := hid (by rw [Aa, hV.size]);have HSZ : Hid (zCn.size = V.size) := hid (by rw [hV.size]; rfl);have HOV := hid hV.one;have HKN := hid (Blk.new w3 36 zCn);have HTK4 := hid (fun W (hP : PSt W g (some ⟨b, off, none⟩) cap L j o) => Bg 4 g (some ⟨b, off, none⟩) cap L j o W hP hj hL);have HX4 : Hid (RES = Pr.closP (some (c, L.drop j))) := hid HX.out;have HY4 := hid (Pr.takeF_yes (f := 4) (r := L.drop j) (by decide));have HN4 := hid (Pr.takeF_no (f := 4) (r := L.drop j));have HJ4 := hid (Pr.hd_lt (L := L) (i := j));clear hV hP hw2 hb1 hf1
   go_upto_region 4 with ((with_reducible refine Ab rfl 36 _ _ rfl w3.heap.size V ?_ ?_ 36 _ HKN.out HSX.out HSZ.out HOV.out ?_); rfl; rfl; intro w4 hk4 hs4 hbl4 hoth4; have hz4 : Below w3.heap.size w3 w4 := ((Below.refl w3.heap.size w3).alloc (Nat.le_refl _) (.cells zCn 36)).trans (hbl4 _ (Nat.le_refl _)); have HZ4 := hid hz4; have HK4 := hid hk4; clear hk4 hs4 hbl4 hoth4 hz4)
   have HP4 := hid (HP3.out.bel HZ4.out);have HV4 := hid (HV.out.bel HZ4.out);have HG4 := hid (At HG3.out (As HZ4.out));have HKR4 : Hid (Blk w4 w.heap.size 36 zCn) := hid (HK3.out.below HZ4.out (by omega));have hs4 : w3.heap.size + 1 ≤ w4.heap.size := by have := HK4.out.lt; omega
   have HTT := hid (HTK4.out w4 HP4.out);generalize (Pr.hdT (L.drop j)).form = f4 at *;generalize (Pr.hdT (L.drop j)).text = t4 at *;by_cases hf4 : f4 = 4
   ·subst hf4;simp only [if_true] at HTT;have HXE : Hid (RES = some (c, L.drop (j + 1))) := hid (by rw [HX4.out, Pr.closP_yes (HY4.out rfl), Pr.tail_at]);have hj4 := HJ4.out (by decide)
    go_upto_region 5 with (go_at_call 62; refine HTT.out.mono ?_; rintro e w5 ⟨⟨rfl, hp5⟩, hg5⟩; have HP5 := hid hp5; have HG5 := hid (At HG4.out hg5); have HK5 : Hid (Blk w5 w3.heap.size 36 V) := hid (HK4.out.grown hg5 (by intro e; injection e with e; omega)); have HKR5 : Hid (Blk w5 w.heap.size 36 zCn) := hid (HKR4.out.grown hg5 (by intro e; injection e with e; omega)); have HV5 : Hid (CnV w5 (fun b => w.heap.size + 1 ≤ b) V c) := hid (HV4.out.keep fun b hb hl => ⟨hb, hg5.block b hl (by intro e; injection e with e; omega)⟩); clear hp5 hg5)
    go_wp2_with (first
     | (refine Ac (by rfl) 36 _ rfl w3.heap.size rfl 36 _ (0, 0) _ rfl HK5.out Tryz.underlying36 HSX.out ?_)
     | ((with_reducible refine Ab rfl 36 _ _ rfl w.heap.size V ?_ ?_ 36 _ HKR5.out HSX.out HSZ.out HOV.out ?_); rfl; rfl; intro w6 hk6 hs6 hbl6 hoth6))
    have HG6 : Hid (w.grownBy w6 (some g)) := hid (AA HG5.out (hbl6 w.heap.size (Nat.le_refl _)));have HP6 : Hid (PSt w6 g (some ⟨b, off, none⟩) cap L (j + 1) o) := hid (HP5.out.low hlt HAL.out (hbl6 w.heap.size (Nat.le_refl _)));exact bodyPost_ret (v := .agg V) (results_cell_row rfl _ _ w.heap.size 36 _ (0, 0) _ rfl hk6 Tryz.underlying36 rfl HSX.out) rfl (CdA.good HXE.out (by omega) (HV5.out.keep fun b hb hl => ⟨by omega, hoth6 b (by omega)⟩) HP6.out HG6.out)
   ·simp only [if_neg hf4] at HTT;have HXE : Hid (RES = none) := hid (by rw [HX4.out, Pr.closP_no (HN4.out hf4)]);clear hf4;go_wp2_with (go_at_call 62; refine HTT.out.mono ?_; rintro e w5 ⟨rfl, hg5⟩; have HG5 := hid (At HG4.out hg5); clear hg5);exact ⟨rfl, CdA.bad HXE.out HG5.out⟩
 ·by_cases hf1 : f = 1
  ·subst hf1;have HTK1 := hid (HTK.out 1);simp only [if_true] at HTK1;have hil := HHL.out (by decide);have htne := HTX2.out rfl;clear HE3 HE0;by_cases htn : t = Pr.notW
   ·have HX := hid (HEN.out rfl htn);have hcmp : ((bstr t).toList == [110, 111, 116]) = true := by rw [AD, htn]; rfl
    have HRC := hid (fun ho2 : o < 100 => OneTo.rd HIN.out hL HTX.out (o := o + 1) (by omega) (g := g) (A := some ⟨b, off, none⟩) (cap := cap) (i := i + 1) (by have := HNN.out; omega));have HWI := hid (fun W hP => CM 142 (enters_of Tryz.func142 (by kernel_rfl) rfl) g (some ⟨b, off, none⟩) cap L (i + 1) o (Pr.oneP n (o + 1)) W hP (by omega) ho HRC.out);generalize (if 100 ≤ o then none else Pr.oneP n (o + 1) (L.drop (i + 1))) = X at *;clear HEN HEW HRC htn htne;go_enter Tryz.func142, Tryz.ntmps142;go_wp2_with fail
    go_quiet (fail)
    have HPD := hid (HP1.out.drewN nq);have HGD := hid (At HG1.out (AV _ g nq));have HKD := hid (HK1.out.drewN nq);have HSD : Hid (((w.alloc (.cells zCn 36)).drewN nq).heap.size = w.heap.size + 1) := hid HS1.out;generalize (w.alloc (.cells zCn 36)).drewN nq = w1 at *;go_wp2_with fail;refine (HTK1.out _ HPD.out).mono ?_;rintro e w2 ⟨⟨rfl, hp2⟩, hg2⟩;have HP2 := hid hp2;have HG2 := hid (At HGD.out hg2);have HK2 : Hid (Blk w2 w.heap.size 36 zCn) := hid (HKD.out.grown hg2 (by intro e; injection e with e; omega));have HS2 : Hid (w.heap.size + 1 ≤ w2.heap.size) := hid (by have h1 := hg2.size; have h2 := HSD.out; omega);clear hp2 hg2;go_wp2_with fail;refine (HWI.out w2 HP2.out).mono ?_;rintro e w3 ⟨hr, hg3⟩;have HG3 := hid (At HG2.out hg3);have HK3 : Hid (Blk w3 w.heap.size 36 zCn) := hid (HK2.out.grown hg3 (by intro e; injection e with e; omega));have hs3 : w.heap.size + 1 ≤ w3.heap.size := by have h1 := hg3.size; have h2 := HS2.out; omega
    clear hg3
    cases X with
    | none =>
     obtain rfl : e = .panicked brk := hr;exact ⟨rfl, CdA.bad HX.out HG3.out⟩
    | some cq =>
     obtain ⟨c, q⟩ := cq;obtain ⟨V, j, hj, rfl, rfl, hV, hP⟩ := hr;have HV : Hid (CnV w3 (fun b => w.heap.size + 1 ≤ b) V c) := hid (hV.keep fun b hb _ => ⟨by have := HS2.out; omega, rfl⟩);have HP3 := hid hP;obtain ⟨B, bc, rfl, hrow⟩ := hV.open;clear hrow hV hP;have hz4 : Below w3.heap.size w3 (w3.alloc (.cells #[.int .i64 c.op, .string (bstr c.text), .int .i64 c.num, .slice B c.kids.length bc] 36)) := (Below.refl _ _).alloc (Nat.le_refl _) _;have HK4 := hid (HK3.out.below hz4 (by omega));have HV4 := hid (HV.out.bel hz4);have HP4 := hid (HP3.out.bel hz4);have HG4 := hid (At HG3.out (As hz4));have HN4 := hid (Blk.new w3 36 #[.int .i64 c.op, .string (bstr c.text), .int .i64 c.num, .slice B c.kids.length bc]);have HS4 : Hid ((w3.alloc (.cells #[.int .i64 c.op, .string (bstr c.text), .int .i64 c.num, .slice B c.kids.length bc] 36)).heap.size = w3.heap.size + 1) := hid (World.size_alloc ..);have HSY : Hid ((Tryz.prog.info? 36).map (·.size) = some (#[.int .i64 4, .string ⟨#[]⟩, .int .i64 0, .slice (some ⟨w3.heap.size, 0, none⟩) 1 1] : Array Value).size) := hid (by rw [Aa]; rfl);have HXE : Hid (RES = some (.mk 4 [] 0 [c], L.drop j)) := hid HX.out;clear hz4;go_wp2_with ((with_reducible refine Ab rfl 36 _ _ rfl w.heap.size #[.int .i64 4, .string ⟨#[]⟩, .int .i64 0, .slice (some ⟨w3.heap.size, 0, none⟩) 1 1] ?_ ?_ 36 _ HK4.out HSY.out rfl (AJ _ _ _ _ _ _) ?_); rfl; rfl; intro w5 hk5 hs5 hbl5 hoth5);have HG5 : Hid (w.grownBy w5 (some g)) := hid (AA HG4.out (hbl5 w.heap.size (Nat.le_refl _)));have HP5 : Hid (PSt w5 g (some ⟨b, off, none⟩) cap L j o) := hid (HP4.out.low hlt HAL.out (hbl5 w.heap.size (Nat.le_refl _)));have hrow5 : CnRow w5 (fun b => w.heap.size ≤ b) (some ⟨w3.heap.size, 0, none⟩) [c] := FD (HN4.out.other_ hoth5 (by omega)) (by omega) (HV4.out.keep fun b hb hl => ⟨by omega, hoth5 b (by omega)⟩);exact bodyPost_ret (v := .agg #[.int .i64 4, .string ⟨#[]⟩, .int .i64 0, .slice (some ⟨w3.heap.size, 0, none⟩) 1 1]) (results_cell_row rfl _ _ w.heap.size 36 _ (0, 0) _ rfl hk5 Tryz.underlying36 rfl HSY.out) rfl (CdA.good HXE.out hj (CnV.make hrow5) HP5.out HG5.out)
   ·have HX := hid (HEW.out rfl htn);have hcmp : ((bstr t).toList == [110, 111, 116]) = false := by rw [AD, beq_eq_false_iff_ne]; exact htn
    clear HEN HEW htn;go_enter Tryz.func142, Tryz.ntmps142;go_wp2_with fail
    go_quiet (fail)
    have HPD := hid (HP1.out.drewN nq);have HGD := hid (At HG1.out (AV _ g nq));have HKD := hid (HK1.out.drewN nq);have HSD : Hid (((w.alloc (.cells zCn 36)).drewN nq).heap.size = w.heap.size + 1) := hid HS1.out;generalize (w.alloc (.cells zCn 36)).drewN nq = w1 at *;go_wp2_with fail;refine (HTK1.out _ HPD.out).mono ?_;rintro e w2 ⟨⟨rfl, hp2⟩, hg2⟩;have HP2 := hid hp2;have HG2 := hid (At HGD.out hg2);have HK2 : Hid (Blk w2 w.heap.size 36 zCn) := hid (HKD.out.grown hg2 (by intro e; injection e with e; omega));have HS2 : Hid (w.heap.size + 1 ≤ w2.heap.size) := hid (by have h1 := hg2.size; have h2 := HSD.out; omega);clear hp2 hg2;go_wp2_with fail
    have HLP : Hid (∀ k : Nat, 1 ≤ k → k ≤ 17 → Pr.findOp t (18 - k) k = if Pr.simpleW k = t then some ((k : Int), true) else if Pr.fieldW k = t then some ((k : Int), false) else Pr.findOp t (18 - (k + 1)) ((k + 1 : Nat) : Int)) := hid (fun k h1 h2 => by
     rw [show 18 - k = (18 - (k + 1)) + 1 by omega, Pr.findOp_at]
     rfl)
    go_loop [5] (fun ix => ∃ k : Nat, 1 ≤ k ∧ k ≤ 18 ∧ ix = .int .i64 (k : Int) ∧ Hid (Pr.findOp t 17 1 = Pr.findOp t (18 - k) k)) (fun ix => 18 - (RowKit.intOf ix).toNat)
    case atStart => exact ⟨1, Nat.le_refl _, by omega, rfl, hid rfl⟩
    case round =>
     obtain ⟨k, hk1, hk2, rfl, hfo⟩ := hrel;by_cases hk : k ≤ 17
     ·have HST := hid (HLP.out k hk1 hk);have HSW := hid (fun W => CP (k : Int) (by omega) (by omega) W);have HFW := hid (fun W => A6 (k : Int) (by omega) (by omega) W);have HRG := hid (Pr.fieldW_range (o := (k : Int)));generalize Pr.simpleW (k : Int) = sw at *;generalize Pr.fieldW (k : Int) = fw at *;by_cases hsw : sw = t
      ·have HXE : Hid (RES = some (.mk k [] 0 [], L.drop (i + 1))) := hid (by rw [HX.out, hfo.out, HST.out, if_pos hsw]; rfl);have hc1 : ((bstr sw).toList == (bstr t).toList) = true := by rw [hsw, beq_iff_eq]
       have HSY : Hid ((Tryz.prog.info? 36).map (·.size) = some (#[.int .i64 (k : Int), .string ⟨#[]⟩, .int .i64 0, .slice none 0 0] : Array Value).size) := hid (by rw [Aa]; rfl);clear hsw
       go_wp2_with (first
        | (go_at_call 76; refine (HSW.out _).mono ?_; rintro e w' ⟨rfl, rfl⟩)
        | ((with_reducible refine Ab rfl 36 _ _ rfl w.heap.size #[.int .i64 (k : Int), .string ⟨#[]⟩, .int .i64 0, .slice none 0 0] ?_ ?_ 36 _ HK2.out HSY.out rfl (AJ _ _ _ _ _ _) ?_); rfl; rfl; intro w5 hk5 hs5 hbl5 hoth5))
       have HG5 : Hid (w.grownBy w5 (some g)) := hid (AA HG2.out (hbl5 w.heap.size (Nat.le_refl _)));have HP5 : Hid (PSt w5 g (some ⟨b, off, none⟩) cap L (i + 1) o) := hid (HP2.out.low hlt HAL.out (hbl5 w.heap.size (Nat.le_refl _)));exact bodyPost_ret (v := .agg #[.int .i64 (k : Int), .string ⟨#[]⟩, .int .i64 0, .slice none 0 0]) (results_cell_row rfl _ _ w.heap.size 36 _ (0, 0) _ rfl hk5 Tryz.underlying36 rfl HSY.out) rfl (CdA.good HXE.out (by omega) (CnV.make (ks := []) (A := none) (cap := 0) CnRow.nil) HP5.out HG5.out)
      ·have hc1 : ((bstr sw).toList == (bstr t).toList) = false := by rw [AD, Lib.toList_data, beq_eq_false_iff_ne]; exact hsw
       by_cases hfw : fw = t
       ·obtain ⟨hr5, hr12⟩ := HRG.out (by rw [hfw]; exact htne);have HXE : Hid (RES = Pr.fieldP k (L.drop (i + 1))) := hid (by rw [HX.out, hfo.out, HST.out, if_neg hsw, if_pos hfw]; rfl);have hc2 : ((bstr fw).toList == (bstr t).toList) = true := by rw [hfw, beq_iff_eq]
        have HFI := hid (E3 (k : Int) hr5 hr12 g (some ⟨b, off, none⟩) cap L (i + 1) o w2 HP2.out (by omega) hL (fun t ht => (HTX.out t ht).1));generalize Pr.fieldP (k : Int) (L.drop (i + 1)) = X at *;clear hsw hfw hr5 hr12
        go_wp2_with (first
         | (go_at_call 76; refine (HSW.out _).mono ?_; rintro e w' ⟨rfl, rfl⟩)
         | (go_at_call 73; refine (HFW.out _).mono ?_; rintro e w' ⟨rfl, rfl⟩))
        refine HFI.out.mono ?_;rintro e w3 ⟨hr, hg3⟩;have HG3 := hid (At HG2.out hg3);have HK3 : Hid (Blk w3 w.heap.size 36 zCn) := hid (HK2.out.grown hg3 (by intro e; injection e with e; omega));clear hg3
        cases X with
        | none =>
         obtain rfl : e = .panicked brk := hr;exact ⟨rfl, CdA.bad HXE.out HG3.out⟩
        | some cq =>
         obtain ⟨c, q⟩ := cq;obtain ⟨V, j, hj, rfl, rfl, hV, hP⟩ := hr;have HV : Hid (CnV w3 (fun b => w.heap.size + 1 ≤ b) V c) := hid (hV.keep fun b hb _ => ⟨by have := HS2.out; omega, rfl⟩);have HP3 := hid hP;have HSX : Hid ((Tryz.prog.info? 36).map (·.size) = some V.size) := hid (by rw [Aa, hV.size]);have HSZ : Hid (zCn.size = V.size) := hid (by rw [hV.size]; rfl);have HOV := hid hV.one;clear hV hP HFI;go_wp2_with ((with_reducible refine Ab rfl 36 _ _ rfl w.heap.size V ?_ ?_ 36 _ HK3.out HSX.out HSZ.out HOV.out ?_); rfl; rfl; intro w5 hk5 hs5 hbl5 hoth5);have HG5 : Hid (w.grownBy w5 (some g)) := hid (AA HG3.out (hbl5 w.heap.size (Nat.le_refl _)));have HP5 : Hid (PSt w5 g (some ⟨b, off, none⟩) cap L j o) := hid (HP3.out.low hlt HAL.out (hbl5 w.heap.size (Nat.le_refl _)));exact bodyPost_ret (v := .agg V) (results_cell_row rfl _ _ w.heap.size 36 _ (0, 0) _ rfl hk5 Tryz.underlying36 rfl HSX.out) rfl (CdA.good HXE.out hj (HV.out.keep fun b hb hl => ⟨by omega, hoth5 b (by omega)⟩) HP5.out HG5.out)
       ·have hc2 : ((bstr fw).toList == (bstr t).toList) = false := by rw [AD, Lib.toList_data, beq_eq_false_iff_ne]; exact hfw
        have HN : Hid (Pr.findOp t 17 1 = Pr.findOp t (18 - (k + 1)) ((k + 1 : Nat) : Int)) := hid (by rw [hfo.out, HST.out, if_neg hsw, if_neg hfw]);clear hsw hfw
        go_wp2_with (first
         | (go_at_call 76; refine (HSW.out _).mono ?_; rintro e w' ⟨rfl, rfl⟩)
         | (go_at_call 73; refine (HFW.out _).mono ?_; rintro e w' ⟨rfl, rfl⟩))
        go_round
        case rel => exact ⟨k + 1, by omega, by omega, by go_num, HN⟩
        case measure => simp [RowKit.intOf]; omega
     ·obtain rfl : k = 18 := by omega
      have HXE : Hid (RES = none) := hid (by rw [HX.out, hfo.out]; rfl);go_wp2_with fail;exact ⟨rfl, CdA.bad HXE.out HG2.out⟩
  ·have HX := hid (HE0.out hf3 hf1);have HTK1 := hid (HTK.out 1);simp only [if_neg hf1] at HTK1;have hy : (f == 3) = false := by rw [beq_eq_false_iff_ne]; exact hf3
   clear HE3 HE0 HEN HEW hf3 hf1;go_enter Tryz.func142, Tryz.ntmps142;go_wp2_with fail
   go_quiet (fail)
   have HPD := hid (HP1.out.drewN nq);have HGD := hid (At HG1.out (AV _ g nq));go_wp2_with fail;refine (HTK1.out _ HPD.out).mono ?_;rintro e w3 ⟨rfl, hg3⟩;exact ⟨rfl, CdA.bad HX.out (At HGD.out hg3)⟩
theorem EA : ∀ n, OneTo n
 | 0 => fun g A cap L i o w h hi hn => absurd hn (by omega)
 | n + 1 => FS n (EA n)
theorem FP (g : Nat) (A : Option Addr) (cap : Nat) (L : List Pr.Tk) (i : Nat) (w : World) (h : PSt w g A cap L i 0) (hi : i ≤ L.length) (hL : L.length ≤ 1000000) (hT : Pr.TkOk L) :
  Calls Tryz.prog 63 #[.pointer (some ⟨g, 0, none⟩)] w (CdA w g A cap L 0 (Pr.condP (L.length + 1) 0 (L.drop i))) :=
 OneTo.rdCond (EA (L.length + 1)) hL hT (by omega) (i := i) (by omega) i w (Nat.le_refl _) hi h
end Go.Proofs.YtchkiegehejfmaaGreatDoor
