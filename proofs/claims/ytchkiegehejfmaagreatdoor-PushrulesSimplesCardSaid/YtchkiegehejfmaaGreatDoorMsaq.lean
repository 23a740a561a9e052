/- The texts Ux, Yd of this proof, one behind the other. -/
import Derived.Deep.CutRange
import Derived.Test.YtchkiegehejfmaaGreatDoorMsao
import Derived.Test.YtchkiegehejfmaaGreatDoorMsap
import Derived.Test.YtchkiegehejfmaaGreatDoorMsal
set_option linter.unusedSimpArgs false
set_option maxHeartbeats 16000000
set_option maxRecDepth 100000
set_option linter.unusedVariables false
namespace Pr
end Pr
namespace Go.Proofs.YtchkiegehejfmaaGreatDoor
open Go.RowKit Go.Lib
theorem D2 {w w' : World} {base size n : Nat} {e : TypeId} {v : Value} {xs : List Value} {row : Option Nat} (h : w.ownsRow base e size v n xs) (hg : w.grownBy w' row) (hne : v.ownBlock = row → v.ownBlock = none) : w'.ownsRow base e size v n xs := by
 obtain ⟨h1, h2⟩ := h;refine ⟨h1, ?_⟩;rcases h2 with h2 | ⟨k, cap, cur, rfl, hk, hh, hn, hcap, hsz, ht⟩
 ·exact .inl h2
 ·refine .inr ⟨k, cap, cur, rfl, hk, (hg.block k (Array.getElem?_eq_some_iff.1 hh).1 (fun e => ?_)).trans hh, hn, hcap, hsz, ht⟩;have := hne e;cases this
theorem CnO.other {w w' : World} {base : Nat} {ok ok' : Nat → Prop} {v : Value} {L : List Pr.Cn} {row : Option Nat} (h : CnO w base ok v L) (hg : w.grownBy w' row) (hne : v.ownBlock = row → v.ownBlock = none) (hk : ∀ b, ok b → b < w.heap.size → ok' b ∧ some b ≠ row) : CnO w' base ok' v L := by
 obtain ⟨xs, h1, h2⟩ := h;exact ⟨xs, D2 h1 hg hne, h2.keep fun b hb hl => ⟨⟨(hk b hb.1 hl).1, hb.2⟩, hg.block b hl (hk b hb.1 hl).2⟩⟩
theorem rowSt : RowU 43 9 1 16 := ⟨Tryz.underlying43, ⟨_, Et, rfl⟩, by decide, by decide⟩
def CdR (w : World) (g : Nat) (A : Option Addr) (cap : Nat) (L : List Pr.Tk) (o : Nat) (e : Ending) (w' : World) : Option (Pr.Cn × List Pr.Tk) → Prop
 | none => e = .panicked brk
 | some (c, q) => ∃ V j, j ≤ L.length ∧ q = L.drop j ∧ e = .returned (.agg V) ∧ CnV w' (fun b => w.heap.size ≤ b) V c ∧ PSt w' g A cap L j o
def CdA (w : World) (g : Nat) (A : Option Addr) (cap : Nat) (L : List Pr.Tk) (o : Nat) (x : Option (Pr.Cn × List Pr.Tk)) (e : Ending) (w' : World) : Prop := CdR w g A cap L o e w' x ∧ w.grownBy w' (some g)
def RdOk (F : FuncId) (g : Nat) (A : Option Addr) (cap : Nat) (L : List Pr.Tk) (o : Nat) (rd : List Pr.Tk → Option (Pr.Cn × List Pr.Tk)) (i0 : Nat) : Prop :=
 ∀ i w, i0 ≤ i → i ≤ L.length → PSt w g A cap L i o → Calls Tryz.prog F #[.pointer (some ⟨g, 0, none⟩)] w (CdA w g A cap L o (rd (L.drop i)))
theorem PSt.rowlt {w : World} {g : Nat} {A : Option Addr} {cap : Nat} {L : List Pr.Tk} {i o : Nat} (h : PSt w g A cap L i o) : ∀ a, A = some a → a.block < w.heap.size := fun a ha => by
 obtain ⟨b, off, hA⟩ := h.some_;obtain ⟨hl, hr⟩ := h.row;obtain ⟨b2, off2, hA2, hc⟩ := hr 0 _ (List.getElem?_eq_getElem (by rw [hl]; omega));rw [ha] at hA2;injection hA2 with hA2;subst hA2;exact An hc
theorem PSt.keepB {w w' : World} {g : Nat} {A : Option Addr} {cap : Nat} {L : List Pr.Tk} {i o B : Nat} (h : PSt w g A cap L i o) (hg : g < B) (hA : ∀ a, A = some a → a.block < B) (hb : ∀ k, k < B → w'.heap[k]? = w.heap[k]?) : PSt w' g A cap L i o :=
 ⟨(hb g hg).trans h.blk, A3 h.row (fun a ha _ => hb _ (hA a ha)), h.far⟩
theorem AA {w w4 w5 : World} {g : Nat} (h : w.grownBy w4 (some g)) (hb : Below w.heap.size w4 w5) : w.grownBy w5 (some g) :=
 ⟨hb.os.trans h.os, hb.tape.trans h.tape, hb.output.trans h.output, Nat.le_trans h.size hb.size, fun k hk hne => (hb.block k hk).trans (h.block k hk hne)⟩
theorem CM (F : FuncId) (hEN : ∀ (args : Array Value) (w : World), (callFunc F args).run Tryz.prog w = .ok (.enter F args) w) (g : Nat) (A : Option Addr) (cap : Nat) (L : List Pr.Tk) (i o : Nat) (rd : List Pr.Tk → Option (Pr.Cn × List Pr.Tk)) (w : World)
  (h : PSt w g A cap L i o) (hi : i ≤ L.length) (ho : o ≤ 100) (hR : o < 100 → RdOk F g A cap L (o + 1) rd i) :
  Calls Tryz.prog 162 #[.pointer (some ⟨g, 0, none⟩), .func (.func F) #[.pointer (some ⟨g, 0, none⟩)] #[]] w (CdA w g A cap L o (if 100 ≤ o then none else rd (L.drop i))) := by
 have hlt := h.lt;have hb2 := h.blk.cell 2;simp only [List.getElem?_toArray, List.getElem?_cons_succ, List.getElem?_cons_zero] at hb2;have hf2 := h.blk.frozen 2;have hss : (w.setCell ⟨g, 2, none⟩ (.int .i64 ((o : Int) + 1))).heap.size = w.heap.size := by simp [World.setCell]
 have h1 : PSt (w.setCell ⟨g, 2, none⟩ (.int .i64 ((o : Int) + 1))) g A cap L i (o + 1) := h.set2 (o + 1);have H1 : Hid (PSt ((w.setCell ⟨g, 2, none⟩ (.int .i64 ((o : Int) + 1))).alloc (.cells zCn 36)) g A cap L i (o + 1)) := hid (h1.bel ((Below.refl _ _).alloc (Nat.le_refl _) _));have HS1 : Hid (((w.setCell ⟨g, 2, none⟩ (.int .i64 ((o : Int) + 1))).alloc (.cells zCn 36)).heap.size = w.heap.size + 1) := hid (by rw [World.size_alloc, hss]);have HK1 : Hid (Blk ((w.setCell ⟨g, 2, none⟩ (.int .i64 ((o : Int) + 1))).alloc (.cells zCn 36)) w.heap.size 36 zCn) := hid (by have := Blk.new (w.setCell ⟨g, 2, none⟩ (.int .i64 ((o : Int) + 1))) 36 zCn; rwa [hss] at this);have HG1 : Hid (w.grownBy ((w.setCell ⟨g, 2, none⟩ (.int .i64 ((o : Int) + 1))).alloc (.cells zCn 36)) (some g)) := hid (At (Bf w g 2 _) (As ((Below.refl _ _).alloc (Nat.le_refl _) _)));have hne : g ≠ w.heap.size := by omega
 have hne2 : ¬ w.heap.size = g := by omega
 have HR := hid hR;have HAL := hid h.rowlt;clear h hR h1 hss;by_cases ho2 : 100 ≤ o
 ·simp only [if_pos ho2];have ho3 : o = 100 := by omega
  subst ho3;go_enter Tryz.func162, Tryz.ntmps162;go_wp2_with fail;exact ⟨rfl, rfl, HG1.out⟩
 ·simp only [if_neg ho2];have HRi := hid (HR.out (by omega) i _ (Nat.le_refl _) hi H1.out);generalize rd (L.drop i) = X at *;go_enter Tryz.func162, Tryz.ntmps162;go_wp2_with fail;refine HRi.out.mono ?_;rintro e w2 ⟨hr, hg2⟩;have HG2 := hid (At HG1.out hg2);have HK2 : Hid (Blk w2 w.heap.size 36 zCn) := hid (HK1.out.grown hg2 (by intro e; injection e with e; exact hne2 e));have hs2 : w.heap.size + 1 ≤ w2.heap.size := by have h1 := hg2.size; have h2 := HS1.out; omega
  clear hg2
  cases X with
  | none =>
   obtain rfl : e = .panicked brk := hr;exact ⟨rfl, rfl, HG2.out⟩
  | some cq =>
   obtain ⟨c, q⟩ := cq;obtain ⟨V, j, hj, rfl, rfl, hV, hP⟩ := hr;have HV := hid hV;have HP2 := hid hP;have HSX : Hid ((Tryz.prog.info? 36).map (·.size) = some V.size) := hid (by rw [Aa, hV.size]);have HSZ : Hid (zCn.size = V.size) := hid (by rw [hV.size]; rfl);have HOV := hid hV.one;have hgN : g < w2.heap.size := by omega
   have HKN := hid (Blk.new w2 36 zCn);clear hV hP H1 hb2 hf2 HRi
   go_upto_region 5 with ((with_reducible refine Ab rfl 36 _ _ rfl w2.heap.size V ?_ ?_ 36 _ HKN.out HSX.out HSZ.out HOV.out ?_); rfl; rfl; intro w3 hk3 hs3 hbl3 hoth3; have hz3 : Below w2.heap.size w2 w3 := ((Below.refl w2.heap.size w2).alloc (Nat.le_refl _) (.cells zCn 36)).trans (hbl3 _ (Nat.le_refl _)); have HZ3 := hid hz3; have HK3 := hid hk3; clear hk3 hs3 hbl3 hoth3 hz3)
   have HP3 := hid (HP2.out.bel HZ3.out);have HV3 := hid (HV.out.bel HZ3.out);have HG3 := hid (At HG2.out (As HZ3.out));have HKR3 : Hid (Blk w3 w.heap.size 36 zCn) := hid (HK2.out.below HZ3.out (by omega));have hs3 : w2.heap.size + 1 ≤ w3.heap.size := by have := HK3.out.lt; omega
   have hb2 := HP3.out.blk.cell 2;simp only [List.getElem?_toArray, List.getElem?_cons_succ, List.getElem?_cons_zero] at hb2;have hf2 := HP3.out.blk.frozen 2;have hb2' : w3.cell? ⟨g, 2, none⟩ = some (.int .i64 ((o : Int) + 1)) := hb2;clear hb2;have hws : IntKind.i64.wrap ((o : Int) + 1 - 1) = (o : Int) := by rw [show (o : Int) + 1 - 1 = (o : Int) by omega]; exact IntWalk.i64_in _ (by omega)
   have HP4 : Hid (PSt (w3.setCell ⟨g, 2, none⟩ (.int .i64 (o : Int))) g A cap L j o) := hid (HP3.out.set2 o);have HK4 : Hid (Blk (w3.setCell ⟨g, 2, none⟩ (.int .i64 (o : Int))) w2.heap.size 36 V) := hid (HK3.out.far (by show w2.heap.size ≠ g; omega) _);have HKR4 : Hid (Blk (w3.setCell ⟨g, 2, none⟩ (.int .i64 (o : Int))) w.heap.size 36 zCn) := hid (HKR3.out.far (by show w.heap.size ≠ g; omega) _);have HG4 : Hid (w.grownBy (w3.setCell ⟨g, 2, none⟩ (.int .i64 (o : Int))) (some g)) := hid (At HG3.out (Bf _ g 2 _));have HV4 : Hid (CnV (w3.setCell ⟨g, 2, none⟩ (.int .i64 (o : Int))) (fun b => w.heap.size + 1 ≤ b) V c) := hid (HV3.out.keep fun b hb hl => ⟨by have := HS1.out; omega, Below.heap_setCell _ _ _ _ (by have := HS1.out; show b ≠ g; omega)⟩);generalize hw4 : w3.setCell ⟨g, 2, none⟩ (.int .i64 (o : Int)) = w4 at *
   go_wp2_with (first
    | (refine Ac (by rfl) 36 _ rfl w2.heap.size rfl 36 _ (0, 0) _ rfl HK4.out Tryz.underlying36 HSX.out ?_)
    | ((with_reducible refine Ab rfl 36 _ _ rfl w.heap.size V ?_ ?_ 36 _ HKR4.out HSX.out HSZ.out HOV.out ?_); rfl; rfl; intro w5 hk5 hs5 hbl5 hoth5))
   have HG5 : Hid (w.grownBy w5 (some g)) := hid (AA HG4.out (hbl5 w.heap.size (Nat.le_refl _)));have HP5 : Hid (PSt w5 g A cap L j o) := hid (HP4.out.keepB hlt HAL.out (fun k hk => (hbl5 w.heap.size (Nat.le_refl _)).block k hk));exact bodyPost_ret (v := .agg V) (results_cell_row rfl _ _ w.heap.size 36 _ (0, 0) _ rfl hk5 Tryz.underlying36 rfl HSX.out) rfl ⟨⟨V, j, hj, rfl, rfl, HV4.out.keep fun b hb hl => ⟨by omega, hoth5 b (by omega)⟩, HP5.out⟩, HG5.out⟩
end Go.Proofs.YtchkiegehejfmaaGreatDoor
