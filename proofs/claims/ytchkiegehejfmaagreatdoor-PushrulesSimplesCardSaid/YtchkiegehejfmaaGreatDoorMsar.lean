/- The texts Uy, W1, Ye of this proof, one behind the other. -/
import Derived.Deep.RegionHeld3
import Derived.Test.YtchkiegehejfmaaGreatDoorMsae
import Derived.Test.YtchkiegehejfmaaGreatDoorMsaj
import Derived.Test.YtchkiegehejfmaaGreatDoorMsaq
set_option linter.unusedSimpArgs false
set_option maxHeartbeats 16000000
set_option maxRecDepth 100000
set_option linter.unusedVariables false
namespace Go.Proofs.YtchkiegehejfmaaGreatDoor
open Go.RowKit Go.Lib
section
variable {P : Program} {ops : Array Oper} {Q : Exit → Act → World → Prop} {md : Region.Mode} {C : World → Prop} {late : Nat → Bool}
def AnyT (P : Program) (md : Region.Mode) (ops : Array Oper) (Q : Exit → Act → World → Prop) (C : World → Prop) (late : Nat → Bool) : Nat → Array Bool → Act → World → Prop
 | 0, listed, a, w => Region.ready md ops listed = [] ∧ Q .normal a w
 | fuel + 1, listed, a, w =>
  (Region.ready md ops listed = [] → Q .normal a w) ∧
  ∀ i ∈ Region.ready md ops listed, wpOp P ops Q i (fun a' w' => (late i = true ∨ C w') ∧ AnyT P md ops Q C late fuel (listed.setIfInBounds i true) a' w') a w
theorem CG : ∀ (fuel : Nat) (listed : Array Bool) (a : Act) (w : World), AnyT P md ops Q C late fuel listed a w → wpAny P md ops Q fuel listed a w
 | 0, _, _, _, h => h
 | fuel + 1, _, _, _, h => ⟨h.1, fun i hi => wpOp_mono (fun a' w' h' => CG fuel _ a' w' h'.2) (h.2 i hi)⟩
theorem EZ {i : Nat} {oi : Oper} {v : Value} (hi : ops[i]? = some oi) (hsel : ∀ (j : Nat) (o : Oper) cs b, ops[j]? = some o → o.op ≠ .select cs b)
  (hQ : ∀ c a w, Q (.panic c) (a.put oi.dst v) w → Q (.panic c) a w)
  (hlate : ∀ j oj, ops[j]? = some oj → late j = true → ∃ e ∈ oj.after, Region.binds md e = true ∧ e.on = i) :
  ∀ (fuel : Nat) (listed : Array Bool) (a : Act) (w : World),
   (∀ j oj, ops[j]? = some oj → j ≠ i → listed.getD j true = false → (∀ e ∈ oj.after, Region.binds md e = true → e.on ≠ i) → oi.apart ops oj = true) →
   i ∈ Region.ready md ops listed → YieldsIf P ops C oi v a → C w →
   AnyT P md ops Q C late fuel (listed.setIfInBounds i true) (a.put oi.dst v) w → AnyT P md ops Q C late (fuel + 1) listed a w := by
 intro fuel
 induction fuel with
 | zero =>
  intro listed a w _ hr hy hS H;refine ⟨fun h => (by rw [h] at hr; cases hr), fun j hj => ?_⟩;by_cases hji : j = i
  ·subst hji; exact hy.wpOp hi hS ⟨.inr hS, H⟩
  ·have := ready_mono hj hji;rw [H.1] at this;cases this
 | succ fuel ih =>
  intro listed a w hfree hr hy hS H;refine ⟨fun h => (by rw [h] at hr; cases hr), fun j hj => ?_⟩;by_cases hji : j = i
  ·subst hji; exact hy.wpOp hi hS ⟨.inr hS, H⟩
  ·have h1 := H.2 j (ready_mono hj hji);obtain ⟨hjun, oj, hoj, hall⟩ := mem_ready.1 hj;have hnot : ∀ e ∈ oj.after, Region.binds md e = true → e.on ≠ i := fun e he hb heq => by
    have h1 := hall e he hb;have h0 := (mem_ready.1 hr).1;rw [heq] at h1;rcases Nat.lt_or_ge i listed.size with h' | h'
    ·simp [h'] at h0 h1; rw [h0] at h1; cases h1
    ·simp [Array.getElem?_eq_none h'] at h1
   have hjl : late j ≠ true := fun hl => by
    obtain ⟨e, he, hb, heq⟩ := hlate j oj hoj hl;exact hnot e he hb heq
   have h2 := wpOp_putIf hoj (hfree j oj hoj hji hjun hnot) (fun cs b => hsel i oi cs b hi) (fun cs b => hsel j oj cs b hoj) hQ hy h1
   have hfree' : ∀ k ok, ops[k]? = some ok → k ≠ i → (listed.setIfInBounds j true).getD k true = false →
     (∀ e ∈ ok.after, Region.binds md e = true → e.on ≠ i) → oi.apart ops ok = true := fun k ok hk hki hun hno => by
    refine hfree k ok hk hki ?_ hno;by_cases hjk : j = k
    ·subst hjk; exact hjun
    ·rw [getD_set_ne true hjk] at hun; exact hun
   refine wpOp_mono (fun a' w' h3 => ⟨h3.2.1, ih (listed.setIfInBounds j true) a' w' hfree' (ready_mono hr (Ne.symm hji)) h3.1 (h3.2.1.resolve_left hjl) ?_⟩) h2;rw [Array.setIfInBounds_comm _ _ hji];exact h3.2.2
def EV (md : Region.Mode) (ops : Array Oper) (late : Nat → Bool) (i : Nat) : Bool := (List.range ops.size).all fun j => !late j || match ops[j]? with
 | some oj => oj.after.any fun e => Region.binds md e && e.on == i
 | none => true
theorem EO {i : Nat} (h : EV md ops late i = true) : ∀ j oj, ops[j]? = some oj → late j = true → ∃ e ∈ oj.after, Region.binds md e = true ∧ e.on = i := by
 intro j oj hj hl;unfold EV at h;rw [List.all_eq_true] at h;have h1 := h j (List.mem_range.2 (Array.getElem?_eq_some_iff.1 hj).1);rw [hl, hj] at h1;simp only [Bool.not_true, Bool.false_or, Array.any_eq_true', Bool.and_eq_true, beq_iff_eq] at h1;obtain ⟨e, he, hb⟩ := h1;exact ⟨e, he, hb⟩
theorem Bo {i : Nat} {oi : Oper} {v : Value} {fuel : Nat} {listed : Array Bool} {a : Act} {w : World} (hi : ops[i]? = some oi)
  (hs : Region.noSelect ops = true) (hf : Region.free md ops listed i = true) (hr : (Region.ready md ops listed).contains i = true) (hl : EV md ops late i = true)
  (hQ : ∀ c a w, Q (.panic c) (a.put oi.dst v) w → Q (.panic c) a w) (hy : YieldsIf P ops C oi v a) (hS : C w)
  (h : AnyT P md ops Q C late fuel (listed.setIfInBounds i true) (a.put oi.dst v) w) : AnyT P md ops Q C late (fuel + 1) listed a w :=
 EZ hi (Region.noSelect_spec hs) hQ (EO hl) fuel listed a w (Region.free_spec hi hf) (by simpa using hr) hy hS h
def ReadyT (P : Program) (md : Region.Mode) (ops : Array Oper) (Q : Exit → Act → World → Prop) (C : World → Prop) (late : Nat → Bool) (fuel : Nat) (listed : Array Bool) (a : Act) (w : World) (rs : List Nat) : Prop :=
 ∀ i ∈ rs, wpOp P ops Q i (fun a' w' => (late i = true ∨ C w') ∧ AnyT P md ops Q C late fuel (listed.setIfInBounds i true) a' w') a w
theorem ReadyT.nil {fuel : Nat} {listed : Array Bool} {a : Act} {w : World} : ReadyT P md ops Q C late fuel listed a w [] := fun _ h => by cases h
theorem ReadyT.cons {fuel : Nat} {listed : Array Bool} {a : Act} {w : World} {i : Nat} {o : Oper} {rs : List Nat} (ho : ops[i]? = some o)
  (h : ∀ K' : Act → World → Prop, Shut (∀ a w, (late i = true ∨ C w) → AnyT P md ops Q C late fuel (listed.setIfInBounds i true) a w → K' a w) → if Region.wanted o (yielded ops a.tmps) = true then Oper.wp P o a w K' Q else K' (a.put o.dst undef) w)
  (hs : ReadyT P md ops Q C late fuel listed a w rs) : ReadyT P md ops Q C late fuel listed a w (i :: rs) := fun j hj => by
 rcases List.mem_cons.1 hj with rfl | hj
 ·exact wpOp_step ho (fun K' hK => h K' (fun a w hS hW => hK a w ⟨hS, hW⟩))
 ·exact hs j hj
theorem AO {rs : List Nat} {fuel : Nat} {listed : Array Bool} {a : Act} {w : World} (hr : Region.ready md ops listed = rs) (hne : rs ≠ [])
  (h : ReadyT P md ops Q C late fuel listed a w rs) : AnyT P md ops Q C late (fuel + 1) listed a w := ⟨fun h0 => absurd (hr ▸ h0) hne, hr ▸ h⟩
theorem DN {listed : Array Bool} {a : Act} {w : World} (hr : Region.ready md ops listed = []) (h : Q .normal a w) :
  ∀ fuel, AnyT P md ops Q C late fuel listed a w
 | 0 => ⟨hr, h⟩
 | _ + 1 => ⟨fun _ => h, by rw [hr]; simp⟩
theorem CL (C : World → Prop) (late : Nat → Bool) {id : Nat} {a : Act} {w : World} (hm : P.follows .mixedOrders = true) (hS : C w.drew)
  (h : C w.drew → AnyT P .any ops Q C late ops.size (Array.replicate ops.size false) a w.drew) : (Code.region id ops true).wp P Q a w :=
 wp_region_any hm (CG _ _ _ _ (h hS))
end
end Go.Proofs.YtchkiegehejfmaaGreatDoor
namespace Pr
theorem F0 (n : Nat) (r : Str) : Ar.digs n ≠ 45 :: r := fun e => by
 have h := Ar.EB n n (Nat.le_refl _) 45 (by rw [e]; exact List.mem_cons_self ..);exact absurd h (by decide)
theorem GW (s : Str) (h : ∀ r, s ≠ 45 :: r) : sval s = (Ar.val10 s : Int) := by
 unfold sval;split
 ·rename_i r; exact absurd rfl (h r)
 ·rfl
theorem wrapC_many (op : Int) (l : List Cn) (h : 2 ≤ l.length) : wrapC op l = .mk op [] 0 l := by
 match l, h with
 | a :: b :: r, _ => rfl
end Pr
namespace Pr
variable {rd : List Tk → Option (Cn × List Tk)} {w : Str}
theorem C4 (hs : Shrinks rd) : ∀ (n m : Nat) (acc : List Cn) (r : List Tk), r.length < n → r.length < m → joinL rd w n acc r = joinL rd w m acc r
 | 0, _, _, _, h, _ => by omega
 | _ + 1, 0, _, _, _, h => by omega
 | n + 1, m + 1, acc, r, h1, h2 => by
  rw [joinL, joinL]
  cases hr : rd r with
  | none => rfl
  | some cq =>
   obtain ⟨c, q⟩ := cq;obtain ⟨p, e, hp⟩ := hs r c q hr;have hl : q.length < r.length := by
    have := List.length_pos_iff.2 hp;rw [e, List.length_append]; omega
   have ht : q.tail.length ≤ q.length := by simp
   simp only;split
   ·exact C4 hs n m _ _ (by omega) (by omega)
   ·rfl
def joinK (rd : List Tk → Option (Cn × List Tk)) (w : Str) (acc : List Cn) (q : List Tk) : Option (List Cn × List Tk) := if headIs w q then joinL rd w (q.tail.length + 1) acc q.tail else some (acc, q)
def joinW (op : Int) : Option (List Cn × List Tk) → Option (Cn × List Tk)
 | none => none
 | some (l, q) => some (wrapC op l, q)
theorem joinC_eq (op : Int) (r : List Tk) : joinC op rd w r = joinW op (joinL rd w (r.length + 1) [] r) := by
 unfold joinC;cases joinL rd w (r.length + 1) [] r <;> rfl
def joinN (rd : List Tk → Option (Cn × List Tk)) (w : Str) (acc : List Cn) : Option (Cn × List Tk) → Option (List Cn × List Tk)
 | none => none
 | some (c, q) => joinK rd w (acc ++ [c]) q
theorem joinJ (hs : Shrinks rd) (acc : List Cn) (r : List Tk) : joinL rd w (r.length + 1) acc r = joinN rd w acc (rd r) := by
 rw [joinL]
 cases hr : rd r with
 | none => rfl
 | some cq =>
  obtain ⟨c, q⟩ := cq;obtain ⟨p, e, hp⟩ := hs r c q hr;have hl : q.length < r.length := by
   have := List.length_pos_iff.2 hp;rw [e, List.length_append]; omega
  have ht : q.tail.length ≤ q.length := by simp
  simp only [joinN, joinK];split
  ·exact C4 hs _ _ _ _ (by omega) (by omega)
  ·rfl
end Pr
namespace Go.Proofs.YtchkiegehejfmaaGreatDoor
open Go.RowKit Go.Lib
def atOf (w : World) (g : Nat) : Nat := match w.cell? ⟨g, 1, none⟩ with
 | some (.int _ n) => n.toNat
 | _ => 0
theorem CU {w : World} {g : Nat} {A : Option Addr} {cap : Nat} {L : List Pr.Tk} {i o : Nat} (h : PSt w g A cap L i o) : atOf w g = i := by
 unfold atOf;rw [h.blk.cell 1];simp
theorem CdA.bad {w w' : World} {g : Nat} {A : Option Addr} {cap : Nat} {L : List Pr.Tk} {o : Nat} {x : Option (Pr.Cn × List Pr.Tk)} (hx : x = none) (hg : w.grownBy w' (some g)) : CdA w g A cap L o x (.panicked brk) w' := by subst hx; exact ⟨rfl, hg⟩
theorem CdA.good {w w' : World} {g : Nat} {A : Option Addr} {cap : Nat} {L : List Pr.Tk} {o j : Nat} {x : Option (Pr.Cn × List Pr.Tk)} {c : Pr.Cn} {V : Array Value} (hx : x = some (c, L.drop j)) (hj : j ≤ L.length) (hV : CnV w' (fun b => w.heap.size ≤ b) V c) (hP : PSt w' g A cap L j o) (hg : w.grownBy w' (some g)) : CdA w g A cap L o x (.returned (.agg V)) w' := by subst hx; exact ⟨⟨V, j, hj, rfl, rfl, hV, hP⟩, hg⟩
structure JnM (w0 : World) (N3 g : Nat) (op : Int) (acc : List Pr.Cn) (kv : Value) (wr : World) : Prop where
 lt : g < w0.heap.size
 n3 : w0.heap.size + 1 ≤ N3
 blk : Blk wr N3 36 #[.int .i64 op, .string ⟨#[]⟩, .int .i64 0, kv]
 kids : CnO wr (w0.heap.size + 1) (fun b => w0.heap.size + 1 ≤ b ∧ b ≠ N3) kv acc
 own : ∀ k, kv.ownBlock = some k → w0.heap.size + 1 ≤ k ∧ k ≠ N3
 res : Blk wr w0.heap.size 36 zCn
 grown : w0.grownBy wr (some g)
section
variable {w0 wr w' w8 w9 : World} {N3 g : Nat} {op : Int} {acc : List Pr.Cn} {kv v9 : Value} {c : Pr.Cn} {V : Array Value} {xs : List Value}
theorem JnM.by_ (h : JnM w0 N3 g op acc kv wr) (hg : wr.grownBy w' (some g)) : JnM w0 N3 g op acc kv w' := by
 have h1 := h.lt;have h2 := h.n3;refine ⟨h1, h2, h.blk.grown hg (fun e => by injection e with e; omega), ?_, h.own, h.res.grown hg (fun e => by injection e with e; omega), At h.grown hg⟩;exact h.kids.other hg (fun e => by have := (h.own _ e).1; omega) (fun b hb hl => ⟨hb, fun e => by injection e with e; have := hb.1; omega⟩)
theorem CnO.setc {base : Nat} {ok : Nat → Prop} {v : Value} {L : List Pr.Cn} {g i : Nat} (h : CnO wr base ok v L) (hk : ∀ b, ok b → b ≠ g) (hv : v.ownBlock ≠ some g) (u : Value) : CnO (wr.setCell ⟨g, i, none⟩ u) base ok v L := by
 obtain ⟨xs, h1, h2⟩ := h;exact ⟨xs, Cr h1 hv u, h2.keep fun b hb hl => ⟨hb, Below.heap_setCell _ _ _ _ (hk b hb.1)⟩⟩
theorem JnM.push (h : JnM w0 N3 g op acc kv w8) (hown : w8.ownsRow (w0.heap.size + 1) 36 4 kv acc.length xs) (hcs : CnsV w8 (fun b => (w0.heap.size + 1 ≤ b ∧ b ≠ N3) ∧ some b ≠ kv.ownBlock) xs acc)
  (hV : CnV w8 (fun b => (w0.heap.size + 1 ≤ b ∧ b ≠ N3) ∧ some b ≠ kv.ownBlock) V c) (ho : w9.ownsRow (w0.heap.size + 1) 36 4 v9 (acc.length + 1) (xs ++ V.toList)) (hg : w8.grownBy w9 kv.ownBlock) (hw : v9.ownBlock = kv.ownBlock ∨ v9.ownBlock = some w8.heap.size) :
  Blk w9 N3 36 #[.int .i64 op, .string ⟨#[]⟩, .int .i64 0, kv] ∧ JnM w0 N3 g op (acc ++ [c]) v9 (w9.setCell ⟨N3, 3, none⟩ v9) ∧ Below w0.heap.size w8 (w9.setCell ⟨N3, 3, none⟩ v9) := by
 have h1 := h.lt;have h2 := h.n3;have h3 := h.blk.lt;have h4 := h.grown.size;have hb9 : Blk w9 N3 36 #[.int .i64 op, .string ⟨#[]⟩, .int .i64 0, kv] := h.blk.grown hg (fun e => (h.own _ e.symm).2 rfl);have ho9 : ∀ k, v9.ownBlock = some k → w0.heap.size + 1 ≤ k ∧ k ≠ N3 := fun k hk => by
  rcases hw with e | e
  ·exact h.own k (e ▸ hk)
  ·rw [e] at hk; injection hk with hk; omega
 have hbl : Below w0.heap.size w8 (w9.setCell ⟨N3, 3, none⟩ v9) := ((Below.refl w0.heap.size w8).grown hg h4 (fun k e => by have := (h.own k e).1; omega)).setCell (by show w0.heap.size ≤ N3; omega) _;refine ⟨hb9, ⟨h1, h2, hb9.set_ 3 v9, ?_, ho9, ?_, AA h.grown hbl⟩, hbl⟩
 ·exact (CnO.app (M := [c]) hown hcs (CnsV.one hV) ho hg hw).setc (fun b hb => hb.2) (fun e => (ho9 _ e).2 rfl) v9
 ·exact (h.res.grown hg (fun e => by have := (h.own _ e.symm).1; omega)).far (by show w0.heap.size ≠ N3; omega) _
end
structure JnS (w0 : World) (N3 g : Nat) (A : Option Addr) (cap : Nat) (L : List Pr.Tk) (o : Nat) (op : Int) (word : List UInt8) (rd : List Pr.Tk → Option (Pr.Cn × List Pr.Tk)) (X : Option (List Pr.Cn × List Pr.Tk)) (j : Nat) (acc : List Pr.Cn) (kv : Value) (wr : World) : Prop where
 st : PSt wr g A cap L j o
 le : j ≤ L.length
 mem : JnM w0 N3 g op acc kv wr
 eq : Pr.joinK rd word acc (L.drop j) = X
 few : acc.length ≤ j
 one : 1 ≤ acc.length
theorem CO (F : FuncId) (hEN : ∀ (args : Array Value) (w : World), (callFunc F args).run Tryz.prog w = .ok (.enter F args) w) (g : Nat) (A : Option Addr) (cap : Nat) (L : List Pr.Tk) (i o : Nat) (op : Int) (word : List UInt8) (rd : List Pr.Tk → Option (Pr.Cn × List Pr.Tk)) (w : World)
  (h : PSt w g A cap L i o) (hi : i ≤ L.length) (hL : L.length ≤ 1000000) (hw : word.length ≤ 1000) (hS : Pr.Shrinks rd) (hR : RdOk F g A cap L o rd i) :
  Calls Tryz.prog 111 #[.pointer (some ⟨g, 0, none⟩), .int .i64 op, .string (bstr word), .func (.func F) #[.pointer (some ⟨g, 0, none⟩)] #[]] w (CdA w g A cap L o (Pr.joinC op rd word (L.drop i))) := by
 have hlt := h.lt;have HAL := hid h.rowlt;have HR := hid hR;have HS := hid hS;have hz0 : Below w.heap.size w (w.alloc (.cells zCn 36)) := (Below.refl w.heap.size w).alloc (Nat.le_refl _) (.cells zCn 36);have HP1 := hid (h.bel hz0);have HG1 : Hid (w.grownBy (w.alloc (.cells zCn 36)) (some g)) := hid (As hz0);have HK1 := hid (Blk.new w 36 zCn);have HS1 : Hid ((w.alloc (.cells zCn 36)).heap.size = w.heap.size + 1) := hid (World.size_alloc ..);have HRi := hid (HR.out i _ (Nat.le_refl _) hi HP1.out);have HJ : Hid (Pr.joinC op rd word (L.drop i) = Pr.joinW op (Pr.joinN rd word [] (rd (L.drop i)))) := hid (by rw [Pr.joinC_eq, Pr.joinJ hS]);have hSh : ∀ c q, rd (L.drop i) = some (c, q) → q.length < (L.drop i).length := fun c q hq => by
  obtain ⟨p, e, hp⟩ := hS _ _ _ hq;have := List.length_pos_iff.2 hp;rw [e, List.length_append]; omega
 have HSH := hid hSh;generalize rd (L.drop i) = X at *;generalize Pr.joinC op rd word (L.drop i) = RES at *;clear h hR hz0 hS hSh;go_enter Tryz.func111, Tryz.ntmps111;go_wp2_with fail;refine HRi.out.mono ?_;rintro e w2 ⟨hr, hg2⟩;have HG2 := hid (At HG1.out hg2);have HK2 : Hid (Blk w2 w.heap.size 36 zCn) := hid (HK1.out.grown hg2 (by intro e; injection e with e; omega));have hs2 : w.heap.size + 1 ≤ w2.heap.size := by have h1 := hg2.size; have h2 := HS1.out; omega
 clear hg2
 cases X with
 | none =>
  obtain rfl : e = .panicked brk := hr;exact ⟨rfl, CdA.bad HJ.out HG2.out⟩
 | some cq =>
  obtain ⟨c, q⟩ := cq;obtain ⟨V, j, hj, rfl, rfl, hV, hP⟩ := hr;have HV : Hid (CnV w2 (fun b => w.heap.size + 1 ≤ b) V c) := hid (hV.keep fun b hb _ => ⟨by have := HS1.out; omega, rfl⟩);have HP2 := hid hP;have HSX : Hid ((Tryz.prog.info? 36).map (·.size) = some V.size) := hid (by rw [Aa, hV.size]);have HSZ : Hid (zCn.size = V.size) := hid (by rw [hV.size]; rfl);have HOV := hid hV.one;have hgN : g < w2.heap.size := by omega
  have HKN := hid (Blk.new w2 36 zCn)
  have HIJ : Hid (i < j) := hid (by
   have := HSH.out c _ rfl;rw [List.length_drop, List.length_drop] at this
   omega)
  clear hV hP HRi
  go_upto_region 2 with ((with_reducible refine Ab rfl 36 _ _ rfl w2.heap.size V ?_ ?_ 36 _ HKN.out HSX.out HSZ.out HOV.out ?_); rfl; rfl; intro w3 hk3 hs3 hbl3 hoth3; have hz3 : Below w2.heap.size w2 w3 := ((Below.refl w2.heap.size w2).alloc (Nat.le_refl _) (.cells zCn 36)).trans (hbl3 _ (Nat.le_refl _)); have HZ3 := hid hz3; have HK3 := hid hk3; clear hk3 hs3 hbl3 hoth3 hz3)
  have HP3 := hid (HP2.out.bel HZ3.out);have HV3 := hid (HV.out.bel HZ3.out);have HG3 := hid (At HG2.out (As HZ3.out));have HKR3 : Hid (Blk w3 w.heap.size 36 zCn) := hid (HK2.out.below HZ3.out (by omega));have hs3 : w2.heap.size + 1 ≤ w3.heap.size := by have := HK3.out.lt; omega
  have HIS := hid (FE word g A cap L j o w3 HP3.out hj hL hw)
  cases hhd : Pr.headIs word (L.drop j) with
  | false =>
   have HJF : Hid (RES = some (c, L.drop j)) := hid (by rw [HJ.out]; show Pr.joinW op (Pr.joinK rd word ([] ++ [c]) (L.drop j)) = _; unfold Pr.joinK; rw [hhd]; rfl);rw [hhd] at HIS;clear hhd
   go_upto_region 3 with (go_at_call 141; refine HIS.out.mono ?_; rintro e w' ⟨rfl, q4, rfl⟩)
   have HP4 := hid (HP3.out.drewN q4);have HV4 : Hid (CnV (w3.drewN q4) (fun b => w.heap.size + 1 ≤ b) V c) := hid (HV3.out.bel (below_drewN (Below.refl _ _) q4));have HG4 := hid (At HG3.out (AV w3 g q4));have HKR4 := hid (HKR3.out.drewN q4);have HK4 := hid (HK3.out.drewN q4);generalize w3.drewN q4 = w4 at *
   go_wp2_with (first
    | (refine Ac (by rfl) 36 _ rfl w2.heap.size rfl 36 _ (0, 0) _ rfl HK4.out Tryz.underlying36 HSX.out ?_)
    | ((with_reducible refine Ab rfl 36 _ _ rfl w.heap.size V ?_ ?_ 36 _ HKR4.out HSX.out HSZ.out HOV.out ?_); rfl; rfl; intro w5 hk5 hs5 hbl5 hoth5))
   have HG5 : Hid (w.grownBy w5 (some g)) := hid (AA HG4.out (hbl5 w.heap.size (Nat.le_refl _)));have HP5 : Hid (PSt w5 g A cap L j o) := hid (HP4.out.keepB hlt HAL.out (fun k hk => (hbl5 w.heap.size (Nat.le_refl _)).block k hk));exact bodyPost_ret (v := .agg V) (results_cell_row rfl _ _ w.heap.size 36 _ (0, 0) _ rfl hk5 Tryz.underlying36 rfl HSX.out) rfl (CdA.good HJF.out hj (HV4.out.keep fun b hb hl => ⟨by omega, hoth5 b (by omega)⟩) HP5.out HG5.out)
  | true =>
   rw [hhd] at HIS
   go_upto_region 4 with (go_at_call 141; refine HIS.out.mono ?_; rintro e w' ⟨rfl, q4, rfl⟩)
   have HP4 := hid (HP3.out.drewN q4);have HV4 : Hid (CnV (w3.drewN q4) (fun b => w.heap.size + 1 ≤ b) V c) := hid (HV3.out.bel (below_drewN (Below.refl _ _) q4));have HG4 := hid (At HG3.out (AV w3 g q4));have HKR4 := hid (HKR3.out.drewN q4);have HK4 := hid (HK3.out.drewN q4);have hs4 : w2.heap.size + 1 ≤ (w3.drewN q4).heap.size := hs3;generalize w3.drewN q4 = w4 at *;obtain ⟨XK, hXK⟩ : ∃ X, Pr.joinK rd word ([] ++ [c]) (L.drop j) = X := ⟨_, rfl⟩;have HXK := hid hXK;have HJT : Hid (RES = Pr.joinW op XK) := hid (by rw [← hXK]; exact HJ.out);have HV4 : Hid (CnV w4 (fun b => w.heap.size + 1 ≤ b ∧ b < w4.heap.size) V c) := hid (HV4.out.keep fun b hb hl => ⟨⟨hb, hl⟩, rfl⟩);have HHD := hid hhd;clear hXK hhd;obtain ⟨B, bc, rfl, hrow⟩ := HV4.out.open;clear hrow;go_wp2_with (refine Ac (by rfl) 36 _ rfl w2.heap.size rfl 36 _ (0, 0) _ rfl HK4.out Tryz.underlying36 HSX.out ?_)
   have HW6 : Hid (JnS w (w4.heap.size + 1) g A cap L o op word rd XK j [c] (.slice (some ⟨w4.heap.size, 0, none⟩) 1 1) ((w4.alloc (.cells #[.int .i64 c.op, .string (bstr c.text), .int .i64 c.num, .slice B c.kids.length bc] 36)).alloc (.cells #[.int .i64 op, .string ⟨#[]⟩, .int .i64 0, .slice (some ⟨w4.heap.size, 0, none⟩) 1 1] 36))) := hid (by
    have hz4 : Below w4.heap.size w4 (w4.alloc (.cells #[.int .i64 c.op, .string (bstr c.text), .int .i64 c.num, .slice B c.kids.length bc] 36)) := (Below.refl _ _).alloc (Nat.le_refl _) _;have hz5 : Below w4.heap.size w4 ((w4.alloc (.cells #[.int .i64 c.op, .string (bstr c.text), .int .i64 c.num, .slice B c.kids.length bc] 36)).alloc (.cells #[.int .i64 op, .string ⟨#[]⟩, .int .i64 0, .slice (some ⟨w4.heap.size, 0, none⟩) 1 1] 36)) := hz4.alloc (by rw [World.size_alloc]; omega) _;have hsz : (w4.alloc (.cells #[.int .i64 c.op, .string (bstr c.text), .int .i64 c.num, .slice B c.kids.length bc] 36)).heap.size = w4.heap.size + 1 := World.size_alloc ..
    refine ⟨HP4.out.bel hz5, hj, ⟨hlt, by omega, ?_, ?_, ?_, HKR4.out.below hz5 (by omega), At HG4.out (As hz5)⟩, HXK.out, by have := HIJ.out; show 1 ≤ j; omega, Nat.le_refl _⟩
    ·have := Blk.new (w4.alloc (.cells #[.int .i64 c.op, .string (bstr c.text), .int .i64 c.num, .slice B c.kids.length bc] 36)) 36 #[.int .i64 op, .string ⟨#[]⟩, .int .i64 0, .slice (some ⟨w4.heap.size, 0, none⟩) 1 1];rwa [hsz] at this
    ·refine ⟨[.int .i64 c.op, .string (bstr c.text), .int .i64 c.num, .slice B c.kids.length bc], ?_, ?_⟩
     ·exact AR (World.ownsRow_lit (base := w.heap.size + 1) (e := 36) (size := 4) w4 #[.int .i64 c.op, .string (bstr c.text), .int .i64 c.num, .slice B c.kids.length bc] 1 (by omega) (by decide) rfl) ((Below.refl _ _).alloc (Nat.le_refl _) _)
     ·exact CnsV.one (X := #[.int .i64 c.op, .string (bstr c.text), .int .i64 c.num, .slice B c.kids.length bc]) ((HV4.out.bel hz5).keep fun b hb hl => ⟨⟨⟨hb.1, by have := hb.2; omega⟩, fun e => by (have e2 : b = w4.heap.size := by injection e); (have := hb.2); omega⟩, rfl⟩)
    ·intro k e;have e2 : w4.heap.size = k := by injection e
     exact ⟨by omega, by omega⟩)
   generalize w4.heap.size = N2 at *;generalize (w4.alloc (.cells #[.int .i64 c.op, .string (bstr c.text), .int .i64 c.num, .slice B c.kids.length bc] 36)).alloc (.cells #[.int .i64 op, .string ⟨#[]⟩, .int .i64 0, .slice (some ⟨N2, 0, none⟩) 1 1] 36) = w5 at *
   go_loopw [24] (fun _ wr => ∃ (j : Nat) (acc : List Pr.Cn) (kv : Value), JnS w (N2 + 1) g A cap L o op word rd XK j acc kv wr ∧ i ≤ j ∧ (2 ≤ acc.length ∨ Pr.headIs word (L.drop j) = true)) (fun _ wr => L.length - atOf wr g)
   case atStart => exact ⟨j, [c], _, HW6.out, by have := HIJ.out; omega, .inr HHD.out⟩
   case round =>
    obtain ⟨j, acc, kv, hJn, hij, htwo⟩ := hrel;have HN := hid hJn;have hj := hJn.le;obtain ⟨A0, c0, rfl, hc0⟩ := hJn.mem.kids.len;have hgr := hJn.mem.grown.size;have hN3 : N2 + 1 < wr.heap.size := hJn.mem.blk.lt;have HSK := hid (DS word g A cap L j o wr hJn.st hj hL hw);have HJT2 := hid HJT.out;clear hJn
    cases hhd : Pr.headIs word (L.drop j) with
    | false =>
     have HXE : Hid (RES = some (Pr.wrapC op acc, L.drop j)) := hid (by
      rw [HJT.out, ← HN.out.eq];unfold Pr.joinK;rw [hhd]
      rfl)
     have hl2 : 2 ≤ acc.length := htwo.resolve_right (by rw [hhd]; decide);have HXF : Hid (RES = some (.mk op [] 0 acc, L.drop j)) := hid (by rw [HXE.out, Pr.wrapC_many op acc hl2]);rw [hhd] at HSK;clear hhd htwo hl2;have HSY : Hid ((Tryz.prog.info? 36).map (·.size) = some (#[.int .i64 op, .string ⟨#[]⟩, .int .i64 0, .slice A0 acc.length c0] : Array Value).size) := hid (by rw [Aa]; rfl)
     go_upto_region 7 with (go_at_call 110; refine HSK.out.mono ?_; rintro e w6 ⟨rfl, hp6, hg6⟩; have HP6 : Hid (PSt w6 g A cap L j o) := hid hp6; have HG6 := hid hg6; clear hp6 hg6)
     have HM6 := hid (HN.out.mem.by_ HG6.out);have HB6 := hid HM6.out.blk;have HR6 := hid HM6.out.res
     go_wp2_with (first
      | (refine Ac (by rfl) 36 _ rfl (N2 + 1) rfl 36 _ (0, 0) _ rfl HB6.out Tryz.underlying36 HSY.out ?_)
      | ((with_reducible refine Ab rfl 36 _ _ rfl w.heap.size #[.int .i64 op, .string ⟨#[]⟩, .int .i64 0, .slice A0 acc.length c0] ?_ ?_ 36 _ HR6.out HSY.out rfl (AJ _ _ _ _ _ _) ?_); rfl; rfl; intro w7 hk7 hs7 hbl7 hoth7))
     have HG7 : Hid (w.grownBy w7 (some g)) := hid (AA HM6.out.grown (hbl7 w.heap.size (Nat.le_refl _)));have HP7 : Hid (PSt w7 g A cap L j o) := hid (HP6.out.keepB hlt HAL.out (fun k hk => (hbl7 w.heap.size (Nat.le_refl _)).block k hk));obtain ⟨A1, c1, e1, -, hrow⟩ := HM6.out.kids.row (ok' := fun b => w.heap.size + 1 ≤ b) (fun b hb => hb.1) (fun k hk => (HM6.out.own k hk).1);injection e1 with e1 e2 e3;subst e1 e3;have hrow7 : CnRow w7 (fun b => w.heap.size ≤ b) A0 acc := hrow.keep fun b hb hl => ⟨by omega, hoth7 b (by omega)⟩
     exact bodyPost_ret (v := .agg #[.int .i64 op, .string ⟨#[]⟩, .int .i64 0, .slice A0 acc.length c0]) (results_cell_row rfl _ _ w.heap.size 36 _ (0, 0) _ rfl hk7 Tryz.underlying36 rfl HSY.out) rfl (CdA.good HXF.out hj (CnV.make hrow7) HP7.out HG7.out)
    | true =>
     have hjl : j < L.length := by
      rcases Nat.lt_or_ge j L.length with h | h
      ·exact h
      ·rw [List.drop_eq_nil_of_le h] at hhd;cases hhd
     have HXE : Hid (Pr.joinN rd word acc (rd (L.drop (j + 1))) = XK) := hid (by
      rw [← HN.out.eq];unfold Pr.joinK
      rw [hhd, if_pos rfl, List.tail_drop, Pr.joinJ HS.out])
     rw [hhd] at HSK;clear hhd
     go_upto_region 6 with (go_at_call 110; refine HSK.out.mono ?_; rintro e w6 ⟨rfl, hp6, hg6⟩; have HP6 : Hid (PSt w6 g A cap L (j + 1) o) := hid hp6; have HG6 := hid hg6; clear hp6 hg6)
     have HMD : Hid (JnM w (N2 + 1) g op acc (.slice A0 acc.length c0) w6.drew) := hid ((HN.out.mem.by_ HG6.out).by_ (As ((Below.refl _ w6).drew)));have HPD : Hid (PSt w6.drew g A cap L (j + 1) o) := hid ⟨HP6.out.blk, HP6.out.row, HP6.out.far⟩;have HRj := hid (HR.out (j + 1) w6.drew (by omega) (by omega) HPD.out)
     have HSH2 : Hid (∀ c q, rd (L.drop (j + 1)) = some (c, q) → q.length < (L.drop (j + 1)).length) := hid (fun c q hq => by
      obtain ⟨p, e, hp⟩ := HS.out _ _ _ hq;have := List.length_pos_iff.2 hp
      rw [e, List.length_append]; omega)
     generalize rd (L.drop (j + 1)) = X2 at *;have HNS := hN3;have hc6 := HMD.out.blk.cell 3;simp only [List.getElem?_toArray, List.getElem?_cons_succ, List.getElem?_cons_zero] at hc6;refine CL (fun W => W.cell? ⟨N2 + 1, 3, none⟩ = some (.slice A0 acc.length c0)) (fun i => i == 7) (by kernel_rfl) hc6 (fun hHeld => ?_);refine Bo (i := 0) (oi := _) (v := ?_) rfl (by kernel_rfl) (by kernel_rfl) (by kernel_rfl) (by kernel_rfl) (fun _ _ _ h => h) (Or.inl ⟨by rfl, ?_⟩) hHeld ?_;rotate_left
     ·intro wq hSw;go_simp
      (try with_reducible rfl)
     (try simp only [Act.put, pk1, pk2, pk3, pk4, pk5, pk6])
     refine Bo (i := 1) (oi := _) (v := ?_) rfl (by kernel_rfl) (by kernel_rfl) (by kernel_rfl) (by kernel_rfl) (fun _ _ _ h => h) (Or.inl ⟨by rfl, ?_⟩) hHeld ?_;rotate_left
     ·intro wq hSw;go_simp
      (try with_reducible rfl)
     (try simp only [Act.put, pk1, pk2, pk3, pk4, pk5, pk6])
     refine Bo (i := 2) (oi := _) (v := ?_) rfl (by kernel_rfl) (by kernel_rfl) (by kernel_rfl) (by kernel_rfl) (fun _ _ _ h => h) (Or.inl ⟨by rfl, ?_⟩) hHeld ?_;rotate_left
     ·intro wq hSw;go_simp
      (try with_reducible rfl)
     (try simp only [Act.put, pk1, pk2, pk3, pk4, pk5, pk6])
     refine AO (rs := [3]) (by kernel_rfl) (by simp) ?_;refine ReadyT.cons (o := _) rfl (fun K hK => ?_) ReadyT.nil;go_simp;refine HRj.out.mono ?_;rintro e w7 ⟨hr7, hg7⟩;have HM7 := hid (HMD.out.by_ hg7);have hs7 : w6.heap.size ≤ w7.heap.size := hg7.size;clear hg7
     cases X2 with
     | none =>
      obtain rfl : e = .panicked brk := hr7;exact ⟨rfl, CdA.bad (by rw [HJT.out, ← HXE.out]; rfl) HM7.out.grown⟩
     | some cq2 =>
      obtain ⟨c2, q2⟩ := cq2;obtain ⟨V2, j2, hj2, rfl, rfl, hV2, hP2⟩ := hr7;obtain ⟨B2, bc2, rfl, hrow2⟩ := hV2.open;clear hrow2;have hsd : w6.drew.heap.size = w6.heap.size := rfl
      have HJ2 : Hid (j + 1 < j2) := hid (by
       have := HSH2.out c2 _ rfl;rw [List.length_drop, List.length_drop] at this
       omega)
      have HXE2 : Hid (Pr.joinK rd word (acc ++ [c2]) (L.drop j2) = XK) := hid HXE.out;have hz8 : Below w7.heap.size w7 (w7.alloc (.cells #[.int .i64 c2.op, .string (bstr c2.text), .int .i64 c2.num, .slice B2 c2.kids.length bc2] 36)) := (Below.refl _ _).alloc (Nat.le_refl _) _;have HP8 := hid (hP2.bel hz8);have HM8 := hid (HM7.out.by_ (As hz8));have hs8 : (w7.alloc (.cells #[.int .i64 c2.op, .string (bstr c2.text), .int .i64 c2.num, .slice B2 c2.kids.length bc2] 36)).heap.size = w7.heap.size + 1 := World.size_alloc ..
      have HLT8 : Hid (∀ k, (Value.slice A0 acc.length c0).ownBlock = some k → k < wr.heap.size) := hid (fun k hk => by
       obtain ⟨xs, h1, _⟩ := HN.out.mem.kids
       exact (h1.lt k hk).2)
      have HW6R : Hid (wr.heap.size ≤ w6.heap.size) := hid HG6.out.size;have HV8 : Hid (CnV (w7.alloc (.cells #[.int .i64 c2.op, .string (bstr c2.text), .int .i64 c2.num, .slice B2 c2.kids.length bc2] 36)) (fun b => (w.heap.size + 1 ≤ b ∧ b ≠ N2 + 1) ∧ some b ≠ (Value.slice A0 acc.length c0).ownBlock) #[.int .i64 c2.op, .string (bstr c2.text), .int .i64 c2.num, .slice B2 c2.kids.length bc2] c2) := hid ((hV2.bel hz8).keep fun b hb hl => ⟨⟨⟨by have := HW6R.out; have := HM7.out.n3; omega, by have := HW6R.out; omega⟩, fun e => by have h1 := HLT8.out b e.symm; have := HW6R.out; omega⟩, rfl⟩);obtain ⟨xs, hown, hcs⟩ := HM8.out.kids;have HCS := hid hcs;have hrd : Rd (w7.alloc (.cells #[.int .i64 c2.op, .string (bstr c2.text), .int .i64 c2.num, .slice B2 c2.kids.length bc2] 36)) (some ⟨w7.heap.size, 0, none⟩) (1 * 4) [.int .i64 c2.op, .string (bstr c2.text), .int .i64 c2.num, .slice B2 c2.kids.length bc2] := Rd.of_blk (vs := [.int .i64 c2.op, .string (bstr c2.text), .int .i64 c2.num, .slice B2 c2.kids.length bc2]) (Blk.new w7 36 #[.int .i64 c2.op, .string (bstr c2.text), .int .i64 c2.num, .slice B2 c2.kids.length bc2]);have hone2 : ∀ u ∈ ([.int .i64 c2.op, .string (bstr c2.text), .int .i64 c2.num, .slice B2 c2.kids.length bc2] : List Value), u.oneCell' = true := by intro u hu; simp at hu; rcases hu with rfl | rfl | rfl | rfl <;> rfl
      have hbase8 : w.heap.size + 1 ≤ (w7.alloc (.cells #[.int .i64 c2.op, .string (bstr c2.text), .int .i64 c2.num, .slice B2 c2.kids.length bc2] 36)).heap.size := by have := HM8.out.n3; have := HM8.out.blk.lt; omega
      have HFEW := hid HN.out.few;have HONE := hid HN.out.one;have hlen8 : acc.length + 1 ≤ 100000000000 := by have := HFEW.out; omega
      have hc7 := HM7.out.blk.cell 3;have hc8 := HM8.out.blk.cell 3;simp only [List.getElem?_toArray, List.getElem?_cons_succ, List.getElem?_cons_zero] at hc7 hc8;clear hV2 hP2 hcs hz8 hHeld;refine hK.out _ _ (.inr hc7) ?_;clear hK K
      (try simp only [Act.put, pk1, pk2, pk3, pk4, pk5, pk6])
      refine AO (rs := [4]) (by kernel_rfl) (by simp) ?_;refine ReadyT.cons (o := _) rfl (fun K hK => ?_) ReadyT.nil;go_simp;refine hK.out _ _ (.inr hc8) ?_;clear hK K
      (try simp only [Act.put, pk1, pk2, pk3, pk4, pk5, pk6])
      refine AO (rs := [5]) (by kernel_rfl) (by simp) ?_;refine ReadyT.cons (o := _) rfl (fun K hK => ?_) ReadyT.nil;refine Ej rowCn rfl _ _ rfl (w7.alloc (.cells #[.int .i64 c2.op, .string (bstr c2.text), .int .i64 c2.num, .slice B2 c2.kids.length bc2] 36)) (.slice A0 acc.length c0) acc.length xs [.int .i64 c2.op, .string (bstr c2.text), .int .i64 c2.num, .slice B2 c2.kids.length bc2] (w.heap.size + 1) ?_ hown (some ⟨w7.heap.size, 0, none⟩) 1 1 ?_ hrd hone2 hbase8 hlen8 ?_
      ·kernel_rfl
      ·kernel_rfl
      intro v9 w9 ho9 hg9 hb9 hwh9;obtain ⟨A9, c9, rfl, -⟩ := AU ho9;obtain ⟨hk9, hm10, hbl10⟩ := HM8.out.push hown HCS.out HV8.out ho9 hg9 hwh9;have HM10 := hid hm10;have HP10 : Hid (PSt (w9.setCell ⟨N2 + 1, 3, none⟩ (.slice A9 (acc.length + 1) c9)) g A cap L j2 o) := hid (HP8.out.keepB hlt HAL.out (fun k hk => hbl10.block k hk));have hf9 := hk9.frozen 3;have hc9 := hk9.cell 3;simp only [List.getElem?_toArray, List.getElem?_cons_succ, List.getElem?_cons_zero] at hc9;clear ho9 hg9 hb9 hwh9 hm10 hbl10 hown hrd hc7 hc8;refine hK.out _ _ (.inr hc9) ?_;clear hK K
      (try simp only [Act.put, pk1, pk2, pk3, pk4, pk5, pk6])
      refine AO (rs := [6]) (by kernel_rfl) (by simp) ?_;refine ReadyT.cons (o := _) rfl (fun K hK => ?_) ReadyT.nil;go_simp;refine hK.out _ _ (.inr hc9) ?_;clear hK K
      (try simp only [Act.put, pk1, pk2, pk3, pk4, pk5, pk6])
      refine AO (rs := [7]) (by kernel_rfl) (by simp) ?_;refine ReadyT.cons (o := _) rfl (fun K hK => ?_) ReadyT.nil;go_simp;refine hK.out _ _ (.inl rfl) ?_;clear hK K
      (try simp only [Act.put, pk1, pk2, pk3, pk4, pk5, pk6])
      refine DN (by kernel_rfl) ?_ _;have HAO := hid (CU HP10.out);have HAJ := hid (CU HN.out.st);generalize hw10 : w9.setCell ⟨N2 + 1, 3, none⟩ (.slice A9 (acc.length + 1) c9) = w10 at *;go_wp2_with fail
      go_roundw
      case rel => exact ⟨j2, acc ++ [c2], _, ⟨HP10.out, hj2, HM10.out, HXE2.out, by have := HJ2.out; have := HFEW.out; rw [List.length_append]; show acc.length + 1 ≤ j2; omega, by rw [List.length_append]; show 1 ≤ acc.length + 1; omega⟩, by have := HJ2.out; omega, .inl (by have := HONE.out; rw [List.length_append]; show 2 ≤ acc.length + 1; omega)⟩
      case measure => have := HJ2.out; rw [HAO.out, HAJ.out]; omega
end Go.Proofs.YtchkiegehejfmaaGreatDoor
