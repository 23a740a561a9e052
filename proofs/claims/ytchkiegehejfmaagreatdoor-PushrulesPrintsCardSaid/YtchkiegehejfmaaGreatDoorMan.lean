/- The texts Uy, W1, Ye, W3, Vb of this proof, one behind the other. -/
import Derived.Deep.RegionHeld3
import Derived.Test.YtchkiegehejfmaaGreatDoorMad
import Derived.Test.YtchkiegehejfmaaGreatDoorMag
import Derived.Test.YtchkiegehejfmaaGreatDoorMam
import Derived.Test.YtchkiegehejfmaaGreatDoorMab
set_option linter.unusedSimpArgs false
set_option maxHeartbeats 16000000
set_option maxRecDepth 100000
/- The text Uy. -/
namespace Go.Proofs.YtchkiegehejfmaaGreatDoor
open Go.RowKit Go.Lib
set_option linter.unusedVariables false
section
variable {P : Program} {ops : Array Oper} {Q : Exit → Act → World → Prop} {md : Region.Mode} {C : World → Prop} {late : Nat → Bool}
def AnyT (P : Program) (md : Region.Mode) (ops : Array Oper) (Q : Exit → Act → World → Prop) (C : World → Prop) (late : Nat → Bool) : Nat → Array Bool → Act → World → Prop
 | 0, listed, a, w => Region.ready md ops listed = [] ∧ Q .normal a w
 | fuel + 1, listed, a, w =>
  (Region.ready md ops listed = [] → Q .normal a w) ∧
  ∀ i ∈ Region.ready md ops listed, wpOp P ops Q i (fun a' w' => (late i = true ∨ C w') ∧ AnyT P md ops Q C late fuel (listed.setIfInBounds i true) a' w') a w
theorem any_of_till : ∀ (fuel : Nat) (listed : Array Bool) (a : Act) (w : World), AnyT P md ops Q C late fuel listed a w → wpAny P md ops Q fuel listed a w
 | 0, _, _, _, h => h
 | fuel + 1, _, _, _, h => ⟨h.1, fun i hi => wpOp_mono (fun a' w' h' => any_of_till fuel _ a' w' h'.2) (h.2 i hi)⟩
theorem till_first {i : Nat} {oi : Oper} {v : Value} (hi : ops[i]? = some oi) (hsel : ∀ (j : Nat) (o : Oper) cs b, ops[j]? = some o → o.op ≠ .select cs b)
  (hQ : ∀ c a w, Q (.panic c) (a.put oi.dst v) w → Q (.panic c) a w)
  (hlate : ∀ j oj, ops[j]? = some oj → late j = true → ∃ e ∈ oj.after, Region.binds md e = true ∧ e.on = i) :
  ∀ (fuel : Nat) (listed : Array Bool) (a : Act) (w : World),
   (∀ j oj, ops[j]? = some oj → j ≠ i → listed.getD j true = false → (∀ e ∈ oj.after, Region.binds md e = true → e.on ≠ i) → oi.apart ops oj = true) →
   i ∈ Region.ready md ops listed → YieldsIf P ops C oi v a → C w →
   AnyT P md ops Q C late fuel (listed.setIfInBounds i true) (a.put oi.dst v) w → AnyT P md ops Q C late (fuel + 1) listed a w := by
 intro fuel
 induction fuel with
 | zero =>
  intro listed a w _ hr hy hS H
  refine ⟨fun h => (by rw [h] at hr; cases hr), fun j hj => ?_⟩
  by_cases hji : j = i
  ·subst hji; exact hy.wpOp hi hS ⟨.inr hS, H⟩
  ·have := ready_mono hj hji
   rw [H.1] at this
   cases this
 | succ fuel ih =>
  intro listed a w hfree hr hy hS H
  refine ⟨fun h => (by rw [h] at hr; cases hr), fun j hj => ?_⟩
  by_cases hji : j = i
  ·subst hji; exact hy.wpOp hi hS ⟨.inr hS, H⟩
  ·have h1 := H.2 j (ready_mono hj hji)
   obtain ⟨hjun, oj, hoj, hall⟩ := mem_ready.1 hj
   have hnot : ∀ e ∈ oj.after, Region.binds md e = true → e.on ≠ i := fun e he hb heq => by
    have h1 := hall e he hb
    have h0 := (mem_ready.1 hr).1
    rw [heq] at h1
    rcases Nat.lt_or_ge i listed.size with h' | h'
    ·simp [h'] at h0 h1; rw [h0] at h1; cases h1
    ·simp [Array.getElem?_eq_none h'] at h1
   have hjl : late j ≠ true := fun hl => by
    obtain ⟨e, he, hb, heq⟩ := hlate j oj hoj hl
    exact hnot e he hb heq
   have h2 := wpOp_putIf hoj (hfree j oj hoj hji hjun hnot) (fun cs b => hsel i oi cs b hi) (fun cs b => hsel j oj cs b hoj) hQ hy h1
   have hfree' : ∀ k ok, ops[k]? = some ok → k ≠ i → (listed.setIfInBounds j true).getD k true = false →
     (∀ e ∈ ok.after, Region.binds md e = true → e.on ≠ i) → oi.apart ops ok = true := fun k ok hk hki hun hno => by
    refine hfree k ok hk hki ?_ hno
    by_cases hjk : j = k
    ·subst hjk; exact hjun
    ·rw [getD_set_ne true hjk] at hun; exact hun
   refine wpOp_mono (fun a' w' h3 => ⟨h3.2.1, ih (listed.setIfInBounds j true) a' w' hfree' (ready_mono hr (Ne.symm hji)) h3.1 (h3.2.1.resolve_left hjl) ?_⟩) h2
   rw [Array.setIfInBounds_comm _ _ hji]
   exact h3.2.2
def lateOn (md : Region.Mode) (ops : Array Oper) (late : Nat → Bool) (i : Nat) : Bool := (List.range ops.size).all fun j => !late j || match ops[j]? with
 | some oj => oj.after.any fun e => Region.binds md e && e.on == i
 | none => true
theorem lateOn_spec {i : Nat} (h : lateOn md ops late i = true) : ∀ j oj, ops[j]? = some oj → late j = true → ∃ e ∈ oj.after, Region.binds md e = true ∧ e.on = i := by
 intro j oj hj hl
 unfold lateOn at h
 rw [List.all_eq_true] at h
 have h1 := h j (List.mem_range.2 (Array.getElem?_eq_some_iff.1 hj).1)
 rw [hl, hj] at h1
 simp only [Bool.not_true, Bool.false_or, Array.any_eq_true', Bool.and_eq_true, beq_iff_eq] at h1
 obtain ⟨e, he, hb⟩ := h1
 exact ⟨e, he, hb⟩
theorem till_take {i : Nat} {oi : Oper} {v : Value} {fuel : Nat} {listed : Array Bool} {a : Act} {w : World} (hi : ops[i]? = some oi)
  (hs : Region.noSelect ops = true) (hf : Region.free md ops listed i = true) (hr : (Region.ready md ops listed).contains i = true) (hl : lateOn md ops late i = true)
  (hQ : ∀ c a w, Q (.panic c) (a.put oi.dst v) w → Q (.panic c) a w) (hy : YieldsIf P ops C oi v a) (hS : C w)
  (h : AnyT P md ops Q C late fuel (listed.setIfInBounds i true) (a.put oi.dst v) w) : AnyT P md ops Q C late (fuel + 1) listed a w :=
 till_first hi (Region.noSelect_spec hs) hQ (lateOn_spec hl) fuel listed a w (Region.free_spec hi hf) (by simpa using hr) hy hS h
def ReadyT (P : Program) (md : Region.Mode) (ops : Array Oper) (Q : Exit → Act → World → Prop) (C : World → Prop) (late : Nat → Bool) (fuel : Nat) (listed : Array Bool) (a : Act) (w : World) (rs : List Nat) : Prop :=
 ∀ i ∈ rs, wpOp P ops Q i (fun a' w' => (late i = true ∨ C w') ∧ AnyT P md ops Q C late fuel (listed.setIfInBounds i true) a' w') a w
theorem ReadyT.nil {fuel : Nat} {listed : Array Bool} {a : Act} {w : World} : ReadyT P md ops Q C late fuel listed a w [] := fun _ h => by cases h
theorem ReadyT.cons {fuel : Nat} {listed : Array Bool} {a : Act} {w : World} {i : Nat} {o : Oper} {rs : List Nat} (ho : ops[i]? = some o)
  (h : ∀ K' : Act → World → Prop, Shut (∀ a w, (late i = true ∨ C w) → AnyT P md ops Q C late fuel (listed.setIfInBounds i true) a w → K' a w) → if Region.wanted o (yielded ops a.tmps) = true then Oper.wp P o a w K' Q else K' (a.put o.dst undef) w)
  (hs : ReadyT P md ops Q C late fuel listed a w rs) : ReadyT P md ops Q C late fuel listed a w (i :: rs) := fun j hj => by
 rcases List.mem_cons.1 hj with rfl | hj
 ·exact wpOp_step ho (fun K' hK => h K' (fun a w hS hW => hK a w ⟨hS, hW⟩))
 ·exact hs j hj
theorem till_ready {rs : List Nat} {fuel : Nat} {listed : Array Bool} {a : Act} {w : World} (hr : Region.ready md ops listed = rs) (hne : rs ≠ [])
  (h : ReadyT P md ops Q C late fuel listed a w rs) : AnyT P md ops Q C late (fuel + 1) listed a w := ⟨fun h0 => absurd (hr ▸ h0) hne, hr ▸ h⟩
theorem till_done {listed : Array Bool} {a : Act} {w : World} (hr : Region.ready md ops listed = []) (h : Q .normal a w) :
  ∀ fuel, AnyT P md ops Q C late fuel listed a w
 | 0 => ⟨hr, h⟩
 | _ + 1 => ⟨fun _ => h, by rw [hr]; simp⟩
theorem region_till (C : World → Prop) (late : Nat → Bool) {id : Nat} {a : Act} {w : World} (hm : P.follows .mixedOrders = true) (hS : C w.drew)
  (h : C w.drew → AnyT P .any ops Q C late ops.size (Array.replicate ops.size false) a w.drew) : (Code.region id ops true).wp P Q a w :=
 wp_region_any hm (any_of_till _ _ _ _ (h hS))
end
end Go.Proofs.YtchkiegehejfmaaGreatDoor
/- The text W1. -/
namespace Pr
theorem val10_digs' (n : Nat) : Ar.val10 (Ar.digs n) = n := Ar.val10_digs n n (Nat.le_refl _)
theorem digs_no45 (n : Nat) (r : Str) : Ar.digs n ≠ 45 :: r := fun e => by
 have h := Ar.digs_all n n (Nat.le_refl _) 45 (by rw [e]; exact List.mem_cons_self ..)
 exact absurd h (by decide)
theorem sval_pos (s : Str) (h : ∀ r, s ≠ 45 :: r) : sval s = (Ar.val10 s : Int) := by
 unfold sval
 split
 ·rename_i r; exact absurd rfl (h r)
 ·rfl
theorem sval_itoa (n : Int) : sval (Ar.itoa n) = n := by
 unfold Ar.itoa
 by_cases h : n < 0
 ·rw [if_pos h]
  show -(Ar.val10 (Ar.digs n.natAbs) : Int) = n
  rw [val10_digs']
  omega
 ·rw [if_neg h, sval_pos _ (fun r => digs_no45 _ r), val10_digs']
  omega
theorem numP_itoa (n : Int) (h1 : -1000000000000 ≤ n) (h2 : n ≤ 1000000000000) : numP (Ar.itoa n) = some n := by
 unfold numP
 rw [sval_itoa]
 rw [if_pos ⟨h1, h2, rfl⟩]
theorem joinL_one {read : List Tk → Option (Cn × List Tk)} {w : Str} {r q : List Tk} {c : Cn} (h : read r = some (c, q)) (hq : headIs w q = false) (n : Nat) (acc : List Cn) : joinL read w (n + 1) acc r = some (acc ++ [c], q) := by
 rw [joinL, h]
 simp only [hq]
 rfl
theorem joinC_one {op : Int} {read : List Tk → Option (Cn × List Tk)} {w : Str} {r q : List Tk} {c : Cn} (h : read r = some (c, q)) (hq : headIs w q = false) : joinC op read w r = some (c, q) := by
 unfold joinC
 rw [joinL_one h hq]
 rfl
theorem wrapC_many (op : Int) (l : List Cn) (h : 2 ≤ l.length) : wrapC op l = .mk op [] 0 l := by
 match l, h with
 | a :: b :: r, _ => rfl
theorem kind_idx (n : Int) (h1 : 1 ≤ n) (h2 : n ≤ 14) : idxOf (kindL.getD (n - 1).toNat []) kindL = some (n - 1).toNat := by
 obtain h | h | h | h | h | h | h | h | h | h | h | h | h | h : n = 1 ∨ n = 2 ∨ n = 3 ∨ n = 4 ∨ n = 5 ∨ n = 6 ∨ n = 7 ∨ n = 8 ∨ n = 9 ∨ n = 10 ∨ n = 11 ∨ n = 12 ∨ n = 13 ∨ n = 14 := by omega
 all_goals subst h; decide
theorem oneP_leaf {o : Int} {t : Str} {n : Int} {ks : List Cn} (h : treeE (.mk o t n ks) = 0) (h2 : o ≠ 2) (h3 : o ≠ 3) (h4 : o ≠ 4) (f op : Nat) (r : List Tk) : oneP (f + 1) op (leafTk o t n ++ r) = some (.mk o t n ks, r) := by
 rcases tree_shape h with h | h | h | h | h | h | h
 ·obtain ⟨ho, rfl, rfl, rfl⟩ := h
  obtain h | h | h | h | h | h := ho
  all_goals subst h; rfl
 ·omega
 ·omega
 ·obtain ⟨rfl, rfl, hn1, hn2, rfl⟩ := h
  have hk := kind_idx n hn1 hn2
  show fieldP 5 (⟨1, kindL.getD (n - 1).toNat []⟩ :: r) = _
  unfold fieldP
  rw [if_neg (by decide)]
  show (if (5 : Int) = 9 then _ else if (5 : Int) = 5 then _ else _) = _
  rw [if_neg (by decide), if_pos rfl, hk]
  show some (Cn.mk 5 [] (1 + ((n - 1).toNat : Int)) [], r) = _
  rw [show 1 + ((n - 1).toNat : Int) = n by omega]
 ·obtain ⟨ho, rfl, rfl, _⟩ := h
  obtain h | h | h := ho
  all_goals subst h; rfl
 ·obtain ⟨rfl, rfl, rfl, hn⟩ := h
  rfl
 ·obtain ⟨ho, rfl, hn1, hn2, rfl⟩ := h
  have hk := numP_itoa n hn1 hn2
  have e : oneP (f + 1) op (leafTk o [] n ++ r) = fieldP o (⟨1, Ar.itoa n⟩ :: r) := by
   obtain h | h | h := ho
   all_goals subst h; rfl
  rw [e]
  unfold fieldP
  rw [if_neg (by omega)]
  show (if o = 9 then some (Cn.mk o (Ar.itoa n) 0 [], r) else if o = 5 then (match idxOf (Ar.itoa n) kindL with | none => none | some k => some (Cn.mk o [] (1 + k) [], r)) else match numP (Ar.itoa n) with | none => none | some n => some (Cn.mk o [] n [], r)) = _
  rw [if_neg (by omega), if_neg (by omega), hk]
theorem joinL_kids {o : Int} (ho : o = 2 ∨ o = 3) {read : List Tk → Option (Cn × List Tk)} : ∀ (ks : List Cn) (first : Bool) (n : Nat) (acc : List Cn) (r : List Tk), (∀ k ∈ ks, ∀ r, (headIs (sepW 2) r = false ∨ o = 2) → read (wrapTk (joint o k.op) (tkC k) ++ r) = some (k, r)) → ks ≠ [] → (tkK o first ks ++ r).length ≤ n + (if first then 0 else 1) → headIs (sepW o) r = false → headIs (sepW 2) r = false →
  joinL read (sepW o) (n + 1) acc ((if first then tkK o true ks else (tkK o false ks).tail) ++ r) = some (acc ++ ks, r)
 | [], _, _, _, _, _, h, _, _, _ => absurd rfl h
 | [k], first, n, acc, r, hk, _, hl, hr, hr2 => by
  have e : (if first then tkK o true [k] else (tkK o false [k]).tail) = wrapTk (joint o k.op) (tkC k) := by cases first <;> simp [tkK]
  rw [e]
  exact joinL_one (hk k (List.mem_cons_self ..) r (.inl hr2)) hr n acc
 | k :: d :: ks, first, n, acc, r, hk, _, hl, hr, hr2 => by
  have e : (if first then tkK o true (k :: d :: ks) else (tkK o false (k :: d :: ks)).tail) = wrapTk (joint o k.op) (tkC k) ++ tkK o false (d :: ks) := by cases first <;> simp [tkK]
  have e2 : tkK o false (d :: ks) = ⟨1, sepW o⟩ :: (tkK o false (d :: ks)).tail := by simp [tkK]
  rw [e, List.append_assoc, joinL, hk k (List.mem_cons_self ..) _ (by
   rcases ho with rfl | rfl
   ·exact .inr rfl
   ·left; rw [e2]; rfl)]
  have hh : headIs (sepW o) (tkK o false (d :: ks) ++ r) = true := by rw [e2]; simp [headIs]
  simp only [hh, if_true]
  have e3 : (tkK o false (d :: ks) ++ r).tail = (if false then tkK o true (d :: ks) else (tkK o false (d :: ks)).tail) ++ r := by rw [e2]; rfl
  rw [e3]
  have hl2 : (tkK o false (d :: ks) ++ r).length ≤ n := by
   have h3 : (tkK o first (k :: d :: ks) ++ r).length = (if first then 0 else 1) + (wrapTk (joint o k.op) (tkC k) ++ (tkK o false (d :: ks) ++ r)).length := by cases first <;> simp [tkK] <;> omega
   rw [h3, List.length_append] at hl
   omega
  cases n with
  | zero => rw [e2] at hl2; simp at hl2
  | succ n =>
   have := joinL_kids ho (d :: ks) false n (acc ++ [k]) r (fun k' h' => hk k' (List.mem_cons_of_mem _ h')) (by simp) hl2 hr hr2
   rw [this]
   simp
theorem depth_kid : ∀ {ks : List Cn} {k : Cn}, k ∈ ks → depth k ≤ depthL ks
 | c :: r, k, h => by
  rw [depthL]
  rcases List.mem_cons.1 h with rfl | h
  ·omega
  ·have := depth_kid h; omega
theorem depth_pos (c : Cn) : 1 ≤ depth c := by cases c; rw [depth]; omega
def isJt (c : Cn) : Nat := if c.op = 2 ∨ c.op = 3 then 1 else 0
def rdAs (c : Cn) (n op : Nat) : List Tk → Option (Cn × List Tk) := if c.op = 3 then condP n op else if c.op = 2 then bothP n op else oneP n op
def Rd0 (c : Cn) : Prop := ∀ (n op : Nat) (r : List Tk), depth c ≤ n + isJt c → op + depth c ≤ 100 + isJt c → headIs andW r = false → headIs orW r = false → rdAs c n op (tkC c ++ r) = some (c, r)
def Rd1 (c : Cn) : Prop := isJt c = 0 → ∀ (n op : Nat) (r : List Tk), depth c ≤ n → op + depth c ≤ 100 → oneP n op (tkC c ++ r) = some (c, r)
def Rd2 (c : Cn) : Prop := c.op = 2 → ∀ (n op : Nat) (r : List Tk), depth c ≤ n + 1 → op + depth c ≤ 101 → headIs andW r = false → bothP n op (tkC c ++ r) = some (c, r)
theorem cond_any {c : Cn} (h : Rd0 c) (n op : Nat) (r : List Tk) (h1 : depth c ≤ n + isJt c) (h2 : op + depth c ≤ 100 + isJt c) (h3 : headIs andW r = false) (h4 : headIs orW r = false) : condP n op (tkC c ++ r) = some (c, r) := by
 have := h n op r h1 h2 h3 h4
 unfold rdAs at this
 split at this
 ·exact this
 ·split at this
  ·exact joinC_one this h4
  ·exact joinC_one (joinC_one (read := oneP n op) this h3) h4
theorem wrapped {c : Cn} (h : Rd0 c) (hj : isJt c = 1) (n op : Nat) (r : List Tk) (hn : depth c ≤ n) (ho : op + depth c ≤ 100) : oneP n op (⟨3, []⟩ :: (tkC c ++ [⟨4, []⟩]) ++ r) = some (c, r) := by
 have hp := depth_pos c
 cases n with
 | zero => omega
 | succ n =>
  rw [List.cons_append, List.append_assoc, oneP]
  rw [if_pos rfl, if_neg (by omega)]
  have := cond_any h n (op + 1) (⟨4, []⟩ :: r) (by omega) (by omega) rfl rfl
  show (match condP n (op + 1) (tkC c ++ ⟨4, []⟩ :: r) with | none => none | some (c, z) => (match takeF 4 z with | none => none | some (_, y) => some (c, y))) = _
  rw [this]
  rfl
theorem jt_cases (c : Cn) : isJt c = 0 ∧ c.op ≠ 2 ∧ c.op ≠ 3 ∨ isJt c = 1 ∧ c.op = 2 ∨ isJt c = 1 ∧ c.op = 3 := by
 unfold isJt
 by_cases h2 : c.op = 2
 ·exact .inr (.inl ⟨if_pos (.inl h2), h2⟩)
 ·by_cases h3 : c.op = 3
  ·exact .inr (.inr ⟨if_pos (.inr h3), h3⟩)
  ·exact .inl ⟨if_neg (by omega), h2, h3⟩
theorem kid_one {c : Cn} (h : Rd0 c) (h1 : Rd1 c) {o : Int} (ho : o ≠ 3) (n op : Nat) (r : List Tk) (hn : depth c ≤ n) (hop : op + depth c ≤ 100) : oneP n op (wrapTk (joint o c.op) (tkC c) ++ r) = some (c, r) := by
 rcases jt_cases c with ⟨hj, a2, a3⟩ | ⟨hj, a⟩ | ⟨hj, a⟩
 ·have : joint o c.op = false := by simp [joint, a2, a3]
  rw [this]
  exact h1 hj n op r hn hop
 ·have : joint o c.op = true := by simp [joint, a, ho]
  rw [this]
  exact wrapped h hj n op r hn hop
 ·have : joint o c.op = true := by simp [joint, a]
  rw [this]
  exact wrapped h hj n op r hn hop
theorem kid_both {c : Cn} (h : Rd0 c) (h1 : Rd1 c) (h2 : Rd2 c) (n op : Nat) (r : List Tk) (hn : depth c ≤ n) (hop : op + depth c ≤ 100) (hr : headIs andW r = false) : bothP n op (wrapTk (joint 3 c.op) (tkC c) ++ r) = some (c, r) := by
 rcases jt_cases c with ⟨hj, a2, a3⟩ | ⟨hj, a⟩ | ⟨hj, a⟩
 ·have : joint 3 c.op = false := by simp [joint, a2, a3]
  rw [this]
  exact joinC_one (h1 hj n op r hn hop) hr
 ·have : joint 3 c.op = false := by simp [joint, a]
  rw [this]
  exact h2 a n op r (by omega) (by omega) hr
 ·have : joint 3 c.op = true := by simp [joint, a]
  rw [this]
  exact joinC_one (wrapped h hj n op r hn hop) hr
theorem tkK_len (o : Int) (ks : List Cn) (r : List Tk) : (tkK o true ks ++ r).length ≤ (tkK o true ks ++ r).length + 0 := Nat.le_refl _
theorem leaf_reads {o : Int} {t : Str} {n : Int} {ks : List Cn} (h : treeE (.mk o t n ks) = 0) (h2 : o ≠ 2) (h3 : o ≠ 3) (h4 : o ≠ 4) : Rd0 (.mk o t n ks) ∧ Rd1 (.mk o t n ks) ∧ Rd2 (.mk o t n ks) := by
 have hd := depth_pos (.mk o t n ks)
 have hj : isJt (.mk o t n ks) = 0 := by unfold isJt; exact if_neg (by simp [Cn.op, h2, h3])
 have e : tkC (.mk o t n ks) = leafTk o t n := by rw [tkC, if_neg (by omega), if_neg h4]
 have hb : ∀ (n' op : Nat) (r : List Tk), 1 ≤ n' → oneP n' op (tkC (.mk o t n ks) ++ r) = some (.mk o t n ks, r) := fun n' op r hn => by
  cases n' with
  | zero => omega
  | succ f => rw [e]; exact oneP_leaf h h2 h3 h4 f op r
 refine ⟨fun n' op r h1 _ _ _ => ?_, fun _ n' op r h1 _ => hb n' op r (by omega), fun hop => absurd hop h2⟩
 have := hb n' op r (by omega)
 unfold rdAs
 rw [if_neg (show (Cn.mk o t n ks).op ≠ 3 from h3), if_neg (show (Cn.mk o t n ks).op ≠ 2 from h2)]
 exact this
mutual
theorem reads_C : ∀ (c : Cn), treeE c = 0 → Rd0 c ∧ Rd1 c ∧ Rd2 c
 | .mk o t n ks, h => by
  rcases tree_shape h with g | g | g | g | g | g | g
  ·have hne : o ≠ 2 ∧ o ≠ 3 ∧ o ≠ 4 := by omega
   have key := fun f op r => oneP_leaf h hne.1 hne.2.1 hne.2.2 f op r
   exact leaf_reads h hne.1 hne.2.1 hne.2.2
  ·obtain ⟨ho, rfl, rfl, hl, hk⟩ := g
   have ih := reads_K ks hk
   have hne : ks ≠ [] := by rintro rfl; simp at hl
   have e : tkC (.mk o [] 0 ks) = tkK o true ks := by rw [tkC, if_pos ho]
   have hd : depth (.mk o [] 0 ks) = depthL ks + 1 := by rw [depth]
   have hj : isJt (.mk o [] 0 ks) = 1 := if_pos ho
   rcases ho with rfl | rfl
   ·have hb : ∀ (n op : Nat) (r : List Tk), depthL ks ≤ n → op + depthL ks ≤ 100 → headIs andW r = false → bothP n op (tkK 2 true ks ++ r) = some (.mk 2 [] 0 ks, r) := by
     intro n op r h1 h2 h3
     have := joinL_kids (o := 2) (.inl rfl) (read := oneP n op) ks true (tkK 2 true ks ++ r).length [] r (fun k hk r _ => kid_one (ih k hk).1 (ih k hk).2.1 (by decide) n op r (by have := depth_kid hk; omega) (by have := depth_kid hk; omega)) hne (by simp) h3 h3
     unfold bothP joinC
     show (match joinL (oneP n op) (sepW 2) _ [] (tkK 2 true ks ++ r) with | none => none | some (l, q) => some (wrapC 2 l, q)) = _
     rw [show joinL (oneP n op) (sepW 2) ((tkK 2 true ks ++ r).length + 1) [] (tkK 2 true ks ++ r) = _ from this]
     show some (wrapC 2 ks, r) = _
     rw [wrapC_many 2 ks hl]
    refine ⟨fun n op r h1 h2 h3 h4 => ?_, fun hj0 => ?_, fun _ n op r h1 h2 h3 => ?_⟩
    ·rw [e]; exact hb n op r (by omega) (by omega) h3
    ·rw [hj] at hj0; cases hj0
    ·rw [e]; exact hb n op r (by omega) (by omega) h3
   ·have hb : ∀ (n op : Nat) (r : List Tk), depthL ks ≤ n → op + depthL ks ≤ 100 → headIs andW r = false → headIs orW r = false → condP n op (tkK 3 true ks ++ r) = some (.mk 3 [] 0 ks, r) := by
     intro n op r h1 h2 h3 h4
     have := joinL_kids (o := 3) (.inr rfl) (read := bothP n op) ks true (tkK 3 true ks ++ r).length [] r (fun k hk r hr => kid_both (ih k hk).1 (ih k hk).2.1 (ih k hk).2.2 n op r (by have := depth_kid hk; omega) (by have := depth_kid hk; omega) (hr.resolve_right (by decide))) hne (by simp) h4 h3
     unfold condP joinC
     show (match joinL (bothP n op) (sepW 3) _ [] (tkK 3 true ks ++ r) with | none => none | some (l, q) => some (wrapC 3 l, q)) = _
     rw [show joinL (bothP n op) (sepW 3) ((tkK 3 true ks ++ r).length + 1) [] (tkK 3 true ks ++ r) = _ from this]
     show some (wrapC 3 ks, r) = _
     rw [wrapC_many 3 ks hl]
    refine ⟨fun n op r h1 h2 h3 h4 => ?_, fun hj0 => ?_, fun hop => ?_⟩
    ·rw [e]; exact hb n op r (by omega) (by omega) h3 h4
    ·rw [hj] at hj0; cases hj0
    ·cases hop
  ·obtain ⟨rfl, rfl, rfl, k, rfl, hk⟩ := g
   have ih := reads_K [k] (by rw [treeEL, if_neg (fun e => e hk), treeEL]) k (List.mem_cons_self ..)
   have hd : depth (.mk 4 [] 0 [k]) = depth k + 1 := by rw [depth, depthL, depthL]; omega
   have e : tkC (.mk 4 [] 0 [k]) = ⟨1, notW⟩ :: wrapTk (joint 4 k.op) (tkC k) := by simp [tkC, tkK]
   have hb : ∀ (n op : Nat) (r : List Tk), depth k + 1 ≤ n → op + depth k + 1 ≤ 100 → oneP n op (tkC (.mk 4 [] 0 [k]) ++ r) = some (.mk 4 [] 0 [k], r) := by
    intro n op r h1 h2
    cases n with
    | zero => omega
    | succ n =>
     have := kid_one ih.1 ih.2.1 (o := 4) (by decide) n (op + 1) r (by omega) (by omega)
     rw [e, List.cons_append, oneP, if_neg (by decide), if_neg (by decide), if_pos rfl, if_neg (by omega), this]
   refine ⟨fun n op r h1 h2 _ _ => hb n op r ?_ ?_, fun _ n op r h1 h2 => hb n op r ?_ ?_, fun hop => by cases hop⟩
   ·have : isJt (.mk 4 [] 0 [k]) = 0 := rfl
    omega
   ·have : isJt (.mk 4 [] 0 [k]) = 0 := rfl
    omega
   ·omega
   ·omega
  all_goals
   have hne : o ≠ 2 ∧ o ≠ 3 ∧ o ≠ 4 := by omega
   exact leaf_reads h hne.1 hne.2.1 hne.2.2
theorem reads_K : ∀ (ks : List Cn), treeEL ks = 0 → ∀ k ∈ ks, Rd0 k ∧ Rd1 k ∧ Rd2 k
 | [], _, k, hk => by cases hk
 | c :: r, h, k, hk => by
  obtain ⟨h1, h2⟩ := treeEL_cons h
  rcases List.mem_cons.1 hk with e | hk
  ·rw [e]; exact reads_C c h1
  ·exact reads_K r h2 k hk
end
end Pr
/- The text Ye. -/
namespace Pr
variable {rd : List Tk → Option (Cn × List Tk)} {w : Str}
theorem joinL_fuel (hs : Shrinks rd) : ∀ (n m : Nat) (acc : List Cn) (r : List Tk), r.length < n → r.length < m → joinL rd w n acc r = joinL rd w m acc r
 | 0, _, _, _, h, _ => by omega
 | _ + 1, 0, _, _, _, h => by omega
 | n + 1, m + 1, acc, r, h1, h2 => by
  rw [joinL, joinL]
  cases hr : rd r with
  | none => rfl
  | some cq =>
   obtain ⟨c, q⟩ := cq
   obtain ⟨p, e, hp⟩ := hs r c q hr
   have hl : q.length < r.length := by
    have := List.length_pos_iff.2 hp
    rw [e, List.length_append]; omega
   have ht : q.tail.length ≤ q.length := by simp
   simp only
   split
   ·exact joinL_fuel hs n m _ _ (by omega) (by omega)
   ·rfl
def joinK (rd : List Tk → Option (Cn × List Tk)) (w : Str) (acc : List Cn) (q : List Tk) : Option (List Cn × List Tk) := if headIs w q then joinL rd w (q.tail.length + 1) acc q.tail else some (acc, q)
def joinW (op : Int) : Option (List Cn × List Tk) → Option (Cn × List Tk)
 | none => none
 | some (l, q) => some (wrapC op l, q)
theorem joinC_eq (op : Int) (r : List Tk) : joinC op rd w r = joinW op (joinL rd w (r.length + 1) [] r) := by
 unfold joinC
 cases joinL rd w (r.length + 1) [] r <;> rfl
def joinN (rd : List Tk → Option (Cn × List Tk)) (w : Str) (acc : List Cn) : Option (Cn × List Tk) → Option (List Cn × List Tk)
 | none => none
 | some (c, q) => joinK rd w (acc ++ [c]) q
theorem joinJ (hs : Shrinks rd) (acc : List Cn) (r : List Tk) : joinL rd w (r.length + 1) acc r = joinN rd w acc (rd r) := by
 rw [joinL]
 cases hr : rd r with
 | none => rfl
 | some cq =>
  obtain ⟨c, q⟩ := cq
  obtain ⟨p, e, hp⟩ := hs r c q hr
  have hl : q.length < r.length := by
   have := List.length_pos_iff.2 hp
   rw [e, List.length_append]; omega
  have ht : q.tail.length ≤ q.length := by simp
  simp only [joinN, joinK]
  split
  ·exact joinL_fuel hs _ _ _ _ (by omega) (by omega)
  ·rfl
end Pr
namespace Go.Proofs.YtchkiegehejfmaaGreatDoor
open Go.RowKit Go.Lib
set_option linter.unusedVariables false
set_option linter.unusedSimpArgs false
def atOf (w : World) (g : Nat) : Nat := match w.cell? ⟨g, 1, none⟩ with
 | some (.int _ n) => n.toNat
 | _ => 0
theorem atOf_of {w : World} {g : Nat} {A : Option Addr} {cap : Nat} {L : List Pr.Tk} {i o : Nat} (h : PSt w g A cap L i o) : atOf w g = i := by
 unfold atOf
 rw [h.blk.cell 1]
 simp
theorem CdA.bad {w w' : World} {g : Nat} {A : Option Addr} {cap : Nat} {L : List Pr.Tk} {o : Nat} {x : Option (Pr.Cn × List Pr.Tk)} (hx : x = none) (hg : w.grownBy w' (some g)) : CdA w g A cap L o x (.panicked brk) w' := by subst hx; exact ⟨rfl, hg⟩
theorem CdA.good {w w' : World} {g : Nat} {A : Option Addr} {cap : Nat} {L : List Pr.Tk} {o j : Nat} {x : Option (Pr.Cn × List Pr.Tk)} {c : Pr.Cn} {V : Array Value} (hx : x = some (c, L.drop j)) (hj : j ≤ L.length) (hV : CnV w' (fun b => w.heap.size ≤ b) V c) (hP : PSt w' g A cap L j o) (hg : w.grownBy w' (some g)) : CdA w g A cap L o x (.returned (.agg V)) w' := by subst hx; exact ⟨⟨V, j, hj, rfl, rfl, hV, hP⟩, hg⟩
structure JnM (w0 : World) (N3 g : Nat) (op : Int) (acc : List Pr.Cn) (kv : Value) (wr : World) : Prop where
 lt : g < w0.heap.size
 n3 : w0.heap.size + 1 ≤ N3
 blk : Blk wr N3 36 #[.int .i64 op, .string ⟨#[]⟩, .int .i64 0, kv]
 kids : CnO wr (w0.heap.size + 1) (fun b => w0.heap.size + 1 ≤ b ∧ b ≠ N3) kv acc
 own : ∀ k, kv.ownBlock = some k → w0.heap.size + 1 ≤ k ∧ k ≠ N3
 res : Blk wr w0.heap.size 36 zCn
 grown : w0.grownBy wr (some g)
section
variable {w0 wr w' w8 w9 : World} {N3 g : Nat} {op : Int} {acc : List Pr.Cn} {kv v9 : Value} {c : Pr.Cn} {V : Array Value} {xs : List Value}
theorem JnM.by_ (h : JnM w0 N3 g op acc kv wr) (hg : wr.grownBy w' (some g)) : JnM w0 N3 g op acc kv w' := by
 have h1 := h.lt
 have h2 := h.n3
 refine ⟨h1, h2, h.blk.grown hg (fun e => by injection e with e; omega), ?_, h.own, h.res.grown hg (fun e => by injection e with e; omega), grown_tr h.grown hg⟩
 exact h.kids.other hg (fun e => by have := (h.own _ e).1; omega) (fun b hb hl => ⟨hb, fun e => by injection e with e; have := hb.1; omega⟩)
theorem CnO.setc {base : Nat} {ok : Nat → Prop} {v : Value} {L : List Pr.Cn} {g i : Nat} (h : CnO wr base ok v L) (hk : ∀ b, ok b → b ≠ g) (hv : v.ownBlock ≠ some g) (u : Value) : CnO (wr.setCell ⟨g, i, none⟩ u) base ok v L := by
 obtain ⟨xs, h1, h2⟩ := h
 exact ⟨xs, own_set h1 hv u, h2.keep fun b hb hl => ⟨hb, Below.heap_setCell _ _ _ _ (hk b hb.1)⟩⟩
theorem JnM.push (h : JnM w0 N3 g op acc kv w8) (hown : w8.ownsRow (w0.heap.size + 1) 36 4 kv acc.length xs) (hcs : CnsV w8 (fun b => (w0.heap.size + 1 ≤ b ∧ b ≠ N3) ∧ some b ≠ kv.ownBlock) xs acc)
  (hV : CnV w8 (fun b => (w0.heap.size + 1 ≤ b ∧ b ≠ N3) ∧ some b ≠ kv.ownBlock) V c) (ho : w9.ownsRow (w0.heap.size + 1) 36 4 v9 (acc.length + 1) (xs ++ V.toList)) (hg : w8.grownBy w9 kv.ownBlock) (hw : v9.ownBlock = kv.ownBlock ∨ v9.ownBlock = some w8.heap.size) :
  Blk w9 N3 36 #[.int .i64 op, .string ⟨#[]⟩, .int .i64 0, kv] ∧ JnM w0 N3 g op (acc ++ [c]) v9 (w9.setCell ⟨N3, 3, none⟩ v9) ∧ Below w0.heap.size w8 (w9.setCell ⟨N3, 3, none⟩ v9) := by
 have h1 := h.lt
 have h2 := h.n3
 have h3 := h.blk.lt
 have h4 := h.grown.size
 have hb9 : Blk w9 N3 36 #[.int .i64 op, .string ⟨#[]⟩, .int .i64 0, kv] := h.blk.grown hg (fun e => (h.own _ e.symm).2 rfl)
 have ho9 : ∀ k, v9.ownBlock = some k → w0.heap.size + 1 ≤ k ∧ k ≠ N3 := fun k hk => by
  rcases hw with e | e
  ·exact h.own k (e ▸ hk)
  ·rw [e] at hk; injection hk with hk; omega
 have hbl : Below w0.heap.size w8 (w9.setCell ⟨N3, 3, none⟩ v9) := ((Below.refl w0.heap.size w8).grown hg h4 (fun k e => by have := (h.own k e).1; omega)).setCell (by show w0.heap.size ≤ N3; omega) _
 refine ⟨hb9, ⟨h1, h2, hb9.set_ 3 v9, ?_, ho9, ?_, grown_low h.grown hbl⟩, hbl⟩
 ·exact (CnO.app (M := [c]) hown hcs (CnsV.one hV) ho hg hw).setc (fun b hb => hb.2) (fun e => (ho9 _ e).2 rfl) v9
 ·exact (h.res.grown hg (fun e => by have := (h.own _ e.symm).1; omega)).far (by show w0.heap.size ≠ N3; omega) _
end
structure JnS (w0 : World) (N3 g : Nat) (A : Option Addr) (cap : Nat) (L : List Pr.Tk) (o : Nat) (op : Int) (word : List UInt8) (rd : List Pr.Tk → Option (Pr.Cn × List Pr.Tk)) (X : Option (List Pr.Cn × List Pr.Tk)) (j : Nat) (acc : List Pr.Cn) (kv : Value) (wr : World) : Prop where
 st : PSt wr g A cap L j o
 le : j ≤ L.length
 mem : JnM w0 N3 g op acc kv wr
 eq : Pr.joinK rd word acc (L.drop j) = X
 few : acc.length ≤ j
 one : 1 ≤ acc.length
theorem pjoined_any (F : FuncId) (hEN : ∀ (args : Array Value) (w : World), (callFunc F args).run Tryz.prog w = .ok (.enter F args) w) (g : Nat) (A : Option Addr) (cap : Nat) (L : List Pr.Tk) (i o : Nat) (op : Int) (word : List UInt8) (rd : List Pr.Tk → Option (Pr.Cn × List Pr.Tk)) (w : World)
  (h : PSt w g A cap L i o) (hi : i ≤ L.length) (hL : L.length ≤ 1000000) (hw : word.length ≤ 1000) (hS : Pr.Shrinks rd) (hR : RdOk F g A cap L o rd i) :
  Calls Tryz.prog 111 #[.pointer (some ⟨g, 0, none⟩), .int .i64 op, .string (bstr word), .func (.func F) #[.pointer (some ⟨g, 0, none⟩)] #[]] w (CdA w g A cap L o (Pr.joinC op rd word (L.drop i))) := by
 have hlt := h.lt
 have HAL := hid h.rowlt
 have HR := hid hR
 have HS := hid hS
 have hz0 : Below w.heap.size w (w.alloc (.cells zCn 36)) := (Below.refl w.heap.size w).alloc (Nat.le_refl _) (.cells zCn 36)
 have HP1 := hid (h.bel hz0)
 have HG1 : Hid (w.grownBy (w.alloc (.cells zCn 36)) (some g)) := hid (grown_bel hz0)
 have HK1 := hid (Blk.new w 36 zCn)
 have HS1 : Hid ((w.alloc (.cells zCn 36)).heap.size = w.heap.size + 1) := hid (World.size_alloc ..)
 have HRi := hid (HR.out i _ (Nat.le_refl _) hi HP1.out)
 have HJ : Hid (Pr.joinC op rd word (L.drop i) = Pr.joinW op (Pr.joinN rd word [] (rd (L.drop i)))) := hid (by rw [Pr.joinC_eq, Pr.joinJ hS])
 have hSh : ∀ c q, rd (L.drop i) = some (c, q) → q.length < (L.drop i).length := fun c q hq => by
  obtain ⟨p, e, hp⟩ := hS _ _ _ hq
  have := List.length_pos_iff.2 hp
  rw [e, List.length_append]; omega
 have HSH := hid hSh
 generalize rd (L.drop i) = X at *
 generalize Pr.joinC op rd word (L.drop i) = RES at *
 clear h hR hz0 hS hSh
 go_enter Tryz.func111, Tryz.ntmps111
 go_wp2_with fail
 refine HRi.out.mono ?_
 rintro e w2 ⟨hr, hg2⟩
 have HG2 := hid (grown_tr HG1.out hg2)
 have HK2 : Hid (Blk w2 w.heap.size 36 zCn) := hid (HK1.out.grown hg2 (by intro e; injection e with e; omega))
 have hs2 : w.heap.size + 1 ≤ w2.heap.size := by have h1 := hg2.size; have h2 := HS1.out; omega
 clear hg2
 cases X with
 | none =>
  obtain rfl : e = .panicked brk := hr
  exact ⟨rfl, CdA.bad HJ.out HG2.out⟩
 | some cq =>
  obtain ⟨c, q⟩ := cq
  obtain ⟨V, j, hj, rfl, rfl, hV, hP⟩ := hr
  have HV : Hid (CnV w2 (fun b => w.heap.size + 1 ≤ b) V c) := hid (hV.keep fun b hb _ => ⟨by have := HS1.out; omega, rfl⟩)
  have HP2 := hid hP
  have HSX : Hid ((Tryz.prog.info? 36).map (·.size) = some V.size) := hid (by rw [size_cond, hV.size])
  have HSZ : Hid (zCn.size = V.size) := hid (by rw [hV.size]; rfl)
  have HOV := hid hV.one
  have hgN : g < w2.heap.size := by omega
  have HKN := hid (Blk.new w2 36 zCn)
  have HIJ : Hid (i < j) := hid (by
   have := HSH.out c _ rfl
   rw [List.length_drop, List.length_drop] at this
   omega)
  clear hV hP HRi
  go_upto_region 2 with ((with_reducible refine store_row_q rfl 36 _ _ rfl w2.heap.size V ?_ ?_ 36 _ HKN.out HSX.out HSZ.out HOV.out ?_); rfl; rfl; intro w3 hk3 hs3 hbl3 hoth3; have hz3 : Below w2.heap.size w2 w3 := ((Below.refl w2.heap.size w2).alloc (Nat.le_refl _) (.cells zCn 36)).trans (hbl3 _ (Nat.le_refl _)); have HZ3 := hid hz3; have HK3 := hid hk3; clear hk3 hs3 hbl3 hoth3 hz3)
  have HP3 := hid (HP2.out.bel HZ3.out)
  have HV3 := hid (HV.out.bel HZ3.out)
  have HG3 := hid (grown_tr HG2.out (grown_bel HZ3.out))
  have HKR3 : Hid (Blk w3 w.heap.size 36 zCn) := hid (HK2.out.below HZ3.out (by omega))
  have hs3 : w2.heap.size + 1 ≤ w3.heap.size := by have := HK3.out.lt; omega
  have HIS := hid (pis_any word g A cap L j o w3 HP3.out hj hL hw)
  cases hhd : Pr.headIs word (L.drop j) with
  | false =>
   have HJF : Hid (RES = some (c, L.drop j)) := hid (by rw [HJ.out]; show Pr.joinW op (Pr.joinK rd word ([] ++ [c]) (L.drop j)) = _; unfold Pr.joinK; rw [hhd]; rfl)
   rw [hhd] at HIS
   clear hhd
   go_upto_region 3 with (go_at_call 141; refine HIS.out.mono ?_; rintro e w' ⟨rfl, q4, rfl⟩)
   have HP4 := hid (HP3.out.drewN q4)
   have HV4 : Hid (CnV (w3.drewN q4) (fun b => w.heap.size + 1 ≤ b) V c) := hid (HV3.out.bel (below_drewN (Below.refl _ _) q4))
   have HG4 := hid (grown_tr HG3.out (grown_drN w3 g q4))
   have HKR4 := hid (HKR3.out.drewN q4)
   have HK4 := hid (HK3.out.drewN q4)
   generalize w3.drewN q4 = w4 at *
   go_wp2_with (first
    | (refine load_row_u (by rfl) 36 _ rfl w2.heap.size rfl 36 _ (0, 0) _ rfl HK4.out Tryz.underlying36 HSX.out ?_)
    | ((with_reducible refine store_row_q rfl 36 _ _ rfl w.heap.size V ?_ ?_ 36 _ HKR4.out HSX.out HSZ.out HOV.out ?_); rfl; rfl; intro w5 hk5 hs5 hbl5 hoth5))
   have HG5 : Hid (w.grownBy w5 (some g)) := hid (grown_low HG4.out (hbl5 w.heap.size (Nat.le_refl _)))
   have HP5 : Hid (PSt w5 g A cap L j o) := hid (HP4.out.keepB hlt HAL.out (fun k hk => (hbl5 w.heap.size (Nat.le_refl _)).block k hk))
   exact bodyPost_ret (v := .agg V) (results_cell_row rfl _ _ w.heap.size 36 _ (0, 0) _ rfl hk5 Tryz.underlying36 rfl HSX.out) rfl (CdA.good HJF.out hj (HV4.out.keep fun b hb hl => ⟨by omega, hoth5 b (by omega)⟩) HP5.out HG5.out)
  | true =>
   rw [hhd] at HIS
   go_upto_region 4 with (go_at_call 141; refine HIS.out.mono ?_; rintro e w' ⟨rfl, q4, rfl⟩)
   have HP4 := hid (HP3.out.drewN q4)
   have HV4 : Hid (CnV (w3.drewN q4) (fun b => w.heap.size + 1 ≤ b) V c) := hid (HV3.out.bel (below_drewN (Below.refl _ _) q4))
   have HG4 := hid (grown_tr HG3.out (grown_drN w3 g q4))
   have HKR4 := hid (HKR3.out.drewN q4)
   have HK4 := hid (HK3.out.drewN q4)
   have hs4 : w2.heap.size + 1 ≤ (w3.drewN q4).heap.size := hs3
   generalize w3.drewN q4 = w4 at *
   obtain ⟨XK, hXK⟩ : ∃ X, Pr.joinK rd word ([] ++ [c]) (L.drop j) = X := ⟨_, rfl⟩
   have HXK := hid hXK
   have HJT : Hid (RES = Pr.joinW op XK) := hid (by rw [← hXK]; exact HJ.out)
   have HV4 : Hid (CnV w4 (fun b => w.heap.size + 1 ≤ b ∧ b < w4.heap.size) V c) := hid (HV4.out.keep fun b hb hl => ⟨⟨hb, hl⟩, rfl⟩)
   have HHD := hid hhd
   clear hXK hhd
   obtain ⟨B, bc, rfl, hrow⟩ := HV4.out.open
   clear hrow
   go_wp2_with (refine load_row_u (by rfl) 36 _ rfl w2.heap.size rfl 36 _ (0, 0) _ rfl HK4.out Tryz.underlying36 HSX.out ?_)
   have HW6 : Hid (JnS w (w4.heap.size + 1) g A cap L o op word rd XK j [c] (.slice (some ⟨w4.heap.size, 0, none⟩) 1 1) ((w4.alloc (.cells #[.int .i64 c.op, .string (bstr c.text), .int .i64 c.num, .slice B c.kids.length bc] 36)).alloc (.cells #[.int .i64 op, .string ⟨#[]⟩, .int .i64 0, .slice (some ⟨w4.heap.size, 0, none⟩) 1 1] 36))) := hid (by
    have hz4 : Below w4.heap.size w4 (w4.alloc (.cells #[.int .i64 c.op, .string (bstr c.text), .int .i64 c.num, .slice B c.kids.length bc] 36)) := (Below.refl _ _).alloc (Nat.le_refl _) _
    have hz5 : Below w4.heap.size w4 ((w4.alloc (.cells #[.int .i64 c.op, .string (bstr c.text), .int .i64 c.num, .slice B c.kids.length bc] 36)).alloc (.cells #[.int .i64 op, .string ⟨#[]⟩, .int .i64 0, .slice (some ⟨w4.heap.size, 0, none⟩) 1 1] 36)) := hz4.alloc (by rw [World.size_alloc]; omega) _
    have hsz : (w4.alloc (.cells #[.int .i64 c.op, .string (bstr c.text), .int .i64 c.num, .slice B c.kids.length bc] 36)).heap.size = w4.heap.size + 1 := World.size_alloc ..
    refine ⟨HP4.out.bel hz5, hj, ⟨hlt, by omega, ?_, ?_, ?_, HKR4.out.below hz5 (by omega), grown_tr HG4.out (grown_bel hz5)⟩, HXK.out, by have := HIJ.out; show 1 ≤ j; omega, Nat.le_refl _⟩
    ·have := Blk.new (w4.alloc (.cells #[.int .i64 c.op, .string (bstr c.text), .int .i64 c.num, .slice B c.kids.length bc] 36)) 36 #[.int .i64 op, .string ⟨#[]⟩, .int .i64 0, .slice (some ⟨w4.heap.size, 0, none⟩) 1 1]
     rwa [hsz] at this
    ·refine ⟨[.int .i64 c.op, .string (bstr c.text), .int .i64 c.num, .slice B c.kids.length bc], ?_, ?_⟩
     ·exact own_bel (World.ownsRow_lit (base := w.heap.size + 1) (e := 36) (size := 4) w4 #[.int .i64 c.op, .string (bstr c.text), .int .i64 c.num, .slice B c.kids.length bc] 1 (by omega) (by decide) rfl) ((Below.refl _ _).alloc (Nat.le_refl _) _)
     ·exact CnsV.one (X := #[.int .i64 c.op, .string (bstr c.text), .int .i64 c.num, .slice B c.kids.length bc]) ((HV4.out.bel hz5).keep fun b hb hl => ⟨⟨⟨hb.1, by have := hb.2; omega⟩, fun e => by (have e2 : b = w4.heap.size := by injection e); (have := hb.2); omega⟩, rfl⟩)
    ·intro k e
     have e2 : w4.heap.size = k := by injection e
     exact ⟨by omega, by omega⟩)
   generalize w4.heap.size = N2 at *
   generalize (w4.alloc (.cells #[.int .i64 c.op, .string (bstr c.text), .int .i64 c.num, .slice B c.kids.length bc] 36)).alloc (.cells #[.int .i64 op, .string ⟨#[]⟩, .int .i64 0, .slice (some ⟨N2, 0, none⟩) 1 1] 36) = w5 at *
   go_loopw [24] (fun _ wr => ∃ (j : Nat) (acc : List Pr.Cn) (kv : Value), JnS w (N2 + 1) g A cap L o op word rd XK j acc kv wr ∧ i ≤ j ∧ (2 ≤ acc.length ∨ Pr.headIs word (L.drop j) = true)) (fun _ wr => L.length - atOf wr g)
   case atStart => exact ⟨j, [c], _, HW6.out, by have := HIJ.out; omega, .inr HHD.out⟩
   case round =>
    obtain ⟨j, acc, kv, hJn, hij, htwo⟩ := hrel
    have HN := hid hJn
    have hj := hJn.le
    obtain ⟨A0, c0, rfl, hc0⟩ := hJn.mem.kids.len
    have hgr := hJn.mem.grown.size
    have hN3 : N2 + 1 < wr.heap.size := hJn.mem.blk.lt
    have HSK := hid (pskip_any word g A cap L j o wr hJn.st hj hL hw)
    have HJT2 := hid HJT.out
    clear hJn
    cases hhd : Pr.headIs word (L.drop j) with
    | false =>
     have HXE : Hid (RES = some (Pr.wrapC op acc, L.drop j)) := hid (by
      rw [HJT.out, ← HN.out.eq]
      unfold Pr.joinK
      rw [hhd]
      rfl)
     have hl2 : 2 ≤ acc.length := htwo.resolve_right (by rw [hhd]; decide)
     have HXF : Hid (RES = some (.mk op [] 0 acc, L.drop j)) := hid (by rw [HXE.out, Pr.wrapC_many op acc hl2])
     rw [hhd] at HSK
     clear hhd htwo hl2
     have HSY : Hid ((Tryz.prog.info? 36).map (·.size) = some (#[.int .i64 op, .string ⟨#[]⟩, .int .i64 0, .slice A0 acc.length c0] : Array Value).size) := hid (by rw [size_cond]; rfl)
     go_upto_region 7 with (go_at_call 110; refine HSK.out.mono ?_; rintro e w6 ⟨rfl, hp6, hg6⟩; have HP6 : Hid (PSt w6 g A cap L j o) := hid hp6; have HG6 := hid hg6; clear hp6 hg6)
     have HM6 := hid (HN.out.mem.by_ HG6.out)
     have HB6 := hid HM6.out.blk
     have HR6 := hid HM6.out.res
     go_wp2_with (first
      | (refine load_row_u (by rfl) 36 _ rfl (N2 + 1) rfl 36 _ (0, 0) _ rfl HB6.out Tryz.underlying36 HSY.out ?_)
      | ((with_reducible refine store_row_q rfl 36 _ _ rfl w.heap.size #[.int .i64 op, .string ⟨#[]⟩, .int .i64 0, .slice A0 acc.length c0] ?_ ?_ 36 _ HR6.out HSY.out rfl (one_cn _ _ _ _ _ _) ?_); rfl; rfl; intro w7 hk7 hs7 hbl7 hoth7))
     have HG7 : Hid (w.grownBy w7 (some g)) := hid (grown_low HM6.out.grown (hbl7 w.heap.size (Nat.le_refl _)))
     have HP7 : Hid (PSt w7 g A cap L j o) := hid (HP6.out.keepB hlt HAL.out (fun k hk => (hbl7 w.heap.size (Nat.le_refl _)).block k hk))
     obtain ⟨A1, c1, e1, -, hrow⟩ := HM6.out.kids.row (ok' := fun b => w.heap.size + 1 ≤ b) (fun b hb => hb.1) (fun k hk => (HM6.out.own k hk).1)
     injection e1 with e1 e2 e3
     subst e1 e3
     have hrow7 : CnRow w7 (fun b => w.heap.size ≤ b) A0 acc := hrow.keep fun b hb hl => ⟨by omega, hoth7 b (by omega)⟩
     exact bodyPost_ret (v := .agg #[.int .i64 op, .string ⟨#[]⟩, .int .i64 0, .slice A0 acc.length c0]) (results_cell_row rfl _ _ w.heap.size 36 _ (0, 0) _ rfl hk7 Tryz.underlying36 rfl HSY.out) rfl (CdA.good HXF.out hj (CnV.make hrow7) HP7.out HG7.out)
    | true =>
     have hjl : j < L.length := by
      rcases Nat.lt_or_ge j L.length with h | h
      ·exact h
      ·rw [List.drop_eq_nil_of_le h] at hhd
       cases hhd
     have HXE : Hid (Pr.joinN rd word acc (rd (L.drop (j + 1))) = XK) := hid (by
      rw [← HN.out.eq]
      unfold Pr.joinK
      rw [hhd, if_pos rfl, List.tail_drop, Pr.joinJ HS.out])
     rw [hhd] at HSK
     clear hhd
     go_upto_region 6 with (go_at_call 110; refine HSK.out.mono ?_; rintro e w6 ⟨rfl, hp6, hg6⟩; have HP6 : Hid (PSt w6 g A cap L (j + 1) o) := hid hp6; have HG6 := hid hg6; clear hp6 hg6)
     have HMD : Hid (JnM w (N2 + 1) g op acc (.slice A0 acc.length c0) w6.drew) := hid ((HN.out.mem.by_ HG6.out).by_ (grown_bel ((Below.refl _ w6).drew)))
     have HPD : Hid (PSt w6.drew g A cap L (j + 1) o) := hid ⟨HP6.out.blk, HP6.out.row, HP6.out.far⟩
     have HRj := hid (HR.out (j + 1) w6.drew (by omega) (by omega) HPD.out)
     have HSH2 : Hid (∀ c q, rd (L.drop (j + 1)) = some (c, q) → q.length < (L.drop (j + 1)).length) := hid (fun c q hq => by
      obtain ⟨p, e, hp⟩ := HS.out _ _ _ hq
      have := List.length_pos_iff.2 hp
      rw [e, List.length_append]; omega)
     generalize rd (L.drop (j + 1)) = X2 at *
     have HNS := hN3
     have hc6 := HMD.out.blk.cell 3
     simp only [List.getElem?_toArray, List.getElem?_cons_succ, List.getElem?_cons_zero] at hc6
     refine region_till (fun W => W.cell? ⟨N2 + 1, 3, none⟩ = some (.slice A0 acc.length c0)) (fun i => i == 7) (by kernel_rfl) hc6 (fun hHeld => ?_)
     refine till_take (i := 0) (oi := _) (v := ?_) rfl (by kernel_rfl) (by kernel_rfl) (by kernel_rfl) (by kernel_rfl) (fun _ _ _ h => h) (Or.inl ⟨by rfl, ?_⟩) hHeld ?_
     rotate_left
     ·intro wq hSw
      go_simp
      (try with_reducible rfl)
     (try simp only [Act.put, List.getElem_toArray, List.getElem_cons_zero, List.getElem_cons_succ, List.setIfInBounds_toArray, List.set_cons_zero, List.set_cons_succ])
     refine till_take (i := 1) (oi := _) (v := ?_) rfl (by kernel_rfl) (by kernel_rfl) (by kernel_rfl) (by kernel_rfl) (fun _ _ _ h => h) (Or.inl ⟨by rfl, ?_⟩) hHeld ?_
     rotate_left
     ·intro wq hSw
      go_simp
      (try with_reducible rfl)
     (try simp only [Act.put, List.getElem_toArray, List.getElem_cons_zero, List.getElem_cons_succ, List.setIfInBounds_toArray, List.set_cons_zero, List.set_cons_succ])
     refine till_take (i := 2) (oi := _) (v := ?_) rfl (by kernel_rfl) (by kernel_rfl) (by kernel_rfl) (by kernel_rfl) (fun _ _ _ h => h) (Or.inl ⟨by rfl, ?_⟩) hHeld ?_
     rotate_left
     ·intro wq hSw
      go_simp
      (try with_reducible rfl)
     (try simp only [Act.put, List.getElem_toArray, List.getElem_cons_zero, List.getElem_cons_succ, List.setIfInBounds_toArray, List.set_cons_zero, List.set_cons_succ])
     refine till_ready (rs := [3]) (by kernel_rfl) (by simp) ?_
     refine ReadyT.cons (o := _) rfl (fun K hK => ?_) ReadyT.nil
     go_simp
     refine HRj.out.mono ?_
     rintro e w7 ⟨hr7, hg7⟩
     have HM7 := hid (HMD.out.by_ hg7)
     have hs7 : w6.heap.size ≤ w7.heap.size := hg7.size
     clear hg7
     cases X2 with
     | none =>
      obtain rfl : e = .panicked brk := hr7
      exact ⟨rfl, CdA.bad (by rw [HJT.out, ← HXE.out]; rfl) HM7.out.grown⟩
     | some cq2 =>
      obtain ⟨c2, q2⟩ := cq2
      obtain ⟨V2, j2, hj2, rfl, rfl, hV2, hP2⟩ := hr7
      obtain ⟨B2, bc2, rfl, hrow2⟩ := hV2.open
      clear hrow2
      have hsd : w6.drew.heap.size = w6.heap.size := rfl
      have HJ2 : Hid (j + 1 < j2) := hid (by
       have := HSH2.out c2 _ rfl
       rw [List.length_drop, List.length_drop] at this
       omega)
      have HXE2 : Hid (Pr.joinK rd word (acc ++ [c2]) (L.drop j2) = XK) := hid HXE.out
      have hz8 : Below w7.heap.size w7 (w7.alloc (.cells #[.int .i64 c2.op, .string (bstr c2.text), .int .i64 c2.num, .slice B2 c2.kids.length bc2] 36)) := (Below.refl _ _).alloc (Nat.le_refl _) _
      have HP8 := hid (hP2.bel hz8)
      have HM8 := hid (HM7.out.by_ (grown_bel hz8))
      have hs8 : (w7.alloc (.cells #[.int .i64 c2.op, .string (bstr c2.text), .int .i64 c2.num, .slice B2 c2.kids.length bc2] 36)).heap.size = w7.heap.size + 1 := World.size_alloc ..
      have HLT8 : Hid (∀ k, (Value.slice A0 acc.length c0).ownBlock = some k → k < wr.heap.size) := hid (fun k hk => by
       obtain ⟨xs, h1, _⟩ := HN.out.mem.kids
       exact (h1.lt k hk).2)
      have HW6R : Hid (wr.heap.size ≤ w6.heap.size) := hid HG6.out.size
      have HV8 : Hid (CnV (w7.alloc (.cells #[.int .i64 c2.op, .string (bstr c2.text), .int .i64 c2.num, .slice B2 c2.kids.length bc2] 36)) (fun b => (w.heap.size + 1 ≤ b ∧ b ≠ N2 + 1) ∧ some b ≠ (Value.slice A0 acc.length c0).ownBlock) #[.int .i64 c2.op, .string (bstr c2.text), .int .i64 c2.num, .slice B2 c2.kids.length bc2] c2) := hid ((hV2.bel hz8).keep fun b hb hl => ⟨⟨⟨by have := HW6R.out; have := HM7.out.n3; omega, by have := HW6R.out; omega⟩, fun e => by have h1 := HLT8.out b e.symm; have := HW6R.out; omega⟩, rfl⟩)
      obtain ⟨xs, hown, hcs⟩ := HM8.out.kids
      have HCS := hid hcs
      have hrd : Rd (w7.alloc (.cells #[.int .i64 c2.op, .string (bstr c2.text), .int .i64 c2.num, .slice B2 c2.kids.length bc2] 36)) (some ⟨w7.heap.size, 0, none⟩) (1 * 4) [.int .i64 c2.op, .string (bstr c2.text), .int .i64 c2.num, .slice B2 c2.kids.length bc2] := Rd.of_blk (vs := [.int .i64 c2.op, .string (bstr c2.text), .int .i64 c2.num, .slice B2 c2.kids.length bc2]) (Blk.new w7 36 #[.int .i64 c2.op, .string (bstr c2.text), .int .i64 c2.num, .slice B2 c2.kids.length bc2])
      have hone2 : ∀ u ∈ ([.int .i64 c2.op, .string (bstr c2.text), .int .i64 c2.num, .slice B2 c2.kids.length bc2] : List Value), u.oneCell' = true := by intro u hu; simp at hu; rcases hu with rfl | rfl | rfl | rfl <;> rfl
      have hbase8 : w.heap.size + 1 ≤ (w7.alloc (.cells #[.int .i64 c2.op, .string (bstr c2.text), .int .i64 c2.num, .slice B2 c2.kids.length bc2] 36)).heap.size := by have := HM8.out.n3; have := HM8.out.blk.lt; omega
      have HFEW := hid HN.out.few
      have HONE := hid HN.out.one
      have hlen8 : acc.length + 1 ≤ 100000000000 := by have := HFEW.out; omega
      have hc7 := HM7.out.blk.cell 3
      have hc8 := HM8.out.blk.cell 3
      simp only [List.getElem?_toArray, List.getElem?_cons_succ, List.getElem?_cons_zero] at hc7 hc8
      clear hV2 hP2 hcs hz8 hHeld
      refine hK.out _ _ (.inr hc7) ?_
      clear hK K
      (try simp only [Act.put, List.getElem_toArray, List.getElem_cons_zero, List.getElem_cons_succ, List.setIfInBounds_toArray, List.set_cons_zero, List.set_cons_succ])
      refine till_ready (rs := [4]) (by kernel_rfl) (by simp) ?_
      refine ReadyT.cons (o := _) rfl (fun K hK => ?_) ReadyT.nil
      go_simp
      refine hK.out _ _ (.inr hc8) ?_
      clear hK K
      (try simp only [Act.put, List.getElem_toArray, List.getElem_cons_zero, List.getElem_cons_succ, List.setIfInBounds_toArray, List.set_cons_zero, List.set_cons_succ])
      refine till_ready (rs := [5]) (by kernel_rfl) (by simp) ?_
      refine ReadyT.cons (o := _) rfl (fun K hK => ?_) ReadyT.nil
      refine step_row rowCn rfl _ _ rfl (w7.alloc (.cells #[.int .i64 c2.op, .string (bstr c2.text), .int .i64 c2.num, .slice B2 c2.kids.length bc2] 36)) (.slice A0 acc.length c0) acc.length xs [.int .i64 c2.op, .string (bstr c2.text), .int .i64 c2.num, .slice B2 c2.kids.length bc2] (w.heap.size + 1) ?_ hown (some ⟨w7.heap.size, 0, none⟩) 1 1 ?_ hrd hone2 hbase8 hlen8 ?_
      ·kernel_rfl
      ·kernel_rfl
      intro v9 w9 ho9 hg9 hb9 hwh9
      obtain ⟨A9, c9, rfl, -⟩ := own_at ho9
      obtain ⟨hk9, hm10, hbl10⟩ := HM8.out.push hown HCS.out HV8.out ho9 hg9 hwh9
      have HM10 := hid hm10
      have HP10 : Hid (PSt (w9.setCell ⟨N2 + 1, 3, none⟩ (.slice A9 (acc.length + 1) c9)) g A cap L j2 o) := hid (HP8.out.keepB hlt HAL.out (fun k hk => hbl10.block k hk))
      have hf9 := hk9.frozen 3
      have hc9 := hk9.cell 3
      simp only [List.getElem?_toArray, List.getElem?_cons_succ, List.getElem?_cons_zero] at hc9
      clear ho9 hg9 hb9 hwh9 hm10 hbl10 hown hrd hc7 hc8
      refine hK.out _ _ (.inr hc9) ?_
      clear hK K
      (try simp only [Act.put, List.getElem_toArray, List.getElem_cons_zero, List.getElem_cons_succ, List.setIfInBounds_toArray, List.set_cons_zero, List.set_cons_succ])
      refine till_ready (rs := [6]) (by kernel_rfl) (by simp) ?_
      refine ReadyT.cons (o := _) rfl (fun K hK => ?_) ReadyT.nil
      go_simp
      refine hK.out _ _ (.inr hc9) ?_
      clear hK K
      (try simp only [Act.put, List.getElem_toArray, List.getElem_cons_zero, List.getElem_cons_succ, List.setIfInBounds_toArray, List.set_cons_zero, List.set_cons_succ])
      refine till_ready (rs := [7]) (by kernel_rfl) (by simp) ?_
      refine ReadyT.cons (o := _) rfl (fun K hK => ?_) ReadyT.nil
      go_simp
      refine hK.out _ _ (.inl rfl) ?_
      clear hK K
      (try simp only [Act.put, List.getElem_toArray, List.getElem_cons_zero, List.getElem_cons_succ, List.setIfInBounds_toArray, List.set_cons_zero, List.set_cons_succ])
      refine till_done (by kernel_rfl) ?_ _
      have HAO := hid (atOf_of HP10.out)
      have HAJ := hid (atOf_of HN.out.st)
      generalize hw10 : w9.setCell ⟨N2 + 1, 3, none⟩ (.slice A9 (acc.length + 1) c9) = w10 at *
      go_wp2_with fail
      go_roundw
      case rel => exact ⟨j2, acc ++ [c2], _, ⟨HP10.out, hj2, HM10.out, HXE2.out, by have := HJ2.out; have := HFEW.out; rw [List.length_append]; show acc.length + 1 ≤ j2; omega, by rw [List.length_append]; show 1 ≤ acc.length + 1; omega⟩, by have := HJ2.out; omega, .inl (by have := HONE.out; rw [List.length_append]; show 2 ≤ acc.length + 1; omega)⟩
      case measure => have := HJ2.out; rw [HAO.out, HAJ.out]; omega
end Go.Proofs.YtchkiegehejfmaaGreatDoor
/- The text W3. -/
namespace Pr
def sgnL (s : Str) : Nat := if s.head? = some 45 then 1 else 0
def sgnd (d n : Nat) : Int := if d = 1 then -(n : Int) else n
theorem sval_eq (s : Str) : sval s = sgnd (sgnL s) (Ar.val10 (s.drop (sgnL s))) := by
 cases s with
 | nil => rfl
 | cons c r =>
  by_cases h : c = 45
  ·subst h; rfl
  ·have h1 : sgnL (c :: r) = 0 := if_neg (fun e => h (by injection e))
   rw [sval_pos _ (fun q e => h (by injection e)), h1]
   rfl
theorem sgnL_itoa (n : Int) : (Ar.itoa n).drop (sgnL (Ar.itoa n)) = Ar.digs n.natAbs := by
 unfold Ar.itoa
 by_cases h : n < 0
 ·rw [if_pos h]
  rfl
 ·rw [if_neg h]
  have h1 : sgnL (Ar.digs n.natAbs) = 0 := by
   unfold sgnL
   refine if_neg (fun e => ?_)
   cases hd : Ar.digs n.natAbs with
   | nil => exact Ar.digs_ne _ hd
   | cons c r =>
    rw [hd] at e
    injection e with e
    subst e
    exact digs_no45 _ _ hd
  rw [h1]
  rfl
theorem digs_14 (n : Nat) (h : n ≤ 1000000000000) : (Ar.digs n).length ≤ 13 := by
 have : ∀ (k n : Nat), n < 10 ^ (k + 1) → (Ar.digs n).length ≤ k + 1 := by
  intro k
  induction k with
  | zero => intro n h; rw [Ar.digs_small n (by simpa using h)]; simp
  | succ k ih =>
   intro n h
   by_cases h10 : n < 10
   ·rw [Ar.digs_small n h10]; simp
   ·rw [Ar.digs_step n (by omega), List.length_append]
    have h1 : n / 10 < 10 ^ (k + 1) := by
     rw [Nat.pow_succ] at h
     omega
    have := ih (n / 10) h1
    simp
    omega
 exact this 12 n (by omega)
theorem numP_of {s : Str} {n : Int} (h : numP s = some n) : s = Ar.itoa n ∧ -1000000000000 ≤ n ∧ n ≤ 1000000000000 := by
 unfold numP at h
 split at h
 ·rename_i g
  injection h with h
  subst h
  exact ⟨g.2.2.symm, g.1, g.2.1⟩
 ·cases h
theorem numP_len {s : Str} {n : Int} (h : numP s = some n) : 1 ≤ s.length ∧ s.length ≤ sgnL s + 13 ∧ s.length ≠ sgnL s := by
 obtain ⟨rfl, h1, h2⟩ := numP_of h
 have h3 := congrArg List.length (sgnL_itoa n)
 rw [List.length_drop] at h3
 have h4 := digs_14 n.natAbs (by omega)
 have h5 := List.length_pos_iff.2 (Ar.digs_ne n.natAbs)
 omega
theorem sgnL_le (s : Str) : sgnL s ≤ 1 := by unfold sgnL; split <;> omega
theorem numP_digs {s : Str} {n : Int} (h : numP s = some n) : ∀ c ∈ s.drop (sgnL s), Ar.isDig c = true := by
 obtain ⟨rfl, h1, h2⟩ := numP_of h
 rw [sgnL_itoa]
 exact Ar.digs_all _ _ (Nat.le_refl _)
theorem numP_bad {s : Str} (h : ∃ c ∈ s.drop (sgnL s), Ar.isDig c = false) : numP s = none := by
 cases hn : numP s with
 | none => rfl
 | some n =>
  obtain ⟨c, hc, hd⟩ := h
  rw [numP_digs hn c hc] at hd
  cases hd
theorem numP_short {s : Str} (h : s.length = sgnL s ∨ sgnL s + 13 < s.length) : numP s = none := by
 cases hn : numP s with
 | none => rfl
 | some n =>
  have := numP_len hn
  omega
theorem numP_no {s : Str} {m : Int} (hm : sval s = m) (h : m < -1000000000000 ∨ 1000000000000 < m ∨ Ar.itoa m ≠ s) : numP s = none := by
 unfold numP
 rw [hm]
 refine if_neg (fun g => ?_)
 rcases h with h | h | h
 ·omega
 ·omega
 ·exact h g.2.2
theorem numP_yes {s : Str} {m : Int} (hm : sval s = m) (h1 : -1000000000000 ≤ m) (h2 : m ≤ 1000000000000) (h3 : Ar.itoa m = s) : numP s = some m := by
 unfold numP
 rw [hm, if_pos ⟨h1, h2, h3⟩]
theorem val10_lt : ∀ (n : Nat) (l : Str), l.length = n → (∀ c ∈ l, Ar.isDig c = true) → Ar.val10 l < 10 ^ n
 | 0, l, hl, _ => by rw [List.eq_nil_of_length_eq_zero hl]; decide
 | n + 1, l, hl, hd => by
  have hne : l ≠ [] := by rintro rfl; simp at hl
  have e := List.dropLast_concat_getLast hne
  have h1 := val10_lt n l.dropLast (by rw [List.length_dropLast]; omega) (fun c hc => hd c ((List.dropLast_sublist l).mem hc))
  have h2 := hd (l.getLast hne) (List.getLast_mem hne)
  rw [← e, Ar.val10_snoc]
  have h3 := of_decide_eq_true h2
  rw [Nat.pow_succ]
  omega
end Pr
/- The text Vb. -/
namespace Go.Proofs.YtchkiegehejfmaaGreatDoor
open Go.RowKit Go.Lib
set_option linter.unusedVariables false
theorem digs_len : ∀ (k n : Nat), n < 10 ^ (k + 1) → (Ar.digs n).length ≤ k + 1
 | 0, n, h => by rw [Ar.digs_small n (by simpa using h)]; simp
 | k + 1, n, h => by
  by_cases h10 : n < 10
  ·rw [Ar.digs_small n h10]; simp
  ·rw [Ar.digs_step n (by omega), List.length_append]
   have h1 : n / 10 < 10 ^ (k + 1) := by
    rw [Nat.pow_succ] at h
    omega
   have := digs_len k (n / 10) h1
   simp
   omega
def dgA (j : Nat) (acc : List UInt8) : Array Value := (List.replicate (20 - j) (Value.int .u8 0) ++ bytesL acc).toArray
theorem dgA_set (j : Nat) (acc : List UInt8) (c : UInt8) (hj : j < 20) (hl : acc.length = j) : (dgA j acc).setIfInBounds (20 - j - 1) (.int .u8 (c.toNat : Int)) = dgA (j + 1) (c :: acc) := by
 unfold dgA
 rw [List.setIfInBounds_toArray]
 congr 1
 rw [show 20 - j = (20 - j - 1) + 1 from by omega, List.replicate_succ', List.append_assoc, List.set_append_right _ _ (by rw [List.length_replicate]; omega), List.length_replicate]
 rw [show 20 - j - 1 + 1 - 1 - (20 - j - 1) = 0 from by omega, show 20 - (j + 1) = 20 - j - 1 from by omega]
 rfl
theorem dgA_at (j : Nat) (acc : List UInt8) (hl : acc.length = j) (hj : j ≤ 20) (i : Nat) (hi : i < 20) : ∃ v, (dgA j acc)[i]? = some v := by
 refine ⟨(dgA j acc)[i]'?_, ?_⟩
 ·unfold dgA
  simp [bytesL, hl]
  omega
 ·exact Array.getElem?_eq_getElem _
theorem dgA_rd {w : World} {g j : Nat} {t : TypeId} {acc : List UInt8} (h : Blk w g t (dgA j acc)) (hl : acc.length = j) (hj : j ≤ 20) : Rd w (some ⟨g, 20 - j, none⟩) j (bytesL acc) := by
 refine ⟨by rw [bytesL_len]; exact hl, fun i v hv => ⟨g, 20 - j, rfl, ?_⟩⟩
 rw [h.cell]
 unfold dgA
 rw [List.getElem?_toArray, List.getElem?_append_right (by rw [List.length_replicate]; omega), List.length_replicate, Nat.add_sub_cancel_left]
 exact hv
theorem num_wrap_pos (n : Int) (h : 0 ≤ n) (h2 : n ≤ 9223372036854775807) : IntKind.u64.wrap n = (n.natAbs : Int) := by rw [IntKind.wrap_u64]; omega
theorem num_wrap_neg (n : Int) (h : n < 0) (h2 : -9223372036854775808 ≤ n) : IntKind.u64.wrap (-IntKind.u64.wrap n) = (n.natAbs : Int) := by rw [IntKind.wrap_u64, IntKind.wrap_u64]; omega
theorem dig_byte (u : Nat) : IntKind.u8.wrap (48 + (u : Int) % 10) = ((UInt8.ofNat (48 + u % 10)).toNat : Int) := by rw [(Ar.dig_of (u % 10) (by omega)).2, IntKind.wrap_u8]; omega
theorem slice_dig (W : World) (B k : Nat) (hk : k < 20) : (Instr.sliceAt 139 (.pointer (some ⟨B, 0, none⟩)) (some (.int .i64 (20 - (k : Int) - 1))) none none).run Tryz.prog W = .ok (.slice (some ⟨B, 19 - k, none⟩) (k + 1) (k + 1)) W := by
 have e20 : Tryz.prog.arrayLen 139 = 20 := by kernel_rfl
 rw [run_sliceAt_array_l W 139 ⟨B, 0, none⟩ (by kernel_rfl) .i64 _ (by omega) (by rw [e20]; omega), e20, show Tryz.prog.elem 139 = 5 from by kernel_rfl]
 rw [show (Go.sizeOf 5).run Tryz.prog W = .ok 1 W from by kernel_rfl]
 have e : (20 - (k : Int) - 1).toNat = 20 - (k + 1) := by omega
 rw [e]
 unfold slicedAt
 show Result.ok (Value.slice (some (if 20 = 20 - (k + 1) then _ else _)) _ _) W = _
 rw [if_neg (by omega), show 20 - (20 - (k + 1)) = k + 1 from by omega, Nat.mul_one]
 simp only [Addr.add, Nat.zero_add]
 rw [show 20 - (k + 1) = 19 - k from by omega]
 by_cases h : 19 - k = 0
 ·rw [if_pos h, h]
 ·rw [if_neg h]
theorem conv_dig (W : World) (B k : Nat) (acc : List UInt8) (h : Blk W B 139 (dgA (k + 1) acc)) (hl : acc.length = k + 1) (hk : k < 20) : (convert 54 9 (.slice (some ⟨B, 19 - k, none⟩) (k + 1) (k + 1))).run Tryz.prog W = .ok (.string (bstr acc)) W :=
 run_conv_bs W _ _ _ Tryz.underlying54 Tryz.underlying5 Tryz.underlying9 _ _ _ acc (by have := dgA_rd h hl (by omega); rwa [show 20 - (k + 1) = 19 - k from by omega] at this)
def NRel (B : Nat) (w : World) (A : Nat) (u i j : Value) (wr : World) : Prop :=
 ∃ (uu k : Nat) (acc : List UInt8), u = .int .u64 uu ∧ i = .int .i64 (20 - k : Int) ∧ j = .int .i64 k ∧ acc.length = k ∧ k < 20 ∧ uu ≤ 9223372036854775808 ∧ Hid (Ar.digs A = Ar.digs uu ++ acc) ∧ Blk wr B 139 (dgA k acc) ∧ Below B w wr
theorem ntext_any (n : Int) (w : World) (hn : Ar.inInt n) : Calls Tryz.prog 75 #[.int .i64 n] w fun e w' => e = .returned (.string (bstr (Ar.itoa n))) ∧ Below w.heap.size w w' := by
 obtain ⟨hn1, hn2⟩ := hn
 by_cases h0 : n < 0
 ·have HI : Hid (Ar.itoa n = 45 :: Ar.digs n.natAbs) := hid (by unfold Ar.itoa; rw [if_pos h0])
  have HW := hid (num_wrap_neg n h0 hn1)
  have hA : n.natAbs ≤ 9223372036854775808 := by omega
  generalize n.natAbs = A at *
  have hlen : (Ar.digs A).length ≤ 19 := digs_len 18 A (by omega)
  go_enter Tryz.func75, Tryz.ntmps75
  go_wp2_with fail
  generalize hwA : w.alloc _ = wA
  go_loopw [3, 5, 13] (fun u i j wr => NRel w.heap.size w A u i j wr) (fun _ _ j _ => 20 - (RowKit.intOf j).toNat)
  case atStart =>
   refine ⟨A, 0, [], by rw [HW.out], by rfl, by rfl, rfl, by omega, hA, hid (by rw [List.append_nil]), ?_, ?_⟩
   ·rw [← hwA]; exact Blk.new _ _ _
   ·rw [← hwA]; exact (Below.refl _ _).alloc (Nat.le_refl _) _
  case round =>
   obtain ⟨u, k, acc, rfl, rfl, rfl, hk, hk20, hu, hdg, hblk, hbw⟩ := hrel
   have hcell := dgA_at k acc hk (by omega) (20 - k - 1) (by omega)
   obtain ⟨v0, hcell⟩ := hcell
   have hc0 := hblk.cell (20 - k - 1)
   rw [hcell] at hc0
   have hf0 := hblk.frozen (20 - k - 1)
   have hset := hblk.set_ (20 - k - 1) (.int .u8 (48 + (u : Int) % 10))
   have hdb : (48 + (u : Int) % 10) = ((UInt8.ofNat (48 + u % 10)).toNat : Int) := by rw [(Ar.dig_of (u % 10) (by omega)).2]; omega
   have hds : (dgA k acc).setIfInBounds (20 - k - 1) (.int .u8 (48 + (u : Int) % 10)) = dgA (k + 1) (UInt8.ofNat (48 + u % 10) :: acc) := by rw [hdb]; exact dgA_set k acc _ hk20 hk
   rw [hds] at hset
   have HB := hid hset
   have hbw2 := hbw.setCell (p := ⟨w.heap.size, 20 - k - 1, none⟩) (Nat.le_refl _) (.int .u8 (48 + (u : Int) % 10))
   clear hcell hds hdb hset hblk hbw
   obtain ⟨c, hc⟩ : ∃ c, UInt8.ofNat (48 + u % 10) = c := ⟨_, rfl⟩
   rw [hc] at HB
   replace hc := hid hc
   by_cases h10 : u < 10
   ·have hq : u / 10 = 0 := by omega
    have HE : Hid (Ar.digs A = c :: acc) := hid (by rw [hdg.out, Ar.digs_small u h10, ← hc.out, Nat.mod_eq_of_lt h10]; rfl)
    have hsl := slice_dig (wr.setCell ⟨w.heap.size, 20 - k - 1, none⟩ (.int .u8 (48 + (u : Int) % 10))) w.heap.size k hk20
    have hcv := conv_dig _ w.heap.size k _ HB.out (by rw [List.length_cons, hk]) hk20
    have hss : (bstr (c :: acc)).size = k + 1 := by rw [bstr_size, List.length_cons, hk]
    go_wp2_with fail
    go_ret
    exact ⟨ret_str (by rw [HI.out, HE.out]; exact str_eq (by rfl)), hbw2⟩
   ·have hq : u / 10 ≠ 0 := by omega
    go_wp2_with fail
    go_round
    case rel => exact ⟨u / 10, k + 1, c :: acc, by go_num, by go_num, by go_num, by rw [List.length_cons, hk], by have := congrArg List.length hdg.out; rw [List.length_append, hk] at this; have h2 := Ar.digs_step u (by omega); rw [h2, List.length_append] at this; have h3 := List.length_pos_iff.2 (Ar.digs_ne (u / 10)); simp at this; omega, by omega, hid (by rw [hdg.out, Ar.digs_step u (by omega), List.append_assoc, hc.out]; rfl), HB.out, hbw2⟩
    case measure => simp [RowKit.intOf]; omega
 ·have HI : Hid (Ar.itoa n = Ar.digs n.natAbs) := hid (by unfold Ar.itoa; rw [if_neg h0])
  have HW := hid (show n = (n.natAbs : Int) from by omega)
  have hA : n.natAbs ≤ 9223372036854775808 := by omega
  generalize n.natAbs = A at *
  have hlen : (Ar.digs A).length ≤ 19 := digs_len 18 A (by omega)
  go_enter Tryz.func75, Tryz.ntmps75
  go_wp2_with fail
  generalize hwA : w.alloc _ = wA
  go_loopw [3, 5, 13] (fun u i j wr => NRel w.heap.size w A u i j wr) (fun _ _ j _ => 20 - (RowKit.intOf j).toNat)
  case atStart =>
   refine ⟨A, 0, [], by rw [HW.out], by rfl, by rfl, rfl, by omega, hA, hid (by rw [List.append_nil]), ?_, ?_⟩
   ·rw [← hwA]; exact Blk.new _ _ _
   ·rw [← hwA]; exact (Below.refl _ _).alloc (Nat.le_refl _) _
  case round =>
   obtain ⟨u, k, acc, rfl, rfl, rfl, hk, hk20, hu, hdg, hblk, hbw⟩ := hrel
   have hcell := dgA_at k acc hk (by omega) (20 - k - 1) (by omega)
   obtain ⟨v0, hcell⟩ := hcell
   have hc0 := hblk.cell (20 - k - 1)
   rw [hcell] at hc0
   have hf0 := hblk.frozen (20 - k - 1)
   have hset := hblk.set_ (20 - k - 1) (.int .u8 (48 + (u : Int) % 10))
   have hdb : (48 + (u : Int) % 10) = ((UInt8.ofNat (48 + u % 10)).toNat : Int) := by rw [(Ar.dig_of (u % 10) (by omega)).2]; omega
   have hds : (dgA k acc).setIfInBounds (20 - k - 1) (.int .u8 (48 + (u : Int) % 10)) = dgA (k + 1) (UInt8.ofNat (48 + u % 10) :: acc) := by rw [hdb]; exact dgA_set k acc _ hk20 hk
   rw [hds] at hset
   have HB := hid hset
   have hbw2 := hbw.setCell (p := ⟨w.heap.size, 20 - k - 1, none⟩) (Nat.le_refl _) (.int .u8 (48 + (u : Int) % 10))
   clear hcell hds hdb hset hblk hbw
   obtain ⟨c, hc⟩ : ∃ c, UInt8.ofNat (48 + u % 10) = c := ⟨_, rfl⟩
   rw [hc] at HB
   replace hc := hid hc
   by_cases h10 : u < 10
   ·have hq : u / 10 = 0 := by omega
    have HE : Hid (Ar.digs A = c :: acc) := hid (by rw [hdg.out, Ar.digs_small u h10, ← hc.out, Nat.mod_eq_of_lt h10]; rfl)
    have hsl := slice_dig (wr.setCell ⟨w.heap.size, 20 - k - 1, none⟩ (.int .u8 (48 + (u : Int) % 10))) w.heap.size k hk20
    have hcv := conv_dig _ w.heap.size k _ HB.out (by rw [List.length_cons, hk]) hk20
    have hss : (bstr (c :: acc)).size = k + 1 := by rw [bstr_size, List.length_cons, hk]
    go_wp2_with fail
    go_ret
    exact ⟨ret_str (by rw [HI.out, HE.out]), hbw2⟩
   ·have hq : u / 10 ≠ 0 := by omega
    go_wp2_with fail
    go_round
    case rel => exact ⟨u / 10, k + 1, c :: acc, by go_num, by go_num, by go_num, by rw [List.length_cons, hk], by have := congrArg List.length hdg.out; rw [List.length_append, hk] at this; have h2 := Ar.digs_step u (by omega); rw [h2, List.length_append] at this; have h3 := List.length_pos_iff.2 (Ar.digs_ne (u / 10)); simp at this; omega, by omega, hid (by rw [hdg.out, Ar.digs_step u (by omega), List.append_assoc, hc.out]; rfl), HB.out, hbw2⟩
    case measure => simp [RowKit.intOf]; omega
end Go.Proofs.YtchkiegehejfmaaGreatDoor
