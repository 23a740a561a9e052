/- The texts Ak, Ua of this proof, one behind the other. -/
import Derived.BigQuiet
import Derived.Deep.QuietTactic
import Derived.Deep.RegionHeld3
import Derived.Deep.RegionLaw
import Derived.Laws.IdiomStrings
import Derived.Lib.ConvBytes
import Derived.Lib.OthersKept
import Derived.StillTailTactics
import Derived.Test.YtchkiegehejfmaaGreatDoorProg
import Derived.WalkSmall
import Derived.Test.YtchkiegehejfmaaGreatDoorMsaa
import Derived.Test.YtchkiegehejfmaaGreatDoorMsac
import Derived.Test.YtchkiegehejfmaaGreatDoorMsad
import Derived.Test.YtchkiegehejfmaaGreatDoorMsab
set_option linter.unusedSimpArgs false
set_option maxHeartbeats 16000000
set_option maxRecDepth 100000
set_option linter.unusedVariables false
namespace Go.Proofs.YtchkiegehejfmaaGreatDoor
open Go.RowKit Go.Lib
theorem FB : (Tryz.prog.info? 5).map (fun i => (i.zero, i.size, i.bytes)) = some (some (.int .u8 0), 1, 1) := by kernel_rfl
theorem Et : (Tryz.prog.info? 9).map (fun i => (i.zero, i.size, i.bytes)) = some (some (.string ByteArray.empty), 1, 16) := by kernel_rfl
theorem BE {P : Program} {t : TypeId} {z : Value} {m b : Nat} (h : (P.info? t).map (fun i => (i.zero, i.size, i.bytes)) = some (some z, m, b)) : ∃ i, P.info? t = some i ∧ i.zero = some z ∧ i.size = m ∧ i.bytes = b := by
 cases hi : P.info? t with
 | none => rw [hi] at h; cases h
 | some i =>
  rw [hi] at h;injection h with h;injection h with h1 h;injection h with h2 h3;exact ⟨i, rfl, h1, h2, h3⟩
abbrev OwnB (base : Nat) (w : World) (v : Value) (xs : List UInt8) : Prop := w.ownsRow base 5 1 v xs.length (AH xs)
abbrev OwnS (base : Nat) (w : World) (v : Value) (ss : List (List UInt8)) : Prop := w.ownsRow base 9 1 v ss.length (strL ss)
theorem CY (ys : List UInt8) : (AH ys).length = ys.length := List.length_map _
theorem FG (ys : List (List UInt8)) : (strL ys).length = ys.length := List.length_map _
theorem Rd.lit8 (w : World) (ys : List UInt8) : Rd (w.alloc (.cells (AH ys).toArray 5)) (some ⟨w.heap.size, 0, none⟩) ys.length (AH ys) := by
 have := Rd.of_blk (Blk.new w 5 (AH ys).toArray);rwa [CY] at this
theorem Rd.litS (w : World) (ys : List (List UInt8)) : Rd (w.alloc (.cells (strL ys).toArray 9)) (some ⟨w.heap.size, 0, none⟩) ys.length (strL ys) := by
 have := Rd.of_blk (Blk.new w 9 (strL ys).toArray);rwa [FG] at this
theorem G8 (ty : TypeId) (w : World) (v : Value) (xs ys : List UInt8) (base : Nat) (hown : OwnB base w v xs) (A : Option Addr) (c : Nat) (hr : Rd w A ys.length (AH ys))
  (hbase : base ≤ w.heap.size) (hlen : xs.length + ys.length ≤ 100000000000) :
  ∃ v' w', (Builtin.append_ #[54, 54] ty #[v, .slice A ys.length c]).run Tryz.prog w = .ok v' w' ∧ OwnB base w' v' (xs ++ ys) ∧ w.grownBy w' v.ownBlock ∧ ∀ w0, Below base w0 w → Below base w0 w' := by
 obtain ⟨iu, hu, zu0, zu1, zu2⟩ := BE FB;obtain ⟨v', w', h1, h2, h3⟩ := B6 (P := Tryz.prog) (w := w) 54 ty 5 iu _ 1 Tryz.underlying54 hu zu0 zu1 zu2 rfl base v xs.length (AH xs) hown A ys.length c (AH ys) hr (GC _) (by unfold maxLen; omega) (by omega) hbase;refine ⟨v', w', h1, ?_, h3, fun w0 hb => hb.grown h3 hbase (fun g hg => (hown.lt g hg).1)⟩;show w'.ownsRow base _ 1 _ (xs ++ ys).length (AH (xs ++ ys));rw [List.length_append, B4];exact h2
theorem G4 (ty : TypeId) (w : World) (v : Value) (xs ys : List (List UInt8)) (base : Nat) (hown : OwnS base w v xs) (A : Option Addr) (c : Nat) (hr : Rd w A ys.length (strL ys))
  (hbase : base ≤ w.heap.size) (hlen : xs.length + ys.length ≤ 1000000000000) :
  ∃ v' w', (Builtin.append_ #[43, 43] ty #[v, .slice A ys.length c]).run Tryz.prog w = .ok v' w' ∧ OwnS base w' v' (xs ++ ys) ∧ w.grownBy w' v.ownBlock ∧ ∀ w0, Below base w0 w → Below base w0 w' := by
 obtain ⟨iu, hu, zu0, zu1, zu2⟩ := BE Et;obtain ⟨v', w', h1, h2, h3⟩ := B6 (P := Tryz.prog) (w := w) 43 ty 9 iu _ 16 Tryz.underlying43 hu zu0 zu1 zu2 rfl base v xs.length (strL xs) hown A ys.length c (strL ys) hr (G1 _) (by unfold maxLen; omega) (by omega) hbase;refine ⟨v', w', h1, ?_, h3, fun w0 hb => hb.grown h3 hbase (fun g hg => (hown.lt g hg).1)⟩;show w'.ownsRow base _ 1 _ (xs ++ ys).length (strL (xs ++ ys));rw [List.length_append, Bi];exact h2
section
variable {ops : Array Oper} {rest : List Oper} {o : Oper} {a : Act} {Q : Exit → Act → World → Prop} {K : Act → World → Prop} {E : Prop}
theorem Ib (s x : Operand) (ho : o.op = .call { callee := .builtin .append, args := #[s, x], argTypes := #[54, 54] })
  (w : World) (v : Value) (xs ys : List UInt8) (base : Nat) (hs : a.eval s = v) (A : Option Addr) (c : Nat) (hx : a.eval x = .slice A ys.length c) (hown : OwnB base w v xs) (hr : Rd w A ys.length (AH ys))
  (hbase : base ≤ w.heap.size) (hlen : xs.length + ys.length ≤ 100000000000)
  (h : ∀ v' w', OwnB base w' v' (xs ++ ys) → w.grownBy w' v.ownBlock → (∀ w0, Below base w0 w → Below base w0 w') → K (a.put o.dst v') w') : o.wp Tryz.prog a w K Q := by
 obtain ⟨v', w', hrun, h2, h3, h4⟩ := G8 o.type w v xs ys base hown A c hr hbase hlen;unfold Oper.wp execOp;simp only [ho, resolve, invoke, builtin, Sem.run_bind, Sem.run_pure, Result.andThen_ok, List.map_toArray, List.map_cons, List.map_nil, hs, hx, hrun];exact h v' w' h2 h3 h4
theorem Hp (s x : Operand) (ho : o.op = .call { callee := .builtin .append, args := #[s, x], argTypes := #[43, 43] })
  (w : World) (v : Value) (xs ys : List (List UInt8)) (base : Nat) (hs : a.eval s = v) (A : Option Addr) (c : Nat) (hx : a.eval x = .slice A ys.length c) (hown : OwnS base w v xs) (hr : Rd w A ys.length (strL ys))
  (hbase : base ≤ w.heap.size) (hlen : xs.length + ys.length ≤ 1000000000000)
  (h : ∀ v' w', OwnS base w' v' (xs ++ ys) → w.grownBy w' v.ownBlock → (∀ w0, Below base w0 w → Below base w0 w') → K (a.put o.dst v') w') : o.wp Tryz.prog a w K Q := by
 obtain ⟨v', w', hrun, h2, h3, h4⟩ := G4 o.type w v xs ys base hown A c hr hbase hlen;unfold Oper.wp execOp;simp only [ho, resolve, invoke, builtin, Sem.run_bind, Sem.run_pure, Result.andThen_ok, List.map_toArray, List.map_cons, List.map_nil, hs, hx, hrun];exact h v' w' h2 h3 h4
theorem DO (hgd : o.guard = none) (s x : Operand) (ho : o.op = .call { callee := .builtin .append, args := #[s, x], argTypes := #[43, 43] })
  (w : World) (v : Value) (xs ys : List (List UInt8)) (base : Nat) (hs : a.eval s = v) (A : Option Addr) (c : Nat) (hx : a.eval x = .slice A ys.length c) (hown : OwnS base w v xs) (hr : Rd w A ys.length (strL ys))
  (hbase : base ≤ w.heap.size) (hlen : xs.length + ys.length ≤ 1000000000000)
  (h : ∀ v' w', OwnS base w' v' (xs ++ ys) → w.grownBy w' v.ownBlock → (∀ w0, Below base w0 w → Below base w0 w') → K (a.put o.dst v') w') : if Region.wanted o (yielded ops a.tmps) = true then o.wp Tryz.prog a w K Q else E := by
 have hw : Region.wanted o (yielded ops a.tmps) = true := by simp [Region.wanted, hgd]
 rw [if_pos hw];exact Hp s x ho w v xs ys base hs A c hx hown hr hbase hlen h
theorem BJ (hgd : o.guard = none) (s x : Operand) (ho : o.op = .call { callee := .builtin .append, args := #[s, x], argTypes := #[54, 54] })
  (wr : World) (ys : List UInt8) (v : Value) (xs : List UInt8) (base : Nat) (hs : a.eval s = v) (hown : OwnB base wr v xs) (hx : a.eval x = .slice (some ⟨wr.heap.size, 0, none⟩) ys.length ys.length)
  (hbase : base ≤ wr.heap.size) (hlen : xs.length + ys.length ≤ 100000000000)
  (h : ∀ v' w', OwnB base w' v' (xs ++ ys) → (wr.alloc (.cells (AH ys).toArray 5)).grownBy w' v.ownBlock → (∀ w0, Below base w0 wr → Below base w0 w') → wpList Tryz.prog ops Q rest (a.put o.dst v') w') :
  wpList Tryz.prog ops Q (o :: rest) a (wr.alloc (.cells (AH ys).toArray 5)) :=
 wpList_plain hgd fun K hK => Ib s x ho _ v xs ys base hs _ _ hx (hown.alloc _) (Rd.lit8 wr ys) (by simp; omega) hlen fun v' w' h1 h2 h3 => hK _ _ (h v' w' h1 h2 fun w0 hb => h3 w0 (hb.alloc hbase _))
end
theorem Dg {w : World} {base : Nat} {v : Value} {xs : List UInt8} (h : OwnB base w v xs) : (convert 54 9 v).run Tryz.prog w = .ok (.string (bstr xs)) w := by
 obtain ⟨A, cap, rfl⟩ := By h;exact CI w _ _ _ Tryz.underlying54 Tryz.underlying5 Tryz.underlying9 A xs.length cap xs (Rd.of_own h)
theorem Eu (w : World) (c : UInt8) : OwnB w.heap.size (w.alloc (.cells #[.int .u8 (c.toNat : Int)] 5)) (.slice (some ⟨w.heap.size, 0, none⟩) 1 1) [c] :=
 World.ownsRow_lit (base := w.heap.size) (e := 5) (size := 1) w #[.int .u8 (c.toNat : Int)] 1 (Nat.le_refl _) (by decide) rfl
end Go.Proofs.YtchkiegehejfmaaGreatDoor
namespace Pr
abbrev Str := List UInt8
inductive Cn where
 | mk (op : Int) (text : Str) (n : Int) (kids : List Cn)
instance : Inhabited Cn := ⟨.mk 0 [] 0 []⟩
def Cn.op : Cn → Int | .mk o _ _ _ => o
def Cn.text : Cn → Str | .mk _ t _ _ => t
def Cn.num : Cn → Int | .mk _ _ n _ => n
def Cn.kids : Cn → List Cn | .mk _ _ _ k => k
mutual
def nodes : Cn → Nat
 | .mk _ _ _ ks => nodesL ks + 1
def nodesL : List Cn → Nat
 | [] => 0
 | c :: r => nodes c + nodesL r
end
mutual
def depth : Cn → Nat
 | .mk _ _ _ ks => depthL ks + 1
def depthL : List Cn → Nat
 | [] => 0
 | c :: r => max (depth c) (depthL r)
end
mutual
def same : Cn → Cn → Bool
 | .mk o t n ks, .mk o' t' n' ks' => o == o' && t == t' && n == n' && sameL ks ks'
def sameL : List Cn → List Cn → Bool
 | [], [] => true
 | a :: r, b :: r' => same a b && sameL r r'
 | _, _ => false
end
mutual
theorem BX : ∀ a b : Cn, same a b = true ↔ a = b
 | .mk o t n ks, .mk o' t' n' ks' => by
  unfold same;simp only [Bool.and_eq_true, beq_iff_eq, Eq ks ks', Cn.mk.injEq]
  constructor
  ·rintro ⟨⟨⟨h1, h2⟩, h3⟩, h4⟩; exact ⟨h1, h2, h3, h4⟩
  ·rintro ⟨h1, h2, h3, h4⟩; exact ⟨⟨⟨h1, h2⟩, h3⟩, h4⟩
theorem Eq : ∀ a b : List Cn, sameL a b = true ↔ a = b
 | [], [] => by simp [sameL]
 | [], _ :: _ => by simp [sameL]
 | _ :: _, [] => by simp [sameL]
 | a :: r, b :: r' => by
  unfold sameL;simp only [Bool.and_eq_true, BX a b, Eq r r', List.cons.injEq]
end
theorem same_self (a : Cn) : same a a = true := (BX a a).2 rfl
instance : DecidableEq Cn := fun a b => if h : same a b = true then .isTrue ((BX a b).1 h) else .isFalse fun e => h ((BX a b).2 e)
theorem BT (a b : Cn) : same a b = decide (a = b) := by
 by_cases h : a = b
 ·rw [decide_eq_true h]; exact (BX a b).2 h
 ·rw [decide_eq_false h]
  cases hs : same a b with
  | false => rfl
  | true => exact absurd ((BX a b).1 hs) h
def useText (o : Int) : Bool := o == 6 || o == 7 || o == 8 || o == 9
def useN (o : Int) : Bool := o == 5 || o == 10 || o == 11 || o == 12
def useKids (o : Int) : Bool := o == 2 || o == 3 || o == 4
def known (o : Int) : Bool := decide (1 ≤ o) && decide (o ≤ 17)
def nameCh (minus : Bool) (c : UInt8) : Bool := (decide (97 ≤ c.toNat) && decide (c.toNat ≤ 122)) || (decide (48 ≤ c.toNat) && decide (c.toNat ≤ 57)) || (minus && c == 45)
def okName (minus : Bool) (s : Str) : Bool := decide (1 ≤ s.length) && decide (s.length ≤ 32) && s.all (nameCh minus)
def globE (s : Str) : Int := if s = [] then 9 else if 64 < s.length then 7 else if s.any (fun c => decide (c.toNat < 33) || decide (126 < c.toNat)) then 3 else 0
def withinE (n lo hi : Int) : Int := if n < lo ∨ hi < n then 2 else 0
def fieldE (o : Int) (t : Str) (n : Int) (m : Nat) : Int :=
 if o = 2 ∨ o = 3 then (if m < 2 then 9 else 0)
 else if o = 6 ∨ o = 7 ∨ o = 8 then globE t
 else if o = 9 then (if okName false t then 0 else 3)
 else if o = 5 then withinE n 1 14
 else if o = 10 then withinE n (-1000) 1000
 else if o = 11 then withinE n 0 1000000000000
 else if o = 12 then withinE n 0 1000000000
 else 0
def nodeE (o : Int) (t : Str) (n : Int) (m : Nat) : Int :=
 if known o = false ∨ (useText o = false ∧ t ≠ []) ∨ (useN o = false ∧ n ≠ 0) ∨ (useKids o = false ∧ 0 < m) ∨ (o = 4 ∧ m ≠ 1) then 1 else fieldE o t n m
mutual
def treeE : Cn → Int
 | .mk o t n ks => if nodeE o t n ks.length ≠ 0 then nodeE o t n ks.length else treeEL ks
def treeEL : List Cn → Int
 | [] => 0
 | c :: r => if treeE c ≠ 0 then treeE c else treeEL r
end
def soundW : Str := [115, 111, 117, 110, 100, 61]
def isSound (s : Str) : Bool := decide (soundW <+: s) && okName true (s.drop 6)
def notifyW : Str := [110, 111, 116, 105, 102, 121]
def highW : Str := [104, 105, 103, 104, 108, 105, 103, 104, 116]
def muteW : Str := [109, 117, 116, 101]
def countW : Str := [99, 111, 117, 110, 116]
def isAct (s : Str) : Bool := s == notifyW || s == highW || s == muteW || s == countW || isSound s
def clash (a b : Str) : Bool := a == b || (isSound a && isSound b)
def actsE (earlier : List Str) : List Str → Int
 | [] => 0
 | a :: r => if isAct a = false then 6 else if earlier.any (clash a) then 4 else actsE (earlier ++ [a]) r
def doE (l : List Str) : Int := if l = [] then 9 else if 5 < l.length then 7 else actsE [] l
structure Rl where
 name : Str
 wh : Cn
 acts : List Str
def ruleE (earlier : List Rl) (x : Rl) : Int :=
 if okName true x.name = false then 3
 else if earlier.any (fun y => y.name == x.name) then 4
 else if 40 < nodes x.wh ∨ 8 < depth x.wh then 29
 else if treeE x.wh ≠ 0 then treeE x.wh
 else doE x.acts
def rulesE (earlier : List Rl) : List Rl → Int
 | [] => 0
 | x :: r => if ruleE earlier x ≠ 0 then ruleE earlier x else rulesE (earlier ++ [x]) r
def checkE (l : List Rl) : Int := if 100 < l.length then 7 else rulesE [] l
def always : Cn := .mk 1 [] 0 []
def never : Cn := .mk 4 [] 0 [always]
def gathF (zero unit : Cn) : List Cn → List Cn → Option (List Cn)
 | out, [] => some out
 | out, x :: r => if x = zero then none else if x ≠ unit ∧ x ∉ out then gathF zero unit (out ++ [x]) r else gathF zero unit out r
def gath (op : Int) (l : List Cn) (zero unit : Cn) : Cn := match gathF zero unit [] l with
 | none => zero
 | some [] => unit
 | some [x] => x
 | some out => .mk op [] 0 out
def notOf (x : Cn) : Cn := if x.op = 4 then x.kids.headD default else .mk 4 [] 0 [x]
def spread (op : Int) (x : Cn) : List Cn := if x.op = op then x.kids else [x]
mutual
def simple : Cn → Cn
 | .mk o t n ks =>
  if o = 2 then gath 2 (flat 2 ks) never always
  else if o = 3 then gath 3 (flat 3 ks) always never
  else if o = 4 then notOf (gath 3 (flat 3 ks) always never)
  else if known o then .mk o (if useText o then t else []) (if useN o then n else 0) [] else never
def flat (op : Int) : List Cn → List Cn
 | [] => []
 | k :: r => spread op (simple k) ++ flat op r
end
end Pr
