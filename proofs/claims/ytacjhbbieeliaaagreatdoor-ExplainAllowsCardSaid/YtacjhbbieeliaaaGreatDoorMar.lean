/- The texts Ia, Ca, Ka, Kb of this proof, one behind the other. -/
import Derived.Lib.IndexBytes
import Derived.Lib.IndexMore
import Derived.Test.YtacjhbbieeliaaaGreatDoorMae
import Derived.Test.YtacjhbbieeliaaaGreatDoorMaq
set_option linter.unusedSimpArgs false
set_option maxHeartbeats 16000000
set_option maxRecDepth 100000
/- The text Ia. -/
namespace Pr
abbrev Str := List UInt8
def letterN (n : Nat) : Bool := (decide (97 ≤ n) && decide (n ≤ 122)) || (decide (48 ≤ n) && decide (n ≤ 57))
def locN (n : Nat) : Bool := n == 95 || (n == 46 || (n == 45 || n == 61))
def srvN (n : Nat) : Bool := n == 46 || n == 45
def validL (other : Nat → Bool) (s : Str) : Bool := decide (1 ≤ s.length) && (decide (s.length ≤ 32) && s.all fun c => letterN c.toNat || other c.toNat)
def localL (s : Str) : Bool := validL locN s
def serverL (s : Str) : Bool := validL srvN s && (letterN ((s.headD 0).toNat) && letterN ((s.getLastD 0).toNat))
def cutC : Str → Option (Str × Str)
 | [] => none
 | c :: r => if c = 58 then some ([], r) else (cutC r).map fun p => (c :: p.1, p.2)
def splitP (ms : Str) : Str → Option (Str × Str)
 | [] => none
 | c :: r => if ms.contains c then (match cutC r with
  | some (a, b) => if localL a && serverL b then some (a, b) else none
  | none => none) else none
def userE (s : Str) : Int := if (splitP [64] s).isSome then 0 else 3
def serverOf (s : Str) : Str := match splitP [64, 33] s with
 | some (_, b) => b
 | none => []
theorem index_cut : ∀ (s : Str), (match cutC s with
  | some (a, b) => Go.Lib.indexByte s 58 = (a.length : Int) ∧ s = a ++ 58 :: b
  | none => Go.Lib.indexByte s 58 = -1)
 | [] => rfl
 | c :: r => by
  have ih := index_cut r
  unfold cutC
  by_cases h : c = 58
  ·rw [if_pos h]
   subst h
   exact ⟨rfl, rfl⟩
  ·rw [if_neg h]
   have hb : (c == 58) = false := beq_eq_false_iff_ne.2 h
   cases hc : cutC r with
   | none =>
    rw [hc] at ih
    show Go.Lib.indexByte (c :: r) 58 = -1
    have ih' : Go.Lib.indexByte r 58 = -1 := ih
    unfold Go.Lib.indexByte
    rw [hb, ih']
    rfl
   | some p =>
    obtain ⟨a, b⟩ := p
    rw [hc] at ih
    obtain ⟨h1, h2⟩ : Go.Lib.indexByte r 58 = (a.length : Int) ∧ r = a ++ 58 :: b := ih
    show Go.Lib.indexByte (c :: r) 58 = ((c :: a).length : Int) ∧ c :: r = (c :: a) ++ 58 :: b
    refine ⟨?_, by rw [h2]; rfl⟩
    unfold Go.Lib.indexByte
    rw [hb, h1]
    have : ((a.length : Int) == -1) = false := by rw [beq_eq_false_iff_ne]; omega
    rw [this]
    simp
theorem lib_cut (s : Str) : Go.Lib.cut s [58] = match cutC s with
  | some (a, b) => (a, b, true)
  | none => (s, [], false) := by
 have h := index_cut s
 unfold Go.Lib.cut
 rw [Go.Lib.index_one]
 cases hc : cutC s with
 | none =>
  rw [hc] at h
  have h' : Go.Lib.indexByte s 58 = -1 := h
  rw [h']
  rfl
 | some p =>
  obtain ⟨a, b⟩ := p
  rw [hc] at h
  obtain ⟨h1, h2⟩ : Go.Lib.indexByte s 58 = (a.length : Int) ∧ s = a ++ 58 :: b := h
  show (if _ then _ else _) = (a, b, true)
  rw [h1, if_pos (by omega)]
  rw [h2]
  simp
theorem cutC_len : ∀ (s a b : Str), cutC s = some (a, b) → a.length + b.length < s.length
 | [], a, b, h => by cases h
 | c :: r, a, b, h => by
  unfold cutC at h
  split at h
  ·injection h with h
   injection h with h1 h2
   subst h1
   subst h2
   simp
  ·obtain ⟨p, hp, he⟩ := Option.map_eq_some_iff.1 h
   obtain ⟨a', b'⟩ := p
   have := cutC_len r a' b' hp
   injection he with h1 h2
   subst h1
   subst h2
   simp only [List.length_cons] at this ⊢
   omega
theorem all_fail {p : UInt8 → Bool} {s : Str} {k : Nat} {c : UInt8} (h : s[k]? = some c) (hc : p c = false) : s.all p = false := by
 cases ha : s.all p with
 | false => rfl
 | true =>
  rw [List.all_eq_true] at ha
  rw [ha c (List.mem_of_getElem? h)] at hc
  cases hc
theorem all_done {p : UInt8 → Bool} {s : Str} (h : ∀ c ∈ s.take s.length, p c = true) : s.all p = true := by
 rw [List.all_eq_true]
 rw [List.take_length] at h
 exact h
end Pr
/- The text Ca. -/
namespace Co
structure Lv where
 users : List (Str × Int)
 kinds : List (Int × Int)
 lu : Int
 lm : Int
 ls : Int
 li : Int
 lk : Int
 lb : Int
 lr : Int
def lvOf (e : Ev) : Lv := ⟨e.users, e.kinds, e.lu, e.lm, e.ls, e.li, e.lk, e.lb, e.lr⟩
def lvDefault (c : Str) : Lv := ⟨if c = [] then [] else [(c, 100)], [], 0, 0, 0, 0, 50, 50, 50⟩
def isKind (k : Int) (e : Ev) : Bool := e.kind == k
def isMem (u : Str) (e : Ev) : Bool := e.kind == 2 && e.key == u
def createOf (l : List Ev) : Option Ev := l.find? (isKind 1)
def creatorOf (l : List Ev) : Str := match createOf l with
 | some e => e.sender
 | none => []
def memOf (l : List Ev) (u : Str) : Int := match l.find? (isMem u) with
 | some e => e.n
 | none => 0
def levelsOf (l : List Ev) : Lv := match l.find? (isKind 3) with
 | some e => lvOf e
 | none => lvDefault (creatorOf l)
def rulesOf (l : List Ev) : Int := match l.find? (isKind 4) with
 | some e => e.n
 | none => 0
def userLv (v : Lv) (u : Str) : Int := match v.users.find? (fun p => p.1 == u) with
 | some p => p.2
 | none => v.lu
def stateK (k : Int) : Bool := decide (1 ≤ k) && decide (k ≤ 10)
def needs (v : Lv) (k : Int) : Int := match v.kinds.find? (fun p => p.1 == k) with
 | some p => p.2
 | none => if stateK k then v.ls else v.lm
def barred (own was is : Int) : Bool := was != is && (decide (own < was) || decide (own < is))
def numsBad (a b : Lv) (own : Int) : Bool := barred own a.lu b.lu || (barred own a.lm b.lm || (barred own a.ls b.ls || (barred own a.li b.li || (barred own a.lk b.lk || (barred own a.lb b.lb || barred own a.lr b.lr)))))
def kindBad (a b : Lv) (own : Int) (p : Int × Int) : Bool := barred own (needs a p.1) (needs b p.1)
def userBad (a b : Lv) (own : Int) (user : Str) (p : Str × Int) : Bool := barred own (userLv a p.1) (userLv b p.1) || (userLv a p.1 != userLv b p.1 && (!(p.1 == user) && decide (own ≤ userLv a p.1)))
def changeB (a b : Lv) (user : Str) : Bool := numsBad a b (userLv a user) || ((a.kinds.any (kindBad a b (userLv a user)) || b.kinds.any (kindBad a b (userLv a user))) || (a.users.any (userBad a b (userLv a user) user) || b.users.any (userBad a b (userLv a user) user)))
def changeE (a b : Lv) (user : Str) : Int := if changeB a b user then 20 else 0
def joinE (rule now : Int) : Int := if now = 3 ∨ rule = 1 ∨ (now = 1 ∧ (rule = 0 ∨ rule = 2 ∨ rule = 3)) then 0 else 21
def knockE (rule now : Int) : Int := if rule = 2 ∧ (now = 0 ∨ now = 2) then 0 else 21
def move (a b : Int) (self : Bool) : Bool :=
 if a < 0 ∨ 4 < a then false
 else if b = 3 then self && a != 4
 else if b = 0 then a == 1 || (a == 2 || (a == 3 || (a == 4 && !self)))
 else if b = 2 then self && (a == 0 || a == 2)
 else if b = 1 then !self && (a == 0 || (a == 2 || a == 1))
 else if b = 4 then !self
 else false
def firstB (e : Ev) (l : List Ev) : Bool := match createOf l with
 | none => false
 | some c => e.prev == [c.id] && (e.sender == c.sender && (e.key == c.sender && (e.n == 3 && (l.find? (isMem e.key)).isNone)))
def selfE (e : Ev) (l : List Ev) : Int := if e.n = 3 then joinE (rulesOf l) (memOf l e.key) else if e.n = 2 then knockE (rulesOf l) (memOf l e.key) else 0
def otherE (e : Ev) (l : List Ev) : Int :=
 if memOf l e.sender ≠ 3 then 18
 else if e.n = 1 ∧ userLv (levelsOf l) e.sender < (levelsOf l).li then 20
 else if e.n = 0 ∧ ((memOf l e.key = 4 ∧ userLv (levelsOf l) e.sender < (levelsOf l).lb) ∨ userLv (levelsOf l) e.sender < (levelsOf l).lk ∨ userLv (levelsOf l) e.sender ≤ userLv (levelsOf l) e.key) then 20
 else if e.n = 4 ∧ (userLv (levelsOf l) e.sender < (levelsOf l).lb ∨ userLv (levelsOf l) e.sender ≤ userLv (levelsOf l) e.key) then 20
 else 0
def memberE (e : Ev) (l : List Ev) : Int :=
 if firstB e l then 0
 else if (e.key == e.sender) = true ∧ memOf l e.key = 4 then 19
 else if move (memOf l e.key) e.n (e.key == e.sender) = false then 18
 else if e.key == e.sender then selfE e l
 else otherE e l
def levelE (e : Ev) (l : List Ev) : Int :=
 if userLv (levelsOf l) e.sender < needs (levelsOf l) e.kind then 20
 else if e.kind = 3 then changeE (levelsOf l) (lvOf e) e.sender
 else 0
def sameServer (e : Ev) : Bool := Pr.serverOf e.sender == Pr.serverOf e.room
def allowedE (e : Ev) (l : List Ev) : Int :=
 if e.kind = 1 then (if (createOf l).isNone = true ∧ sameServer e = true then 0 else 17)
 else if (createOf l).isNone = true then 17
 else if e.kind = 2 then memberE e l
 else if memOf l e.sender ≠ 3 then 18
 else levelE e l
def idK (l : List Ev) (k : Int) : Int := match l.find? (isKind k) with
 | some e => e.id
 | none => 0
def idM (l : List Ev) (u : Str) : Int := match l.find? (isMem u) with
 | some e => e.id
 | none => 0
def ask (rule : Str) (id : Int) (broken : Bool) (err : Int) : Rn.Tr := .mk rule id (if broken then err else 0) []
def memberR (e : Ev) (l : List Ev) : List Rn.Tr :=
 if firstB e l then [ask [102, 105, 114, 115, 116, 45, 106, 111, 105, 110] (idK l 1) false 0]
 else
  (if e.key == e.sender then [ask [110, 111, 116, 45, 98, 97, 110, 110, 101, 100] (idM l e.key) (memOf l e.key == 4) 19] else []) ++
  (ask [109, 111, 118, 101] (idM l e.key) (!(move (memOf l e.key) e.n (e.key == e.sender))) 18 ::
  (if e.key == e.sender then
   (if e.n = 3 then [.mk [106, 111, 105, 110, 45, 114, 117, 108, 101] (idK l 4) (joinE (rulesOf l) (memOf l e.key)) []] else if e.n = 2 then [.mk [107, 110, 111, 99, 107, 45, 114, 117, 108, 101] (idK l 4) (knockE (rulesOf l) (memOf l e.key)) []] else [])
  else
   ask [115, 101, 110, 100, 101, 114, 45, 106, 111, 105, 110, 101, 100] (idM l e.sender) (memOf l e.sender != 3) 18 ::
   (if e.n = 1 then [ask [105, 110, 118, 105, 116, 101, 45, 108, 101, 118, 101, 108] (idK l 3) (decide (userLv (levelsOf l) e.sender < (levelsOf l).li)) 20]
   else if e.n = 0 then
    (if memOf l e.key = 4 then [ask [117, 110, 98, 97, 110, 45, 108, 101, 118, 101, 108] (idK l 3) (decide (userLv (levelsOf l) e.sender < (levelsOf l).lb)) 20] else []) ++
    [ask [107, 105, 99, 107, 45, 108, 101, 118, 101, 108] (idK l 3) (decide (userLv (levelsOf l) e.sender < (levelsOf l).lk)) 20, ask [107, 105, 99, 107, 45, 116, 97, 114, 103, 101, 116] (idK l 3) (decide (userLv (levelsOf l) e.sender ≤ userLv (levelsOf l) e.key)) 20]
   else if e.n = 4 then [ask [98, 97, 110, 45, 108, 101, 118, 101, 108] (idK l 3) (decide (userLv (levelsOf l) e.sender < (levelsOf l).lb)) 20, ask [98, 97, 110, 45, 116, 97, 114, 103, 101, 116] (idK l 3) (decide (userLv (levelsOf l) e.sender ≤ userLv (levelsOf l) e.key)) 20]
   else [])))
def rulesR (e : Ev) (l : List Ev) : List Rn.Tr :=
 if e.kind = 1 then [ask [99, 114, 101, 97, 116, 101, 45, 97, 108, 111, 110, 101] (idK l 1) (createOf l).isSome 17, ask [99, 114, 101, 97, 116, 101, 45, 115, 101, 114, 118, 101, 114] e.id (!(sameServer e)) 17]
 else ask [99, 114, 101, 97, 116, 105, 111, 110] (idK l 1) (createOf l).isNone 17 ::
  (if e.kind = 2 then memberR e l
  else ask [115, 101, 110, 100, 101, 114, 45, 106, 111, 105, 110, 101, 100] (idM l e.sender) (memOf l e.sender != 3) 18 :: ask [108, 101, 118, 101, 108] (idK l 3) (decide (userLv (levelsOf l) e.sender < needs (levelsOf l) e.kind)) 20 ::
   (if e.kind = 3 then [.mk [112, 111, 119, 101, 114, 45, 99, 104, 97, 110, 103, 101] (idK l 3) (changeE (levelsOf l) (lvOf e) e.sender) []] else []))
def upTo : List Rn.Tr → List Rn.Tr
 | [] => []
 | x :: r => if x.err = 0 then x :: upTo r else [x]
def lastE : List Rn.Tr → Int
 | [] => 0
 | x :: r => if x.err = 0 then lastE r else x.err
def whole (rule : Str) (id : Int) (l : List Rn.Tr) : Rn.Tr := .mk rule id (lastE l) (upTo l)
def allowedR (e : Ev) (l : List Ev) : Rn.Tr := .mk [97, 108, 108, 111, 119, 101, 100] e.id (allowedE e l) (upTo (rulesR e l))
theorem lastE_ask (rule : Str) (id : Int) (broken : Bool) (err : Int) (herr : err ≠ 0) (r : List Rn.Tr) : lastE (ask rule id broken err :: r) = if broken then err else lastE r := by
 cases broken
 ·rfl
 ·show (if err = 0 then lastE r else err) = err
  rw [if_neg herr]
theorem lastE_mk (rule : Str) (id err : Int) (r : List Rn.Tr) : lastE (.mk rule id err [] :: r) = if err = 0 then lastE r else err := rfl
theorem lastE_one (rule : Str) (id err : Int) : lastE [.mk rule id err []] = err := by
 rw [lastE_mk]
 by_cases h : err = 0
 ·rw [if_pos h, h]; rfl
 ·rw [if_neg h]
theorem member_last (e : Ev) (l : List Ev) : lastE (memberR e l) = memberE e l := by
 unfold memberR memberE
 by_cases hf : firstB e l = true
 ·rw [if_pos hf, if_pos hf]; rfl
 ·rw [if_neg hf, if_neg hf]
  by_cases hk : (e.key == e.sender) = true
  ·simp only [hk, if_true]
   rw [List.singleton_append, lastE_ask _ _ _ _ (by decide), lastE_ask _ _ _ _ (by decide)]
   unfold selfE
   by_cases h4 : memOf l e.key = 4
   ·simp [h4]
   ·have : (memOf l e.key == 4) = false := by rw [beq_eq_false_iff_ne]; exact h4
    simp only [this, h4, and_false, if_false, Bool.false_eq_true]
    cases move (memOf l e.key) e.n true with
    | false => rfl
    | true =>
     simp only [Bool.not_true, Bool.false_eq_true, if_false, Bool.true_eq_false]
     by_cases h3 : e.n = 3
     ·simp only [if_pos h3, lastE_one]
     ·by_cases h2 : e.n = 2
      ·simp only [if_neg h3, if_pos h2, lastE_one]
      ·simp only [if_neg h3, if_neg h2]; simp [lastE]
  ·have hk' : (e.key == e.sender) = false := by simpa using hk
   simp only [hk', Bool.false_eq_true, if_false]
   rw [List.nil_append, lastE_ask _ _ _ _ (by decide)]
   unfold otherE
   simp only [Bool.false_eq_true, false_and, if_false]
   cases move (memOf l e.key) e.n false with
   | false => rfl
   | true =>
    simp only [Bool.not_true, Bool.false_eq_true, if_false, Bool.true_eq_false]
    rw [lastE_ask _ _ _ _ (by decide)]
    generalize userLv (levelsOf l) e.sender = a
    generalize userLv (levelsOf l) e.key = b
    generalize memOf l e.key = M
    generalize memOf l e.sender = S
    generalize (levelsOf l).lb = vb
    generalize (levelsOf l).lk = vk
    generalize (levelsOf l).li = vi
    generalize e.n = n
    by_cases hj : S = 3
    ·subst hj
     rw [if_neg (show ¬((3 : Int) != 3) = true by decide), if_neg (show ¬((3 : Int) ≠ 3) by decide)]
     by_cases h1 : n = 1
     ·subst h1
      by_cases c : a < vi <;> simp [ask, lastE, Rn.Tr.err, c]
     ·by_cases h0 : n = 0
      ·subst h0
       by_cases c1 : M = 4 <;> by_cases c2 : a < vb <;> by_cases c3 : a < vk <;> by_cases c4 : a ≤ b <;> simp [ask, lastE, Rn.Tr.err, c1, c2, c3, c4]
      ·by_cases h4 : n = 4
       ·subst h4
        by_cases c2 : a < vb <;> by_cases c4 : a ≤ b <;> simp [ask, lastE, Rn.Tr.err, c2, c4]
       ·simp [lastE, h1, h0, h4]
    ·have : (S != 3) = true := by rw [bne_iff_ne]; exact hj
     rw [if_pos this, if_pos hj]
theorem rules_last (e : Ev) (l : List Ev) : lastE (rulesR e l) = allowedE e l := by
 unfold rulesR allowedE
 by_cases h1 : e.kind = 1
 ·rw [if_pos h1, if_pos h1, lastE_ask _ _ _ _ (by decide), lastE_ask _ _ _ _ (by decide)]
  cases createOf l <;> cases sameServer e <;> rfl
 ·rw [if_neg h1, if_neg h1, lastE_ask _ _ _ _ (by decide)]
  by_cases hc : (createOf l).isNone = true
  ·rw [if_pos hc, if_pos hc]
  ·rw [if_neg hc, if_neg hc]
   by_cases h2 : e.kind = 2
   ·rw [if_pos h2, if_pos h2, member_last]
   ·rw [if_neg h2, if_neg h2, lastE_ask _ _ _ _ (by decide), lastE_ask _ _ _ _ (by decide)]
    by_cases hj : memOf l e.sender = 3
    ·have : (memOf l e.sender != 3) = false := by rw [bne_eq_false_iff_eq]; exact hj
     rw [this, if_neg Bool.false_ne_true, if_neg (show ¬ (memOf l e.sender ≠ 3) from fun h => h hj)]
     unfold levelE
     simp only [decide_eq_true_eq]
     by_cases hl : userLv (levelsOf l) e.sender < needs (levelsOf l) e.kind
     ·simp [hl]
     ·by_cases h3 : e.kind = 3
      ·simp only [if_neg hl, if_pos h3, lastE_one]
      ·simp only [if_neg hl, if_neg h3]; rfl
    ·have : (memOf l e.sender != 3) = true := by rw [bne_iff_ne]; exact hj
     simp only [this, if_true, ne_eq, hj, not_false_eq_true]
theorem whole_allowed (e : Ev) (l : List Ev) : whole [97, 108, 108, 111, 119, 101, 100] e.id (rulesR e l) = allowedR e l := by unfold whole allowedR; rw [rules_last]
theorem upTo_ends : ∀ (l : List Rn.Tr) (i : Nat) (x : Rn.Tr), (upTo l)[i]? = some x → if i + 1 = (upTo l).length then x.err = lastE l else x.err = 0
 | [], i, x, h => by cases h
 | y :: r, i, x, h => by
  unfold upTo lastE at *
  by_cases hy : y.err = 0
  ·rw [if_pos hy] at h ⊢
   rw [if_pos hy]
   cases i with
   | zero =>
    injection h with h
    subst h
    rw [List.length_cons]
    by_cases hl : (upTo r).length = 0
    ·rw [if_pos (by omega), hy]
     cases r with
     | nil => rfl
     | cons z t =>
      exfalso
      unfold upTo at hl
      by_cases hz : z.err = 0
      ·rw [if_pos hz] at hl; simp at hl
      ·rw [if_neg hz] at hl; simp at hl
    ·rw [if_neg (by omega), hy]
   | succ i =>
    have := upTo_ends r i x h
    rw [List.length_cons]
    by_cases hi : i + 1 = (upTo r).length
    ·rw [if_pos hi] at this; rw [if_pos (by omega)]; exact this
    ·rw [if_neg hi] at this; rw [if_neg (by omega)]; exact this
  ·rw [if_neg hy] at h ⊢
   rw [if_neg hy]
   cases i with
   | zero => injection h with h; subst h; simp
   | succ i => simp at h
theorem rules_ne (e : Ev) (l : List Ev) : upTo (rulesR e l) ≠ [] := by
 have : ∀ (x : Rn.Tr) (r : List Rn.Tr), upTo (x :: r) ≠ [] := by
  intro x r
  unfold upTo
  split <;> simp
 unfold rulesR
 split <;> exact this _ _
end Co
/- The text Ka. -/
namespace Go.Proofs.YtacjhbbieeliaaaGreatDoor
open Go.RowKit Go.Lib
set_option linter.unusedVariables false
set_option linter.unusedSimpArgs false
abbrev zEv : Array Value := #[.int .i64 0, .string ⟨#[]⟩, .string ⟨#[]⟩, .int .i64 0, .bool false, .string ⟨#[]⟩, .int .i64 0, .int .i64 0, .slice none 0 0, .slice none 0 0, .string ⟨#[]⟩, .int .i64 0, .int .i64 0, .bool false, .string ⟨#[]⟩, .slice none 0 0, .slice none 0 0, .slice none 0 0, .slice none 0 0, .int .i64 0, .int .i64 0, .int .i64 0, .int .i64 0, .int .i64 0, .int .i64 0, .int .i64 0, .int .i64 0, .string ⟨#[]⟩, .int .i64 0]
theorem size_zev : (Tryz.prog.info? 34).map (·.size) = some zEv.size := by kernel_rfl
theorem zev_evV {ok : Nat → Prop} {w : World} : EvV ok w zEv.toList default := ⟨_, _, _, _, _, _, rfl, ⟨SlcOf.nil .., SlcOf.nil .., SlcOf.nil .., SlcOf.nil .., SlcOf.nil .., SlcOf.nil ..⟩⟩
theorem store_rowe {ops : Array Oper} {rest : List Oper} {o : Oper} {a : Act} {w : World} {Q : Exit → Act → World → Prop} (hgd : o.guard = none) (ty : TypeId) (x y : Operand) (ho : o.op = .store ty x y)
  (g : Nat) (cells : Array Value) (hx : a.eval x = .pointer (some ⟨g, 0, none⟩)) (hy : a.eval y = .agg cells)
  (t : TypeId) (old : Array Value) (hg : Blk w g t old) (hi : (Tryz.prog.info? ty).map (·.size) = some cells.size)
  (hold : old.size = cells.size) (h1 : cells.all (·.oneCell') = true)
  (h : wpList Tryz.prog ops Q rest (a.put o.dst undef) (w.setRow g cells)) : wpList Tryz.prog ops Q (o :: rest) a w := wpList_store_row hgd ty x y ho g cells hx hy t old hg hi hold h1 h
def FoundA (ok : Nat → Prop) (r : Option Co.Ev) (e : Ending) (w' : World) : Prop := ∃ V : Array Value, e = .returned (.tuple #[.agg V, .bool r.isSome]) ∧ EvV ok w' V.toList (r.getD default)
section
variable {ok : Nat → Prop} {w : World} {X : List Value} {e : Co.Ev}
theorem EvV.c0 (h : EvV ok w X e) : X[0]? = some (.int .i64 e.id) := by obtain ⟨_, _, _, _, _, _, rfl, _⟩ := h; rfl
theorem EvV.c1 (h : EvV ok w X e) : X[1]? = some (.string (bstr e.room)) := by obtain ⟨_, _, _, _, _, _, rfl, _⟩ := h; rfl
theorem EvV.c2 (h : EvV ok w X e) : X[2]? = some (.string (bstr e.sender)) := by obtain ⟨_, _, _, _, _, _, rfl, _⟩ := h; rfl
theorem EvV.c3 (h : EvV ok w X e) : X[3]? = some (.int .i64 e.kind) := by obtain ⟨_, _, _, _, _, _, rfl, _⟩ := h; rfl
theorem EvV.c4 (h : EvV ok w X e) : X[4]? = some (.bool e.state) := by obtain ⟨_, _, _, _, _, _, rfl, _⟩ := h; rfl
theorem EvV.c5 (h : EvV ok w X e) : X[5]? = some (.string (bstr e.key)) := by obtain ⟨_, _, _, _, _, _, rfl, _⟩ := h; rfl
theorem EvV.c6 (h : EvV ok w X e) : X[6]? = some (.int .i64 e.time) := by obtain ⟨_, _, _, _, _, _, rfl, _⟩ := h; rfl
theorem EvV.c7 (h : EvV ok w X e) : X[7]? = some (.int .i64 e.depth) := by obtain ⟨_, _, _, _, _, _, rfl, _⟩ := h; rfl
theorem EvV.c10 (h : EvV ok w X e) : X[10]? = some (.string (bstr e.text)) := by obtain ⟨_, _, _, _, _, _, rfl, _⟩ := h; rfl
theorem EvV.c11 (h : EvV ok w X e) : X[11]? = some (.int .i64 e.n) := by obtain ⟨_, _, _, _, _, _, rfl, _⟩ := h; rfl
theorem EvV.c12 (h : EvV ok w X e) : X[12]? = some (.int .i64 e.target) := by obtain ⟨_, _, _, _, _, _, rfl, _⟩ := h; rfl
theorem EvV.c13 (h : EvV ok w X e) : X[13]? = some (.bool e.thread) := by obtain ⟨_, _, _, _, _, _, rfl, _⟩ := h; rfl
theorem EvV.c14 (h : EvV ok w X e) : X[14]? = some (.string (bstr e.via)) := by obtain ⟨_, _, _, _, _, _, rfl, _⟩ := h; rfl
theorem EvV.c19 (h : EvV ok w X e) : X[19]? = some (.int .i64 e.lu) := by obtain ⟨_, _, _, _, _, _, rfl, _⟩ := h; rfl
theorem EvV.c20 (h : EvV ok w X e) : X[20]? = some (.int .i64 e.lm) := by obtain ⟨_, _, _, _, _, _, rfl, _⟩ := h; rfl
theorem EvV.c21 (h : EvV ok w X e) : X[21]? = some (.int .i64 e.ls) := by obtain ⟨_, _, _, _, _, _, rfl, _⟩ := h; rfl
theorem EvV.c22 (h : EvV ok w X e) : X[22]? = some (.int .i64 e.li) := by obtain ⟨_, _, _, _, _, _, rfl, _⟩ := h; rfl
theorem EvV.c23 (h : EvV ok w X e) : X[23]? = some (.int .i64 e.lk) := by obtain ⟨_, _, _, _, _, _, rfl, _⟩ := h; rfl
theorem EvV.c24 (h : EvV ok w X e) : X[24]? = some (.int .i64 e.lb) := by obtain ⟨_, _, _, _, _, _, rfl, _⟩ := h; rfl
theorem EvV.c25 (h : EvV ok w X e) : X[25]? = some (.int .i64 e.lr) := by obtain ⟨_, _, _, _, _, _, rfl, _⟩ := h; rfl
theorem EvV.c26 (h : EvV ok w X e) : X[26]? = some (.int .i64 e.hash) := by obtain ⟨_, _, _, _, _, _, rfl, _⟩ := h; rfl
theorem EvV.c27 (h : EvV ok w X e) : X[27]? = some (.string (bstr e.sigS)) := by obtain ⟨_, _, _, _, _, _, rfl, _⟩ := h; rfl
theorem EvV.c28 (h : EvV ok w X e) : X[28]? = some (.int .i64 e.sigN) := by obtain ⟨_, _, _, _, _, _, rfl, _⟩ := h; rfl
end
theorem create_any (ok : Nat → Prop) (l : List Co.Ev) (A : Option Addr) (cap : Nat) (w : World) (h : EvRow ok w A l) (hl : l.length ≤ 1000000) :
  Calls Tryz.prog 37 #[.slice A l.length cap] w fun e w' => FoundA ok (l.find? (Co.isKind 1)) e w' ∧ Below w.heap.size w w' := by
 have HROW := hid h
 have hb0 := (Below.refl w.heap.size w).alloc (Nat.le_refl _) (.cells zEv 34)
 have HB0 := hid hb0
 have HKZ0 := hid (Blk.new w 34 zEv)
 obtain ⟨R, hR⟩ : ∃ R, R = l.find? (Co.isKind 1) := ⟨_, rfl⟩
 have HR0 : Hid ((l.drop 0).find? (Co.isKind 1) = R) := hid (by rw [hR]; rfl)
 rw [← hR]
 clear h hR hb0
 generalize hw1 : w.alloc (.cells zEv 34) = w1 at *
 go_enter Tryz.func37, Tryz.ntmps37
 go_wp2_with fail
 go_loopw [8] (fun ix wr => ∃ k : Nat, k ≤ l.length ∧ ix = .int .i64 (k : Int) ∧ Hid ((l.drop k).find? (Co.isKind 1) = R) ∧ Blk wr w.heap.size 34 zEv ∧ Below w.heap.size w wr) (fun ix _ => l.length - (RowKit.intOf ix).toNat)
 case atStart => exact ⟨0, Nat.zero_le _, rfl, HR0, HKZ0.out, HB0.out⟩
 case round =>
  obtain ⟨k, hk, rfl, HF, hkz, hb⟩ := hrel
  have HB := hid hb
  have HKZ := hid hkz
  have hwr : w.heap.size < wr.heap.size := hkz.lt
  by_cases hlt : k < l.length
  ·obtain ⟨x, b, off, X, hx, rfl, hok, hbl, hr, hv⟩ := HROW.out.at_ hlt
   have hrr : wr.rangeAt b (off + k * 29) X := range_keep hr (hb.block b hbl)
   have HV := hid hv
   have hone := EvS.all hv
   have HL2 := hid (size_evL hv)
   have HL3 := hid (size_evA hv)
   have HSZ : Hid (zEv.size = X.toArray.size) := hid (by show 29 = X.toArray.size; rw [List.size_toArray, hv.len])
   have HXX : Hid (X.toArray.toList = X) := hid rfl
   have HFD := hid (Co.find_drop (Co.isKind 1) l k x hx)
   have hcnt : k + 1 ≤ l.length := hlt
   clear hb hkz hr hv hx
   by_cases hkd : x.kind = 1
   ·have HRX : Hid (R = some x) := hid (by rw [← HF.out, HFD.out]; simp [Co.isKind, hkd])
    have hkb : (x.kind == 1) = true := by rw [beq_iff_eq]; exact hkd
    clear hkd
    go_upto_region 5 with (first
      | ((with_reducible refine wpList_load_mid rfl 34 _ rfl b (off + k * 29) ?_ X _ hrr Tryz.underlying34 ?_ HL2.out ?_); rfl; rfl)
      | ((with_reducible refine wpList_store_row' rfl 34 _ _ rfl wr.heap.size X.toArray ?_ ?_ 34 _ (Blk.new wr 34 _) HL3.out ?_ hone ?_); rfl; rfl; exact HSZ.out; intro w2 hk2 hs2 hbl2; have hc3 : w2.cell? ⟨wr.heap.size, 3, none⟩ = some (.int .i64 x.kind) := (hk2.cell 3).trans (by rw [List.getElem?_toArray]; exact HV.out.c3)))
    have HEB : Hid (Below w.heap.size w w2) := hid (HB.out.trans (((Below.refl wr.heap.size wr).alloc (Nat.le_refl _) (.cells zEv 34)).trans (hbl2 _ (Nat.le_refl _)) |>.mono (by omega)))
    have HKZ2 : Hid (Blk w2 w.heap.size 34 zEv) := hid ((HKZ.out.alloc (.cells zEv 34)).below (hbl2 wr.heap.size (Nat.le_refl _)) hwr)
    have HK2 := hid hk2
    clear hk2 hs2 hbl2
    go_wp2_with (first
     | (refine wpList_load_row rfl 34 _ rfl wr.heap.size rfl 34 X.toArray (0, 0) _ HK2.out Tryz.underlying34 rfl HL3.out ?_)
     | ((with_reducible refine store_rowe rfl 34 _ _ rfl w.heap.size X.toArray ?_ ?_ 34 zEv HKZ2.out HL3.out ?_ hone ?_); rfl; rfl; exact HSZ.out))
    have hbf := below_setRow HEB.out (Nat.le_refl _) X.toArray
    refine bodyPost_ret (results_row_tmp rfl _ _ w.heap.size _ _ _ rfl (setRow_heap _ _ _ _ _ _ HKZ2.out) Tryz.underlying34 rfl HL3.out) rfl ⟨⟨X.toArray, by rw [HRX.out]; rfl, by rw [HRX.out]; exact HV.out.bel hbf⟩, hbf⟩
   ·have HRX : Hid ((l.drop (k + 1)).find? (Co.isKind 1) = R) := hid (by rw [← HF.out, HFD.out]; simp [Co.isKind, hkd])
    have hkb : (x.kind == 1) = false := by rw [beq_eq_false_iff_ne]; exact hkd
    clear hkd
    go_wp2_with (first
      | ((with_reducible refine wpList_load_mid rfl 34 _ rfl b (off + k * 29) ?_ X _ hrr Tryz.underlying34 ?_ HL2.out ?_); rfl; rfl)
      | ((with_reducible refine wpList_store_row' rfl 34 _ _ rfl wr.heap.size X.toArray ?_ ?_ 34 _ (Blk.new wr 34 _) HL3.out ?_ hone ?_); rfl; rfl; exact HSZ.out; intro w2 hk2 hs2 hbl2; have hc3 : w2.cell? ⟨wr.heap.size, 3, none⟩ = some (.int .i64 x.kind) := (hk2.cell 3).trans (by rw [List.getElem?_toArray]; exact HV.out.c3)))
    have HEB : Hid (Below w.heap.size w w2) := hid (HB.out.trans (((Below.refl wr.heap.size wr).alloc (Nat.le_refl _) (.cells zEv 34)).trans (hbl2 _ (Nat.le_refl _)) |>.mono (by omega)))
    have HKZ2 : Hid (Blk w2 w.heap.size 34 zEv) := hid ((HKZ.out.alloc (.cells zEv 34)).below (hbl2 wr.heap.size (Nat.le_refl _)) hwr)
    go_roundw
    case rel => exact ⟨k + 1, hlt, by go_num, HRX, HKZ2.out, HEB.out⟩
    case measure => simp [RowKit.intOf]; omega
  ·obtain rfl : k = l.length := by omega
   have HFN : Hid (R = none) := hid (by rw [← HF.out, List.drop_length]; rfl)
   clear hb hkz
   go_wp2_with ((with_reducible refine store_rowe rfl 34 _ _ rfl w.heap.size zEv ?_ ?_ 34 zEv HKZ.out size_zev ?_ (by kernel_rfl) ?_); rfl; rfl; rfl)
   refine bodyPost_ret (results_row_tmp rfl _ _ w.heap.size _ _ _ rfl (setRow_heap _ _ _ _ _ _ HKZ.out) Tryz.underlying34 rfl size_zev) rfl ⟨⟨zEv, by rw [HFN.out]; rfl, by rw [HFN.out]; exact zev_evV⟩, below_setRow HB.out (Nat.le_refl _) _⟩
theorem first_any (ok : Nat → Prop) (l : List Co.Ev) (A : Option Addr) (cap : Nat) (kk : Int) (w : World) (h : EvRow ok w A l) (hl : l.length ≤ 1000000) :
  Calls Tryz.prog 13 #[.slice A l.length cap, .int .i64 kk, .slice none 0 0] w fun e w' => FoundA ok (l.find? (Co.isKind kk)) e w' ∧ Below w.heap.size w w' := by
 have HROW := hid h
 have hb0 := (Below.refl w.heap.size w).alloc (Nat.le_refl _) (.cells zEv 34)
 have HB0 := hid hb0
 have HKZ0 := hid (Blk.new w 34 zEv)
 obtain ⟨R, hR⟩ : ∃ R, R = l.find? (Co.isKind kk) := ⟨_, rfl⟩
 have HR0 : Hid ((l.drop 0).find? (Co.isKind kk) = R) := hid (by rw [hR]; rfl)
 rw [← hR]
 clear h hR hb0
 generalize hw1 : w.alloc (.cells zEv 34) = w1 at *
 go_enter Tryz.func13, Tryz.ntmps13
 go_wp2_with fail
 go_loopw [12] (fun ix wr => ∃ k : Nat, k ≤ l.length ∧ ix = .int .i64 (k : Int) ∧ Hid ((l.drop k).find? (Co.isKind kk) = R) ∧ Blk wr w.heap.size 34 zEv ∧ Below w.heap.size w wr) (fun ix _ => l.length - (RowKit.intOf ix).toNat)
 case atStart => exact ⟨0, Nat.zero_le _, rfl, HR0, HKZ0.out, HB0.out⟩
 case round =>
  obtain ⟨k, hk, rfl, HF, hkz, hb⟩ := hrel
  have HB := hid hb
  have HKZ := hid hkz
  have hwr : w.heap.size < wr.heap.size := hkz.lt
  by_cases hlt : k < l.length
  ·obtain ⟨x, b, off, X, hx, rfl, hok, hbl, hr, hv⟩ := HROW.out.at_ hlt
   have hrr : wr.rangeAt b (off + k * 29) X := range_keep hr (hb.block b hbl)
   have HV := hid hv
   have hone := EvS.all hv
   have HL2 := hid (size_evL hv)
   have HL3 := hid (size_evA hv)
   have HSZ : Hid (zEv.size = X.toArray.size) := hid (by show 29 = X.toArray.size; rw [List.size_toArray, hv.len])
   have HXX : Hid (X.toArray.toList = X) := hid rfl
   have HFD := hid (Co.find_drop (Co.isKind kk) l k x hx)
   have hcnt : k + 1 ≤ l.length := hlt
   clear hb hkz hr hv hx
   by_cases hkd : x.kind = kk
   ·have HRX : Hid (R = some x) := hid (by rw [← HF.out, HFD.out]; simp [Co.isKind, hkd])
    have hkb : (x.kind == kk) = true := by rw [beq_iff_eq]; exact hkd
    clear hkd
    go_wp2_with (first
      | ((with_reducible refine wpList_load_mid rfl 34 _ rfl b (off + k * 29) ?_ X _ hrr Tryz.underlying34 ?_ HL2.out ?_); rfl; rfl)
      | ((with_reducible refine wpList_store_row' rfl 34 _ _ rfl wr.heap.size X.toArray ?_ ?_ 34 _ (Blk.new wr 34 _) HL3.out ?_ hone ?_); rfl; rfl; exact HSZ.out; intro w2 hk2 hs2 hbl2; have hc3 : w2.cell? ⟨wr.heap.size, 3, none⟩ = some (.int .i64 x.kind) := (hk2.cell 3).trans (by rw [List.getElem?_toArray]; exact HV.out.c3)))
    go_quiet (fail)
    have HEB : Hid (Below w.heap.size w (w2.drewN nq)) := hid (below_drewN (HB.out.trans (((Below.refl wr.heap.size wr).alloc (Nat.le_refl _) (.cells zEv 34)).trans (hbl2 _ (Nat.le_refl _)) |>.mono (by omega))) nq)
    have HKZ2 : Hid (Blk (w2.drewN nq) w.heap.size 34 zEv) := hid (Blk.drewN ((HKZ.out.alloc (.cells zEv 34)).below (hbl2 wr.heap.size (Nat.le_refl _)) hwr) nq)
    have HK2 := hid (hk2.drewN nq)
    clear hk2 hs2 hbl2
    go_wp2_with (first
     | (refine wpList_load_row rfl 34 _ rfl wr.heap.size rfl 34 X.toArray (0, 0) _ HK2.out Tryz.underlying34 rfl HL3.out ?_)
     | ((with_reducible refine store_rowe rfl 34 _ _ rfl w.heap.size X.toArray ?_ ?_ 34 zEv HKZ2.out HL3.out ?_ hone ?_); rfl; rfl; exact HSZ.out))
    have hbf := below_setRow HEB.out (Nat.le_refl _) X.toArray
    refine bodyPost_ret (results_row_tmp rfl _ _ w.heap.size _ _ _ rfl (setRow_heap _ _ _ _ _ _ HKZ2.out) Tryz.underlying34 rfl HL3.out) rfl ⟨⟨X.toArray, by rw [HRX.out]; rfl, by rw [HRX.out]; exact HV.out.bel hbf⟩, hbf⟩
   ·have HRX : Hid ((l.drop (k + 1)).find? (Co.isKind kk) = R) := hid (by rw [← HF.out, HFD.out]; simp [Co.isKind, hkd])
    have hkb : (x.kind == kk) = false := by rw [beq_eq_false_iff_ne]; exact hkd
    clear hkd
    go_wp2_with (first
      | ((with_reducible refine wpList_load_mid rfl 34 _ rfl b (off + k * 29) ?_ X _ hrr Tryz.underlying34 ?_ HL2.out ?_); rfl; rfl)
      | ((with_reducible refine wpList_store_row' rfl 34 _ _ rfl wr.heap.size X.toArray ?_ ?_ 34 _ (Blk.new wr 34 _) HL3.out ?_ hone ?_); rfl; rfl; exact HSZ.out; intro w2 hk2 hs2 hbl2; have hc3 : w2.cell? ⟨wr.heap.size, 3, none⟩ = some (.int .i64 x.kind) := (hk2.cell 3).trans (by rw [List.getElem?_toArray]; exact HV.out.c3)))
    go_quiet (fail)
    have HEB : Hid (Below w.heap.size w (w2.drewN nq)) := hid (below_drewN (HB.out.trans (((Below.refl wr.heap.size wr).alloc (Nat.le_refl _) (.cells zEv 34)).trans (hbl2 _ (Nat.le_refl _)) |>.mono (by omega))) nq)
    have HKZ2 : Hid (Blk (w2.drewN nq) w.heap.size 34 zEv) := hid (Blk.drewN ((HKZ.out.alloc (.cells zEv 34)).below (hbl2 wr.heap.size (Nat.le_refl _)) hwr) nq)
    go_wp2_with fail
    go_roundw
    case rel => exact ⟨k + 1, hlt, by go_num, HRX, HKZ2.out, HEB.out⟩
    case measure => simp [RowKit.intOf]; omega
  ·obtain rfl : k = l.length := by omega
   have HFN : Hid (R = none) := hid (by rw [← HF.out, List.drop_length]; rfl)
   clear hb hkz
   go_wp2_with ((with_reducible refine store_rowe rfl 34 _ _ rfl w.heap.size zEv ?_ ?_ 34 zEv HKZ.out size_zev ?_ (by kernel_rfl) ?_); rfl; rfl; rfl)
   refine bodyPost_ret (results_row_tmp rfl _ _ w.heap.size _ _ _ rfl (setRow_heap _ _ _ _ _ _ HKZ.out) Tryz.underlying34 rfl size_zev) rfl ⟨⟨zEv, by rw [HFN.out]; rfl, by rw [HFN.out]; exact zev_evV⟩, below_setRow HB.out (Nat.le_refl _) _⟩
theorem firstk_any (ok : Nat → Prop) (l : List Co.Ev) (A : Option Addr) (cap : Nat) (u : List UInt8) (kb ko kc : Nat) (w : World) (h : EvRow ok w A l) (hl : l.length ≤ 1000000) (hkey : w.cell? ⟨kb, ko, none⟩ = some (.string (bstr u))) :
  Calls Tryz.prog 13 #[.slice A l.length cap, .int .i64 2, .slice (some ⟨kb, ko, none⟩) 1 kc] w fun e w' => FoundA ok (l.find? (Co.isMem u)) e w' ∧ Below w.heap.size w w' := by
 have HROW := hid h
 have hb0 := (Below.refl w.heap.size w).alloc (Nat.le_refl _) (.cells zEv 34)
 have HB0 := hid hb0
 have HKZ0 := hid (Blk.new w 34 zEv)
 obtain ⟨R, hR⟩ : ∃ R, R = l.find? (Co.isMem u) := ⟨_, rfl⟩
 have HR0 : Hid ((l.drop 0).find? (Co.isMem u) = R) := hid (by rw [hR]; rfl)
 rw [← hR]
 have HKEY := hid (And.intro (block_lt hkey) hkey)
 clear hkey
 clear h hR hb0
 generalize hw1 : w.alloc (.cells zEv 34) = w1 at *
 go_enter Tryz.func13, Tryz.ntmps13
 go_wp2_with fail
 go_loopw [12] (fun ix wr => ∃ k : Nat, k ≤ l.length ∧ ix = .int .i64 (k : Int) ∧ Hid ((l.drop k).find? (Co.isMem u) = R) ∧ Blk wr w.heap.size 34 zEv ∧ Below w.heap.size w wr) (fun ix _ => l.length - (RowKit.intOf ix).toNat)
 case atStart => exact ⟨0, Nat.zero_le _, rfl, HR0, HKZ0.out, HB0.out⟩
 case round =>
  obtain ⟨k, hk, rfl, HF, hkz, hb⟩ := hrel
  have HB := hid hb
  have HKZ := hid hkz
  have hwr : w.heap.size < wr.heap.size := hkz.lt
  by_cases hlt : k < l.length
  ·obtain ⟨x, b, off, X, hx, rfl, hok, hbl, hr, hv⟩ := HROW.out.at_ hlt
   have hrr : wr.rangeAt b (off + k * 29) X := range_keep hr (hb.block b hbl)
   have HV := hid hv
   have hone := EvS.all hv
   have HL2 := hid (size_evL hv)
   have HL3 := hid (size_evA hv)
   have HSZ : Hid (zEv.size = X.toArray.size) := hid (by show 29 = X.toArray.size; rw [List.size_toArray, hv.len])
   have HXX : Hid (X.toArray.toList = X) := hid rfl
   have HFD := hid (Co.find_drop (Co.isMem u) l k x hx)
   have hcnt : k + 1 ≤ l.length := hlt
   clear hb hkz hr hv hx
   by_cases hkd : x.kind = 2
   ·have hkb : (x.kind == 2) = true := by rw [beq_iff_eq]; exact hkd
    by_cases hkx : x.key = u
    ·have HRX : Hid (R = some x) := hid (by rw [← HF.out, HFD.out]; simp [Co.isMem, hkd, hkx])
     have hse := str_dec x.key (bstr u)
     rw [show (bstr u).data.toList = u from rfl, decide_eq_true hkx] at hse
     clear hkd hkx
     go_wp2_with (first
       | ((with_reducible refine wpList_load_mid rfl 34 _ rfl b (off + k * 29) ?_ X _ hrr Tryz.underlying34 ?_ HL2.out ?_); rfl; rfl)
       | ((with_reducible refine wpList_store_row' rfl 34 _ _ rfl wr.heap.size X.toArray ?_ ?_ 34 _ (Blk.new wr 34 _) HL3.out ?_ hone ?_); rfl; rfl; exact HSZ.out; intro w2 hk2 hs2 hbl2; have hc3 : w2.cell? ⟨wr.heap.size, 3, none⟩ = some (.int .i64 x.kind) := (hk2.cell 3).trans (by rw [List.getElem?_toArray]; exact HV.out.c3); have hc5 : w2.cell? ⟨wr.heap.size, 5, none⟩ = some (.string (bstr x.key)) := (hk2.cell 5).trans (by rw [List.getElem?_toArray]; exact HV.out.c5); have hbw2 := hid (((Below.refl wr.heap.size wr).alloc (Nat.le_refl _) (.cells zEv 34)).trans (hbl2 wr.heap.size (Nat.le_refl _))); have hkc : w2.cell? ⟨kb, ko, none⟩ = some (.string (bstr u)) := ((HB.out.trans (hbw2.out.mono (by omega))).cell (p := ⟨kb, ko, none⟩) HKEY.out.1).trans HKEY.out.2))
     go_quiet (fail)
     have HEB : Hid (Below w.heap.size w (w2.drewN nq)) := hid (below_drewN (HB.out.trans (((Below.refl wr.heap.size wr).alloc (Nat.le_refl _) (.cells zEv 34)).trans (hbl2 _ (Nat.le_refl _)) |>.mono (by omega))) nq)
     have HKZ2 : Hid (Blk (w2.drewN nq) w.heap.size 34 zEv) := hid (Blk.drewN ((HKZ.out.alloc (.cells zEv 34)).below (hbl2 wr.heap.size (Nat.le_refl _)) hwr) nq)
     have HK2 := hid (hk2.drewN nq)
     clear hk2 hs2 hbl2
     go_wp2_with (first
      | (refine wpList_load_row rfl 34 _ rfl wr.heap.size rfl 34 X.toArray (0, 0) _ HK2.out Tryz.underlying34 rfl HL3.out ?_)
      | ((with_reducible refine store_rowe rfl 34 _ _ rfl w.heap.size X.toArray ?_ ?_ 34 zEv HKZ2.out HL3.out ?_ hone ?_); rfl; rfl; exact HSZ.out))
     have hbf := below_setRow HEB.out (Nat.le_refl _) X.toArray
     refine bodyPost_ret (results_row_tmp rfl _ _ w.heap.size _ _ _ rfl (setRow_heap _ _ _ _ _ _ HKZ2.out) Tryz.underlying34 rfl HL3.out) rfl ⟨⟨X.toArray, by rw [HRX.out]; rfl, by rw [HRX.out]; exact HV.out.bel hbf⟩, hbf⟩
    ·have HRX : Hid ((l.drop (k + 1)).find? (Co.isMem u) = R) := hid (by rw [← HF.out, HFD.out]; simp [Co.isMem, hkd, hkx])
     have hse := str_dec x.key (bstr u)
     rw [show (bstr u).data.toList = u from rfl, decide_eq_false hkx] at hse
     clear hkd hkx
     go_wp2_with (first
       | ((with_reducible refine wpList_load_mid rfl 34 _ rfl b (off + k * 29) ?_ X _ hrr Tryz.underlying34 ?_ HL2.out ?_); rfl; rfl)
       | ((with_reducible refine wpList_store_row' rfl 34 _ _ rfl wr.heap.size X.toArray ?_ ?_ 34 _ (Blk.new wr 34 _) HL3.out ?_ hone ?_); rfl; rfl; exact HSZ.out; intro w2 hk2 hs2 hbl2; have hc3 : w2.cell? ⟨wr.heap.size, 3, none⟩ = some (.int .i64 x.kind) := (hk2.cell 3).trans (by rw [List.getElem?_toArray]; exact HV.out.c3); have hc5 : w2.cell? ⟨wr.heap.size, 5, none⟩ = some (.string (bstr x.key)) := (hk2.cell 5).trans (by rw [List.getElem?_toArray]; exact HV.out.c5); have hbw2 := hid (((Below.refl wr.heap.size wr).alloc (Nat.le_refl _) (.cells zEv 34)).trans (hbl2 wr.heap.size (Nat.le_refl _))); have hkc : w2.cell? ⟨kb, ko, none⟩ = some (.string (bstr u)) := ((HB.out.trans (hbw2.out.mono (by omega))).cell (p := ⟨kb, ko, none⟩) HKEY.out.1).trans HKEY.out.2))
     go_quiet (fail)
     have HEB : Hid (Below w.heap.size w (w2.drewN nq)) := hid (below_drewN (HB.out.trans (((Below.refl wr.heap.size wr).alloc (Nat.le_refl _) (.cells zEv 34)).trans (hbl2 _ (Nat.le_refl _)) |>.mono (by omega))) nq)
     have HKZ2 : Hid (Blk (w2.drewN nq) w.heap.size 34 zEv) := hid (Blk.drewN ((HKZ.out.alloc (.cells zEv 34)).below (hbl2 wr.heap.size (Nat.le_refl _)) hwr) nq)
     go_wp2_with fail
     go_roundw
     case rel => exact ⟨k + 1, hlt, by go_num, HRX, HKZ2.out, HEB.out⟩
     case measure => simp [RowKit.intOf]; omega
   ·have hkb : (x.kind == 2) = false := by rw [beq_eq_false_iff_ne]; exact hkd
    have HRX : Hid ((l.drop (k + 1)).find? (Co.isMem u) = R) := hid (by rw [← HF.out, HFD.out]; simp [Co.isMem, hkd])
    clear hkd
    go_wp2_with (first
      | ((with_reducible refine wpList_load_mid rfl 34 _ rfl b (off + k * 29) ?_ X _ hrr Tryz.underlying34 ?_ HL2.out ?_); rfl; rfl)
      | ((with_reducible refine wpList_store_row' rfl 34 _ _ rfl wr.heap.size X.toArray ?_ ?_ 34 _ (Blk.new wr 34 _) HL3.out ?_ hone ?_); rfl; rfl; exact HSZ.out; intro w2 hk2 hs2 hbl2; have hc3 : w2.cell? ⟨wr.heap.size, 3, none⟩ = some (.int .i64 x.kind) := (hk2.cell 3).trans (by rw [List.getElem?_toArray]; exact HV.out.c3); have hc5 : w2.cell? ⟨wr.heap.size, 5, none⟩ = some (.string (bstr x.key)) := (hk2.cell 5).trans (by rw [List.getElem?_toArray]; exact HV.out.c5); have hbw2 := hid (((Below.refl wr.heap.size wr).alloc (Nat.le_refl _) (.cells zEv 34)).trans (hbl2 wr.heap.size (Nat.le_refl _))); have hkc : w2.cell? ⟨kb, ko, none⟩ = some (.string (bstr u)) := ((HB.out.trans (hbw2.out.mono (by omega))).cell (p := ⟨kb, ko, none⟩) HKEY.out.1).trans HKEY.out.2))
    go_quiet (fail)
    have HEB : Hid (Below w.heap.size w (w2.drewN nq)) := hid (below_drewN (HB.out.trans (((Below.refl wr.heap.size wr).alloc (Nat.le_refl _) (.cells zEv 34)).trans (hbl2 _ (Nat.le_refl _)) |>.mono (by omega))) nq)
    have HKZ2 : Hid (Blk (w2.drewN nq) w.heap.size 34 zEv) := hid (Blk.drewN ((HKZ.out.alloc (.cells zEv 34)).below (hbl2 wr.heap.size (Nat.le_refl _)) hwr) nq)
    go_wp2_with fail
    go_roundw
    case rel => exact ⟨k + 1, hlt, by go_num, HRX, HKZ2.out, HEB.out⟩
    case measure => simp [RowKit.intOf]; omega
  ·obtain rfl : k = l.length := by omega
   have HFN : Hid (R = none) := hid (by rw [← HF.out, List.drop_length]; rfl)
   clear hb hkz
   go_wp2_with ((with_reducible refine store_rowe rfl 34 _ _ rfl w.heap.size zEv ?_ ?_ 34 zEv HKZ.out size_zev ?_ (by kernel_rfl) ?_); rfl; rfl; rfl)
   refine bodyPost_ret (results_row_tmp rfl _ _ w.heap.size _ _ _ rfl (setRow_heap _ _ _ _ _ _ HKZ.out) Tryz.underlying34 rfl size_zev) rfl ⟨⟨zEv, by rw [HFN.out]; rfl, by rw [HFN.out]; exact zev_evV⟩, below_setRow HB.out (Nat.le_refl _) _⟩
end Go.Proofs.YtacjhbbieeliaaaGreatDoor
/- The text Kb. -/
namespace Go.Proofs.YtacjhbbieeliaaaGreatDoor
open Go.RowKit Go.Lib
set_option linter.unusedVariables false
set_option linter.unusedSimpArgs false
def nOf (r : Option Co.Ev) : Int := match r with
 | some e => e.n
 | none => 0
theorem memof_any (ok : Nat → Prop) (l : List Co.Ev) (A : Option Addr) (cap : Nat) (u : List UInt8) (w : World) (h : EvRow ok w A l) (hl : l.length ≤ 1000000) :
  Calls Tryz.prog 41 #[.slice A l.length cap, .string (bstr u)] w fun e w' => e = .returned (.int .i64 (Co.memOf l u)) ∧ w = w' := by
 have HROW := hid h
 obtain ⟨R, hR⟩ : ∃ R, R = l.find? (Co.isMem u) := ⟨_, rfl⟩
 have HR0 : Hid ((l.drop 0).find? (Co.isMem u) = R) := hid (by rw [hR]; rfl)
 have HM : Hid (Co.memOf l u = nOf R) := hid (by rw [hR]; rfl)
 generalize Co.memOf l u = M at *
 clear h hR
 go_enter Tryz.func41, Tryz.ntmps41
 go_wp2_with fail
 go_loop [8] (fun ix => ∃ k : Nat, k ≤ l.length ∧ ix = .int .i64 (k : Int) ∧ Hid ((l.drop k).find? (Co.isMem u) = R)) (fun ix => l.length - (RowKit.intOf ix).toNat)
 case atStart => exact ⟨0, Nat.zero_le _, rfl, HR0⟩
 case round =>
  obtain ⟨k, hk, rfl, HF⟩ := hrel
  by_cases hlt : k < l.length
  ·obtain ⟨x, b, off, X, hx, rfl, hok, hbl, hr, hv⟩ := HROW.out.at_ hlt
   have hrr : w.rangeAt b (off + k * 29) X := hr
   have hc3 := hrr 3 _ hv.c3
   have hc5 := hrr 5 _ hv.c5
   have hc11 := hrr 11 _ hv.c11
   have HFD := hid (Co.find_drop (Co.isMem u) l k x hx)
   have hcnt : k + 1 ≤ l.length := hlt
   clear hr hv hx hrr
   by_cases hkd : x.kind = 2
   ·have hkb : (x.kind == 2) = true := by rw [beq_iff_eq]; exact hkd
    have hse := str_dec x.key (bstr u)
    by_cases hkx : x.key = u
    ·have HRX : Hid (M = x.n) := hid (by rw [HM.out, ← HF.out, HFD.out]; simp [Co.isMem, hkd, hkx, nOf])
     rw [show (bstr u).data.toList = u from rfl, decide_eq_true hkx] at hse
     clear hkd hkx
     go_wp2_with fail
     go_ret
     exact ⟨by rw [HRX.out]; rfl, rfl⟩
    ·have HRX : Hid ((l.drop (k + 1)).find? (Co.isMem u) = R) := hid (by rw [← HF.out, HFD.out]; simp [Co.isMem, hkd, hkx])
     rw [show (bstr u).data.toList = u from rfl, decide_eq_false hkx] at hse
     clear hkd hkx
     go_wp2_with fail
     go_round
     case rel => exact ⟨k + 1, hlt, by go_num, HRX⟩
     case measure => simp [RowKit.intOf]; omega
   ·have hkb : (x.kind == 2) = false := by rw [beq_eq_false_iff_ne]; exact hkd
    have HRX : Hid ((l.drop (k + 1)).find? (Co.isMem u) = R) := hid (by rw [← HF.out, HFD.out]; simp [Co.isMem, hkd])
    clear hkd
    go_wp2_with fail
    go_round
    case rel => exact ⟨k + 1, hlt, by go_num, HRX⟩
    case measure => simp [RowKit.intOf]; omega
  ·obtain rfl : k = l.length := by omega
   have HFN : Hid (M = 0) := hid (by rw [HM.out, ← HF.out, List.drop_length]; rfl)
   go_wp2_with fail
   go_ret
   exact ⟨by rw [HFN.out]; rfl, rfl⟩
theorem idof_eq (r : Option Co.Ev) : (r.getD default).id = (match r with | some e => e.id | none => 0) := by cases r <;> rfl
theorem idof_any (ok : Nat → Prop) (l : List Co.Ev) (A : Option Addr) (cap : Nat) (kk : Int) (w : World) (h : EvRow ok w A l) (hl : l.length ≤ 1000000) :
  Calls Tryz.prog 15 #[.slice A l.length cap, .int .i64 kk, .slice none 0 0] w fun e w' => e = .returned (.int .i64 (Co.idK l kk)) ∧ Below w.heap.size w w' := by
 have HC := hid (first_any ok l A cap kk w h hl)
 obtain ⟨M, hM⟩ : ∃ M, M = Co.idK l kk := ⟨_, rfl⟩
 have HM := hid hM
 rw [← hM]
 clear h hM
 go_enter Tryz.func15, Tryz.ntmps15
 go_wp2_with fail
 refine HC.out.mono ?_
 rintro e w2 ⟨⟨V, rfl, hv⟩, hb⟩
 have hvl := hv.len
 rw [Array.length_toList] at hvl
 have HSX : Hid ((Tryz.prog.info? 34).map (·.size) = some V.size) := hid (by rw [size_ev, hvl])
 have HSZ : Hid (zEv.size = V.size) := hid hvl.symm
 have HOV : Hid (V.all (·.oneCell') = true) := hid (by have := EvS.all hv; rwa [Array.toArray_toList] at this)
 have HC0 : Hid (V[0]? = some (.int .i64 M)) := hid (by rw [HM.out]; have := hv.c0; rw [Array.getElem?_toList] at this; rw [this]; exact congrArg (fun n => some (Value.int .i64 n)) (idof_eq _))
 have HB := hid hb
 clear hb hv hvl
 go_wp2_with (((with_reducible refine store_rowe rfl 34 _ _ rfl w2.heap.size V ?_ ?_ 34 zEv (Blk.new w2 34 zEv) HSX.out HSZ.out HOV.out ?_); rfl; rfl; have hc0 : ((w2.alloc (.cells zEv 34)).setRow w2.heap.size V).cell? ⟨w2.heap.size, 0, none⟩ = some (.int .i64 M) := (Blk.cell (setRow_heap _ _ _ _ _ _ (Blk.new w2 34 zEv)) 0).trans HC0.out))
 go_ret
 exact ⟨rfl, below_setRow (HB.out.alloc HB.out.size (.cells zEv 34)) HB.out.size V⟩
theorem idofk_any (ok : Nat → Prop) (l : List Co.Ev) (A : Option Addr) (cap : Nat) (u : List UInt8) (kb ko kc : Nat) (w : World) (h : EvRow ok w A l) (hl : l.length ≤ 1000000) (hkey : w.cell? ⟨kb, ko, none⟩ = some (.string (bstr u))) :
  Calls Tryz.prog 15 #[.slice A l.length cap, .int .i64 2, .slice (some ⟨kb, ko, none⟩) 1 kc] w fun e w' => e = .returned (.int .i64 (Co.idM l u)) ∧ Below w.heap.size w w' := by
 have HC := hid (firstk_any ok l A cap u kb ko kc w h hl hkey)
 obtain ⟨M, hM⟩ : ∃ M, M = Co.idM l u := ⟨_, rfl⟩
 have HM := hid hM
 rw [← hM]
 clear h hM
 go_enter Tryz.func15, Tryz.ntmps15
 go_wp2_with fail
 refine HC.out.mono ?_
 rintro e w2 ⟨⟨V, rfl, hv⟩, hb⟩
 have hvl := hv.len
 rw [Array.length_toList] at hvl
 have HSX : Hid ((Tryz.prog.info? 34).map (·.size) = some V.size) := hid (by rw [size_ev, hvl])
 have HSZ : Hid (zEv.size = V.size) := hid hvl.symm
 have HOV : Hid (V.all (·.oneCell') = true) := hid (by have := EvS.all hv; rwa [Array.toArray_toList] at this)
 have HC0 : Hid (V[0]? = some (.int .i64 M)) := hid (by rw [HM.out]; have := hv.c0; rw [Array.getElem?_toList] at this; rw [this]; exact congrArg (fun n => some (Value.int .i64 n)) (idof_eq _))
 have HB := hid hb
 clear hb hv hvl
 go_wp2_with (((with_reducible refine store_rowe rfl 34 _ _ rfl w2.heap.size V ?_ ?_ 34 zEv (Blk.new w2 34 zEv) HSX.out HSZ.out HOV.out ?_); rfl; rfl; have hc0 : ((w2.alloc (.cells zEv 34)).setRow w2.heap.size V).cell? ⟨w2.heap.size, 0, none⟩ = some (.int .i64 M) := (Blk.cell (setRow_heap _ _ _ _ _ _ (Blk.new w2 34 zEv)) 0).trans HC0.out))
 go_ret
 exact ⟨rfl, below_setRow (HB.out.alloc HB.out.size (.cells zEv 34)) HB.out.size V⟩
end Go.Proofs.YtacjhbbieeliaaaGreatDoor
