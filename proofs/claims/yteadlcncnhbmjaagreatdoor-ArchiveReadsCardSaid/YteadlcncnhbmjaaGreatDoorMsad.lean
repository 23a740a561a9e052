/- The text Ar. -/
import Derived.Test.YteadlcncnhbmjaaGreatDoorMsac
import Derived.Lib.IndexMore
set_option linter.unusedSimpArgs false
set_option maxHeartbeats 16000000
set_option maxRecDepth 100000
set_option linter.unusedVariables false
namespace Ar
structure Rm where
 id : Str
 events : List (List FV)
 rows : List (Int × Int × Int × Bool)
 waiting : List (List FV)
 heads : List Int
 state : List (Int × Str × Int)
 next : Int
 receipts : List (Str × Int × Int × Int)
 typing : List (Str × Int)
def Rm.zero : Rm := ⟨[], [], [], [], [], [], 0, [], []⟩
def headW : Str := [114, 111, 111, 109, 32]
def nextW : Str := [32, 110, 101, 120, 116, 61]
def rowW : Str := [114, 111, 119, 32]
def goneW : Str := [32, 103, 111, 110, 101]
def EI : Str := [104, 101, 97, 100, 115, 32]
def DG : Str := [101, 110, 116, 114, 121, 32]
def CE : Str := [114, 101, 99, 101, 105, 112, 116, 32]
def CW : Str := [116, 121, 112, 105, 110, 103, 32]
def evN : Str := [101, 118, 101, 110, 116]
def waitN : Str := [119, 97, 105, 116]
def after (word s : Str) : Str := if s = [] then word else word ++ 32 :: s
def As (id : Str) (next : Int) : Str := headW ++ quote id ++ if next = 0 then [] else nextW ++ itoa next
def AK (x : Int × Int × Int × Bool) : Str := rowW ++ itoa x.1 ++ 32 :: itoa x.2.1 ++ 32 :: itoa x.2.2.1 ++ if x.2.2.2 then goneW else []
def AB (l : List Int) : Str := EI ++ join [44] (l.map itoa)
def Aw (x : Int × Str × Int) : Str := DG ++ itoa x.1 ++ 32 :: quote x.2.1 ++ 32 :: itoa x.2.2
def Am (x : Str × Int × Int × Int) : Str := CE ++ quote x.1 ++ 32 :: itoa x.2.1 ++ 32 :: itoa x.2.2.1 ++ 32 :: itoa x.2.2.2
def Ap (x : Str × Int) : Str := CW ++ quote x.1 ++ 32 :: itoa x.2
def AN (r : Rm) : List Str :=
 [As r.id r.next] ++ r.events.map (fun e => after evN (line e)) ++ r.rows.map AK ++ r.waiting.map (fun e => after waitN (line e)) ++ (if r.heads = [] then [] else [AB r.heads]) ++
  r.state.map Aw ++ r.receipts.map Am ++ r.typing.map Ap
def Dt (r : Rm) : Str := join [10] (AN r) ++ [10]
def write (r : Rm) : Option Str := if 500000 < (Dt r).length then none else some (Dt r)
def Cb (s : Str) (r : Rm) : Option Rm :=
 let x := rtext (eat headW (s, false))
 let y := has nextW x.2
 let z := if y.1 then rnum y.2 else (r.next, y.2)
 if z.2.2 = false ∧ As x.1 z.1 = s then some { r with id := x.1, next := z.1 } else none
def rdRow (s : Str) (r : Rm) : Option Rm :=
 let a := rnum (eat rowW (s, false))
 let b := rnum (eat [32] a.2)
 let c := rnum (eat [32] b.2)
 let d := has goneW c.2
 if d.2.2 = false ∧ AK (a.1, b.1, c.1, d.1) = s then some { r with rows := r.rows ++ [(a.1, b.1, c.1, d.1)] } else none
def C8 (s : Str) (r : Rm) : Option Rm :=
 let x := eat EI (s, false)
 let l := Au rnum (x.1.length + 1) x
 if l.2.2 = false ∧ AB l.1 = s then some { r with heads := l.1 } else none
def Da (s : Str) (r : Rm) : Option Rm :=
 let a := rnum (eat DG (s, false))
 let b := rtext (eat [32] a.2)
 let c := rnum (eat [32] b.2)
 if c.2.2 = false ∧ Aw (a.1, b.1, c.1) = s then some { r with state := r.state ++ [(a.1, b.1, c.1)] } else none
def Cs (s : Str) (r : Rm) : Option Rm :=
 let a := rtext (eat CE (s, false))
 let b := rnum (eat [32] a.2)
 let c := rnum (eat [32] b.2)
 let d := rnum (eat [32] c.2)
 if d.2.2 = false ∧ Am (a.1, b.1, c.1, d.1) = s then some { r with receipts := r.receipts ++ [(a.1, b.1, c.1, d.1)] } else none
def CL (s : Str) (r : Rm) : Option Rm :=
 let a := rtext (eat CW (s, false))
 let b := rnum (eat [32] a.2)
 if b.2.2 = false ∧ Ap (a.1, b.1) = s then some { r with typing := r.typing ++ [(a.1, b.1)] } else none
def By (s word : Str) : Option (List FV) :=
 if Go.Lib.hasPrefix s word then
  match parse (Go.Lib.trimPrefix (s.drop word.length) [32]) with
  | some e => if after word (line e) = s then some e else none
  | none => none
 else none
def retK (r : Rm) (k : Nat) (x : Option Rm) : Nat × Rm := match x with
 | some y => (k, y)
 | none => (0, r)
def AG (s : Str) (r : Rm) : Nat × Rm :=
 if (Go.Lib.cut s [32]).1 = evN then retK r 2 ((By s (Go.Lib.cut s [32]).1).map fun e => { r with events := r.events ++ [e] })
 else if (Go.Lib.cut s [32]).1 = waitN then retK r 4 ((By s (Go.Lib.cut s [32]).1).map fun e => { r with waiting := r.waiting ++ [e] })
 else if (Go.Lib.cut s [32]).1 = [114, 111, 119] then retK r 3 (rdRow s r)
 else if (Go.Lib.cut s [32]).1 = [104, 101, 97, 100, 115] then retK r 5 (C8 s r)
 else if (Go.Lib.cut s [32]).1 = [101, 110, 116, 114, 121] then retK r 6 (Da s r)
 else if (Go.Lib.cut s [32]).1 = [114, 101, 99, 101, 105, 112, 116] then retK r 7 (Cs s r)
 else if (Go.Lib.cut s [32]).1 = [116, 121, 112, 105, 110, 103] then retK r 8 (CL s r)
 else (0, r)
def rdAll : Nat → Nat → Rm → List Str → Rm ⊕ Nat
 | _, _, r, [] => .inl r
 | i, form, r, s :: L =>
  let x := if i = 0 then (match Cb s r with
   | some y => (1, y)
   | none => (0, r)) else AG s r
  if x.1 = 0 ∨ x.1 < form ∨ (x.1 = 5 ∧ form = 5) then .inr (i + 1) else rdAll (i + 1) x.1 x.2 L
def read (s : Str) : Rm ⊕ Nat :=
 match rdAll 0 0 Rm.zero (lines s).dropLast with
 | .inr n => .inr n
 | .inl r => if (lines s).length = 1 ∨ (lines s).getLast? ≠ some [] then .inr (lines s).length else .inl r
def text0 : Str := [114, 111, 111, 109, 32, 34, 33, 114, 58, 97, 34, 10, 114, 111, 119, 32, 48, 32, 53, 32, 52, 10]
def room0 : Rm := { Rm.zero with id := [33, 114, 58, 97], rows := [(0, 5, 4, false)] }
end Ar
