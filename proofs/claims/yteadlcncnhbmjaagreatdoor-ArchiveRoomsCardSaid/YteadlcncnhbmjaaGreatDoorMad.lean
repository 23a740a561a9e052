/- The text Ar. -/
import Derived.Test.YteadlcncnhbmjaaGreatDoorMac
import Derived.Lib.IndexMore
set_option linter.unusedSimpArgs false
set_option maxHeartbeats 16000000
set_option maxRecDepth 100000
namespace Ar
structure Rm where
 id : Str
 events : List (List FV)
 rows : List (Int × Int × Int × Bool)
 waiting : List (List FV)
 heads : List Int
 state : List (Int × Str × Int)
 next : Int
 receipts : List (Str × Int × Int × Int)
 typing : List (Str × Int)
def Rm.zero : Rm := ⟨[], [], [], [], [], [], 0, [], []⟩
def headW : Str := [114, 111, 111, 109, 32]
def nextW : Str := [32, 110, 101, 120, 116, 61]
def rowW : Str := [114, 111, 119, 32]
def goneW : Str := [32, 103, 111, 110, 101]
def headsW : Str := [104, 101, 97, 100, 115, 32]
def entryW : Str := [101, 110, 116, 114, 121, 32]
def receiptW : Str := [114, 101, 99, 101, 105, 112, 116, 32]
def typingW : Str := [116, 121, 112, 105, 110, 103, 32]
def evN : Str := [101, 118, 101, 110, 116]
def waitN : Str := [119, 97, 105, 116]
def after (word s : Str) : Str := if s = [] then word else word ++ 32 :: s
def headLine (id : Str) (next : Int) : Str := headW ++ quote id ++ if next = 0 then [] else nextW ++ itoa next
def rowLine (x : Int × Int × Int × Bool) : Str := rowW ++ itoa x.1 ++ 32 :: itoa x.2.1 ++ 32 :: itoa x.2.2.1 ++ if x.2.2.2 then goneW else []
def headsLine (l : List Int) : Str := headsW ++ join [44] (l.map itoa)
def entryLine (x : Int × Str × Int) : Str := entryW ++ itoa x.1 ++ 32 :: quote x.2.1 ++ 32 :: itoa x.2.2
def receiptLine (x : Str × Int × Int × Int) : Str := receiptW ++ quote x.1 ++ 32 :: itoa x.2.1 ++ 32 :: itoa x.2.2.1 ++ 32 :: itoa x.2.2.2
def typingLine (x : Str × Int) : Str := typingW ++ quote x.1 ++ 32 :: itoa x.2
def rmLines (r : Rm) : List Str :=
 [headLine r.id r.next] ++ r.events.map (fun e => after evN (line e)) ++ r.rows.map rowLine ++ r.waiting.map (fun e => after waitN (line e)) ++ (if r.heads = [] then [] else [headsLine r.heads]) ++
  r.state.map entryLine ++ r.receipts.map receiptLine ++ r.typing.map typingLine
def rmText (r : Rm) : Str := join [10] (rmLines r) ++ [10]
def write (r : Rm) : Option Str := if 500000 < (rmText r).length then none else some (rmText r)
def rdHead (s : Str) (r : Rm) : Option Rm :=
 let x := rtext (eat headW (s, false))
 let y := has nextW x.2
 let z := if y.1 then rnum y.2 else (r.next, y.2)
 if z.2.2 = false ∧ headLine x.1 z.1 = s then some { r with id := x.1, next := z.1 } else none
def rdRow (s : Str) (r : Rm) : Option Rm :=
 let a := rnum (eat rowW (s, false))
 let b := rnum (eat [32] a.2)
 let c := rnum (eat [32] b.2)
 let d := has goneW c.2
 if d.2.2 = false ∧ rowLine (a.1, b.1, c.1, d.1) = s then some { r with rows := r.rows ++ [(a.1, b.1, c.1, d.1)] } else none
def rdHeads (s : Str) (r : Rm) : Option Rm :=
 let x := eat headsW (s, false)
 let l := rlistF rnum (x.1.length + 1) x
 if l.2.2 = false ∧ headsLine l.1 = s then some { r with heads := l.1 } else none
def rdEntry (s : Str) (r : Rm) : Option Rm :=
 let a := rnum (eat entryW (s, false))
 let b := rtext (eat [32] a.2)
 let c := rnum (eat [32] b.2)
 if c.2.2 = false ∧ entryLine (a.1, b.1, c.1) = s then some { r with state := r.state ++ [(a.1, b.1, c.1)] } else none
def rdReceipt (s : Str) (r : Rm) : Option Rm :=
 let a := rtext (eat receiptW (s, false))
 let b := rnum (eat [32] a.2)
 let c := rnum (eat [32] b.2)
 let d := rnum (eat [32] c.2)
 if d.2.2 = false ∧ receiptLine (a.1, b.1, c.1, d.1) = s then some { r with receipts := r.receipts ++ [(a.1, b.1, c.1, d.1)] } else none
def rdTyping (s : Str) (r : Rm) : Option Rm :=
 let a := rtext (eat typingW (s, false))
 let b := rnum (eat [32] a.2)
 if b.2.2 = false ∧ typingLine (a.1, b.1) = s then some { r with typing := r.typing ++ [(a.1, b.1)] } else none
def rdEvent (s word : Str) : Option (List FV) :=
 if Go.Lib.hasPrefix s word then
  match parse (Go.Lib.trimPrefix (s.drop word.length) [32]) with
  | some e => if after word (line e) = s then some e else none
  | none => none
 else none
def retK (r : Rm) (k : Nat) (x : Option Rm) : Nat × Rm := match x with
 | some y => (k, y)
 | none => (0, r)
def rdLine (s : Str) (r : Rm) : Nat × Rm :=
 if (Go.Lib.cut s [32]).1 = evN then retK r 2 ((rdEvent s (Go.Lib.cut s [32]).1).map fun e => { r with events := r.events ++ [e] })
 else if (Go.Lib.cut s [32]).1 = waitN then retK r 4 ((rdEvent s (Go.Lib.cut s [32]).1).map fun e => { r with waiting := r.waiting ++ [e] })
 else if (Go.Lib.cut s [32]).1 = [114, 111, 119] then retK r 3 (rdRow s r)
 else if (Go.Lib.cut s [32]).1 = [104, 101, 97, 100, 115] then retK r 5 (rdHeads s r)
 else if (Go.Lib.cut s [32]).1 = [101, 110, 116, 114, 121] then retK r 6 (rdEntry s r)
 else if (Go.Lib.cut s [32]).1 = [114, 101, 99, 101, 105, 112, 116] then retK r 7 (rdReceipt s r)
 else if (Go.Lib.cut s [32]).1 = [116, 121, 112, 105, 110, 103] then retK r 8 (rdTyping s r)
 else (0, r)
def rdAll : Nat → Nat → Rm → List Str → Rm ⊕ Nat
 | _, _, r, [] => .inl r
 | i, form, r, s :: L =>
  let x := if i = 0 then (match rdHead s r with
   | some y => (1, y)
   | none => (0, r)) else rdLine s r
  if x.1 = 0 ∨ x.1 < form ∨ (x.1 = 5 ∧ form = 5) then .inr (i + 1) else rdAll (i + 1) x.1 x.2 L
def read (s : Str) : Rm ⊕ Nat :=
 match rdAll 0 0 Rm.zero (lines s).dropLast with
 | .inr n => .inr n
 | .inl r => if (lines s).length = 1 ∨ (lines s).getLast? ≠ some [] then .inr (lines s).length else .inl r
def text0 : Str := [114, 111, 111, 109, 32, 34, 33, 114, 58, 97, 34, 10, 114, 111, 119, 32, 48, 32, 53, 32, 52, 10]
def room0 : Rm := { Rm.zero with id := [33, 114, 58, 97], rows := [(0, 5, 4, false)] }
end Ar
