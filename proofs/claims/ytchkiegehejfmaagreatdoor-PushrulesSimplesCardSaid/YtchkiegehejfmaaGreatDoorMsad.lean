/- The text Ad. -/
import Derived.Test.YtchkiegehejfmaaGreatDoorMsac
import Derived.Test.YtchkiegehejfmaaGreatDoorMsab
set_option linter.unusedSimpArgs false
set_option maxHeartbeats 16000000
set_option maxRecDepth 100000
set_option linter.unusedVariables false
namespace Ar
inductive Ed where
 | keep (n : Nat) | del (l : Str) | add (l : Str)
def flush (n : Nat) : List Ed := if n = 0 then [] else [.keep n]
def dl : List Str → List Str → Nat → List Ed
 | [], [], n => flush n
 | a :: x, [], n => flush n ++ .del a :: dl x [] 0
 | [], b :: y, n => flush n ++ .add b :: dl [] y 0
 | a :: x, b :: y, n => if a = b then dl x y (n + 1) else
  if dis x (b :: y) + 1 = dis (a :: x) (b :: y) then flush n ++ .del a :: dl x (b :: y) 0 else flush n ++ .add b :: dl (a :: x) y 0
termination_by x y _ => x.length + y.length
def pnum (s : Str) : Option Int := match Go.Lib.atoiAll s with
 | .ok n => if itoa n = s then some n else none
 | _ => none
def elem (s : Str) : Option (UInt8 × Str) := match s with
 | c :: d :: r => if d = 32 then some (c, r) else none
 | _ => none
def astep (p : List Str × List Str) (s : Str) : Option (List Str × List Str) := match elem s with
 | none => none
 | some (c, r) =>
  if c = 61 then match pnum r with
   | some n => if 1 ≤ n ∧ n ≤ p.1.length then some (p.1.drop n.toNat, p.2 ++ p.1.take n.toNat) else none
   | none => none
  else if c = 45 then match p.1 with
   | l :: rest => if l = r then some (rest, p.2) else none
   | [] => none
  else if c = 43 then if (10 : UInt8) ∈ r then none else some (p.1, p.2 ++ [r])
  else none
def aall : List Str × List Str → List Str → Option (List Str × List Str)
 | p, [] => some p
 | p, s :: d => match astep p s with
  | some q => aall q d
  | none => none
def apply (a : Str) (d : List Str) : Option Str := match aall (lines a, []) d with
 | some (l, o) => if l = [] ∧ o ≠ [] then some (Fw o) else none
 | none => none
end Ar
