/-
  No cell of these rows narrows 'for every input' (looked for: loops, veiled, ifaces, maps, wideKeys, modest, calm, conditions, laid).
  DERIVED. THE GIVEN ROWS OF THIS SEAT. 6 by the template 'for every input the law returns true; each argument reads behind the call as it read before'; 0 by the template 'total and deterministic' (their statements: YtejoionamkmeeaaTotals.lean).
  GIVEN WITH THE SEED: the statements are not yours to turn. If you find one false, say at which input.
  Laid BY PROGRAM, IN A SANDBOX (cutbox-rows.mjs): the forced cells as the released guide's own fill.sh prints them over the translation 1f436f468da1fa6c… (all of the seat's roots in one cut). By AI agents, Wed Nov 11 2026. No macro, syntax, notation, axiom, sorry.
-/
import Derived.Test.YtejoionamkmeeaaChecked
import GoSem.Claim
import GoSem.ClaimJoined
import GoSem.ClaimMapViews
import Derived.JoinedTies
import Derived.KernelRfl
namespace Go.Proofs.Ytejoionamkmeeaa
/- THE CELL 'sum', in the pinned program and in every row, IS THE sha256 OF THE DUMP (.gsa) THAT YtejoionamkmeeaaProg.lean LOADS. Nothing in Lean hashes anything: it is a label: what it is worth is what the hold of that sum in a sandbox is worth. -/
noncomputable def Try.pinned : Pinned := { name := "ytejoionamkmeeaa", sum := "1f436f468da1fa6ca596af00c0ce4d2810264a34f1700634a04b3870353b1c5d", checked := Try.checked }
namespace Rows
def none {H : Type} : Left H := { results := [], args := [] }

/-- 'fedchatlaw04.SumsFolds': WHATEVER THE INPUT: true; the input reads as it did. -/
def sumsFoldsSpec : ChangeSpec := { name := "sumsFolds", fn := fun _ => fun
  | [d1, d2] => { results := [.lit (.bool true)], args := [d1, d2] }
  | _ => none }
def sumsFoldsRow : OpenClaim := { program := "ytejoionamkmeeaa", sum := "1f436f468da1fa6ca596af00c0ce4d2810264a34f1700634a04b3870353b1c5d", func := "fedchat/fedchatlaw04.SumsFolds", spec := "sumsFolds", apart := false }
def SumsFoldsSaid : Prop := sumsFoldsRow.holds Try.pinned (OpenSpec.ofChange sumsFoldsSpec)

/-- ITS FALSE NEIGHBOUR: 'it returns false'. Refute it at one input. -/
def sumsFoldsWrong : ChangeSpec := { name := "sumsFolds", fn := fun _ => fun
  | [d1, d2] => { results := [.lit (.bool false)], args := [d1, d2] }
  | _ => none }
def SumsFoldsWrongFalsely : Prop := sumsFoldsRow.holds Try.pinned (OpenSpec.ofChange sumsFoldsWrong)

/-- 'fedchatlaw04.SumsParts': WHATEVER THE INPUT: true; the input reads as it did. -/
def sumsPartsSpec : ChangeSpec := { name := "sumsParts", fn := fun _ => fun
  | [d1, d2, d3] => { results := [.lit (.bool true)], args := [d1, d2, d3] }
  | _ => none }
def sumsPartsRow : OpenClaim := { program := "ytejoionamkmeeaa", sum := "1f436f468da1fa6ca596af00c0ce4d2810264a34f1700634a04b3870353b1c5d", func := "fedchat/fedchatlaw04.SumsParts", spec := "sumsParts", apart := false }
def SumsPartsSaid : Prop := sumsPartsRow.holds Try.pinned (OpenSpec.ofChange sumsPartsSpec)

/-- ITS FALSE NEIGHBOUR: 'it returns false'. Refute it at one input. -/
def sumsPartsWrong : ChangeSpec := { name := "sumsParts", fn := fun _ => fun
  | [d1, d2, d3] => { results := [.lit (.bool false)], args := [d1, d2, d3] }
  | _ => none }
def SumsPartsWrongFalsely : Prop := sumsPartsRow.holds Try.pinned (OpenSpec.ofChange sumsPartsWrong)

/-- 'fedchatlaw04.SumsBytes': WHATEVER THE INPUT: true; the input reads as it did. -/
def sumsBytesSpec : ChangeSpec := { name := "sumsBytes", fn := fun _ => fun
  | [d1, d2, d3] => { results := [.lit (.bool true)], args := [d1, d2, d3] }
  | _ => none }
def sumsBytesRow : OpenClaim := { program := "ytejoionamkmeeaa", sum := "1f436f468da1fa6ca596af00c0ce4d2810264a34f1700634a04b3870353b1c5d", func := "fedchat/fedchatlaw04.SumsBytes", spec := "sumsBytes", apart := false }
def SumsBytesSaid : Prop := sumsBytesRow.holds Try.pinned (OpenSpec.ofChange sumsBytesSpec)

/-- ITS FALSE NEIGHBOUR: 'it returns false'. Refute it at one input. -/
def sumsBytesWrong : ChangeSpec := { name := "sumsBytes", fn := fun _ => fun
  | [d1, d2, d3] => { results := [.lit (.bool false)], args := [d1, d2, d3] }
  | _ => none }
def SumsBytesWrongFalsely : Prop := sumsBytesRow.holds Try.pinned (OpenSpec.ofChange sumsBytesWrong)

/-- 'fedchatlaw04.SumsApart': WHATEVER THE INPUT: true; the input reads as it did. -/
def sumsApartSpec : ChangeSpec := { name := "sumsApart", fn := fun _ => fun
  | [d1, d2, d3] => { results := [.lit (.bool true)], args := [d1, d2, d3] }
  | _ => none }
def sumsApartRow : OpenClaim := { program := "ytejoionamkmeeaa", sum := "1f436f468da1fa6ca596af00c0ce4d2810264a34f1700634a04b3870353b1c5d", func := "fedchat/fedchatlaw04.SumsApart", spec := "sumsApart", apart := false }
def SumsApartSaid : Prop := sumsApartRow.holds Try.pinned (OpenSpec.ofChange sumsApartSpec)

/-- ITS FALSE NEIGHBOUR: 'it returns false'. Refute it at one input. -/
def sumsApartWrong : ChangeSpec := { name := "sumsApart", fn := fun _ => fun
  | [d1, d2, d3] => { results := [.lit (.bool false)], args := [d1, d2, d3] }
  | _ => none }
def SumsApartWrongFalsely : Prop := sumsApartRow.holds Try.pinned (OpenSpec.ofChange sumsApartWrong)

/-- 'fedchatlaw04.SumsHex': WHATEVER THE INPUT: true; the input reads as it did. -/
def sumsHexSpec : ChangeSpec := { name := "sumsHex", fn := fun _ => fun
  | [d] => { results := [.lit (.bool true)], args := [d] }
  | _ => none }
def sumsHexRow : OpenClaim := { program := "ytejoionamkmeeaa", sum := "1f436f468da1fa6ca596af00c0ce4d2810264a34f1700634a04b3870353b1c5d", func := "fedchat/fedchatlaw04.SumsHex", spec := "sumsHex", apart := false }
def SumsHexSaid : Prop := sumsHexRow.holds Try.pinned (OpenSpec.ofChange sumsHexSpec)

/-- ITS FALSE NEIGHBOUR: 'it returns false'. Refute it at one input. -/
def sumsHexWrong : ChangeSpec := { name := "sumsHex", fn := fun _ => fun
  | [d] => { results := [.lit (.bool false)], args := [d] }
  | _ => none }
def SumsHexWrongFalsely : Prop := sumsHexRow.holds Try.pinned (OpenSpec.ofChange sumsHexWrong)

/-- 'fedchatlaw04.SumsUnhex': WHATEVER THE INPUT: true; the input reads as it did. -/
def sumsUnhexSpec : ChangeSpec := { name := "sumsUnhex", fn := fun _ => fun
  | [d] => { results := [.lit (.bool true)], args := [d] }
  | _ => none }
def sumsUnhexRow : OpenClaim := { program := "ytejoionamkmeeaa", sum := "1f436f468da1fa6ca596af00c0ce4d2810264a34f1700634a04b3870353b1c5d", func := "fedchat/fedchatlaw04.SumsUnhex", spec := "sumsUnhex", apart := false }
def SumsUnhexSaid : Prop := sumsUnhexRow.holds Try.pinned (OpenSpec.ofChange sumsUnhexSpec)

/-- ITS FALSE NEIGHBOUR: 'it returns false'. Refute it at one input. -/
def sumsUnhexWrong : ChangeSpec := { name := "sumsUnhex", fn := fun _ => fun
  | [d] => { results := [.lit (.bool false)], args := [d] }
  | _ => none }
def SumsUnhexWrongFalsely : Prop := sumsUnhexRow.holds Try.pinned (OpenSpec.ofChange sumsUnhexWrong)

/- THE SECOND FORM. 'bulk': how many values and letters a reading holds, each counted each time it is reached (what is shared counts as often as it is met; a slice's spare places count too). A statement '..UptoSaid' is the law's where the arguments, and the package variables that the reading takes, are together of bulk at most 1048576: NARROWER than '..Said'. Prove '..Said' where nothing that the law and all that it calls make is longer than what came in: it says more and counts as full. Else prove '..UptoSaid'. A law counts once. -/
mutual
def uptoBulk {H : Type} : DataW H → Nat
  | .lit (.string bytes) => bytes.length + 1
  | .lit _ => 1
  | .nil => 1
  | .ptr d => uptoBulk d + 1
  | .slice elems spare => uptoBulkAll elems + uptoBulkAll spare + 1
  | .agg parts => uptoBulkAll parts + 1
  | .iface _ d => uptoBulk d + 1
  | .map entries => uptoBulkEntries entries + 1
  | .held _ => 1
def uptoBulkAll {H : Type} : List (DataW H) → Nat
  | [] => 0
  | d :: r => uptoBulk d + uptoBulkAll r
def uptoBulkEntries {H : Type} : List (Lit × DataW H) → Nat
  | [] => 0
  | x :: r => uptoBulkEntry x + uptoBulkEntries r
def uptoBulkEntry {H : Type} : Lit × DataW H → Nat
  | (.string bytes, d) => bytes.length + uptoBulk d + 1
  | (_, d) => uptoBulk d + 1
 end
def uptoSmall : (H : Type) → List (DataW H) → Bool := fun _ ds => decide (uptoBulkAll ds ≤ 1048576)
def OpenSpec.upto (s : _root_.Go.ChangeSpec) : _root_.Go.OpenSpec := { _root_.Go.OpenSpec.ofChange s with cond := some uptoSmall }

/-- 'fedchatlaw04.SumsFolds', WHERE WHAT IT READS IS OF BULK AT MOST 1048576: true; the input reads as it did. -/
def sumsFoldsUptoRow : OpenClaim := { program := "ytejoionamkmeeaa", sum := "1f436f468da1fa6ca596af00c0ce4d2810264a34f1700634a04b3870353b1c5d", func := "fedchat/fedchatlaw04.SumsFolds", spec := "sumsFolds", apart := false, narrowed := true }
def SumsFoldsUptoSaid : Prop := sumsFoldsUptoRow.holds Try.pinned (OpenSpec.upto sumsFoldsSpec)

/-- 'fedchatlaw04.SumsParts', WHERE WHAT IT READS IS OF BULK AT MOST 1048576: true; the input reads as it did. -/
def sumsPartsUptoRow : OpenClaim := { program := "ytejoionamkmeeaa", sum := "1f436f468da1fa6ca596af00c0ce4d2810264a34f1700634a04b3870353b1c5d", func := "fedchat/fedchatlaw04.SumsParts", spec := "sumsParts", apart := false, narrowed := true }
def SumsPartsUptoSaid : Prop := sumsPartsUptoRow.holds Try.pinned (OpenSpec.upto sumsPartsSpec)

/-- 'fedchatlaw04.SumsBytes', WHERE WHAT IT READS IS OF BULK AT MOST 1048576: true; the input reads as it did. -/
def sumsBytesUptoRow : OpenClaim := { program := "ytejoionamkmeeaa", sum := "1f436f468da1fa6ca596af00c0ce4d2810264a34f1700634a04b3870353b1c5d", func := "fedchat/fedchatlaw04.SumsBytes", spec := "sumsBytes", apart := false, narrowed := true }
def SumsBytesUptoSaid : Prop := sumsBytesUptoRow.holds Try.pinned (OpenSpec.upto sumsBytesSpec)

/-- 'fedchatlaw04.SumsApart', WHERE WHAT IT READS IS OF BULK AT MOST 1048576: true; the input reads as it did. -/
def sumsApartUptoRow : OpenClaim := { program := "ytejoionamkmeeaa", sum := "1f436f468da1fa6ca596af00c0ce4d2810264a34f1700634a04b3870353b1c5d", func := "fedchat/fedchatlaw04.SumsApart", spec := "sumsApart", apart := false, narrowed := true }
def SumsApartUptoSaid : Prop := sumsApartUptoRow.holds Try.pinned (OpenSpec.upto sumsApartSpec)

/-- 'fedchatlaw04.SumsHex', WHERE WHAT IT READS IS OF BULK AT MOST 1048576: true; the input reads as it did. -/
def sumsHexUptoRow : OpenClaim := { program := "ytejoionamkmeeaa", sum := "1f436f468da1fa6ca596af00c0ce4d2810264a34f1700634a04b3870353b1c5d", func := "fedchat/fedchatlaw04.SumsHex", spec := "sumsHex", apart := false, narrowed := true }
def SumsHexUptoSaid : Prop := sumsHexUptoRow.holds Try.pinned (OpenSpec.upto sumsHexSpec)

/-- 'fedchatlaw04.SumsUnhex', WHERE WHAT IT READS IS OF BULK AT MOST 1048576: true; the input reads as it did. -/
def sumsUnhexUptoRow : OpenClaim := { program := "ytejoionamkmeeaa", sum := "1f436f468da1fa6ca596af00c0ce4d2810264a34f1700634a04b3870353b1c5d", func := "fedchat/fedchatlaw04.SumsUnhex", spec := "sumsUnhex", apart := false, narrowed := true }
def SumsUnhexUptoSaid : Prop := sumsUnhexUptoRow.holds Try.pinned (OpenSpec.upto sumsUnhexSpec)

end Rows
end Go.Proofs.Ytejoionamkmeeaa
