/-
  No cell of these rows narrows 'for every input' (looked for: loops, veiled, ifaces, maps, wideKeys, modest, calm, conditions, laid).
  DERIVED. THE GIVEN ROWS OF THIS SEAT. 3 by the template 'for every input the law returns true; each argument reads behind the call as it read before'; 0 by the template 'total and deterministic' (their statements: YtfdcbmmafhjlfaaGreatTotals.lean).
  GIVEN WITH THE SEED: the statements are not yours to turn. If you find one false, say at which input.
  Laid BY PROGRAM, IN A SANDBOX (cutbox-rows.mjs): the forced cells as the released guide's own fill.sh prints them over the translation 271873305fca3076… (all of the seat's roots in one cut). By AI agents, Wed Nov 11 2026. No macro, syntax, notation, axiom, sorry.
-/
import Derived.Test.YtfdcbmmafhjlfaaGreatChecked
import GoSem.Claim
import GoSem.ClaimJoined
import GoSem.ClaimMapViews
import Derived.JoinedTies
import Derived.KernelRfl
namespace Go.Proofs.YtfdcbmmafhjlfaaGreat
/- THE CELL 'sum', in the pinned program and in every row, IS THE sha256 OF THE DUMP (.gsa) THAT YtfdcbmmafhjlfaaGreatProg.lean LOADS. Nothing in Lean hashes anything: it is a label: what it is worth is what the hold of that sum in a sandbox is worth. -/
noncomputable def Tryz.pinned : Pinned := { name := "ytfdcbmmafhjlfaagreat", sum := "271873305fca3076f9c5a6391958a7c405283e6f2c4bce17bed5f6bfbca855dc", checked := Tryz.checked }
namespace Rows
def none {H : Type} : Left H := { results := [], args := [] }

/-- 'fedchatlaw53.SearchWords': WHATEVER THE INPUT: true; the input reads as it did. -/
def searchWordsSpec : ChangeSpec := { name := "searchWords", fn := fun _ => fun
  | [d1, d2] => { results := [.lit (.bool true)], args := [d1, d2] }
  | _ => none }
def searchWordsRow : OpenClaim := { program := "ytfdcbmmafhjlfaagreat", sum := "271873305fca3076f9c5a6391958a7c405283e6f2c4bce17bed5f6bfbca855dc", func := "fedchat/fedchatlaw53.SearchWords", spec := "searchWords", inPlace := ["internal/bytealg.IndexByteString", "internal/bytealg.IndexString", "internal/bytealg.abigen_runtime_cmpstring"], unfollowed := true, recurses := true, named := ["internal/bytealg.MaxLen"], plainKeys := false, apart := false }
def SearchWordsSaid : Prop := searchWordsRow.holds Tryz.pinned (OpenSpec.ofChange searchWordsSpec)

/-- ITS FALSE NEIGHBOUR: 'it returns false'. Refute it at one input. -/
def searchWordsWrong : ChangeSpec := { name := "searchWords", fn := fun _ => fun
  | [d1, d2] => { results := [.lit (.bool false)], args := [d1, d2] }
  | _ => none }
def SearchWordsWrongFalsely : Prop := searchWordsRow.holds Tryz.pinned (OpenSpec.ofChange searchWordsWrong)

/-- 'fedchatlaw53.SearchIndexes': WHATEVER THE INPUT: true; the input reads as it did. -/
def searchIndexesSpec : ChangeSpec := { name := "searchIndexes", fn := fun _ => fun
  | [d] => { results := [.lit (.bool true)], args := [d] }
  | _ => none }
def searchIndexesRow : OpenClaim := { program := "ytfdcbmmafhjlfaagreat", sum := "271873305fca3076f9c5a6391958a7c405283e6f2c4bce17bed5f6bfbca855dc", func := "fedchat/fedchatlaw53.SearchIndexes", spec := "searchIndexes", inPlace := ["internal/bytealg.IndexByteString", "internal/bytealg.IndexString", "internal/bytealg.abigen_runtime_cmpstring"], unfollowed := true, recurses := true, named := ["internal/bytealg.MaxLen"], plainKeys := false, apart := false }
def SearchIndexesSaid : Prop := searchIndexesRow.holds Tryz.pinned (OpenSpec.ofChange searchIndexesSpec)

/-- ITS FALSE NEIGHBOUR: 'it returns false'. Refute it at one input. -/
def searchIndexesWrong : ChangeSpec := { name := "searchIndexes", fn := fun _ => fun
  | [d] => { results := [.lit (.bool false)], args := [d] }
  | _ => none }
def SearchIndexesWrongFalsely : Prop := searchIndexesRow.holds Tryz.pinned (OpenSpec.ofChange searchIndexesWrong)

/-- 'fedchatlaw53.SearchJoins': WHATEVER THE INPUT: true; the input reads as it did. -/
def searchJoinsSpec : ChangeSpec := { name := "searchJoins", fn := fun _ => fun
  | [d1, d2] => { results := [.lit (.bool true)], args := [d1, d2] }
  | _ => none }
def searchJoinsRow : OpenClaim := { program := "ytfdcbmmafhjlfaagreat", sum := "271873305fca3076f9c5a6391958a7c405283e6f2c4bce17bed5f6bfbca855dc", func := "fedchat/fedchatlaw53.SearchJoins", spec := "searchJoins", inPlace := ["internal/bytealg.IndexByteString", "internal/bytealg.IndexString", "internal/bytealg.abigen_runtime_cmpstring"], unfollowed := true, recurses := true, named := ["internal/bytealg.MaxLen"], plainKeys := false, apart := false }
def SearchJoinsSaid : Prop := searchJoinsRow.holds Tryz.pinned (OpenSpec.ofChange searchJoinsSpec)

/-- ITS FALSE NEIGHBOUR: 'it returns false'. Refute it at one input. -/
def searchJoinsWrong : ChangeSpec := { name := "searchJoins", fn := fun _ => fun
  | [d1, d2] => { results := [.lit (.bool false)], args := [d1, d2] }
  | _ => none }
def SearchJoinsWrongFalsely : Prop := searchJoinsRow.holds Tryz.pinned (OpenSpec.ofChange searchJoinsWrong)

/- THE SECOND FORM. 'bulk': how many values and letters a reading holds, each counted each time it is reached (what is shared counts as often as it is met; a slice's spare places count too). A statement '..UptoSaid' is the law's where the arguments, and the package variables that the reading takes, are together of bulk at most 1048576: NARROWER than '..Said'. Prove '..Said' where nothing that the law and all that it calls make is longer than what came in: it says more and counts as full. Else prove '..UptoSaid'. A law counts once. -/
mutual
def uptoBulk {H : Type} : DataW H → Nat
  | .lit (.string bytes) => bytes.length + 1
  | .lit _ => 1
  | .nil => 1
  | .ptr d => uptoBulk d + 1
  | .slice elems spare => uptoBulkAll elems + uptoBulkAll spare + 1
  | .agg parts => uptoBulkAll parts + 1
  | .iface _ d => uptoBulk d + 1
  | .map entries => uptoBulkEntries entries + 1
  | .held _ => 1
def uptoBulkAll {H : Type} : List (DataW H) → Nat
  | [] => 0
  | d :: r => uptoBulk d + uptoBulkAll r
def uptoBulkEntries {H : Type} : List (Lit × DataW H) → Nat
  | [] => 0
  | x :: r => uptoBulkEntry x + uptoBulkEntries r
def uptoBulkEntry {H : Type} : Lit × DataW H → Nat
  | (.string bytes, d) => bytes.length + uptoBulk d + 1
  | (_, d) => uptoBulk d + 1
 end
def uptoSmall : (H : Type) → List (DataW H) → Bool := fun _ ds => decide (uptoBulkAll ds ≤ 1048576)
def OpenSpec.upto (s : _root_.Go.ChangeSpec) : _root_.Go.OpenSpec := { _root_.Go.OpenSpec.ofChange s with cond := some uptoSmall }

/-- 'fedchatlaw53.SearchWords', WHERE WHAT IT READS IS OF BULK AT MOST 1048576: true; the input reads as it did. -/
def searchWordsUptoRow : OpenClaim := { program := "ytfdcbmmafhjlfaagreat", sum := "271873305fca3076f9c5a6391958a7c405283e6f2c4bce17bed5f6bfbca855dc", func := "fedchat/fedchatlaw53.SearchWords", spec := "searchWords", inPlace := ["internal/bytealg.IndexByteString", "internal/bytealg.IndexString", "internal/bytealg.abigen_runtime_cmpstring"], unfollowed := true, recurses := true, named := ["internal/bytealg.MaxLen"], plainKeys := false, apart := false, narrowed := true }
def SearchWordsUptoSaid : Prop := searchWordsUptoRow.holds Tryz.pinned (OpenSpec.upto searchWordsSpec)

/-- 'fedchatlaw53.SearchIndexes', WHERE WHAT IT READS IS OF BULK AT MOST 1048576: true; the input reads as it did. -/
def searchIndexesUptoRow : OpenClaim := { program := "ytfdcbmmafhjlfaagreat", sum := "271873305fca3076f9c5a6391958a7c405283e6f2c4bce17bed5f6bfbca855dc", func := "fedchat/fedchatlaw53.SearchIndexes", spec := "searchIndexes", inPlace := ["internal/bytealg.IndexByteString", "internal/bytealg.IndexString", "internal/bytealg.abigen_runtime_cmpstring"], unfollowed := true, recurses := true, named := ["internal/bytealg.MaxLen"], plainKeys := false, apart := false, narrowed := true }
def SearchIndexesUptoSaid : Prop := searchIndexesUptoRow.holds Tryz.pinned (OpenSpec.upto searchIndexesSpec)

/-- 'fedchatlaw53.SearchJoins', WHERE WHAT IT READS IS OF BULK AT MOST 1048576: true; the input reads as it did. -/
def searchJoinsUptoRow : OpenClaim := { program := "ytfdcbmmafhjlfaagreat", sum := "271873305fca3076f9c5a6391958a7c405283e6f2c4bce17bed5f6bfbca855dc", func := "fedchat/fedchatlaw53.SearchJoins", spec := "searchJoins", inPlace := ["internal/bytealg.IndexByteString", "internal/bytealg.IndexString", "internal/bytealg.abigen_runtime_cmpstring"], unfollowed := true, recurses := true, named := ["internal/bytealg.MaxLen"], plainKeys := false, apart := false, narrowed := true }
def SearchJoinsUptoSaid : Prop := searchJoinsUptoRow.holds Tryz.pinned (OpenSpec.upto searchJoinsSpec)

end Rows
end Go.Proofs.YtfdcbmmafhjlfaaGreat
