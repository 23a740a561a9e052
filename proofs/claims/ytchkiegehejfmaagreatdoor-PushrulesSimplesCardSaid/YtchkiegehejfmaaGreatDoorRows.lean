/-
  NARROWER THAN 'FOR EVERY INPUT', by the rows' own cells (each row's printed sentence says how): PushrulesParses: laid · PushrulesPrints: loops, laid · PushrulesSimples: loops, laid · PushrulesChecks: loops, laid.
  DERIVED. THE GIVEN ROWS OF THIS SEAT. 4 by the template 'for every input the law returns true; each argument reads behind the call as it read before'; 0 by the template 'total and deterministic' (their statements: YtchkiegehejfmaaGreatDoorTotals.lean).
  GIVEN WITH THE SEED: the statements are not yours to turn. If you find one false, say at which input.
  Laid BY PROGRAM, IN A SANDBOX (cutbox-rows.mjs): the forced cells as the released guide's own fill.sh prints them over the translation 00233ed105dd5721… (all of the seat's roots in one cut). By AI agents, Wed Nov 11 2026. No macro, syntax, notation, axiom, sorry.
-/
import Derived.Test.YtchkiegehejfmaaGreatDoorChecked
import GoSem.PinnedTables
import GoSem.Claim
import GoSem.ClaimJoined
import GoSem.ClaimMapViews
import Derived.JoinedTies
import Derived.KernelRfl
namespace Go.Proofs.YtchkiegehejfmaaGreatDoor
/- THE CELL 'sum', in the pinned program and in every row, IS THE sha256 OF THE DUMP (.gsa) THAT YtchkiegehejfmaaGreatDoorProg.lean LOADS. Nothing in Lean hashes anything: it is a label: what it is worth is what the hold of that sum in a sandbox is worth. -/
noncomputable def Tryz.pinned : Pinned := { name := "ytchkiegehejfmaagreatdoor", sum := "00233ed105dd5721476b249a582899c15a36a14128161911946c54c2106f2230", checked := Tryz.checked }
namespace Rows
def none {H : Type} : Left H := { results := [], args := [] }

/- WHAT THE LISTED PACKAGE-LEVEL VARIABLES READ AS WHEN THE CALL BEGINS. Each datum BY PROGRAM (the guide's laid-datum.mjs) off the statement by which the dump's own 'gosem.cut.vars' lays the variable. In a bare row this is a premise. The card (YtchkiegehejfmaaGreatDoorCards.lean) ties it to the program's text. -/
def laid_unicode_utf8_acceptRanges {H : Type} : DataW H := .agg [.agg [.lit (.int .u8 128), .lit (.int .u8 191)], .agg [.lit (.int .u8 160), .lit (.int .u8 191)], .agg [.lit (.int .u8 128), .lit (.int .u8 159)], .agg [.lit (.int .u8 144), .lit (.int .u8 191)], .agg [.lit (.int .u8 128), .lit (.int .u8 143)], .agg [.lit (.int .u8 0), .lit (.int .u8 0)], .agg [.lit (.int .u8 0), .lit (.int .u8 0)], .agg [.lit (.int .u8 0), .lit (.int .u8 0)], .agg [.lit (.int .u8 0), .lit (.int .u8 0)], .agg [.lit (.int .u8 0), .lit (.int .u8 0)], .agg [.lit (.int .u8 0), .lit (.int .u8 0)], .agg [.lit (.int .u8 0), .lit (.int .u8 0)], .agg [.lit (.int .u8 0), .lit (.int .u8 0)], .agg [.lit (.int .u8 0), .lit (.int .u8 0)], .agg [.lit (.int .u8 0), .lit (.int .u8 0)], .agg [.lit (.int .u8 0), .lit (.int .u8 0)]]
/-- One of Go's own tables, pinned by name: the form's constant. -/
def laid_unicode_utf8_first : DataW Unit := Go.Pinned.utf8First

/-- 'fedchatlaw59.PushrulesParses': WHATEVER THE INPUT: true; the input reads as it did. -/
def pushrulesParsesSpec : ChangeSpec := { name := "pushrulesParses", fn := fun _ => fun
  | [d] => { results := [.lit (.bool true)], args := [d] }
  | _ => none }
def pushrulesParsesRow : OpenClaim := { program := "ytchkiegehejfmaagreatdoor", sum := "00233ed105dd5721476b249a582899c15a36a14128161911946c54c2106f2230", func := "fedchat/fedchatlaw59.PushrulesParses", spec := "pushrulesParses", inPlace := ["internal/bytealg.CountString", "internal/bytealg.IndexByteString", "internal/bytealg.IndexString", "internal/abi.NoEscape", "internal/bytealg.MakeNoZero"], unfollowed := true, recurses := true, named := ["unicode/utf8.first", "unicode/utf8.acceptRanges", "internal/bytealg.MaxLen"], apart := false, laid := [("unicode/utf8.acceptRanges", laid_unicode_utf8_acceptRanges), ("unicode/utf8.first", laid_unicode_utf8_first)] }
def PushrulesParsesSaid : Prop := pushrulesParsesRow.holds Tryz.pinned (OpenSpec.ofChange pushrulesParsesSpec)

/-- ITS FALSE NEIGHBOUR: 'it returns false'. Refute it at one input. -/
def pushrulesParsesWrong : ChangeSpec := { name := "pushrulesParses", fn := fun _ => fun
  | [d] => { results := [.lit (.bool false)], args := [d] }
  | _ => none }
def PushrulesParsesWrongFalsely : Prop := pushrulesParsesRow.holds Tryz.pinned (OpenSpec.ofChange pushrulesParsesWrong)

/-- 'fedchatlaw59.PushrulesPrints': WHATEVER THE INPUT: true; the input reads as it did. -/
def pushrulesPrintsSpec : ChangeSpec := { name := "pushrulesPrints", fn := fun _ => fun
  | [d] => { results := [.lit (.bool true)], args := [d] }
  | _ => none }
def pushrulesPrintsRow : OpenClaim := { program := "ytchkiegehejfmaagreatdoor", sum := "00233ed105dd5721476b249a582899c15a36a14128161911946c54c2106f2230", func := "fedchat/fedchatlaw59.PushrulesPrints", spec := "pushrulesPrints", inPlace := ["internal/bytealg.CountString", "internal/bytealg.IndexByteString", "internal/bytealg.IndexString", "internal/abi.NoEscape", "internal/bytealg.MakeNoZero"], unfollowed := true, recurses := true, named := ["unicode/utf8.first", "unicode/utf8.acceptRanges", "internal/bytealg.MaxLen"], loops := true, apart := false, laid := [("unicode/utf8.acceptRanges", laid_unicode_utf8_acceptRanges), ("unicode/utf8.first", laid_unicode_utf8_first)] }
def PushrulesPrintsSaid : Prop := pushrulesPrintsRow.holds Tryz.pinned (OpenSpec.ofChange pushrulesPrintsSpec)

/-- ITS FALSE NEIGHBOUR: 'it returns false'. Refute it at one input. -/
def pushrulesPrintsWrong : ChangeSpec := { name := "pushrulesPrints", fn := fun _ => fun
  | [d] => { results := [.lit (.bool false)], args := [d] }
  | _ => none }
def PushrulesPrintsWrongFalsely : Prop := pushrulesPrintsRow.holds Tryz.pinned (OpenSpec.ofChange pushrulesPrintsWrong)

/-- 'fedchatlaw59.PushrulesSimples': WHATEVER THE INPUT: true; the input reads as it did. -/
def pushrulesSimplesSpec : ChangeSpec := { name := "pushrulesSimples", fn := fun _ => fun
  | [d1, d2, d3] => { results := [.lit (.bool true)], args := [d1, d2, d3] }
  | _ => none }
def pushrulesSimplesRow : OpenClaim := { program := "ytchkiegehejfmaagreatdoor", sum := "00233ed105dd5721476b249a582899c15a36a14128161911946c54c2106f2230", func := "fedchat/fedchatlaw59.PushrulesSimples", spec := "pushrulesSimples", inPlace := ["internal/bytealg.CountString", "internal/bytealg.IndexByteString", "internal/bytealg.IndexString", "internal/abi.NoEscape", "internal/bytealg.MakeNoZero"], unfollowed := true, recurses := true, named := ["unicode/utf8.first", "unicode/utf8.acceptRanges", "internal/bytealg.MaxLen"], loops := true, apart := false, laid := [("unicode/utf8.acceptRanges", laid_unicode_utf8_acceptRanges), ("unicode/utf8.first", laid_unicode_utf8_first)] }
def PushrulesSimplesSaid : Prop := pushrulesSimplesRow.holds Tryz.pinned (OpenSpec.ofChange pushrulesSimplesSpec)

/-- ITS FALSE NEIGHBOUR: 'it returns false'. Refute it at one input. -/
def pushrulesSimplesWrong : ChangeSpec := { name := "pushrulesSimples", fn := fun _ => fun
  | [d1, d2, d3] => { results := [.lit (.bool false)], args := [d1, d2, d3] }
  | _ => none }
def PushrulesSimplesWrongFalsely : Prop := pushrulesSimplesRow.holds Tryz.pinned (OpenSpec.ofChange pushrulesSimplesWrong)

/-- 'fedchatlaw59.PushrulesChecks': WHATEVER THE INPUT: true; the input reads as it did. -/
def pushrulesChecksSpec : ChangeSpec := { name := "pushrulesChecks", fn := fun _ => fun
  | [d] => { results := [.lit (.bool true)], args := [d] }
  | _ => none }
def pushrulesChecksRow : OpenClaim := { program := "ytchkiegehejfmaagreatdoor", sum := "00233ed105dd5721476b249a582899c15a36a14128161911946c54c2106f2230", func := "fedchat/fedchatlaw59.PushrulesChecks", spec := "pushrulesChecks", inPlace := ["internal/bytealg.CountString", "internal/bytealg.IndexByteString", "internal/bytealg.IndexString", "internal/abi.NoEscape", "internal/bytealg.MakeNoZero"], unfollowed := true, recurses := true, named := ["unicode/utf8.first", "unicode/utf8.acceptRanges", "internal/bytealg.MaxLen"], loops := true, apart := false, laid := [("unicode/utf8.acceptRanges", laid_unicode_utf8_acceptRanges), ("unicode/utf8.first", laid_unicode_utf8_first)] }
def PushrulesChecksSaid : Prop := pushrulesChecksRow.holds Tryz.pinned (OpenSpec.ofChange pushrulesChecksSpec)

/-- ITS FALSE NEIGHBOUR: 'it returns false'. Refute it at one input. -/
def pushrulesChecksWrong : ChangeSpec := { name := "pushrulesChecks", fn := fun _ => fun
  | [d] => { results := [.lit (.bool false)], args := [d] }
  | _ => none }
def PushrulesChecksWrongFalsely : Prop := pushrulesChecksRow.holds Tryz.pinned (OpenSpec.ofChange pushrulesChecksWrong)

/- THE SECOND FORM. 'bulk': how many values and letters a reading holds, each counted each time it is reached (what is shared counts as often as it is met; a slice's spare places count too). A statement '..UptoSaid' is the law's where the arguments, and the package variables that the reading takes, are together of bulk at most 1048576: NARROWER than '..Said'. Prove '..Said' where nothing that the law and all that it calls make is longer than what came in: it says more and counts as full. Else prove '..UptoSaid'. A law counts once. -/
mutual
def uptoBulk {H : Type} : DataW H → Nat
  | .lit (.string bytes) => bytes.length + 1
  | .lit _ => 1
  | .nil => 1
  | .ptr d => uptoBulk d + 1
  | .slice elems spare => uptoBulkAll elems + uptoBulkAll spare + 1
  | .agg parts => uptoBulkAll parts + 1
  | .iface _ d => uptoBulk d + 1
  | .map entries => uptoBulkEntries entries + 1
  | .held _ => 1
def uptoBulkAll {H : Type} : List (DataW H) → Nat
  | [] => 0
  | d :: r => uptoBulk d + uptoBulkAll r
def uptoBulkEntries {H : Type} : List (Lit × DataW H) → Nat
  | [] => 0
  | x :: r => uptoBulkEntry x + uptoBulkEntries r
def uptoBulkEntry {H : Type} : Lit × DataW H → Nat
  | (.string bytes, d) => bytes.length + uptoBulk d + 1
  | (_, d) => uptoBulk d + 1
 end
def uptoSmall : (H : Type) → List (DataW H) → Bool := fun _ ds => decide (uptoBulkAll ds ≤ 1048576)
def OpenSpec.upto (s : _root_.Go.ChangeSpec) : _root_.Go.OpenSpec := { _root_.Go.OpenSpec.ofChange s with cond := some uptoSmall }

/-- 'fedchatlaw59.PushrulesParses', WHERE WHAT IT READS IS OF BULK AT MOST 1048576: true; the input reads as it did. -/
def pushrulesParsesUptoRow : OpenClaim := { program := "ytchkiegehejfmaagreatdoor", sum := "00233ed105dd5721476b249a582899c15a36a14128161911946c54c2106f2230", func := "fedchat/fedchatlaw59.PushrulesParses", spec := "pushrulesParses", inPlace := ["internal/bytealg.CountString", "internal/bytealg.IndexByteString", "internal/bytealg.IndexString", "internal/abi.NoEscape", "internal/bytealg.MakeNoZero"], unfollowed := true, recurses := true, named := ["unicode/utf8.first", "unicode/utf8.acceptRanges", "internal/bytealg.MaxLen"], apart := false, laid := [("unicode/utf8.acceptRanges", laid_unicode_utf8_acceptRanges), ("unicode/utf8.first", laid_unicode_utf8_first)], narrowed := true }
def PushrulesParsesUptoSaid : Prop := pushrulesParsesUptoRow.holds Tryz.pinned (OpenSpec.upto pushrulesParsesSpec)

/-- 'fedchatlaw59.PushrulesPrints', WHERE WHAT IT READS IS OF BULK AT MOST 1048576: true; the input reads as it did. -/
def pushrulesPrintsUptoRow : OpenClaim := { program := "ytchkiegehejfmaagreatdoor", sum := "00233ed105dd5721476b249a582899c15a36a14128161911946c54c2106f2230", func := "fedchat/fedchatlaw59.PushrulesPrints", spec := "pushrulesPrints", inPlace := ["internal/bytealg.CountString", "internal/bytealg.IndexByteString", "internal/bytealg.IndexString", "internal/abi.NoEscape", "internal/bytealg.MakeNoZero"], unfollowed := true, recurses := true, named := ["unicode/utf8.first", "unicode/utf8.acceptRanges", "internal/bytealg.MaxLen"], loops := true, apart := false, laid := [("unicode/utf8.acceptRanges", laid_unicode_utf8_acceptRanges), ("unicode/utf8.first", laid_unicode_utf8_first)], narrowed := true }
def PushrulesPrintsUptoSaid : Prop := pushrulesPrintsUptoRow.holds Tryz.pinned (OpenSpec.upto pushrulesPrintsSpec)

/-- 'fedchatlaw59.PushrulesSimples', WHERE WHAT IT READS IS OF BULK AT MOST 1048576: true; the input reads as it did. -/
def pushrulesSimplesUptoRow : OpenClaim := { program := "ytchkiegehejfmaagreatdoor", sum := "00233ed105dd5721476b249a582899c15a36a14128161911946c54c2106f2230", func := "fedchat/fedchatlaw59.PushrulesSimples", spec := "pushrulesSimples", inPlace := ["internal/bytealg.CountString", "internal/bytealg.IndexByteString", "internal/bytealg.IndexString", "internal/abi.NoEscape", "internal/bytealg.MakeNoZero"], unfollowed := true, recurses := true, named := ["unicode/utf8.first", "unicode/utf8.acceptRanges", "internal/bytealg.MaxLen"], loops := true, apart := false, laid := [("unicode/utf8.acceptRanges", laid_unicode_utf8_acceptRanges), ("unicode/utf8.first", laid_unicode_utf8_first)], narrowed := true }
def PushrulesSimplesUptoSaid : Prop := pushrulesSimplesUptoRow.holds Tryz.pinned (OpenSpec.upto pushrulesSimplesSpec)

/-- 'fedchatlaw59.PushrulesChecks', WHERE WHAT IT READS IS OF BULK AT MOST 1048576: true; the input reads as it did. -/
def pushrulesChecksUptoRow : OpenClaim := { program := "ytchkiegehejfmaagreatdoor", sum := "00233ed105dd5721476b249a582899c15a36a14128161911946c54c2106f2230", func := "fedchat/fedchatlaw59.PushrulesChecks", spec := "pushrulesChecks", inPlace := ["internal/bytealg.CountString", "internal/bytealg.IndexByteString", "internal/bytealg.IndexString", "internal/abi.NoEscape", "internal/bytealg.MakeNoZero"], unfollowed := true, recurses := true, named := ["unicode/utf8.first", "unicode/utf8.acceptRanges", "internal/bytealg.MaxLen"], loops := true, apart := false, laid := [("unicode/utf8.acceptRanges", laid_unicode_utf8_acceptRanges), ("unicode/utf8.first", laid_unicode_utf8_first)], narrowed := true }
def PushrulesChecksUptoSaid : Prop := pushrulesChecksUptoRow.holds Tryz.pinned (OpenSpec.upto pushrulesChecksSpec)

end Rows
end Go.Proofs.YtchkiegehejfmaaGreatDoor
