/-
  NARROWER THAN 'FOR EVERY INPUT', by the rows' own cells (each row's printed sentence says how): ShelfNext: laid · ShelfChecks: laid · ShelfPlays: laid · ShelfTables: laid · ShelfRefused: laid · ShelfTwins: laid · ShelfCuts: laid · ShelfNobody: laid · ShelfFolds: laid.
  DERIVED. THE GIVEN ROWS OF THIS SEAT. 9 by the template 'for every input the law returns true; each argument reads behind the call as it read before'; 0 by the template 'total and deterministic' (their statements: YtgmaedngkhidlaaDoorTotals.lean).
  GIVEN WITH THE SEED: the statements are not yours to turn. If you find one false, say at which input.
  Laid BY PROGRAM, IN A SANDBOX (cutbox-rows.mjs): the forced cells as the released guide's own fill.sh prints them over the translation 6bcb9b6a4506a54e… (all of the seat's roots in one cut). By AI agents, Wed Nov 11 2026. No macro, syntax, notation, axiom, sorry.
-/
import Derived.Test.YtgmaedngkhidlaaDoorChecked
import GoSem.PinnedTables
import GoSem.Claim
import GoSem.ClaimJoined
import GoSem.ClaimMapViews
import Derived.JoinedTies
import Derived.KernelRfl
namespace Go.Proofs.YtgmaedngkhidlaaDoor
/- THE CELL 'sum', in the pinned program and in every row, IS THE sha256 OF THE DUMP (.gsa) THAT YtgmaedngkhidlaaDoorProg.lean LOADS. Nothing in Lean hashes anything: it is a label: what it is worth is what the hold of that sum in a sandbox is worth. -/
noncomputable def Tryd.pinned : Pinned := { name := "ytgmaedngkhidlaadoor", sum := "6bcb9b6a4506a54e6dc3f5a64f50b68835bb55a29fe4d9c7efcf4586a204ea60", checked := Tryd.checked }
namespace Rows
def none {H : Type} : Left H := { results := [], args := [] }

/- WHAT THE LISTED PACKAGE-LEVEL VARIABLES READ AS WHEN THE CALL BEGINS. Each datum BY PROGRAM (the guide's laid-datum.mjs) off the statement by which the dump's own 'gosem.cut.vars' lays the variable. In a bare row this is a premise. The card (YtgmaedngkhidlaaDoorCards.lean) ties it to the program's text. -/
def laid_unicode_utf8_acceptRanges {H : Type} : DataW H := .agg [.agg [.lit (.int .u8 128), .lit (.int .u8 191)], .agg [.lit (.int .u8 160), .lit (.int .u8 191)], .agg [.lit (.int .u8 128), .lit (.int .u8 159)], .agg [.lit (.int .u8 144), .lit (.int .u8 191)], .agg [.lit (.int .u8 128), .lit (.int .u8 143)], .agg [.lit (.int .u8 0), .lit (.int .u8 0)], .agg [.lit (.int .u8 0), .lit (.int .u8 0)], .agg [.lit (.int .u8 0), .lit (.int .u8 0)], .agg [.lit (.int .u8 0), .lit (.int .u8 0)], .agg [.lit (.int .u8 0), .lit (.int .u8 0)], .agg [.lit (.int .u8 0), .lit (.int .u8 0)], .agg [.lit (.int .u8 0), .lit (.int .u8 0)], .agg [.lit (.int .u8 0), .lit (.int .u8 0)], .agg [.lit (.int .u8 0), .lit (.int .u8 0)], .agg [.lit (.int .u8 0), .lit (.int .u8 0)], .agg [.lit (.int .u8 0), .lit (.int .u8 0)]]
/-- One of Go's own tables, pinned by name: the form's constant. -/
def laid_unicode_utf8_first : DataW Unit := Go.Pinned.utf8First

/-- 'towlinelaw09.ShelfNext': WHATEVER THE INPUT: true; the input reads as it did. -/
def shelfNextSpec : ChangeSpec := { name := "shelfNext", fn := fun _ => fun
  | [d1, d2, d3] => { results := [.lit (.bool true)], args := [d1, d2, d3] }
  | _ => none }
def shelfNextRow : OpenClaim := { program := "ytgmaedngkhidlaadoor", sum := "6bcb9b6a4506a54e6dc3f5a64f50b68835bb55a29fe4d9c7efcf4586a204ea60", func := "towline/towlinelaw09.ShelfNext", spec := "shelfNext", inPlace := ["internal/bytealg.IndexByte", "internal/bytealg.Compare"], named := ["unicode/utf8.first", "unicode/utf8.acceptRanges"], plainKeys := false, apart := false, laid := [("unicode/utf8.acceptRanges", laid_unicode_utf8_acceptRanges), ("unicode/utf8.first", laid_unicode_utf8_first)] }
def ShelfNextSaid : Prop := shelfNextRow.holds Tryd.pinned (OpenSpec.ofChange shelfNextSpec)

/-- ITS FALSE NEIGHBOUR: 'it returns false'. Refute it at one input. -/
def shelfNextWrong : ChangeSpec := { name := "shelfNext", fn := fun _ => fun
  | [d1, d2, d3] => { results := [.lit (.bool false)], args := [d1, d2, d3] }
  | _ => none }
def ShelfNextWrongFalsely : Prop := shelfNextRow.holds Tryd.pinned (OpenSpec.ofChange shelfNextWrong)

/-- 'towlinelaw09.ShelfChecks': WHATEVER THE INPUT: true; the input reads as it did. -/
def shelfChecksSpec : ChangeSpec := { name := "shelfChecks", fn := fun _ => fun
  | [d] => { results := [.lit (.bool true)], args := [d] }
  | _ => none }
def shelfChecksRow : OpenClaim := { program := "ytgmaedngkhidlaadoor", sum := "6bcb9b6a4506a54e6dc3f5a64f50b68835bb55a29fe4d9c7efcf4586a204ea60", func := "towline/towlinelaw09.ShelfChecks", spec := "shelfChecks", inPlace := ["internal/bytealg.IndexByte", "internal/bytealg.Compare"], unfollowed := true, recurses := true, named := ["unicode/utf8.first", "unicode/utf8.acceptRanges"], plainKeys := false, apart := false, laid := [("unicode/utf8.acceptRanges", laid_unicode_utf8_acceptRanges), ("unicode/utf8.first", laid_unicode_utf8_first)] }
def ShelfChecksSaid : Prop := shelfChecksRow.holds Tryd.pinned (OpenSpec.ofChange shelfChecksSpec)

/-- ITS FALSE NEIGHBOUR: 'it returns false'. Refute it at one input. -/
def shelfChecksWrong : ChangeSpec := { name := "shelfChecks", fn := fun _ => fun
  | [d] => { results := [.lit (.bool false)], args := [d] }
  | _ => none }
def ShelfChecksWrongFalsely : Prop := shelfChecksRow.holds Tryd.pinned (OpenSpec.ofChange shelfChecksWrong)

/-- 'towlinelaw09.ShelfPlays': WHATEVER THE INPUT: true; the input reads as it did. -/
def shelfPlaysSpec : ChangeSpec := { name := "shelfPlays", fn := fun _ => fun
  | [d1, d2] => { results := [.lit (.bool true)], args := [d1, d2] }
  | _ => none }
def shelfPlaysRow : OpenClaim := { program := "ytgmaedngkhidlaadoor", sum := "6bcb9b6a4506a54e6dc3f5a64f50b68835bb55a29fe4d9c7efcf4586a204ea60", func := "towline/towlinelaw09.ShelfPlays", spec := "shelfPlays", inPlace := ["internal/bytealg.IndexByte", "internal/bytealg.Compare"], unfollowed := true, recurses := true, named := ["unicode/utf8.first", "unicode/utf8.acceptRanges"], plainKeys := false, apart := false, laid := [("unicode/utf8.acceptRanges", laid_unicode_utf8_acceptRanges), ("unicode/utf8.first", laid_unicode_utf8_first)] }
def ShelfPlaysSaid : Prop := shelfPlaysRow.holds Tryd.pinned (OpenSpec.ofChange shelfPlaysSpec)

/-- ITS FALSE NEIGHBOUR: 'it returns false'. Refute it at one input. -/
def shelfPlaysWrong : ChangeSpec := { name := "shelfPlays", fn := fun _ => fun
  | [d1, d2] => { results := [.lit (.bool false)], args := [d1, d2] }
  | _ => none }
def ShelfPlaysWrongFalsely : Prop := shelfPlaysRow.holds Tryd.pinned (OpenSpec.ofChange shelfPlaysWrong)

/-- 'towlinelaw09.ShelfTables': WHATEVER THE INPUT: true; the input reads as it did. -/
def shelfTablesSpec : ChangeSpec := { name := "shelfTables", fn := fun _ => fun
  | [d1, d2, d3] => { results := [.lit (.bool true)], args := [d1, d2, d3] }
  | _ => none }
def shelfTablesRow : OpenClaim := { program := "ytgmaedngkhidlaadoor", sum := "6bcb9b6a4506a54e6dc3f5a64f50b68835bb55a29fe4d9c7efcf4586a204ea60", func := "towline/towlinelaw09.ShelfTables", spec := "shelfTables", inPlace := ["internal/bytealg.IndexByte", "internal/bytealg.Compare"], unfollowed := true, recurses := true, named := ["unicode/utf8.first", "unicode/utf8.acceptRanges"], plainKeys := false, apart := false, laid := [("unicode/utf8.acceptRanges", laid_unicode_utf8_acceptRanges), ("unicode/utf8.first", laid_unicode_utf8_first)] }
def ShelfTablesSaid : Prop := shelfTablesRow.holds Tryd.pinned (OpenSpec.ofChange shelfTablesSpec)

/-- ITS FALSE NEIGHBOUR: 'it returns false'. Refute it at one input. -/
def shelfTablesWrong : ChangeSpec := { name := "shelfTables", fn := fun _ => fun
  | [d1, d2, d3] => { results := [.lit (.bool false)], args := [d1, d2, d3] }
  | _ => none }
def ShelfTablesWrongFalsely : Prop := shelfTablesRow.holds Tryd.pinned (OpenSpec.ofChange shelfTablesWrong)

/-- 'towlinelaw09.ShelfRefused': WHATEVER THE INPUT: true; the input reads as it did. -/
def shelfRefusedSpec : ChangeSpec := { name := "shelfRefused", fn := fun _ => fun
  | [d1, d2, d3] => { results := [.lit (.bool true)], args := [d1, d2, d3] }
  | _ => none }
def shelfRefusedRow : OpenClaim := { program := "ytgmaedngkhidlaadoor", sum := "6bcb9b6a4506a54e6dc3f5a64f50b68835bb55a29fe4d9c7efcf4586a204ea60", func := "towline/towlinelaw09.ShelfRefused", spec := "shelfRefused", inPlace := ["internal/bytealg.IndexByte", "internal/bytealg.Compare"], unfollowed := true, recurses := true, named := ["unicode/utf8.first", "unicode/utf8.acceptRanges"], plainKeys := false, apart := false, laid := [("unicode/utf8.acceptRanges", laid_unicode_utf8_acceptRanges), ("unicode/utf8.first", laid_unicode_utf8_first)] }
def ShelfRefusedSaid : Prop := shelfRefusedRow.holds Tryd.pinned (OpenSpec.ofChange shelfRefusedSpec)

/-- ITS FALSE NEIGHBOUR: 'it returns false'. Refute it at one input. -/
def shelfRefusedWrong : ChangeSpec := { name := "shelfRefused", fn := fun _ => fun
  | [d1, d2, d3] => { results := [.lit (.bool false)], args := [d1, d2, d3] }
  | _ => none }
def ShelfRefusedWrongFalsely : Prop := shelfRefusedRow.holds Tryd.pinned (OpenSpec.ofChange shelfRefusedWrong)

/-- 'towlinelaw09.ShelfTwins': WHATEVER THE INPUT: true; the input reads as it did. -/
def shelfTwinsSpec : ChangeSpec := { name := "shelfTwins", fn := fun _ => fun
  | [d1, d2, d3, d4] => { results := [.lit (.bool true)], args := [d1, d2, d3, d4] }
  | _ => none }
def shelfTwinsRow : OpenClaim := { program := "ytgmaedngkhidlaadoor", sum := "6bcb9b6a4506a54e6dc3f5a64f50b68835bb55a29fe4d9c7efcf4586a204ea60", func := "towline/towlinelaw09.ShelfTwins", spec := "shelfTwins", inPlace := ["internal/bytealg.IndexByte", "internal/bytealg.Compare"], unfollowed := true, recurses := true, named := ["unicode/utf8.first", "unicode/utf8.acceptRanges"], plainKeys := false, apart := false, laid := [("unicode/utf8.acceptRanges", laid_unicode_utf8_acceptRanges), ("unicode/utf8.first", laid_unicode_utf8_first)] }
def ShelfTwinsSaid : Prop := shelfTwinsRow.holds Tryd.pinned (OpenSpec.ofChange shelfTwinsSpec)

/-- ITS FALSE NEIGHBOUR: 'it returns false'. Refute it at one input. -/
def shelfTwinsWrong : ChangeSpec := { name := "shelfTwins", fn := fun _ => fun
  | [d1, d2, d3, d4] => { results := [.lit (.bool false)], args := [d1, d2, d3, d4] }
  | _ => none }
def ShelfTwinsWrongFalsely : Prop := shelfTwinsRow.holds Tryd.pinned (OpenSpec.ofChange shelfTwinsWrong)

/-- 'towlinelaw09.ShelfCuts': WHATEVER THE INPUT: true; the input reads as it did. -/
def shelfCutsSpec : ChangeSpec := { name := "shelfCuts", fn := fun _ => fun
  | [d1, d2, d3] => { results := [.lit (.bool true)], args := [d1, d2, d3] }
  | _ => none }
def shelfCutsRow : OpenClaim := { program := "ytgmaedngkhidlaadoor", sum := "6bcb9b6a4506a54e6dc3f5a64f50b68835bb55a29fe4d9c7efcf4586a204ea60", func := "towline/towlinelaw09.ShelfCuts", spec := "shelfCuts", inPlace := ["internal/bytealg.IndexByte", "internal/bytealg.Compare"], unfollowed := true, recurses := true, named := ["unicode/utf8.first", "unicode/utf8.acceptRanges"], plainKeys := false, apart := false, laid := [("unicode/utf8.acceptRanges", laid_unicode_utf8_acceptRanges), ("unicode/utf8.first", laid_unicode_utf8_first)] }
def ShelfCutsSaid : Prop := shelfCutsRow.holds Tryd.pinned (OpenSpec.ofChange shelfCutsSpec)

/-- ITS FALSE NEIGHBOUR: 'it returns false'. Refute it at one input. -/
def shelfCutsWrong : ChangeSpec := { name := "shelfCuts", fn := fun _ => fun
  | [d1, d2, d3] => { results := [.lit (.bool false)], args := [d1, d2, d3] }
  | _ => none }
def ShelfCutsWrongFalsely : Prop := shelfCutsRow.holds Tryd.pinned (OpenSpec.ofChange shelfCutsWrong)

/-- 'towlinelaw09.ShelfNobody': WHATEVER THE INPUT: true; the input reads as it did. -/
def shelfNobodySpec : ChangeSpec := { name := "shelfNobody", fn := fun _ => fun
  | [d] => { results := [.lit (.bool true)], args := [d] }
  | _ => none }
def shelfNobodyRow : OpenClaim := { program := "ytgmaedngkhidlaadoor", sum := "6bcb9b6a4506a54e6dc3f5a64f50b68835bb55a29fe4d9c7efcf4586a204ea60", func := "towline/towlinelaw09.ShelfNobody", spec := "shelfNobody", inPlace := ["internal/bytealg.IndexByte", "internal/bytealg.Compare"], unfollowed := true, recurses := true, named := ["unicode/utf8.first", "unicode/utf8.acceptRanges"], plainKeys := false, apart := false, laid := [("unicode/utf8.acceptRanges", laid_unicode_utf8_acceptRanges), ("unicode/utf8.first", laid_unicode_utf8_first)] }
def ShelfNobodySaid : Prop := shelfNobodyRow.holds Tryd.pinned (OpenSpec.ofChange shelfNobodySpec)

/-- ITS FALSE NEIGHBOUR: 'it returns false'. Refute it at one input. -/
def shelfNobodyWrong : ChangeSpec := { name := "shelfNobody", fn := fun _ => fun
  | [d] => { results := [.lit (.bool false)], args := [d] }
  | _ => none }
def ShelfNobodyWrongFalsely : Prop := shelfNobodyRow.holds Tryd.pinned (OpenSpec.ofChange shelfNobodyWrong)

/-- 'towlinelaw09.ShelfFolds': WHATEVER THE INPUT: true; the input reads as it did. -/
def shelfFoldsSpec : ChangeSpec := { name := "shelfFolds", fn := fun _ => fun
  | [d1, d2, d3, d4] => { results := [.lit (.bool true)], args := [d1, d2, d3, d4] }
  | _ => none }
def shelfFoldsRow : OpenClaim := { program := "ytgmaedngkhidlaadoor", sum := "6bcb9b6a4506a54e6dc3f5a64f50b68835bb55a29fe4d9c7efcf4586a204ea60", func := "towline/towlinelaw09.ShelfFolds", spec := "shelfFolds", inPlace := ["internal/bytealg.IndexByte", "internal/bytealg.Compare"], unfollowed := true, recurses := true, named := ["unicode/utf8.first", "unicode/utf8.acceptRanges"], plainKeys := false, apart := false, laid := [("unicode/utf8.acceptRanges", laid_unicode_utf8_acceptRanges), ("unicode/utf8.first", laid_unicode_utf8_first)] }
def ShelfFoldsSaid : Prop := shelfFoldsRow.holds Tryd.pinned (OpenSpec.ofChange shelfFoldsSpec)

/-- ITS FALSE NEIGHBOUR: 'it returns false'. Refute it at one input. -/
def shelfFoldsWrong : ChangeSpec := { name := "shelfFolds", fn := fun _ => fun
  | [d1, d2, d3, d4] => { results := [.lit (.bool false)], args := [d1, d2, d3, d4] }
  | _ => none }
def ShelfFoldsWrongFalsely : Prop := shelfFoldsRow.holds Tryd.pinned (OpenSpec.ofChange shelfFoldsWrong)

/- THE SECOND FORM. 'bulk': how many values and letters a reading holds, each counted each time it is reached (what is shared counts as often as it is met; a slice's spare places count too). A statement '..UptoSaid' is the law's where the arguments, and the package variables that the reading takes, are together of bulk at most 1048576: NARROWER than '..Said'. Prove '..Said' where nothing that the law and all that it calls make is longer than what came in: it says more and counts as full. Else prove '..UptoSaid'. A law counts once. -/
mutual
def uptoBulk {H : Type} : DataW H → Nat
  | .lit (.string bytes) => bytes.length + 1
  | .lit _ => 1
  | .nil => 1
  | .ptr d => uptoBulk d + 1
  | .slice elems spare => uptoBulkAll elems + uptoBulkAll spare + 1
  | .agg parts => uptoBulkAll parts + 1
  | .iface _ d => uptoBulk d + 1
  | .map entries => uptoBulkEntries entries + 1
  | .held _ => 1
def uptoBulkAll {H : Type} : List (DataW H) → Nat
  | [] => 0
  | d :: r => uptoBulk d + uptoBulkAll r
def uptoBulkEntries {H : Type} : List (Lit × DataW H) → Nat
  | [] => 0
  | x :: r => uptoBulkEntry x + uptoBulkEntries r
def uptoBulkEntry {H : Type} : Lit × DataW H → Nat
  | (.string bytes, d) => bytes.length + uptoBulk d + 1
  | (_, d) => uptoBulk d + 1
 end
def uptoSmall : (H : Type) → List (DataW H) → Bool := fun _ ds => decide (uptoBulkAll ds ≤ 1048576)
def OpenSpec.upto (s : _root_.Go.ChangeSpec) : _root_.Go.OpenSpec := { _root_.Go.OpenSpec.ofChange s with cond := some uptoSmall }

/-- 'towlinelaw09.ShelfNext', WHERE WHAT IT READS IS OF BULK AT MOST 1048576: true; the input reads as it did. -/
def shelfNextUptoRow : OpenClaim := { program := "ytgmaedngkhidlaadoor", sum := "6bcb9b6a4506a54e6dc3f5a64f50b68835bb55a29fe4d9c7efcf4586a204ea60", func := "towline/towlinelaw09.ShelfNext", spec := "shelfNext", inPlace := ["internal/bytealg.IndexByte", "internal/bytealg.Compare"], named := ["unicode/utf8.first", "unicode/utf8.acceptRanges"], plainKeys := false, apart := false, laid := [("unicode/utf8.acceptRanges", laid_unicode_utf8_acceptRanges), ("unicode/utf8.first", laid_unicode_utf8_first)], narrowed := true }
def ShelfNextUptoSaid : Prop := shelfNextUptoRow.holds Tryd.pinned (OpenSpec.upto shelfNextSpec)

/-- 'towlinelaw09.ShelfChecks', WHERE WHAT IT READS IS OF BULK AT MOST 1048576: true; the input reads as it did. -/
def shelfChecksUptoRow : OpenClaim := { program := "ytgmaedngkhidlaadoor", sum := "6bcb9b6a4506a54e6dc3f5a64f50b68835bb55a29fe4d9c7efcf4586a204ea60", func := "towline/towlinelaw09.ShelfChecks", spec := "shelfChecks", inPlace := ["internal/bytealg.IndexByte", "internal/bytealg.Compare"], unfollowed := true, recurses := true, named := ["unicode/utf8.first", "unicode/utf8.acceptRanges"], plainKeys := false, apart := false, laid := [("unicode/utf8.acceptRanges", laid_unicode_utf8_acceptRanges), ("unicode/utf8.first", laid_unicode_utf8_first)], narrowed := true }
def ShelfChecksUptoSaid : Prop := shelfChecksUptoRow.holds Tryd.pinned (OpenSpec.upto shelfChecksSpec)

/-- 'towlinelaw09.ShelfPlays', WHERE WHAT IT READS IS OF BULK AT MOST 1048576: true; the input reads as it did. -/
def shelfPlaysUptoRow : OpenClaim := { program := "ytgmaedngkhidlaadoor", sum := "6bcb9b6a4506a54e6dc3f5a64f50b68835bb55a29fe4d9c7efcf4586a204ea60", func := "towline/towlinelaw09.ShelfPlays", spec := "shelfPlays", inPlace := ["internal/bytealg.IndexByte", "internal/bytealg.Compare"], unfollowed := true, recurses := true, named := ["unicode/utf8.first", "unicode/utf8.acceptRanges"], plainKeys := false, apart := false, laid := [("unicode/utf8.acceptRanges", laid_unicode_utf8_acceptRanges), ("unicode/utf8.first", laid_unicode_utf8_first)], narrowed := true }
def ShelfPlaysUptoSaid : Prop := shelfPlaysUptoRow.holds Tryd.pinned (OpenSpec.upto shelfPlaysSpec)

/-- 'towlinelaw09.ShelfTables', WHERE WHAT IT READS IS OF BULK AT MOST 1048576: true; the input reads as it did. -/
def shelfTablesUptoRow : OpenClaim := { program := "ytgmaedngkhidlaadoor", sum := "6bcb9b6a4506a54e6dc3f5a64f50b68835bb55a29fe4d9c7efcf4586a204ea60", func := "towline/towlinelaw09.ShelfTables", spec := "shelfTables", inPlace := ["internal/bytealg.IndexByte", "internal/bytealg.Compare"], unfollowed := true, recurses := true, named := ["unicode/utf8.first", "unicode/utf8.acceptRanges"], plainKeys := false, apart := false, laid := [("unicode/utf8.acceptRanges", laid_unicode_utf8_acceptRanges), ("unicode/utf8.first", laid_unicode_utf8_first)], narrowed := true }
def ShelfTablesUptoSaid : Prop := shelfTablesUptoRow.holds Tryd.pinned (OpenSpec.upto shelfTablesSpec)

/-- 'towlinelaw09.ShelfRefused', WHERE WHAT IT READS IS OF BULK AT MOST 1048576: true; the input reads as it did. -/
def shelfRefusedUptoRow : OpenClaim := { program := "ytgmaedngkhidlaadoor", sum := "6bcb9b6a4506a54e6dc3f5a64f50b68835bb55a29fe4d9c7efcf4586a204ea60", func := "towline/towlinelaw09.ShelfRefused", spec := "shelfRefused", inPlace := ["internal/bytealg.IndexByte", "internal/bytealg.Compare"], unfollowed := true, recurses := true, named := ["unicode/utf8.first", "unicode/utf8.acceptRanges"], plainKeys := false, apart := false, laid := [("unicode/utf8.acceptRanges", laid_unicode_utf8_acceptRanges), ("unicode/utf8.first", laid_unicode_utf8_first)], narrowed := true }
def ShelfRefusedUptoSaid : Prop := shelfRefusedUptoRow.holds Tryd.pinned (OpenSpec.upto shelfRefusedSpec)

/-- 'towlinelaw09.ShelfTwins', WHERE WHAT IT READS IS OF BULK AT MOST 1048576: true; the input reads as it did. -/
def shelfTwinsUptoRow : OpenClaim := { program := "ytgmaedngkhidlaadoor", sum := "6bcb9b6a4506a54e6dc3f5a64f50b68835bb55a29fe4d9c7efcf4586a204ea60", func := "towline/towlinelaw09.ShelfTwins", spec := "shelfTwins", inPlace := ["internal/bytealg.IndexByte", "internal/bytealg.Compare"], unfollowed := true, recurses := true, named := ["unicode/utf8.first", "unicode/utf8.acceptRanges"], plainKeys := false, apart := false, laid := [("unicode/utf8.acceptRanges", laid_unicode_utf8_acceptRanges), ("unicode/utf8.first", laid_unicode_utf8_first)], narrowed := true }
def ShelfTwinsUptoSaid : Prop := shelfTwinsUptoRow.holds Tryd.pinned (OpenSpec.upto shelfTwinsSpec)

/-- 'towlinelaw09.ShelfCuts', WHERE WHAT IT READS IS OF BULK AT MOST 1048576: true; the input reads as it did. -/
def shelfCutsUptoRow : OpenClaim := { program := "ytgmaedngkhidlaadoor", sum := "6bcb9b6a4506a54e6dc3f5a64f50b68835bb55a29fe4d9c7efcf4586a204ea60", func := "towline/towlinelaw09.ShelfCuts", spec := "shelfCuts", inPlace := ["internal/bytealg.IndexByte", "internal/bytealg.Compare"], unfollowed := true, recurses := true, named := ["unicode/utf8.first", "unicode/utf8.acceptRanges"], plainKeys := false, apart := false, laid := [("unicode/utf8.acceptRanges", laid_unicode_utf8_acceptRanges), ("unicode/utf8.first", laid_unicode_utf8_first)], narrowed := true }
def ShelfCutsUptoSaid : Prop := shelfCutsUptoRow.holds Tryd.pinned (OpenSpec.upto shelfCutsSpec)

/-- 'towlinelaw09.ShelfNobody', WHERE WHAT IT READS IS OF BULK AT MOST 1048576: true; the input reads as it did. -/
def shelfNobodyUptoRow : OpenClaim := { program := "ytgmaedngkhidlaadoor", sum := "6bcb9b6a4506a54e6dc3f5a64f50b68835bb55a29fe4d9c7efcf4586a204ea60", func := "towline/towlinelaw09.ShelfNobody", spec := "shelfNobody", inPlace := ["internal/bytealg.IndexByte", "internal/bytealg.Compare"], unfollowed := true, recurses := true, named := ["unicode/utf8.first", "unicode/utf8.acceptRanges"], plainKeys := false, apart := false, laid := [("unicode/utf8.acceptRanges", laid_unicode_utf8_acceptRanges), ("unicode/utf8.first", laid_unicode_utf8_first)], narrowed := true }
def ShelfNobodyUptoSaid : Prop := shelfNobodyUptoRow.holds Tryd.pinned (OpenSpec.upto shelfNobodySpec)

/-- 'towlinelaw09.ShelfFolds', WHERE WHAT IT READS IS OF BULK AT MOST 1048576: true; the input reads as it did. -/
def shelfFoldsUptoRow : OpenClaim := { program := "ytgmaedngkhidlaadoor", sum := "6bcb9b6a4506a54e6dc3f5a64f50b68835bb55a29fe4d9c7efcf4586a204ea60", func := "towline/towlinelaw09.ShelfFolds", spec := "shelfFolds", inPlace := ["internal/bytealg.IndexByte", "internal/bytealg.Compare"], unfollowed := true, recurses := true, named := ["unicode/utf8.first", "unicode/utf8.acceptRanges"], plainKeys := false, apart := false, laid := [("unicode/utf8.acceptRanges", laid_unicode_utf8_acceptRanges), ("unicode/utf8.first", laid_unicode_utf8_first)], narrowed := true }
def ShelfFoldsUptoSaid : Prop := shelfFoldsUptoRow.holds Tryd.pinned (OpenSpec.upto shelfFoldsSpec)

end Rows
end Go.Proofs.YtgmaedngkhidlaaDoor
