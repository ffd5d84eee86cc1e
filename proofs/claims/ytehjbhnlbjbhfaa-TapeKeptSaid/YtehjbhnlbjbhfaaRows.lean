/-
  No cell of these rows narrows 'for every input' (looked for: loops, veiled, ifaces, maps, wideKeys, modest, calm, conditions, laid).
  DERIVED. THE GIVEN ROWS OF THIS SEAT. 7 by the template 'for every input the law returns true; each argument reads behind the call as it read before'; 0 by the template 'total and deterministic' (their statements: YtehjbhnlbjbhfaaTotals.lean).
  GIVEN WITH THE SEED: the statements are not yours to turn. If you find one false, say at which input.
  Laid BY PROGRAM, IN A SANDBOX (cutbox-rows.mjs): the forced cells as the released guide's own fill.sh prints them over the translation dac0d4c41fbe7f77… (all of the seat's roots in one cut). By AI agents, Wed Nov 11 2026. No macro, syntax, notation, axiom, sorry.
-/
import Derived.Test.YtehjbhnlbjbhfaaChecked
import GoSem.Claim
import GoSem.ClaimJoined
import GoSem.ClaimMapViews
import Derived.JoinedTies
import Derived.KernelRfl
namespace Go.Proofs.Ytehjbhnlbjbhfaa
/- THE CELL 'sum', in the pinned program and in every row, IS THE sha256 OF THE DUMP (.gsa) THAT YtehjbhnlbjbhfaaProg.lean LOADS. Nothing in Lean hashes anything: it is a label: what it is worth is what the hold of that sum in a sandbox is worth. -/
noncomputable def Try.pinned : Pinned := { name := "ytehjbhnlbjbhfaa", sum := "dac0d4c41fbe7f775156185cf0146c1295c2674892c55a69757e0a0768aee31c", checked := Try.checked }
namespace Rows
def none {H : Type} : Left H := { results := [], args := [] }

/-- 'towlinelaw05.DiskPlays': WHATEVER THE INPUT: true; the input reads as it did. -/
def diskPlaysSpec : ChangeSpec := { name := "diskPlays", fn := fun _ => fun
  | [d1, d2] => { results := [.lit (.bool true)], args := [d1, d2] }
  | _ => none }
def diskPlaysRow : OpenClaim := { program := "ytehjbhnlbjbhfaa", sum := "dac0d4c41fbe7f775156185cf0146c1295c2674892c55a69757e0a0768aee31c", func := "towline/towlinelaw05.DiskPlays", spec := "diskPlays", unfollowed := true, recurses := true, apart := false }
def DiskPlaysSaid : Prop := diskPlaysRow.holds Try.pinned (OpenSpec.ofChange diskPlaysSpec)

/-- ITS FALSE NEIGHBOUR: 'it returns false'. Refute it at one input. -/
def diskPlaysWrong : ChangeSpec := { name := "diskPlays", fn := fun _ => fun
  | [d1, d2] => { results := [.lit (.bool false)], args := [d1, d2] }
  | _ => none }
def DiskPlaysWrongFalsely : Prop := diskPlaysRow.holds Try.pinned (OpenSpec.ofChange diskPlaysWrong)

/-- 'towlinelaw06.TapeNobody': WHATEVER THE INPUT: true; the input reads as it did. -/
def tapeNobodySpec : ChangeSpec := { name := "tapeNobody", fn := fun _ => fun
  | [d1, d2] => { results := [.lit (.bool true)], args := [d1, d2] }
  | _ => none }
def tapeNobodyRow : OpenClaim := { program := "ytehjbhnlbjbhfaa", sum := "dac0d4c41fbe7f775156185cf0146c1295c2674892c55a69757e0a0768aee31c", func := "towline/towlinelaw06.TapeNobody", spec := "tapeNobody", unfollowed := true, recurses := true, apart := false }
def TapeNobodySaid : Prop := tapeNobodyRow.holds Try.pinned (OpenSpec.ofChange tapeNobodySpec)

/-- ITS FALSE NEIGHBOUR: 'it returns false'. Refute it at one input. -/
def tapeNobodyWrong : ChangeSpec := { name := "tapeNobody", fn := fun _ => fun
  | [d1, d2] => { results := [.lit (.bool false)], args := [d1, d2] }
  | _ => none }
def TapeNobodyWrongFalsely : Prop := tapeNobodyRow.holds Try.pinned (OpenSpec.ofChange tapeNobodyWrong)

/-- 'towlinelaw06.TapeOpens': WHATEVER THE INPUT: true; the input reads as it did. -/
def tapeOpensSpec : ChangeSpec := { name := "tapeOpens", fn := fun _ => fun
  | [d1, d2] => { results := [.lit (.bool true)], args := [d1, d2] }
  | _ => none }
def tapeOpensRow : OpenClaim := { program := "ytehjbhnlbjbhfaa", sum := "dac0d4c41fbe7f775156185cf0146c1295c2674892c55a69757e0a0768aee31c", func := "towline/towlinelaw06.TapeOpens", spec := "tapeOpens", unfollowed := true, recurses := true, apart := false }
def TapeOpensSaid : Prop := tapeOpensRow.holds Try.pinned (OpenSpec.ofChange tapeOpensSpec)

/-- ITS FALSE NEIGHBOUR: 'it returns false'. Refute it at one input. -/
def tapeOpensWrong : ChangeSpec := { name := "tapeOpens", fn := fun _ => fun
  | [d1, d2] => { results := [.lit (.bool false)], args := [d1, d2] }
  | _ => none }
def TapeOpensWrongFalsely : Prop := tapeOpensRow.holds Try.pinned (OpenSpec.ofChange tapeOpensWrong)

/-- 'towlinelaw06.TapeAgain': WHATEVER THE INPUT: true; the input reads as it did. -/
def tapeAgainSpec : ChangeSpec := { name := "tapeAgain", fn := fun _ => fun
  | [d1, d2, d3] => { results := [.lit (.bool true)], args := [d1, d2, d3] }
  | _ => none }
def tapeAgainRow : OpenClaim := { program := "ytehjbhnlbjbhfaa", sum := "dac0d4c41fbe7f775156185cf0146c1295c2674892c55a69757e0a0768aee31c", func := "towline/towlinelaw06.TapeAgain", spec := "tapeAgain", unfollowed := true, recurses := true, apart := false }
def TapeAgainSaid : Prop := tapeAgainRow.holds Try.pinned (OpenSpec.ofChange tapeAgainSpec)

/-- ITS FALSE NEIGHBOUR: 'it returns false'. Refute it at one input. -/
def tapeAgainWrong : ChangeSpec := { name := "tapeAgain", fn := fun _ => fun
  | [d1, d2, d3] => { results := [.lit (.bool false)], args := [d1, d2, d3] }
  | _ => none }
def TapeAgainWrongFalsely : Prop := tapeAgainRow.holds Try.pinned (OpenSpec.ofChange tapeAgainWrong)

/-- 'towlinelaw06.TapeKept': WHATEVER THE INPUT: true; the input reads as it did. -/
def tapeKeptSpec : ChangeSpec := { name := "tapeKept", fn := fun _ => fun
  | [d1, d2, d3] => { results := [.lit (.bool true)], args := [d1, d2, d3] }
  | _ => none }
def tapeKeptRow : OpenClaim := { program := "ytehjbhnlbjbhfaa", sum := "dac0d4c41fbe7f775156185cf0146c1295c2674892c55a69757e0a0768aee31c", func := "towline/towlinelaw06.TapeKept", spec := "tapeKept", unfollowed := true, recurses := true, apart := false }
def TapeKeptSaid : Prop := tapeKeptRow.holds Try.pinned (OpenSpec.ofChange tapeKeptSpec)

/-- ITS FALSE NEIGHBOUR: 'it returns false'. Refute it at one input. -/
def tapeKeptWrong : ChangeSpec := { name := "tapeKept", fn := fun _ => fun
  | [d1, d2, d3] => { results := [.lit (.bool false)], args := [d1, d2, d3] }
  | _ => none }
def TapeKeptWrongFalsely : Prop := tapeKeptRow.holds Try.pinned (OpenSpec.ofChange tapeKeptWrong)

/-- 'towlinelaw06.TapeRefused': WHATEVER THE INPUT: true; the input reads as it did. -/
def tapeRefusedSpec : ChangeSpec := { name := "tapeRefused", fn := fun _ => fun
  | [d1, d2, d3] => { results := [.lit (.bool true)], args := [d1, d2, d3] }
  | _ => none }
def tapeRefusedRow : OpenClaim := { program := "ytehjbhnlbjbhfaa", sum := "dac0d4c41fbe7f775156185cf0146c1295c2674892c55a69757e0a0768aee31c", func := "towline/towlinelaw06.TapeRefused", spec := "tapeRefused", unfollowed := true, recurses := true, apart := false }
def TapeRefusedSaid : Prop := tapeRefusedRow.holds Try.pinned (OpenSpec.ofChange tapeRefusedSpec)

/-- ITS FALSE NEIGHBOUR: 'it returns false'. Refute it at one input. -/
def tapeRefusedWrong : ChangeSpec := { name := "tapeRefused", fn := fun _ => fun
  | [d1, d2, d3] => { results := [.lit (.bool false)], args := [d1, d2, d3] }
  | _ => none }
def TapeRefusedWrongFalsely : Prop := tapeRefusedRow.holds Try.pinned (OpenSpec.ofChange tapeRefusedWrong)

/-- 'towlinelaw06.TapePlays': WHATEVER THE INPUT: true; the input reads as it did. -/
def tapePlaysSpec : ChangeSpec := { name := "tapePlays", fn := fun _ => fun
  | [d1, d2] => { results := [.lit (.bool true)], args := [d1, d2] }
  | _ => none }
def tapePlaysRow : OpenClaim := { program := "ytehjbhnlbjbhfaa", sum := "dac0d4c41fbe7f775156185cf0146c1295c2674892c55a69757e0a0768aee31c", func := "towline/towlinelaw06.TapePlays", spec := "tapePlays", unfollowed := true, recurses := true, apart := false }
def TapePlaysSaid : Prop := tapePlaysRow.holds Try.pinned (OpenSpec.ofChange tapePlaysSpec)

/-- ITS FALSE NEIGHBOUR: 'it returns false'. Refute it at one input. -/
def tapePlaysWrong : ChangeSpec := { name := "tapePlays", fn := fun _ => fun
  | [d1, d2] => { results := [.lit (.bool false)], args := [d1, d2] }
  | _ => none }
def TapePlaysWrongFalsely : Prop := tapePlaysRow.holds Try.pinned (OpenSpec.ofChange tapePlaysWrong)

/- THE SECOND FORM. 'bulk': how many values and letters a reading holds, each counted each time it is reached (what is shared counts as often as it is met; a slice's spare places count too). A statement '..UptoSaid' is the law's where the arguments, and the package variables that the reading takes, are together of bulk at most 1048576: NARROWER than '..Said'. Prove '..Said' where nothing that the law and all that it calls make is longer than what came in: it says more and counts as full. Else prove '..UptoSaid'. A law counts once. -/
mutual
def uptoBulk {H : Type} : DataW H → Nat
  | .lit (.string bytes) => bytes.length + 1
  | .lit _ => 1
  | .nil => 1
  | .ptr d => uptoBulk d + 1
  | .slice elems spare => uptoBulkAll elems + uptoBulkAll spare + 1
  | .agg parts => uptoBulkAll parts + 1
  | .iface _ d => uptoBulk d + 1
  | .map entries => uptoBulkEntries entries + 1
  | .held _ => 1
def uptoBulkAll {H : Type} : List (DataW H) → Nat
  | [] => 0
  | d :: r => uptoBulk d + uptoBulkAll r
def uptoBulkEntries {H : Type} : List (Lit × DataW H) → Nat
  | [] => 0
  | x :: r => uptoBulkEntry x + uptoBulkEntries r
def uptoBulkEntry {H : Type} : Lit × DataW H → Nat
  | (.string bytes, d) => bytes.length + uptoBulk d + 1
  | (_, d) => uptoBulk d + 1
 end
def uptoSmall : (H : Type) → List (DataW H) → Bool := fun _ ds => decide (uptoBulkAll ds ≤ 1048576)
def OpenSpec.upto (s : _root_.Go.ChangeSpec) : _root_.Go.OpenSpec := { _root_.Go.OpenSpec.ofChange s with cond := some uptoSmall }

/-- 'towlinelaw05.DiskPlays', WHERE WHAT IT READS IS OF BULK AT MOST 1048576: true; the input reads as it did. -/
def diskPlaysUptoRow : OpenClaim := { program := "ytehjbhnlbjbhfaa", sum := "dac0d4c41fbe7f775156185cf0146c1295c2674892c55a69757e0a0768aee31c", func := "towline/towlinelaw05.DiskPlays", spec := "diskPlays", unfollowed := true, recurses := true, apart := false, narrowed := true }
def DiskPlaysUptoSaid : Prop := diskPlaysUptoRow.holds Try.pinned (OpenSpec.upto diskPlaysSpec)

/-- 'towlinelaw06.TapeNobody', WHERE WHAT IT READS IS OF BULK AT MOST 1048576: true; the input reads as it did. -/
def tapeNobodyUptoRow : OpenClaim := { program := "ytehjbhnlbjbhfaa", sum := "dac0d4c41fbe7f775156185cf0146c1295c2674892c55a69757e0a0768aee31c", func := "towline/towlinelaw06.TapeNobody", spec := "tapeNobody", unfollowed := true, recurses := true, apart := false, narrowed := true }
def TapeNobodyUptoSaid : Prop := tapeNobodyUptoRow.holds Try.pinned (OpenSpec.upto tapeNobodySpec)

/-- 'towlinelaw06.TapeOpens', WHERE WHAT IT READS IS OF BULK AT MOST 1048576: true; the input reads as it did. -/
def tapeOpensUptoRow : OpenClaim := { program := "ytehjbhnlbjbhfaa", sum := "dac0d4c41fbe7f775156185cf0146c1295c2674892c55a69757e0a0768aee31c", func := "towline/towlinelaw06.TapeOpens", spec := "tapeOpens", unfollowed := true, recurses := true, apart := false, narrowed := true }
def TapeOpensUptoSaid : Prop := tapeOpensUptoRow.holds Try.pinned (OpenSpec.upto tapeOpensSpec)

/-- 'towlinelaw06.TapeAgain', WHERE WHAT IT READS IS OF BULK AT MOST 1048576: true; the input reads as it did. -/
def tapeAgainUptoRow : OpenClaim := { program := "ytehjbhnlbjbhfaa", sum := "dac0d4c41fbe7f775156185cf0146c1295c2674892c55a69757e0a0768aee31c", func := "towline/towlinelaw06.TapeAgain", spec := "tapeAgain", unfollowed := true, recurses := true, apart := false, narrowed := true }
def TapeAgainUptoSaid : Prop := tapeAgainUptoRow.holds Try.pinned (OpenSpec.upto tapeAgainSpec)

/-- 'towlinelaw06.TapeKept', WHERE WHAT IT READS IS OF BULK AT MOST 1048576: true; the input reads as it did. -/
def tapeKeptUptoRow : OpenClaim := { program := "ytehjbhnlbjbhfaa", sum := "dac0d4c41fbe7f775156185cf0146c1295c2674892c55a69757e0a0768aee31c", func := "towline/towlinelaw06.TapeKept", spec := "tapeKept", unfollowed := true, recurses := true, apart := false, narrowed := true }
def TapeKeptUptoSaid : Prop := tapeKeptUptoRow.holds Try.pinned (OpenSpec.upto tapeKeptSpec)

/-- 'towlinelaw06.TapeRefused', WHERE WHAT IT READS IS OF BULK AT MOST 1048576: true; the input reads as it did. -/
def tapeRefusedUptoRow : OpenClaim := { program := "ytehjbhnlbjbhfaa", sum := "dac0d4c41fbe7f775156185cf0146c1295c2674892c55a69757e0a0768aee31c", func := "towline/towlinelaw06.TapeRefused", spec := "tapeRefused", unfollowed := true, recurses := true, apart := false, narrowed := true }
def TapeRefusedUptoSaid : Prop := tapeRefusedUptoRow.holds Try.pinned (OpenSpec.upto tapeRefusedSpec)

/-- 'towlinelaw06.TapePlays', WHERE WHAT IT READS IS OF BULK AT MOST 1048576: true; the input reads as it did. -/
def tapePlaysUptoRow : OpenClaim := { program := "ytehjbhnlbjbhfaa", sum := "dac0d4c41fbe7f775156185cf0146c1295c2674892c55a69757e0a0768aee31c", func := "towline/towlinelaw06.TapePlays", spec := "tapePlays", unfollowed := true, recurses := true, apart := false, narrowed := true }
def TapePlaysUptoSaid : Prop := tapePlaysUptoRow.holds Try.pinned (OpenSpec.upto tapePlaysSpec)

end Rows
end Go.Proofs.Ytehjbhnlbjbhfaa
