/-
  No cell of these rows narrows 'for every input' (looked for: loops, veiled, ifaces, maps, wideKeys, modest, calm, conditions, laid).
  DERIVED. THE GIVEN ROWS OF THIS SEAT. 13 by the template 'for every input the law returns true; each argument reads behind the call as it read before'; 0 by the template 'total and deterministic' (their statements: YtjkllkbdmkkndaaTotals.lean).
  GIVEN WITH THE SEED: the statements are not yours to turn. If you find one false, say at which input.
  Laid BY PROGRAM, IN A SANDBOX (cutbox-rows.mjs): the forced cells as the released guide's own fill.sh prints them over the translation 096dbdd0d4defce2… (all of the seat's roots in one cut). By AI agents, Wed Nov 11 2026. No macro, syntax, notation, axiom, sorry.
-/
import Derived.Test.YtjkllkbdmkkndaaChecked
import GoSem.Claim
import GoSem.ClaimJoined
import GoSem.ClaimMapViews
import Derived.JoinedTies
import Derived.KernelRfl
namespace Go.Proofs.Ytjkllkbdmkkndaa
/- THE CELL 'sum', in the pinned program and in every row, IS THE sha256 OF THE DUMP (.gsa) THAT YtjkllkbdmkkndaaProg.lean LOADS. Nothing in Lean hashes anything: it is a label: what it is worth is what the hold of that sum in a sandbox is worth. -/
noncomputable def Try.pinned : Pinned := { name := "ytjkllkbdmkkndaa", sum := "096dbdd0d4defce2ae9ba899beaa88a854ffa12221eb889d42f8d25388a501ae", checked := Try.checked }
namespace Rows
def none {H : Type} : Left H := { results := [], args := [] }

/-- 'towlinelaw02.MaskRanks': WHATEVER THE INPUT: true; the input reads as it did. -/
def maskRanksSpec : ChangeSpec := { name := "maskRanks", fn := fun _ => fun
  | [d1, d2] => { results := [.lit (.bool true)], args := [d1, d2] }
  | _ => none }
def maskRanksRow : OpenClaim := { program := "ytjkllkbdmkkndaa", sum := "096dbdd0d4defce2ae9ba899beaa88a854ffa12221eb889d42f8d25388a501ae", func := "towline/towlinelaw02.MaskRanks", spec := "maskRanks", apart := false }
def MaskRanksSaid : Prop := maskRanksRow.holds Try.pinned (OpenSpec.ofChange maskRanksSpec)

/-- ITS FALSE NEIGHBOUR: 'it returns false'. Refute it at one input. -/
def maskRanksWrong : ChangeSpec := { name := "maskRanks", fn := fun _ => fun
  | [d1, d2] => { results := [.lit (.bool false)], args := [d1, d2] }
  | _ => none }
def MaskRanksWrongFalsely : Prop := maskRanksRow.holds Try.pinned (OpenSpec.ofChange maskRanksWrong)

/-- 'towlinelaw02.MaskSigned': WHATEVER THE INPUT: true; the input reads as it did. -/
def maskSignedSpec : ChangeSpec := { name := "maskSigned", fn := fun _ => fun
  | [d1, d2] => { results := [.lit (.bool true)], args := [d1, d2] }
  | _ => none }
def maskSignedRow : OpenClaim := { program := "ytjkllkbdmkkndaa", sum := "096dbdd0d4defce2ae9ba899beaa88a854ffa12221eb889d42f8d25388a501ae", func := "towline/towlinelaw02.MaskSigned", spec := "maskSigned", apart := false }
def MaskSignedSaid : Prop := maskSignedRow.holds Try.pinned (OpenSpec.ofChange maskSignedSpec)

/-- ITS FALSE NEIGHBOUR: 'it returns false'. Refute it at one input. -/
def maskSignedWrong : ChangeSpec := { name := "maskSigned", fn := fun _ => fun
  | [d1, d2] => { results := [.lit (.bool false)], args := [d1, d2] }
  | _ => none }
def MaskSignedWrongFalsely : Prop := maskSignedRow.holds Try.pinned (OpenSpec.ofChange maskSignedWrong)

/-- 'towlinelaw02.MaskNarrow': WHATEVER THE INPUT: true; the input reads as it did. -/
def maskNarrowSpec : ChangeSpec := { name := "maskNarrow", fn := fun _ => fun
  | [d] => { results := [.lit (.bool true)], args := [d] }
  | _ => none }
def maskNarrowRow : OpenClaim := { program := "ytjkllkbdmkkndaa", sum := "096dbdd0d4defce2ae9ba899beaa88a854ffa12221eb889d42f8d25388a501ae", func := "towline/towlinelaw02.MaskNarrow", spec := "maskNarrow", apart := false }
def MaskNarrowSaid : Prop := maskNarrowRow.holds Try.pinned (OpenSpec.ofChange maskNarrowSpec)

/-- ITS FALSE NEIGHBOUR: 'it returns false'. Refute it at one input. -/
def maskNarrowWrong : ChangeSpec := { name := "maskNarrow", fn := fun _ => fun
  | [d] => { results := [.lit (.bool false)], args := [d] }
  | _ => none }
def MaskNarrowWrongFalsely : Prop := maskNarrowRow.holds Try.pinned (OpenSpec.ofChange maskNarrowWrong)

/-- 'towlinelaw02.MaskAround': WHATEVER THE INPUT: true; the input reads as it did. -/
def maskAroundSpec : ChangeSpec := { name := "maskAround", fn := fun _ => fun
  | [d1, d2] => { results := [.lit (.bool true)], args := [d1, d2] }
  | _ => none }
def maskAroundRow : OpenClaim := { program := "ytjkllkbdmkkndaa", sum := "096dbdd0d4defce2ae9ba899beaa88a854ffa12221eb889d42f8d25388a501ae", func := "towline/towlinelaw02.MaskAround", spec := "maskAround", apart := false }
def MaskAroundSaid : Prop := maskAroundRow.holds Try.pinned (OpenSpec.ofChange maskAroundSpec)

/-- ITS FALSE NEIGHBOUR: 'it returns false'. Refute it at one input. -/
def maskAroundWrong : ChangeSpec := { name := "maskAround", fn := fun _ => fun
  | [d1, d2] => { results := [.lit (.bool false)], args := [d1, d2] }
  | _ => none }
def MaskAroundWrongFalsely : Prop := maskAroundRow.holds Try.pinned (OpenSpec.ofChange maskAroundWrong)

/-- 'towlinelaw02.MaskShare': WHATEVER THE INPUT: true; the input reads as it did. -/
def maskShareSpec : ChangeSpec := { name := "maskShare", fn := fun _ => fun
  | [d1, d2, d3] => { results := [.lit (.bool true)], args := [d1, d2, d3] }
  | _ => none }
def maskShareRow : OpenClaim := { program := "ytjkllkbdmkkndaa", sum := "096dbdd0d4defce2ae9ba899beaa88a854ffa12221eb889d42f8d25388a501ae", func := "towline/towlinelaw02.MaskShare", spec := "maskShare", apart := false }
def MaskShareSaid : Prop := maskShareRow.holds Try.pinned (OpenSpec.ofChange maskShareSpec)

/-- ITS FALSE NEIGHBOUR: 'it returns false'. Refute it at one input. -/
def maskShareWrong : ChangeSpec := { name := "maskShare", fn := fun _ => fun
  | [d1, d2, d3] => { results := [.lit (.bool false)], args := [d1, d2, d3] }
  | _ => none }
def MaskShareWrongFalsely : Prop := maskShareRow.holds Try.pinned (OpenSpec.ofChange maskShareWrong)

/-- 'towlinelaw02.MaskTwo': WHATEVER THE INPUT: true; the input reads as it did. -/
def maskTwoSpec : ChangeSpec := { name := "maskTwo", fn := fun _ => fun
  | [d1, d2] => { results := [.lit (.bool true)], args := [d1, d2] }
  | _ => none }
def maskTwoRow : OpenClaim := { program := "ytjkllkbdmkkndaa", sum := "096dbdd0d4defce2ae9ba899beaa88a854ffa12221eb889d42f8d25388a501ae", func := "towline/towlinelaw02.MaskTwo", spec := "maskTwo", apart := false }
def MaskTwoSaid : Prop := maskTwoRow.holds Try.pinned (OpenSpec.ofChange maskTwoSpec)

/-- ITS FALSE NEIGHBOUR: 'it returns false'. Refute it at one input. -/
def maskTwoWrong : ChangeSpec := { name := "maskTwo", fn := fun _ => fun
  | [d1, d2] => { results := [.lit (.bool false)], args := [d1, d2] }
  | _ => none }
def MaskTwoWrongFalsely : Prop := maskTwoRow.holds Try.pinned (OpenSpec.ofChange maskTwoWrong)

/-- 'towlinelaw02.MaskTurned': WHATEVER THE INPUT: true; the input reads as it did. -/
def maskTurnedSpec : ChangeSpec := { name := "maskTurned", fn := fun _ => fun
  | [d1, d2] => { results := [.lit (.bool true)], args := [d1, d2] }
  | _ => none }
def maskTurnedRow : OpenClaim := { program := "ytjkllkbdmkkndaa", sum := "096dbdd0d4defce2ae9ba899beaa88a854ffa12221eb889d42f8d25388a501ae", func := "towline/towlinelaw02.MaskTurned", spec := "maskTurned", apart := false }
def MaskTurnedSaid : Prop := maskTurnedRow.holds Try.pinned (OpenSpec.ofChange maskTurnedSpec)

/-- ITS FALSE NEIGHBOUR: 'it returns false'. Refute it at one input. -/
def maskTurnedWrong : ChangeSpec := { name := "maskTurned", fn := fun _ => fun
  | [d1, d2] => { results := [.lit (.bool false)], args := [d1, d2] }
  | _ => none }
def MaskTurnedWrongFalsely : Prop := maskTurnedRow.holds Try.pinned (OpenSpec.ofChange maskTurnedWrong)

/-- 'towlinelaw02.MaskFlip': WHATEVER THE INPUT: true; the input reads as it did. -/
def maskFlipSpec : ChangeSpec := { name := "maskFlip", fn := fun _ => fun
  | [d] => { results := [.lit (.bool true)], args := [d] }
  | _ => none }
def maskFlipRow : OpenClaim := { program := "ytjkllkbdmkkndaa", sum := "096dbdd0d4defce2ae9ba899beaa88a854ffa12221eb889d42f8d25388a501ae", func := "towline/towlinelaw02.MaskFlip", spec := "maskFlip", apart := false }
def MaskFlipSaid : Prop := maskFlipRow.holds Try.pinned (OpenSpec.ofChange maskFlipSpec)

/-- ITS FALSE NEIGHBOUR: 'it returns false'. Refute it at one input. -/
def maskFlipWrong : ChangeSpec := { name := "maskFlip", fn := fun _ => fun
  | [d] => { results := [.lit (.bool false)], args := [d] }
  | _ => none }
def MaskFlipWrongFalsely : Prop := maskFlipRow.holds Try.pinned (OpenSpec.ofChange maskFlipWrong)

/-- 'towlinelaw02.MaskOf': WHATEVER THE INPUT: true; the input reads as it did. -/
def maskOfSpec : ChangeSpec := { name := "maskOf", fn := fun _ => fun
  | [d1, d2] => { results := [.lit (.bool true)], args := [d1, d2] }
  | _ => none }
def maskOfRow : OpenClaim := { program := "ytjkllkbdmkkndaa", sum := "096dbdd0d4defce2ae9ba899beaa88a854ffa12221eb889d42f8d25388a501ae", func := "towline/towlinelaw02.MaskOf", spec := "maskOf", apart := false }
def MaskOfSaid : Prop := maskOfRow.holds Try.pinned (OpenSpec.ofChange maskOfSpec)

/-- ITS FALSE NEIGHBOUR: 'it returns false'. Refute it at one input. -/
def maskOfWrong : ChangeSpec := { name := "maskOf", fn := fun _ => fun
  | [d1, d2] => { results := [.lit (.bool false)], args := [d1, d2] }
  | _ => none }
def MaskOfWrongFalsely : Prop := maskOfRow.holds Try.pinned (OpenSpec.ofChange maskOfWrong)

/-- 'towlinelaw02.MaskCounts': WHATEVER THE INPUT: true; the input reads as it did. -/
def maskCountsSpec : ChangeSpec := { name := "maskCounts", fn := fun _ => fun
  | [d] => { results := [.lit (.bool true)], args := [d] }
  | _ => none }
def maskCountsRow : OpenClaim := { program := "ytjkllkbdmkkndaa", sum := "096dbdd0d4defce2ae9ba899beaa88a854ffa12221eb889d42f8d25388a501ae", func := "towline/towlinelaw02.MaskCounts", spec := "maskCounts", apart := false }
def MaskCountsSaid : Prop := maskCountsRow.holds Try.pinned (OpenSpec.ofChange maskCountsSpec)

/-- ITS FALSE NEIGHBOUR: 'it returns false'. Refute it at one input. -/
def maskCountsWrong : ChangeSpec := { name := "maskCounts", fn := fun _ => fun
  | [d] => { results := [.lit (.bool false)], args := [d] }
  | _ => none }
def MaskCountsWrongFalsely : Prop := maskCountsRow.holds Try.pinned (OpenSpec.ofChange maskCountsWrong)

/-- 'towlinelaw02.MaskPacks': WHATEVER THE INPUT: true; the input reads as it did. -/
def maskPacksSpec : ChangeSpec := { name := "maskPacks", fn := fun _ => fun
  | [d] => { results := [.lit (.bool true)], args := [d] }
  | _ => none }
def maskPacksRow : OpenClaim := { program := "ytjkllkbdmkkndaa", sum := "096dbdd0d4defce2ae9ba899beaa88a854ffa12221eb889d42f8d25388a501ae", func := "towline/towlinelaw02.MaskPacks", spec := "maskPacks", apart := false }
def MaskPacksSaid : Prop := maskPacksRow.holds Try.pinned (OpenSpec.ofChange maskPacksSpec)

/-- ITS FALSE NEIGHBOUR: 'it returns false'. Refute it at one input. -/
def maskPacksWrong : ChangeSpec := { name := "maskPacks", fn := fun _ => fun
  | [d] => { results := [.lit (.bool false)], args := [d] }
  | _ => none }
def MaskPacksWrongFalsely : Prop := maskPacksRow.holds Try.pinned (OpenSpec.ofChange maskPacksWrong)

/-- 'towlinelaw02.MaskBack': WHATEVER THE INPUT: true; the input reads as it did. -/
def maskBackSpec : ChangeSpec := { name := "maskBack", fn := fun _ => fun
  | [d1, d2] => { results := [.lit (.bool true)], args := [d1, d2] }
  | _ => none }
def maskBackRow : OpenClaim := { program := "ytjkllkbdmkkndaa", sum := "096dbdd0d4defce2ae9ba899beaa88a854ffa12221eb889d42f8d25388a501ae", func := "towline/towlinelaw02.MaskBack", spec := "maskBack", apart := false }
def MaskBackSaid : Prop := maskBackRow.holds Try.pinned (OpenSpec.ofChange maskBackSpec)

/-- ITS FALSE NEIGHBOUR: 'it returns false'. Refute it at one input. -/
def maskBackWrong : ChangeSpec := { name := "maskBack", fn := fun _ => fun
  | [d1, d2] => { results := [.lit (.bool false)], args := [d1, d2] }
  | _ => none }
def MaskBackWrongFalsely : Prop := maskBackRow.holds Try.pinned (OpenSpec.ofChange maskBackWrong)

/-- 'towlinelaw02.MaskUnpacks': WHATEVER THE INPUT: true; the input reads as it did. -/
def maskUnpacksSpec : ChangeSpec := { name := "maskUnpacks", fn := fun _ => fun
  | [d1, d2] => { results := [.lit (.bool true)], args := [d1, d2] }
  | _ => none }
def maskUnpacksRow : OpenClaim := { program := "ytjkllkbdmkkndaa", sum := "096dbdd0d4defce2ae9ba899beaa88a854ffa12221eb889d42f8d25388a501ae", func := "towline/towlinelaw02.MaskUnpacks", spec := "maskUnpacks", apart := false }
def MaskUnpacksSaid : Prop := maskUnpacksRow.holds Try.pinned (OpenSpec.ofChange maskUnpacksSpec)

/-- ITS FALSE NEIGHBOUR: 'it returns false'. Refute it at one input. -/
def maskUnpacksWrong : ChangeSpec := { name := "maskUnpacks", fn := fun _ => fun
  | [d1, d2] => { results := [.lit (.bool false)], args := [d1, d2] }
  | _ => none }
def MaskUnpacksWrongFalsely : Prop := maskUnpacksRow.holds Try.pinned (OpenSpec.ofChange maskUnpacksWrong)

/- THE SECOND FORM. 'bulk': how many values and letters a reading holds, each counted each time it is reached (what is shared counts as often as it is met; a slice's spare places count too). A statement '..UptoSaid' is the law's where the arguments, and the package variables that the reading takes, are together of bulk at most 1048576: NARROWER than '..Said'. Prove '..Said' where nothing that the law and all that it calls make is longer than what came in: it says more and counts as full. Else prove '..UptoSaid'. A law counts once. -/
mutual
def uptoBulk {H : Type} : DataW H → Nat
  | .lit (.string bytes) => bytes.length + 1
  | .lit _ => 1
  | .nil => 1
  | .ptr d => uptoBulk d + 1
  | .slice elems spare => uptoBulkAll elems + uptoBulkAll spare + 1
  | .agg parts => uptoBulkAll parts + 1
  | .iface _ d => uptoBulk d + 1
  | .map entries => uptoBulkEntries entries + 1
  | .held _ => 1
def uptoBulkAll {H : Type} : List (DataW H) → Nat
  | [] => 0
  | d :: r => uptoBulk d + uptoBulkAll r
def uptoBulkEntries {H : Type} : List (Lit × DataW H) → Nat
  | [] => 0
  | x :: r => uptoBulkEntry x + uptoBulkEntries r
def uptoBulkEntry {H : Type} : Lit × DataW H → Nat
  | (.string bytes, d) => bytes.length + uptoBulk d + 1
  | (_, d) => uptoBulk d + 1
 end
def uptoSmall : (H : Type) → List (DataW H) → Bool := fun _ ds => decide (uptoBulkAll ds ≤ 1048576)
def OpenSpec.upto (s : _root_.Go.ChangeSpec) : _root_.Go.OpenSpec := { _root_.Go.OpenSpec.ofChange s with cond := some uptoSmall }

/-- 'towlinelaw02.MaskRanks', WHERE WHAT IT READS IS OF BULK AT MOST 1048576: true; the input reads as it did. -/
def maskRanksUptoRow : OpenClaim := { program := "ytjkllkbdmkkndaa", sum := "096dbdd0d4defce2ae9ba899beaa88a854ffa12221eb889d42f8d25388a501ae", func := "towline/towlinelaw02.MaskRanks", spec := "maskRanks", apart := false, narrowed := true }
def MaskRanksUptoSaid : Prop := maskRanksUptoRow.holds Try.pinned (OpenSpec.upto maskRanksSpec)

/-- 'towlinelaw02.MaskSigned', WHERE WHAT IT READS IS OF BULK AT MOST 1048576: true; the input reads as it did. -/
def maskSignedUptoRow : OpenClaim := { program := "ytjkllkbdmkkndaa", sum := "096dbdd0d4defce2ae9ba899beaa88a854ffa12221eb889d42f8d25388a501ae", func := "towline/towlinelaw02.MaskSigned", spec := "maskSigned", apart := false, narrowed := true }
def MaskSignedUptoSaid : Prop := maskSignedUptoRow.holds Try.pinned (OpenSpec.upto maskSignedSpec)

/-- 'towlinelaw02.MaskNarrow', WHERE WHAT IT READS IS OF BULK AT MOST 1048576: true; the input reads as it did. -/
def maskNarrowUptoRow : OpenClaim := { program := "ytjkllkbdmkkndaa", sum := "096dbdd0d4defce2ae9ba899beaa88a854ffa12221eb889d42f8d25388a501ae", func := "towline/towlinelaw02.MaskNarrow", spec := "maskNarrow", apart := false, narrowed := true }
def MaskNarrowUptoSaid : Prop := maskNarrowUptoRow.holds Try.pinned (OpenSpec.upto maskNarrowSpec)

/-- 'towlinelaw02.MaskAround', WHERE WHAT IT READS IS OF BULK AT MOST 1048576: true; the input reads as it did. -/
def maskAroundUptoRow : OpenClaim := { program := "ytjkllkbdmkkndaa", sum := "096dbdd0d4defce2ae9ba899beaa88a854ffa12221eb889d42f8d25388a501ae", func := "towline/towlinelaw02.MaskAround", spec := "maskAround", apart := false, narrowed := true }
def MaskAroundUptoSaid : Prop := maskAroundUptoRow.holds Try.pinned (OpenSpec.upto maskAroundSpec)

/-- 'towlinelaw02.MaskShare', WHERE WHAT IT READS IS OF BULK AT MOST 1048576: true; the input reads as it did. -/
def maskShareUptoRow : OpenClaim := { program := "ytjkllkbdmkkndaa", sum := "096dbdd0d4defce2ae9ba899beaa88a854ffa12221eb889d42f8d25388a501ae", func := "towline/towlinelaw02.MaskShare", spec := "maskShare", apart := false, narrowed := true }
def MaskShareUptoSaid : Prop := maskShareUptoRow.holds Try.pinned (OpenSpec.upto maskShareSpec)

/-- 'towlinelaw02.MaskTwo', WHERE WHAT IT READS IS OF BULK AT MOST 1048576: true; the input reads as it did. -/
def maskTwoUptoRow : OpenClaim := { program := "ytjkllkbdmkkndaa", sum := "096dbdd0d4defce2ae9ba899beaa88a854ffa12221eb889d42f8d25388a501ae", func := "towline/towlinelaw02.MaskTwo", spec := "maskTwo", apart := false, narrowed := true }
def MaskTwoUptoSaid : Prop := maskTwoUptoRow.holds Try.pinned (OpenSpec.upto maskTwoSpec)

/-- 'towlinelaw02.MaskTurned', WHERE WHAT IT READS IS OF BULK AT MOST 1048576: true; the input reads as it did. -/
def maskTurnedUptoRow : OpenClaim := { program := "ytjkllkbdmkkndaa", sum := "096dbdd0d4defce2ae9ba899beaa88a854ffa12221eb889d42f8d25388a501ae", func := "towline/towlinelaw02.MaskTurned", spec := "maskTurned", apart := false, narrowed := true }
def MaskTurnedUptoSaid : Prop := maskTurnedUptoRow.holds Try.pinned (OpenSpec.upto maskTurnedSpec)

/-- 'towlinelaw02.MaskFlip', WHERE WHAT IT READS IS OF BULK AT MOST 1048576: true; the input reads as it did. -/
def maskFlipUptoRow : OpenClaim := { program := "ytjkllkbdmkkndaa", sum := "096dbdd0d4defce2ae9ba899beaa88a854ffa12221eb889d42f8d25388a501ae", func := "towline/towlinelaw02.MaskFlip", spec := "maskFlip", apart := false, narrowed := true }
def MaskFlipUptoSaid : Prop := maskFlipUptoRow.holds Try.pinned (OpenSpec.upto maskFlipSpec)

/-- 'towlinelaw02.MaskOf', WHERE WHAT IT READS IS OF BULK AT MOST 1048576: true; the input reads as it did. -/
def maskOfUptoRow : OpenClaim := { program := "ytjkllkbdmkkndaa", sum := "096dbdd0d4defce2ae9ba899beaa88a854ffa12221eb889d42f8d25388a501ae", func := "towline/towlinelaw02.MaskOf", spec := "maskOf", apart := false, narrowed := true }
def MaskOfUptoSaid : Prop := maskOfUptoRow.holds Try.pinned (OpenSpec.upto maskOfSpec)

/-- 'towlinelaw02.MaskCounts', WHERE WHAT IT READS IS OF BULK AT MOST 1048576: true; the input reads as it did. -/
def maskCountsUptoRow : OpenClaim := { program := "ytjkllkbdmkkndaa", sum := "096dbdd0d4defce2ae9ba899beaa88a854ffa12221eb889d42f8d25388a501ae", func := "towline/towlinelaw02.MaskCounts", spec := "maskCounts", apart := false, narrowed := true }
def MaskCountsUptoSaid : Prop := maskCountsUptoRow.holds Try.pinned (OpenSpec.upto maskCountsSpec)

/-- 'towlinelaw02.MaskPacks', WHERE WHAT IT READS IS OF BULK AT MOST 1048576: true; the input reads as it did. -/
def maskPacksUptoRow : OpenClaim := { program := "ytjkllkbdmkkndaa", sum := "096dbdd0d4defce2ae9ba899beaa88a854ffa12221eb889d42f8d25388a501ae", func := "towline/towlinelaw02.MaskPacks", spec := "maskPacks", apart := false, narrowed := true }
def MaskPacksUptoSaid : Prop := maskPacksUptoRow.holds Try.pinned (OpenSpec.upto maskPacksSpec)

/-- 'towlinelaw02.MaskBack', WHERE WHAT IT READS IS OF BULK AT MOST 1048576: true; the input reads as it did. -/
def maskBackUptoRow : OpenClaim := { program := "ytjkllkbdmkkndaa", sum := "096dbdd0d4defce2ae9ba899beaa88a854ffa12221eb889d42f8d25388a501ae", func := "towline/towlinelaw02.MaskBack", spec := "maskBack", apart := false, narrowed := true }
def MaskBackUptoSaid : Prop := maskBackUptoRow.holds Try.pinned (OpenSpec.upto maskBackSpec)

/-- 'towlinelaw02.MaskUnpacks', WHERE WHAT IT READS IS OF BULK AT MOST 1048576: true; the input reads as it did. -/
def maskUnpacksUptoRow : OpenClaim := { program := "ytjkllkbdmkkndaa", sum := "096dbdd0d4defce2ae9ba899beaa88a854ffa12221eb889d42f8d25388a501ae", func := "towline/towlinelaw02.MaskUnpacks", spec := "maskUnpacks", apart := false, narrowed := true }
def MaskUnpacksUptoSaid : Prop := maskUnpacksUptoRow.holds Try.pinned (OpenSpec.upto maskUnpacksSpec)

end Rows
end Go.Proofs.Ytjkllkbdmkkndaa
