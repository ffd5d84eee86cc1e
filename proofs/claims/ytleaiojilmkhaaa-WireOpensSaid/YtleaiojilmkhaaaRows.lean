/-
  No cell of these rows narrows 'for every input' (looked for: loops, veiled, ifaces, maps, wideKeys, modest, calm, conditions, laid).
  DERIVED. THE GIVEN ROWS OF THIS SEAT. 13 by the template 'for every input the law returns true; each argument reads behind the call as it read before'; 0 by the template 'total and deterministic' (their statements: YtleaiojilmkhaaaTotals.lean).
  GIVEN WITH THE SEED: the statements are not yours to turn. If you find one false, say at which input.
  Laid BY PROGRAM, IN A SANDBOX (cutbox-rows.mjs): the forced cells as the released guide's own fill.sh prints them over the translation b01b22afe7548b3d… (all of the seat's roots in one cut). By AI agents, Wed Nov 11 2026. No macro, syntax, notation, axiom, sorry.
-/
import Derived.Test.YtleaiojilmkhaaaChecked
import GoSem.Claim
import GoSem.ClaimJoined
import GoSem.ClaimMapViews
import Derived.JoinedTies
import Derived.KernelRfl
namespace Go.Proofs.Ytleaiojilmkhaaa
/- THE CELL 'sum', in the pinned program and in every row, IS THE sha256 OF THE DUMP (.gsa) THAT YtleaiojilmkhaaaProg.lean LOADS. Nothing in Lean hashes anything: it is a label: what it is worth is what the hold of that sum in a sandbox is worth. -/
noncomputable def Try.pinned : Pinned := { name := "ytleaiojilmkhaaa", sum := "b01b22afe7548b3da27cbd9fb3c0b2eebb5bc91b53bc10602639d1a439262174", checked := Try.checked }
namespace Rows
def none {H : Type} : Left H := { results := [], args := [] }

/-- 'towlinelaw01.WireBytes': WHATEVER THE INPUT: true; the input reads as it did. -/
def wireBytesSpec : ChangeSpec := { name := "wireBytes", fn := fun _ => fun
  | [d1, d2] => { results := [.lit (.bool true)], args := [d1, d2] }
  | _ => none }
def wireBytesRow : OpenClaim := { program := "ytleaiojilmkhaaa", sum := "b01b22afe7548b3da27cbd9fb3c0b2eebb5bc91b53bc10602639d1a439262174", func := "towline/towlinelaw01.WireBytes", spec := "wireBytes", apart := false }
def WireBytesSaid : Prop := wireBytesRow.holds Try.pinned (OpenSpec.ofChange wireBytesSpec)

/-- ITS FALSE NEIGHBOUR: 'it returns false'. Refute it at one input. -/
def wireBytesWrong : ChangeSpec := { name := "wireBytes", fn := fun _ => fun
  | [d1, d2] => { results := [.lit (.bool false)], args := [d1, d2] }
  | _ => none }
def WireBytesWrongFalsely : Prop := wireBytesRow.holds Try.pinned (OpenSpec.ofChange wireBytesWrong)

/-- 'towlinelaw01.WireSeals': WHATEVER THE INPUT: true; the input reads as it did. -/
def wireSealsSpec : ChangeSpec := { name := "wireSeals", fn := fun _ => fun
  | [d] => { results := [.lit (.bool true)], args := [d] }
  | _ => none }
def wireSealsRow : OpenClaim := { program := "ytleaiojilmkhaaa", sum := "b01b22afe7548b3da27cbd9fb3c0b2eebb5bc91b53bc10602639d1a439262174", func := "towline/towlinelaw01.WireSeals", spec := "wireSeals", apart := false }
def WireSealsSaid : Prop := wireSealsRow.holds Try.pinned (OpenSpec.ofChange wireSealsSpec)

/-- ITS FALSE NEIGHBOUR: 'it returns false'. Refute it at one input. -/
def wireSealsWrong : ChangeSpec := { name := "wireSeals", fn := fun _ => fun
  | [d] => { results := [.lit (.bool false)], args := [d] }
  | _ => none }
def WireSealsWrongFalsely : Prop := wireSealsRow.holds Try.pinned (OpenSpec.ofChange wireSealsWrong)

/-- 'towlinelaw01.WireTurned': WHATEVER THE INPUT: true; the input reads as it did. -/
def wireTurnedSpec : ChangeSpec := { name := "wireTurned", fn := fun _ => fun
  | [d1, d2, d3] => { results := [.lit (.bool true)], args := [d1, d2, d3] }
  | _ => none }
def wireTurnedRow : OpenClaim := { program := "ytleaiojilmkhaaa", sum := "b01b22afe7548b3da27cbd9fb3c0b2eebb5bc91b53bc10602639d1a439262174", func := "towline/towlinelaw01.WireTurned", spec := "wireTurned", apart := false }
def WireTurnedSaid : Prop := wireTurnedRow.holds Try.pinned (OpenSpec.ofChange wireTurnedSpec)

/-- ITS FALSE NEIGHBOUR: 'it returns false'. Refute it at one input. -/
def wireTurnedWrong : ChangeSpec := { name := "wireTurned", fn := fun _ => fun
  | [d1, d2, d3] => { results := [.lit (.bool false)], args := [d1, d2, d3] }
  | _ => none }
def WireTurnedWrongFalsely : Prop := wireTurnedRow.holds Try.pinned (OpenSpec.ofChange wireTurnedWrong)

/-- 'towlinelaw01.WireCut': WHATEVER THE INPUT: true; the input reads as it did. -/
def wireCutSpec : ChangeSpec := { name := "wireCut", fn := fun _ => fun
  | [d1, d2] => { results := [.lit (.bool true)], args := [d1, d2] }
  | _ => none }
def wireCutRow : OpenClaim := { program := "ytleaiojilmkhaaa", sum := "b01b22afe7548b3da27cbd9fb3c0b2eebb5bc91b53bc10602639d1a439262174", func := "towline/towlinelaw01.WireCut", spec := "wireCut", apart := false }
def WireCutSaid : Prop := wireCutRow.holds Try.pinned (OpenSpec.ofChange wireCutSpec)

/-- ITS FALSE NEIGHBOUR: 'it returns false'. Refute it at one input. -/
def wireCutWrong : ChangeSpec := { name := "wireCut", fn := fun _ => fun
  | [d1, d2] => { results := [.lit (.bool false)], args := [d1, d2] }
  | _ => none }
def WireCutWrongFalsely : Prop := wireCutRow.holds Try.pinned (OpenSpec.ofChange wireCutWrong)

/-- 'towlinelaw01.WireShort': WHATEVER THE INPUT: true; the input reads as it did. -/
def wireShortSpec : ChangeSpec := { name := "wireShort", fn := fun _ => fun
  | [d1, d2] => { results := [.lit (.bool true)], args := [d1, d2] }
  | _ => none }
def wireShortRow : OpenClaim := { program := "ytleaiojilmkhaaa", sum := "b01b22afe7548b3da27cbd9fb3c0b2eebb5bc91b53bc10602639d1a439262174", func := "towline/towlinelaw01.WireShort", spec := "wireShort", apart := false }
def WireShortSaid : Prop := wireShortRow.holds Try.pinned (OpenSpec.ofChange wireShortSpec)

/-- ITS FALSE NEIGHBOUR: 'it returns false'. Refute it at one input. -/
def wireShortWrong : ChangeSpec := { name := "wireShort", fn := fun _ => fun
  | [d1, d2] => { results := [.lit (.bool false)], args := [d1, d2] }
  | _ => none }
def WireShortWrongFalsely : Prop := wireShortRow.holds Try.pinned (OpenSpec.ofChange wireShortWrong)

/-- 'towlinelaw01.WireTurns': WHATEVER THE INPUT: true; the input reads as it did. -/
def wireTurnsSpec : ChangeSpec := { name := "wireTurns", fn := fun _ => fun
  | [d1, d2] => { results := [.lit (.bool true)], args := [d1, d2] }
  | _ => none }
def wireTurnsRow : OpenClaim := { program := "ytleaiojilmkhaaa", sum := "b01b22afe7548b3da27cbd9fb3c0b2eebb5bc91b53bc10602639d1a439262174", func := "towline/towlinelaw01.WireTurns", spec := "wireTurns", apart := false }
def WireTurnsSaid : Prop := wireTurnsRow.holds Try.pinned (OpenSpec.ofChange wireTurnsSpec)

/-- ITS FALSE NEIGHBOUR: 'it returns false'. Refute it at one input. -/
def wireTurnsWrong : ChangeSpec := { name := "wireTurns", fn := fun _ => fun
  | [d1, d2] => { results := [.lit (.bool false)], args := [d1, d2] }
  | _ => none }
def WireTurnsWrongFalsely : Prop := wireTurnsRow.holds Try.pinned (OpenSpec.ofChange wireTurnsWrong)

/-- 'towlinelaw01.WireForm': WHATEVER THE INPUT: true; the input reads as it did. -/
def wireFormSpec : ChangeSpec := { name := "wireForm", fn := fun _ => fun
  | [d] => { results := [.lit (.bool true)], args := [d] }
  | _ => none }
def wireFormRow : OpenClaim := { program := "ytleaiojilmkhaaa", sum := "b01b22afe7548b3da27cbd9fb3c0b2eebb5bc91b53bc10602639d1a439262174", func := "towline/towlinelaw01.WireForm", spec := "wireForm", apart := false }
def WireFormSaid : Prop := wireFormRow.holds Try.pinned (OpenSpec.ofChange wireFormSpec)

/-- ITS FALSE NEIGHBOUR: 'it returns false'. Refute it at one input. -/
def wireFormWrong : ChangeSpec := { name := "wireForm", fn := fun _ => fun
  | [d] => { results := [.lit (.bool false)], args := [d] }
  | _ => none }
def WireFormWrongFalsely : Prop := wireFormRow.holds Try.pinned (OpenSpec.ofChange wireFormWrong)

/-- 'towlinelaw01.WireNumbers': WHATEVER THE INPUT: true; the input reads as it did. -/
def wireNumbersSpec : ChangeSpec := { name := "wireNumbers", fn := fun _ => fun
  | [d1, d2] => { results := [.lit (.bool true)], args := [d1, d2] }
  | _ => none }
def wireNumbersRow : OpenClaim := { program := "ytleaiojilmkhaaa", sum := "b01b22afe7548b3da27cbd9fb3c0b2eebb5bc91b53bc10602639d1a439262174", func := "towline/towlinelaw01.WireNumbers", spec := "wireNumbers", apart := false }
def WireNumbersSaid : Prop := wireNumbersRow.holds Try.pinned (OpenSpec.ofChange wireNumbersSpec)

/-- ITS FALSE NEIGHBOUR: 'it returns false'. Refute it at one input. -/
def wireNumbersWrong : ChangeSpec := { name := "wireNumbers", fn := fun _ => fun
  | [d1, d2] => { results := [.lit (.bool false)], args := [d1, d2] }
  | _ => none }
def WireNumbersWrongFalsely : Prop := wireNumbersRow.holds Try.pinned (OpenSpec.ofChange wireNumbersWrong)

/-- 'towlinelaw01.WireInts': WHATEVER THE INPUT: true; the input reads as it did. -/
def wireIntsSpec : ChangeSpec := { name := "wireInts", fn := fun _ => fun
  | [d1, d2, d3] => { results := [.lit (.bool true)], args := [d1, d2, d3] }
  | _ => none }
def wireIntsRow : OpenClaim := { program := "ytleaiojilmkhaaa", sum := "b01b22afe7548b3da27cbd9fb3c0b2eebb5bc91b53bc10602639d1a439262174", func := "towline/towlinelaw01.WireInts", spec := "wireInts", apart := false }
def WireIntsSaid : Prop := wireIntsRow.holds Try.pinned (OpenSpec.ofChange wireIntsSpec)

/-- ITS FALSE NEIGHBOUR: 'it returns false'. Refute it at one input. -/
def wireIntsWrong : ChangeSpec := { name := "wireInts", fn := fun _ => fun
  | [d1, d2, d3] => { results := [.lit (.bool false)], args := [d1, d2, d3] }
  | _ => none }
def WireIntsWrongFalsely : Prop := wireIntsRow.holds Try.pinned (OpenSpec.ofChange wireIntsWrong)

/-- 'towlinelaw01.WireBack': WHATEVER THE INPUT: true; the input reads as it did. -/
def wireBackSpec : ChangeSpec := { name := "wireBack", fn := fun _ => fun
  | [d1, d2, d3, d4] => { results := [.lit (.bool true)], args := [d1, d2, d3, d4] }
  | _ => none }
def wireBackRow : OpenClaim := { program := "ytleaiojilmkhaaa", sum := "b01b22afe7548b3da27cbd9fb3c0b2eebb5bc91b53bc10602639d1a439262174", func := "towline/towlinelaw01.WireBack", spec := "wireBack", apart := false }
def WireBackSaid : Prop := wireBackRow.holds Try.pinned (OpenSpec.ofChange wireBackSpec)

/-- ITS FALSE NEIGHBOUR: 'it returns false'. Refute it at one input. -/
def wireBackWrong : ChangeSpec := { name := "wireBack", fn := fun _ => fun
  | [d1, d2, d3, d4] => { results := [.lit (.bool false)], args := [d1, d2, d3, d4] }
  | _ => none }
def WireBackWrongFalsely : Prop := wireBackRow.holds Try.pinned (OpenSpec.ofChange wireBackWrong)

/-- 'towlinelaw01.WireOpens': WHATEVER THE INPUT: true; the input reads as it did. -/
def wireOpensSpec : ChangeSpec := { name := "wireOpens", fn := fun _ => fun
  | [d] => { results := [.lit (.bool true)], args := [d] }
  | _ => none }
def wireOpensRow : OpenClaim := { program := "ytleaiojilmkhaaa", sum := "b01b22afe7548b3da27cbd9fb3c0b2eebb5bc91b53bc10602639d1a439262174", func := "towline/towlinelaw01.WireOpens", spec := "wireOpens", unfollowed := true, recurses := true, apart := false }
def WireOpensSaid : Prop := wireOpensRow.holds Try.pinned (OpenSpec.ofChange wireOpensSpec)

/-- ITS FALSE NEIGHBOUR: 'it returns false'. Refute it at one input. -/
def wireOpensWrong : ChangeSpec := { name := "wireOpens", fn := fun _ => fun
  | [d] => { results := [.lit (.bool false)], args := [d] }
  | _ => none }
def WireOpensWrongFalsely : Prop := wireOpensRow.holds Try.pinned (OpenSpec.ofChange wireOpensWrong)

/-- 'towlinelaw01.WireNobody': WHATEVER THE INPUT: true; the input reads as it did. -/
def wireNobodySpec : ChangeSpec := { name := "wireNobody", fn := fun _ => fun
  | [d1, d2] => { results := [.lit (.bool true)], args := [d1, d2] }
  | _ => none }
def wireNobodyRow : OpenClaim := { program := "ytleaiojilmkhaaa", sum := "b01b22afe7548b3da27cbd9fb3c0b2eebb5bc91b53bc10602639d1a439262174", func := "towline/towlinelaw01.WireNobody", spec := "wireNobody", apart := false }
def WireNobodySaid : Prop := wireNobodyRow.holds Try.pinned (OpenSpec.ofChange wireNobodySpec)

/-- ITS FALSE NEIGHBOUR: 'it returns false'. Refute it at one input. -/
def wireNobodyWrong : ChangeSpec := { name := "wireNobody", fn := fun _ => fun
  | [d1, d2] => { results := [.lit (.bool false)], args := [d1, d2] }
  | _ => none }
def WireNobodyWrongFalsely : Prop := wireNobodyRow.holds Try.pinned (OpenSpec.ofChange wireNobodyWrong)

/-- 'towlinelaw01.WireRecords': WHATEVER THE INPUT: true; the input reads as it did. -/
def wireRecordsSpec : ChangeSpec := { name := "wireRecords", fn := fun _ => fun
  | [d1, d2] => { results := [.lit (.bool true)], args := [d1, d2] }
  | _ => none }
def wireRecordsRow : OpenClaim := { program := "ytleaiojilmkhaaa", sum := "b01b22afe7548b3da27cbd9fb3c0b2eebb5bc91b53bc10602639d1a439262174", func := "towline/towlinelaw01.WireRecords", spec := "wireRecords", unfollowed := true, recurses := true, apart := false }
def WireRecordsSaid : Prop := wireRecordsRow.holds Try.pinned (OpenSpec.ofChange wireRecordsSpec)

/-- ITS FALSE NEIGHBOUR: 'it returns false'. Refute it at one input. -/
def wireRecordsWrong : ChangeSpec := { name := "wireRecords", fn := fun _ => fun
  | [d1, d2] => { results := [.lit (.bool false)], args := [d1, d2] }
  | _ => none }
def WireRecordsWrongFalsely : Prop := wireRecordsRow.holds Try.pinned (OpenSpec.ofChange wireRecordsWrong)

/- THE SECOND FORM. 'bulk': how many values and letters a reading holds, each counted each time it is reached (what is shared counts as often as it is met; a slice's spare places count too). A statement '..UptoSaid' is the law's where the arguments, and the package variables that the reading takes, are together of bulk at most 1048576: NARROWER than '..Said'. Prove '..Said' where nothing that the law and all that it calls make is longer than what came in: it says more and counts as full. Else prove '..UptoSaid'. A law counts once. -/
mutual
def uptoBulk {H : Type} : DataW H → Nat
  | .lit (.string bytes) => bytes.length + 1
  | .lit _ => 1
  | .nil => 1
  | .ptr d => uptoBulk d + 1
  | .slice elems spare => uptoBulkAll elems + uptoBulkAll spare + 1
  | .agg parts => uptoBulkAll parts + 1
  | .iface _ d => uptoBulk d + 1
  | .map entries => uptoBulkEntries entries + 1
  | .held _ => 1
def uptoBulkAll {H : Type} : List (DataW H) → Nat
  | [] => 0
  | d :: r => uptoBulk d + uptoBulkAll r
def uptoBulkEntries {H : Type} : List (Lit × DataW H) → Nat
  | [] => 0
  | x :: r => uptoBulkEntry x + uptoBulkEntries r
def uptoBulkEntry {H : Type} : Lit × DataW H → Nat
  | (.string bytes, d) => bytes.length + uptoBulk d + 1
  | (_, d) => uptoBulk d + 1
 end
def uptoSmall : (H : Type) → List (DataW H) → Bool := fun _ ds => decide (uptoBulkAll ds ≤ 1048576)
def OpenSpec.upto (s : _root_.Go.ChangeSpec) : _root_.Go.OpenSpec := { _root_.Go.OpenSpec.ofChange s with cond := some uptoSmall }

/-- 'towlinelaw01.WireBytes', WHERE WHAT IT READS IS OF BULK AT MOST 1048576: true; the input reads as it did. -/
def wireBytesUptoRow : OpenClaim := { program := "ytleaiojilmkhaaa", sum := "b01b22afe7548b3da27cbd9fb3c0b2eebb5bc91b53bc10602639d1a439262174", func := "towline/towlinelaw01.WireBytes", spec := "wireBytes", apart := false, narrowed := true }
def WireBytesUptoSaid : Prop := wireBytesUptoRow.holds Try.pinned (OpenSpec.upto wireBytesSpec)

/-- 'towlinelaw01.WireSeals', WHERE WHAT IT READS IS OF BULK AT MOST 1048576: true; the input reads as it did. -/
def wireSealsUptoRow : OpenClaim := { program := "ytleaiojilmkhaaa", sum := "b01b22afe7548b3da27cbd9fb3c0b2eebb5bc91b53bc10602639d1a439262174", func := "towline/towlinelaw01.WireSeals", spec := "wireSeals", apart := false, narrowed := true }
def WireSealsUptoSaid : Prop := wireSealsUptoRow.holds Try.pinned (OpenSpec.upto wireSealsSpec)

/-- 'towlinelaw01.WireTurned', WHERE WHAT IT READS IS OF BULK AT MOST 1048576: true; the input reads as it did. -/
def wireTurnedUptoRow : OpenClaim := { program := "ytleaiojilmkhaaa", sum := "b01b22afe7548b3da27cbd9fb3c0b2eebb5bc91b53bc10602639d1a439262174", func := "towline/towlinelaw01.WireTurned", spec := "wireTurned", apart := false, narrowed := true }
def WireTurnedUptoSaid : Prop := wireTurnedUptoRow.holds Try.pinned (OpenSpec.upto wireTurnedSpec)

/-- 'towlinelaw01.WireCut', WHERE WHAT IT READS IS OF BULK AT MOST 1048576: true; the input reads as it did. -/
def wireCutUptoRow : OpenClaim := { program := "ytleaiojilmkhaaa", sum := "b01b22afe7548b3da27cbd9fb3c0b2eebb5bc91b53bc10602639d1a439262174", func := "towline/towlinelaw01.WireCut", spec := "wireCut", apart := false, narrowed := true }
def WireCutUptoSaid : Prop := wireCutUptoRow.holds Try.pinned (OpenSpec.upto wireCutSpec)

/-- 'towlinelaw01.WireShort', WHERE WHAT IT READS IS OF BULK AT MOST 1048576: true; the input reads as it did. -/
def wireShortUptoRow : OpenClaim := { program := "ytleaiojilmkhaaa", sum := "b01b22afe7548b3da27cbd9fb3c0b2eebb5bc91b53bc10602639d1a439262174", func := "towline/towlinelaw01.WireShort", spec := "wireShort", apart := false, narrowed := true }
def WireShortUptoSaid : Prop := wireShortUptoRow.holds Try.pinned (OpenSpec.upto wireShortSpec)

/-- 'towlinelaw01.WireTurns', WHERE WHAT IT READS IS OF BULK AT MOST 1048576: true; the input reads as it did. -/
def wireTurnsUptoRow : OpenClaim := { program := "ytleaiojilmkhaaa", sum := "b01b22afe7548b3da27cbd9fb3c0b2eebb5bc91b53bc10602639d1a439262174", func := "towline/towlinelaw01.WireTurns", spec := "wireTurns", apart := false, narrowed := true }
def WireTurnsUptoSaid : Prop := wireTurnsUptoRow.holds Try.pinned (OpenSpec.upto wireTurnsSpec)

/-- 'towlinelaw01.WireForm', WHERE WHAT IT READS IS OF BULK AT MOST 1048576: true; the input reads as it did. -/
def wireFormUptoRow : OpenClaim := { program := "ytleaiojilmkhaaa", sum := "b01b22afe7548b3da27cbd9fb3c0b2eebb5bc91b53bc10602639d1a439262174", func := "towline/towlinelaw01.WireForm", spec := "wireForm", apart := false, narrowed := true }
def WireFormUptoSaid : Prop := wireFormUptoRow.holds Try.pinned (OpenSpec.upto wireFormSpec)

/-- 'towlinelaw01.WireNumbers', WHERE WHAT IT READS IS OF BULK AT MOST 1048576: true; the input reads as it did. -/
def wireNumbersUptoRow : OpenClaim := { program := "ytleaiojilmkhaaa", sum := "b01b22afe7548b3da27cbd9fb3c0b2eebb5bc91b53bc10602639d1a439262174", func := "towline/towlinelaw01.WireNumbers", spec := "wireNumbers", apart := false, narrowed := true }
def WireNumbersUptoSaid : Prop := wireNumbersUptoRow.holds Try.pinned (OpenSpec.upto wireNumbersSpec)

/-- 'towlinelaw01.WireInts', WHERE WHAT IT READS IS OF BULK AT MOST 1048576: true; the input reads as it did. -/
def wireIntsUptoRow : OpenClaim := { program := "ytleaiojilmkhaaa", sum := "b01b22afe7548b3da27cbd9fb3c0b2eebb5bc91b53bc10602639d1a439262174", func := "towline/towlinelaw01.WireInts", spec := "wireInts", apart := false, narrowed := true }
def WireIntsUptoSaid : Prop := wireIntsUptoRow.holds Try.pinned (OpenSpec.upto wireIntsSpec)

/-- 'towlinelaw01.WireBack', WHERE WHAT IT READS IS OF BULK AT MOST 1048576: true; the input reads as it did. -/
def wireBackUptoRow : OpenClaim := { program := "ytleaiojilmkhaaa", sum := "b01b22afe7548b3da27cbd9fb3c0b2eebb5bc91b53bc10602639d1a439262174", func := "towline/towlinelaw01.WireBack", spec := "wireBack", apart := false, narrowed := true }
def WireBackUptoSaid : Prop := wireBackUptoRow.holds Try.pinned (OpenSpec.upto wireBackSpec)

/-- 'towlinelaw01.WireOpens', WHERE WHAT IT READS IS OF BULK AT MOST 1048576: true; the input reads as it did. -/
def wireOpensUptoRow : OpenClaim := { program := "ytleaiojilmkhaaa", sum := "b01b22afe7548b3da27cbd9fb3c0b2eebb5bc91b53bc10602639d1a439262174", func := "towline/towlinelaw01.WireOpens", spec := "wireOpens", unfollowed := true, recurses := true, apart := false, narrowed := true }
def WireOpensUptoSaid : Prop := wireOpensUptoRow.holds Try.pinned (OpenSpec.upto wireOpensSpec)

/-- 'towlinelaw01.WireNobody', WHERE WHAT IT READS IS OF BULK AT MOST 1048576: true; the input reads as it did. -/
def wireNobodyUptoRow : OpenClaim := { program := "ytleaiojilmkhaaa", sum := "b01b22afe7548b3da27cbd9fb3c0b2eebb5bc91b53bc10602639d1a439262174", func := "towline/towlinelaw01.WireNobody", spec := "wireNobody", apart := false, narrowed := true }
def WireNobodyUptoSaid : Prop := wireNobodyUptoRow.holds Try.pinned (OpenSpec.upto wireNobodySpec)

/-- 'towlinelaw01.WireRecords', WHERE WHAT IT READS IS OF BULK AT MOST 1048576: true; the input reads as it did. -/
def wireRecordsUptoRow : OpenClaim := { program := "ytleaiojilmkhaaa", sum := "b01b22afe7548b3da27cbd9fb3c0b2eebb5bc91b53bc10602639d1a439262174", func := "towline/towlinelaw01.WireRecords", spec := "wireRecords", unfollowed := true, recurses := true, apart := false, narrowed := true }
def WireRecordsUptoSaid : Prop := wireRecordsUptoRow.holds Try.pinned (OpenSpec.upto wireRecordsSpec)

end Rows
end Go.Proofs.Ytleaiojilmkhaaa
