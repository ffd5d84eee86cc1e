/-
  DERIVED. GIVEN WITH THE SEED: THE CARDS: each row of YtgmaedngkhidlaaDoorRows.lean that lists a variable, with what it lists TIED to the program's text (the seventh form; the later family's looks); each row that meets fmt, with fmt's text TOLD by the authors' own Lean function (tested against real Go, not proved from fmt's source: count such statements apart). THE CARD IS WHAT COUNTS. Prove the row's statement (the work); the ties are given (YtgmaedngkhidlaaDoorTie.lean); close each card by the builder's one call (the guide's Derived/Test/ToyasCard.lean, 'card_holds'). Laid BY PROGRAM, IN A SANDBOX (cutbox-door.mjs). By AI agents, Wed Nov 11 2026. No macro, syntax, notation, axiom, sorry.
-/
import Derived.Test.YtgmaedngkhidlaaDoorRows
import GoSem.ClaimSeven
namespace Go.Proofs.YtgmaedngkhidlaaDoor
namespace Rows

/-- THE TIED CARD OF 'towlinelaw09.ShelfNext'. -/
def shelfNextCard : Claim7 := { stood := { row := shelfNextRow, standIns := [], harness := (true, "c48767190693df58b1bc0d6e4daea19bb7477a4cb22fd0b8f0b538c60605a446"), looks := false }, kinds := [], alts := [], laidByText := true, laidKinds := [.data, .pinned], laidTests := true, laidLooks := .later }
def ShelfNextCardSaid : Prop := Claim7.holds Tryd.pinned (.plain (OpenSpec.ofChange shelfNextSpec)) shelfNextCard

/-- THE TIED CARD OF 'towlinelaw09.ShelfChecks'. -/
def shelfChecksCard : Claim7 := { stood := { row := shelfChecksRow, standIns := [], harness := (true, "c48767190693df58b1bc0d6e4daea19bb7477a4cb22fd0b8f0b538c60605a446"), looks := false }, kinds := [], alts := [], laidByText := true, laidKinds := [.data, .pinned], laidTests := true, laidLooks := .later }
def ShelfChecksCardSaid : Prop := Claim7.holds Tryd.pinned (.plain (OpenSpec.ofChange shelfChecksSpec)) shelfChecksCard

/-- THE TIED CARD OF 'towlinelaw09.ShelfPlays'. -/
def shelfPlaysCard : Claim7 := { stood := { row := shelfPlaysRow, standIns := [], harness := (true, "c48767190693df58b1bc0d6e4daea19bb7477a4cb22fd0b8f0b538c60605a446"), looks := false }, kinds := [], alts := [], laidByText := true, laidKinds := [.data, .pinned], laidTests := true, laidLooks := .later }
def ShelfPlaysCardSaid : Prop := Claim7.holds Tryd.pinned (.plain (OpenSpec.ofChange shelfPlaysSpec)) shelfPlaysCard

/-- THE TIED CARD OF 'towlinelaw09.ShelfTables'. -/
def shelfTablesCard : Claim7 := { stood := { row := shelfTablesRow, standIns := [], harness := (true, "c48767190693df58b1bc0d6e4daea19bb7477a4cb22fd0b8f0b538c60605a446"), looks := false }, kinds := [], alts := [], laidByText := true, laidKinds := [.data, .pinned], laidTests := true, laidLooks := .later }
def ShelfTablesCardSaid : Prop := Claim7.holds Tryd.pinned (.plain (OpenSpec.ofChange shelfTablesSpec)) shelfTablesCard

/-- THE TIED CARD OF 'towlinelaw09.ShelfRefused'. -/
def shelfRefusedCard : Claim7 := { stood := { row := shelfRefusedRow, standIns := [], harness := (true, "c48767190693df58b1bc0d6e4daea19bb7477a4cb22fd0b8f0b538c60605a446"), looks := false }, kinds := [], alts := [], laidByText := true, laidKinds := [.data, .pinned], laidTests := true, laidLooks := .later }
def ShelfRefusedCardSaid : Prop := Claim7.holds Tryd.pinned (.plain (OpenSpec.ofChange shelfRefusedSpec)) shelfRefusedCard

/-- THE TIED CARD OF 'towlinelaw09.ShelfTwins'. -/
def shelfTwinsCard : Claim7 := { stood := { row := shelfTwinsRow, standIns := [], harness := (true, "c48767190693df58b1bc0d6e4daea19bb7477a4cb22fd0b8f0b538c60605a446"), looks := false }, kinds := [], alts := [], laidByText := true, laidKinds := [.data, .pinned], laidTests := true, laidLooks := .later }
def ShelfTwinsCardSaid : Prop := Claim7.holds Tryd.pinned (.plain (OpenSpec.ofChange shelfTwinsSpec)) shelfTwinsCard

/-- THE TIED CARD OF 'towlinelaw09.ShelfCuts'. -/
def shelfCutsCard : Claim7 := { stood := { row := shelfCutsRow, standIns := [], harness := (true, "c48767190693df58b1bc0d6e4daea19bb7477a4cb22fd0b8f0b538c60605a446"), looks := false }, kinds := [], alts := [], laidByText := true, laidKinds := [.data, .pinned], laidTests := true, laidLooks := .later }
def ShelfCutsCardSaid : Prop := Claim7.holds Tryd.pinned (.plain (OpenSpec.ofChange shelfCutsSpec)) shelfCutsCard

/-- THE TIED CARD OF 'towlinelaw09.ShelfNobody'. -/
def shelfNobodyCard : Claim7 := { stood := { row := shelfNobodyRow, standIns := [], harness := (true, "c48767190693df58b1bc0d6e4daea19bb7477a4cb22fd0b8f0b538c60605a446"), looks := false }, kinds := [], alts := [], laidByText := true, laidKinds := [.data, .pinned], laidTests := true, laidLooks := .later }
def ShelfNobodyCardSaid : Prop := Claim7.holds Tryd.pinned (.plain (OpenSpec.ofChange shelfNobodySpec)) shelfNobodyCard

/-- THE TIED CARD OF 'towlinelaw09.ShelfFolds'. -/
def shelfFoldsCard : Claim7 := { stood := { row := shelfFoldsRow, standIns := [], harness := (true, "c48767190693df58b1bc0d6e4daea19bb7477a4cb22fd0b8f0b538c60605a446"), looks := false }, kinds := [], alts := [], laidByText := true, laidKinds := [.data, .pinned], laidTests := true, laidLooks := .later }
def ShelfFoldsCardSaid : Prop := Claim7.holds Tryd.pinned (.plain (OpenSpec.ofChange shelfFoldsSpec)) shelfFoldsCard

/-- THE SECOND FORM's CARD OF 'towlinelaw09.ShelfNext'. -/
def shelfNextUptoCard : Claim7 := { stood := { row := shelfNextUptoRow, standIns := [], harness := (true, "c48767190693df58b1bc0d6e4daea19bb7477a4cb22fd0b8f0b538c60605a446"), looks := false }, kinds := [], alts := [], laidByText := true, laidKinds := [.data, .pinned], laidTests := true, laidLooks := .later }
def ShelfNextUptoCardSaid : Prop := Claim7.holds Tryd.pinned (.plain (OpenSpec.upto shelfNextSpec)) shelfNextUptoCard

/-- THE SECOND FORM's CARD OF 'towlinelaw09.ShelfChecks'. -/
def shelfChecksUptoCard : Claim7 := { stood := { row := shelfChecksUptoRow, standIns := [], harness := (true, "c48767190693df58b1bc0d6e4daea19bb7477a4cb22fd0b8f0b538c60605a446"), looks := false }, kinds := [], alts := [], laidByText := true, laidKinds := [.data, .pinned], laidTests := true, laidLooks := .later }
def ShelfChecksUptoCardSaid : Prop := Claim7.holds Tryd.pinned (.plain (OpenSpec.upto shelfChecksSpec)) shelfChecksUptoCard

/-- THE SECOND FORM's CARD OF 'towlinelaw09.ShelfPlays'. -/
def shelfPlaysUptoCard : Claim7 := { stood := { row := shelfPlaysUptoRow, standIns := [], harness := (true, "c48767190693df58b1bc0d6e4daea19bb7477a4cb22fd0b8f0b538c60605a446"), looks := false }, kinds := [], alts := [], laidByText := true, laidKinds := [.data, .pinned], laidTests := true, laidLooks := .later }
def ShelfPlaysUptoCardSaid : Prop := Claim7.holds Tryd.pinned (.plain (OpenSpec.upto shelfPlaysSpec)) shelfPlaysUptoCard

/-- THE SECOND FORM's CARD OF 'towlinelaw09.ShelfTables'. -/
def shelfTablesUptoCard : Claim7 := { stood := { row := shelfTablesUptoRow, standIns := [], harness := (true, "c48767190693df58b1bc0d6e4daea19bb7477a4cb22fd0b8f0b538c60605a446"), looks := false }, kinds := [], alts := [], laidByText := true, laidKinds := [.data, .pinned], laidTests := true, laidLooks := .later }
def ShelfTablesUptoCardSaid : Prop := Claim7.holds Tryd.pinned (.plain (OpenSpec.upto shelfTablesSpec)) shelfTablesUptoCard

/-- THE SECOND FORM's CARD OF 'towlinelaw09.ShelfRefused'. -/
def shelfRefusedUptoCard : Claim7 := { stood := { row := shelfRefusedUptoRow, standIns := [], harness := (true, "c48767190693df58b1bc0d6e4daea19bb7477a4cb22fd0b8f0b538c60605a446"), looks := false }, kinds := [], alts := [], laidByText := true, laidKinds := [.data, .pinned], laidTests := true, laidLooks := .later }
def ShelfRefusedUptoCardSaid : Prop := Claim7.holds Tryd.pinned (.plain (OpenSpec.upto shelfRefusedSpec)) shelfRefusedUptoCard

/-- THE SECOND FORM's CARD OF 'towlinelaw09.ShelfTwins'. -/
def shelfTwinsUptoCard : Claim7 := { stood := { row := shelfTwinsUptoRow, standIns := [], harness := (true, "c48767190693df58b1bc0d6e4daea19bb7477a4cb22fd0b8f0b538c60605a446"), looks := false }, kinds := [], alts := [], laidByText := true, laidKinds := [.data, .pinned], laidTests := true, laidLooks := .later }
def ShelfTwinsUptoCardSaid : Prop := Claim7.holds Tryd.pinned (.plain (OpenSpec.upto shelfTwinsSpec)) shelfTwinsUptoCard

/-- THE SECOND FORM's CARD OF 'towlinelaw09.ShelfCuts'. -/
def shelfCutsUptoCard : Claim7 := { stood := { row := shelfCutsUptoRow, standIns := [], harness := (true, "c48767190693df58b1bc0d6e4daea19bb7477a4cb22fd0b8f0b538c60605a446"), looks := false }, kinds := [], alts := [], laidByText := true, laidKinds := [.data, .pinned], laidTests := true, laidLooks := .later }
def ShelfCutsUptoCardSaid : Prop := Claim7.holds Tryd.pinned (.plain (OpenSpec.upto shelfCutsSpec)) shelfCutsUptoCard

/-- THE SECOND FORM's CARD OF 'towlinelaw09.ShelfNobody'. -/
def shelfNobodyUptoCard : Claim7 := { stood := { row := shelfNobodyUptoRow, standIns := [], harness := (true, "c48767190693df58b1bc0d6e4daea19bb7477a4cb22fd0b8f0b538c60605a446"), looks := false }, kinds := [], alts := [], laidByText := true, laidKinds := [.data, .pinned], laidTests := true, laidLooks := .later }
def ShelfNobodyUptoCardSaid : Prop := Claim7.holds Tryd.pinned (.plain (OpenSpec.upto shelfNobodySpec)) shelfNobodyUptoCard

/-- THE SECOND FORM's CARD OF 'towlinelaw09.ShelfFolds'. -/
def shelfFoldsUptoCard : Claim7 := { stood := { row := shelfFoldsUptoRow, standIns := [], harness := (true, "c48767190693df58b1bc0d6e4daea19bb7477a4cb22fd0b8f0b538c60605a446"), looks := false }, kinds := [], alts := [], laidByText := true, laidKinds := [.data, .pinned], laidTests := true, laidLooks := .later }
def ShelfFoldsUptoCardSaid : Prop := Claim7.holds Tryd.pinned (.plain (OpenSpec.upto shelfFoldsSpec)) shelfFoldsUptoCard
end Rows
end Go.Proofs.YtgmaedngkhidlaaDoor
