/-
  DERIVED. GIVEN WITH THE SEED: THE CARDS: each row of YtfgfhfmhadondaaDoorRows.lean that lists a variable, with what it lists TIED to the program's text (the seventh form; the later family's looks); each row that meets fmt, with fmt's text TOLD by the authors' own Lean function (tested against real Go, not proved from fmt's source: count such statements apart). THE CARD IS WHAT COUNTS. Prove the row's statement (the work); the ties are given (YtfgfhfmhadondaaDoorTie.lean); close each card by the builder's one call (the guide's Derived/Test/ToyasCard.lean, 'card_holds'). Laid BY PROGRAM, IN A SANDBOX (cutbox-door.mjs). By AI agents, Wed Nov 11 2026. No macro, syntax, notation, axiom, sorry.
-/
import Derived.Test.YtfgfhfmhadondaaDoorRows
import GoSem.ClaimSeven
namespace Go.Proofs.YtfgfhfmhadondaaDoor
namespace Rows

/-- THE TIED CARD OF 'sealchainlaw24.ViewSame'. -/
def viewSameCard : Claim7 := { stood := { row := viewSameRow, standIns := [], harness := (true, "9028d4ed7e3b84884c28e912b6f4b9c7a496b96dc8ef657c88b0d9f14fb7a438"), looks := true }, kinds := [], alts := [], laidByText := true, laidKinds := [.data, .data], laidTests := true, laidLooks := .later }
def ViewSameCardSaid : Prop := Claim7.holds Tryd.pinned (.plain (OpenSpec.ofChange viewSameSpec)) viewSameCard

/-- THE TIED CARD OF 'sealchainlaw24.ViewOpens'. -/
def viewOpensCard : Claim7 := { stood := { row := viewOpensRow, standIns := [], harness := (true, "9028d4ed7e3b84884c28e912b6f4b9c7a496b96dc8ef657c88b0d9f14fb7a438"), looks := true }, kinds := [], alts := [], laidByText := true, laidKinds := [.data, .data], laidTests := true, laidLooks := .later }
def ViewOpensCardSaid : Prop := Claim7.holds Tryd.pinned (.plain (OpenSpec.ofChange viewOpensSpec)) viewOpensCard

/-- THE TIED CARD OF 'sealchainlaw10.MarkLasts'. -/
def markLastsCard : Claim7 := { stood := { row := markLastsRow, standIns := [], harness := (true, "9028d4ed7e3b84884c28e912b6f4b9c7a496b96dc8ef657c88b0d9f14fb7a438"), looks := true }, kinds := [], alts := [], laidByText := true, laidKinds := [.data, .data], laidTests := true, laidLooks := .later }
def MarkLastsCardSaid : Prop := Claim7.holds Tryd.pinned (.plain (OpenSpec.ofChange markLastsSpec)) markLastsCard

/-- THE TIED CARD OF 'sealchainlaw10.MarkApart'. -/
def markApartCard : Claim7 := { stood := { row := markApartRow, standIns := [], harness := (true, "9028d4ed7e3b84884c28e912b6f4b9c7a496b96dc8ef657c88b0d9f14fb7a438"), looks := true }, kinds := [], alts := [], laidByText := true, laidKinds := [.data, .data], laidTests := true, laidLooks := .later }
def MarkApartCardSaid : Prop := Claim7.holds Tryd.pinned (.plain (OpenSpec.ofChange markApartSpec)) markApartCard

/-- THE TIED CARD OF 'sealchainlaw10.MarkRises'. -/
def markRisesCard : Claim7 := { stood := { row := markRisesRow, standIns := [], harness := (true, "9028d4ed7e3b84884c28e912b6f4b9c7a496b96dc8ef657c88b0d9f14fb7a438"), looks := true }, kinds := [], alts := [], laidByText := true, laidKinds := [.data, .data], laidTests := true, laidLooks := .later }
def MarkRisesCardSaid : Prop := Claim7.holds Tryd.pinned (.plain (OpenSpec.ofChange markRisesSpec)) markRisesCard

/-- THE TIED CARD OF 'sealchainlaw10.MarkPlays'. -/
def markPlaysCard : Claim7 := { stood := { row := markPlaysRow, standIns := [], harness := (true, "9028d4ed7e3b84884c28e912b6f4b9c7a496b96dc8ef657c88b0d9f14fb7a438"), looks := true }, kinds := [], alts := [], laidByText := true, laidKinds := [.data, .data], laidTests := true, laidLooks := .later }
def MarkPlaysCardSaid : Prop := Claim7.holds Tryd.pinned (.plain (OpenSpec.ofChange markPlaysSpec)) markPlaysCard

/-- THE TIED CARD OF 'sealchainlaw10.MarkOpens'. -/
def markOpensCard : Claim7 := { stood := { row := markOpensRow, standIns := [], harness := (true, "9028d4ed7e3b84884c28e912b6f4b9c7a496b96dc8ef657c88b0d9f14fb7a438"), looks := true }, kinds := [], alts := [], laidByText := true, laidKinds := [.data, .data], laidTests := true, laidLooks := .later }
def MarkOpensCardSaid : Prop := Claim7.holds Tryd.pinned (.plain (OpenSpec.ofChange markOpensSpec)) markOpensCard

/-- THE TIED CARD OF 'sealchainlaw10.MarkAgain'. -/
def markAgainCard : Claim7 := { stood := { row := markAgainRow, standIns := [], harness := (true, "9028d4ed7e3b84884c28e912b6f4b9c7a496b96dc8ef657c88b0d9f14fb7a438"), looks := true }, kinds := [], alts := [], laidByText := true, laidKinds := [.data, .data], laidTests := true, laidLooks := .later }
def MarkAgainCardSaid : Prop := Claim7.holds Tryd.pinned (.plain (OpenSpec.ofChange markAgainSpec)) markAgainCard

/-- THE SECOND FORM's CARD OF 'sealchainlaw24.ViewSame'. -/
def viewSameUptoCard : Claim7 := { stood := { row := viewSameUptoRow, standIns := [], harness := (true, "9028d4ed7e3b84884c28e912b6f4b9c7a496b96dc8ef657c88b0d9f14fb7a438"), looks := true }, kinds := [], alts := [], laidByText := true, laidKinds := [.data, .data], laidTests := true, laidLooks := .later }
def ViewSameUptoCardSaid : Prop := Claim7.holds Tryd.pinned (.plain (OpenSpec.upto viewSameSpec)) viewSameUptoCard

/-- THE SECOND FORM's CARD OF 'sealchainlaw24.ViewOpens'. -/
def viewOpensUptoCard : Claim7 := { stood := { row := viewOpensUptoRow, standIns := [], harness := (true, "9028d4ed7e3b84884c28e912b6f4b9c7a496b96dc8ef657c88b0d9f14fb7a438"), looks := true }, kinds := [], alts := [], laidByText := true, laidKinds := [.data, .data], laidTests := true, laidLooks := .later }
def ViewOpensUptoCardSaid : Prop := Claim7.holds Tryd.pinned (.plain (OpenSpec.upto viewOpensSpec)) viewOpensUptoCard

/-- THE SECOND FORM's CARD OF 'sealchainlaw10.MarkLasts'. -/
def markLastsUptoCard : Claim7 := { stood := { row := markLastsUptoRow, standIns := [], harness := (true, "9028d4ed7e3b84884c28e912b6f4b9c7a496b96dc8ef657c88b0d9f14fb7a438"), looks := true }, kinds := [], alts := [], laidByText := true, laidKinds := [.data, .data], laidTests := true, laidLooks := .later }
def MarkLastsUptoCardSaid : Prop := Claim7.holds Tryd.pinned (.plain (OpenSpec.upto markLastsSpec)) markLastsUptoCard

/-- THE SECOND FORM's CARD OF 'sealchainlaw10.MarkApart'. -/
def markApartUptoCard : Claim7 := { stood := { row := markApartUptoRow, standIns := [], harness := (true, "9028d4ed7e3b84884c28e912b6f4b9c7a496b96dc8ef657c88b0d9f14fb7a438"), looks := true }, kinds := [], alts := [], laidByText := true, laidKinds := [.data, .data], laidTests := true, laidLooks := .later }
def MarkApartUptoCardSaid : Prop := Claim7.holds Tryd.pinned (.plain (OpenSpec.upto markApartSpec)) markApartUptoCard

/-- THE SECOND FORM's CARD OF 'sealchainlaw10.MarkRises'. -/
def markRisesUptoCard : Claim7 := { stood := { row := markRisesUptoRow, standIns := [], harness := (true, "9028d4ed7e3b84884c28e912b6f4b9c7a496b96dc8ef657c88b0d9f14fb7a438"), looks := true }, kinds := [], alts := [], laidByText := true, laidKinds := [.data, .data], laidTests := true, laidLooks := .later }
def MarkRisesUptoCardSaid : Prop := Claim7.holds Tryd.pinned (.plain (OpenSpec.upto markRisesSpec)) markRisesUptoCard

/-- THE SECOND FORM's CARD OF 'sealchainlaw10.MarkPlays'. -/
def markPlaysUptoCard : Claim7 := { stood := { row := markPlaysUptoRow, standIns := [], harness := (true, "9028d4ed7e3b84884c28e912b6f4b9c7a496b96dc8ef657c88b0d9f14fb7a438"), looks := true }, kinds := [], alts := [], laidByText := true, laidKinds := [.data, .data], laidTests := true, laidLooks := .later }
def MarkPlaysUptoCardSaid : Prop := Claim7.holds Tryd.pinned (.plain (OpenSpec.upto markPlaysSpec)) markPlaysUptoCard

/-- THE SECOND FORM's CARD OF 'sealchainlaw10.MarkOpens'. -/
def markOpensUptoCard : Claim7 := { stood := { row := markOpensUptoRow, standIns := [], harness := (true, "9028d4ed7e3b84884c28e912b6f4b9c7a496b96dc8ef657c88b0d9f14fb7a438"), looks := true }, kinds := [], alts := [], laidByText := true, laidKinds := [.data, .data], laidTests := true, laidLooks := .later }
def MarkOpensUptoCardSaid : Prop := Claim7.holds Tryd.pinned (.plain (OpenSpec.upto markOpensSpec)) markOpensUptoCard

/-- THE SECOND FORM's CARD OF 'sealchainlaw10.MarkAgain'. -/
def markAgainUptoCard : Claim7 := { stood := { row := markAgainUptoRow, standIns := [], harness := (true, "9028d4ed7e3b84884c28e912b6f4b9c7a496b96dc8ef657c88b0d9f14fb7a438"), looks := true }, kinds := [], alts := [], laidByText := true, laidKinds := [.data, .data], laidTests := true, laidLooks := .later }
def MarkAgainUptoCardSaid : Prop := Claim7.holds Tryd.pinned (.plain (OpenSpec.upto markAgainSpec)) markAgainUptoCard
end Rows
end Go.Proofs.YtfgfhfmhadondaaDoor
