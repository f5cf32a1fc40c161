/-
  DERIVED. GIVEN WITH THE SEED: THE CARDS: each row of YtoagdidkadfekaaGreatDoorRows.lean that lists a variable, with what it lists TIED to the program's text (the seventh form; the later family's looks); each row that meets fmt, with fmt's text TOLD by the authors' own Lean function (tested against real Go, not proved from fmt's source: count such statements apart). THE CARD IS WHAT COUNTS. Prove the row's statement (the work); the ties are given (YtoagdidkadfekaaGreatDoorTie.lean); close each card by the builder's one call (the guide's Derived/Test/ToyasCard.lean, 'card_holds'). Laid BY PROGRAM, IN A SANDBOX (cutbox-door.mjs). By AI agents, Wed Nov 11 2026. No macro, syntax, notation, axiom, sorry.
-/
import Derived.Test.YtoagdidkadfekaaGreatDoorRows
import GoSem.ClaimSeven
namespace Go.Proofs.YtoagdidkadfekaaGreatDoor
namespace Rows

/-- THE TIED CARD OF 'calliopelaw15.BankPacks'. -/
def bankPacksCard : Claim7 := { stood := { row := bankPacksRow, standIns := [], harness := (true, "ba2347851c813e936bc835592c93ba31bec47fae4362f01f173c3bd2e59b4d7b"), looks := false }, kinds := [], alts := [], laidByText := true, laidKinds := [.data, .pinned], laidTests := true, laidLooks := .later }
def BankPacksCardSaid : Prop := Claim7.holds Tryz.pinned (.plain (OpenSpec.ofChange bankPacksSpec)) bankPacksCard

/-- THE TIED CARD OF 'calliopelaw15.BankParses'. -/
def bankParsesCard : Claim7 := { stood := { row := bankParsesRow, standIns := [], harness := (true, "ba2347851c813e936bc835592c93ba31bec47fae4362f01f173c3bd2e59b4d7b"), looks := false }, kinds := [], alts := [], laidByText := true, laidKinds := [.data, .pinned], laidTests := true, laidLooks := .later }
def BankParsesCardSaid : Prop := Claim7.holds Tryz.pinned (.plain (OpenSpec.ofChange bankParsesSpec)) bankParsesCard

/-- THE TIED CARD OF 'calliopelaw15.BankBuilds'. -/
def bankBuildsCard : Claim7 := { stood := { row := bankBuildsRow, standIns := [], harness := (true, "ba2347851c813e936bc835592c93ba31bec47fae4362f01f173c3bd2e59b4d7b"), looks := false }, kinds := [], alts := [], laidByText := true, laidKinds := [.data, .pinned], laidTests := true, laidLooks := .later }
def BankBuildsCardSaid : Prop := Claim7.holds Tryz.pinned (.plain (OpenSpec.ofChange bankBuildsSpec)) bankBuildsCard

/-- THE TIED CARD OF 'calliopelaw15.BankFrames'. -/
def bankFramesCard : Claim7 := { stood := { row := bankFramesRow, standIns := [], harness := (true, "ba2347851c813e936bc835592c93ba31bec47fae4362f01f173c3bd2e59b4d7b"), looks := false }, kinds := [], alts := [], laidByText := true, laidKinds := [.data, .pinned], laidTests := true, laidLooks := .later }
def BankFramesCardSaid : Prop := Claim7.holds Tryz.pinned (.plain (OpenSpec.ofChange bankFramesSpec)) bankFramesCard

/-- THE TIED CARD OF 'calliopelaw15.BankBack'. -/
def bankBackCard : Claim7 := { stood := { row := bankBackRow, standIns := [], harness := (true, "ba2347851c813e936bc835592c93ba31bec47fae4362f01f173c3bd2e59b4d7b"), looks := false }, kinds := [], alts := [], laidByText := true, laidKinds := [.data, .pinned], laidTests := true, laidLooks := .later }
def BankBackCardSaid : Prop := Claim7.holds Tryz.pinned (.plain (OpenSpec.ofChange bankBackSpec)) bankBackCard

/-- THE TIED CARD OF 'calliopelaw15.BankNobody'. -/
def bankNobodyCard : Claim7 := { stood := { row := bankNobodyRow, standIns := [], harness := (true, "ba2347851c813e936bc835592c93ba31bec47fae4362f01f173c3bd2e59b4d7b"), looks := false }, kinds := [], alts := [], laidByText := true, laidKinds := [.data, .pinned], laidTests := true, laidLooks := .later }
def BankNobodyCardSaid : Prop := Claim7.holds Tryz.pinned (.plain (OpenSpec.ofChange bankNobodySpec)) bankNobodyCard

/-- THE SECOND FORM's CARD OF 'calliopelaw15.BankPacks'. -/
def bankPacksUptoCard : Claim7 := { stood := { row := bankPacksUptoRow, standIns := [], harness := (true, "ba2347851c813e936bc835592c93ba31bec47fae4362f01f173c3bd2e59b4d7b"), looks := false }, kinds := [], alts := [], laidByText := true, laidKinds := [.data, .pinned], laidTests := true, laidLooks := .later }
def BankPacksUptoCardSaid : Prop := Claim7.holds Tryz.pinned (.plain (OpenSpec.upto bankPacksSpec)) bankPacksUptoCard

/-- THE SECOND FORM's CARD OF 'calliopelaw15.BankParses'. -/
def bankParsesUptoCard : Claim7 := { stood := { row := bankParsesUptoRow, standIns := [], harness := (true, "ba2347851c813e936bc835592c93ba31bec47fae4362f01f173c3bd2e59b4d7b"), looks := false }, kinds := [], alts := [], laidByText := true, laidKinds := [.data, .pinned], laidTests := true, laidLooks := .later }
def BankParsesUptoCardSaid : Prop := Claim7.holds Tryz.pinned (.plain (OpenSpec.upto bankParsesSpec)) bankParsesUptoCard

/-- THE SECOND FORM's CARD OF 'calliopelaw15.BankBuilds'. -/
def bankBuildsUptoCard : Claim7 := { stood := { row := bankBuildsUptoRow, standIns := [], harness := (true, "ba2347851c813e936bc835592c93ba31bec47fae4362f01f173c3bd2e59b4d7b"), looks := false }, kinds := [], alts := [], laidByText := true, laidKinds := [.data, .pinned], laidTests := true, laidLooks := .later }
def BankBuildsUptoCardSaid : Prop := Claim7.holds Tryz.pinned (.plain (OpenSpec.upto bankBuildsSpec)) bankBuildsUptoCard

/-- THE SECOND FORM's CARD OF 'calliopelaw15.BankFrames'. -/
def bankFramesUptoCard : Claim7 := { stood := { row := bankFramesUptoRow, standIns := [], harness := (true, "ba2347851c813e936bc835592c93ba31bec47fae4362f01f173c3bd2e59b4d7b"), looks := false }, kinds := [], alts := [], laidByText := true, laidKinds := [.data, .pinned], laidTests := true, laidLooks := .later }
def BankFramesUptoCardSaid : Prop := Claim7.holds Tryz.pinned (.plain (OpenSpec.upto bankFramesSpec)) bankFramesUptoCard

/-- THE SECOND FORM's CARD OF 'calliopelaw15.BankBack'. -/
def bankBackUptoCard : Claim7 := { stood := { row := bankBackUptoRow, standIns := [], harness := (true, "ba2347851c813e936bc835592c93ba31bec47fae4362f01f173c3bd2e59b4d7b"), looks := false }, kinds := [], alts := [], laidByText := true, laidKinds := [.data, .pinned], laidTests := true, laidLooks := .later }
def BankBackUptoCardSaid : Prop := Claim7.holds Tryz.pinned (.plain (OpenSpec.upto bankBackSpec)) bankBackUptoCard

/-- THE SECOND FORM's CARD OF 'calliopelaw15.BankNobody'. -/
def bankNobodyUptoCard : Claim7 := { stood := { row := bankNobodyUptoRow, standIns := [], harness := (true, "ba2347851c813e936bc835592c93ba31bec47fae4362f01f173c3bd2e59b4d7b"), looks := false }, kinds := [], alts := [], laidByText := true, laidKinds := [.data, .pinned], laidTests := true, laidLooks := .later }
def BankNobodyUptoCardSaid : Prop := Claim7.holds Tryz.pinned (.plain (OpenSpec.upto bankNobodySpec)) bankNobodyUptoCard
end Rows
end Go.Proofs.YtoagdidkadfekaaGreatDoor
