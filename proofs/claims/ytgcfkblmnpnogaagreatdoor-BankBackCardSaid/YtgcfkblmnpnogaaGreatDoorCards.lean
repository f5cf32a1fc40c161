/-
  DERIVED. GIVEN WITH THE SEED: THE CARDS: each row of YtgcfkblmnpnogaaGreatDoorRows.lean that lists a variable, with what it lists TIED to the program's text (the seventh form; the later family's looks); each row that meets fmt, with fmt's text TOLD by the authors' own Lean function (tested against real Go, not proved from fmt's source: count such statements apart). THE CARD IS WHAT COUNTS. Prove the row's statement (the work); the ties are given (YtgcfkblmnpnogaaGreatDoorTie.lean); close each card by the builder's one call (the guide's Derived/Test/ToyasCard.lean, 'card_holds'). Laid BY PROGRAM, IN A SANDBOX (cutbox-door.mjs). By AI agents, Wed Nov 11 2026. No macro, syntax, notation, axiom, sorry.
-/
import Derived.Test.YtgcfkblmnpnogaaGreatDoorRows
import GoSem.ClaimSeven
namespace Go.Proofs.YtgcfkblmnpnogaaGreatDoor
namespace Rows

/-- THE TIED CARD OF 'calliopelaw15.BankBuilds'. -/
def bankBuildsCard : Claim7 := { stood := { row := bankBuildsRow, standIns := [], harness := (true, "e64cc40524ef4e0a65612d1400aeef7919e7243ddf4cbbed8d27a9810ddd4d90"), looks := false }, kinds := [], alts := [], laidByText := true, laidKinds := [.data, .pinned], laidTests := true, laidLooks := .later }
def BankBuildsCardSaid : Prop := Claim7.holds Tryz.pinned (.plain (OpenSpec.ofChange bankBuildsSpec)) bankBuildsCard

/-- THE TIED CARD OF 'calliopelaw31.ListBanks'. -/
def listBanksCard : Claim7 := { stood := { row := listBanksRow, standIns := [], harness := (true, "e64cc40524ef4e0a65612d1400aeef7919e7243ddf4cbbed8d27a9810ddd4d90"), looks := false }, kinds := [], alts := [], laidByText := true, laidKinds := [.data, .pinned], laidTests := true, laidLooks := .later }
def ListBanksCardSaid : Prop := Claim7.holds Tryz.pinned (.plain (OpenSpec.ofChange listBanksSpec)) listBanksCard

/-- THE TIED CARD OF 'calliopelaw29.EditRenames'. -/
def editRenamesCard : Claim7 := { stood := { row := editRenamesRow, standIns := [], harness := (true, "e64cc40524ef4e0a65612d1400aeef7919e7243ddf4cbbed8d27a9810ddd4d90"), looks := false }, kinds := [], alts := [], laidByText := true, laidKinds := [.data, .pinned], laidTests := true, laidLooks := .later }
def EditRenamesCardSaid : Prop := Claim7.holds Tryz.pinned (.plain (OpenSpec.ofChange editRenamesSpec)) editRenamesCard

/-- THE TIED CARD OF 'calliopelaw18.FetchNobody'. -/
def fetchNobodyCard : Claim7 := { stood := { row := fetchNobodyRow, standIns := [], harness := (true, "e64cc40524ef4e0a65612d1400aeef7919e7243ddf4cbbed8d27a9810ddd4d90"), looks := false }, kinds := [], alts := [], laidByText := true, laidKinds := [.data, .pinned], laidTests := true, laidLooks := .later }
def FetchNobodyCardSaid : Prop := Claim7.holds Tryz.pinned (.plain (OpenSpec.ofChange fetchNobodySpec)) fetchNobodyCard

/-- THE TIED CARD OF 'calliopelaw29.EditRemoves'. -/
def editRemovesCard : Claim7 := { stood := { row := editRemovesRow, standIns := [], harness := (true, "e64cc40524ef4e0a65612d1400aeef7919e7243ddf4cbbed8d27a9810ddd4d90"), looks := false }, kinds := [], alts := [], laidByText := true, laidKinds := [.data, .pinned], laidTests := true, laidLooks := .later }
def EditRemovesCardSaid : Prop := Claim7.holds Tryz.pinned (.plain (OpenSpec.ofChange editRemovesSpec)) editRemovesCard

/-- THE TIED CARD OF 'calliopelaw29.EditJoins'. -/
def editJoinsCard : Claim7 := { stood := { row := editJoinsRow, standIns := [], harness := (true, "e64cc40524ef4e0a65612d1400aeef7919e7243ddf4cbbed8d27a9810ddd4d90"), looks := false }, kinds := [], alts := [], laidByText := true, laidKinds := [.data, .pinned], laidTests := true, laidLooks := .later }
def EditJoinsCardSaid : Prop := Claim7.holds Tryz.pinned (.plain (OpenSpec.ofChange editJoinsSpec)) editJoinsCard

/-- THE TIED CARD OF 'calliopelaw29.EditLoops'. -/
def editLoopsCard : Claim7 := { stood := { row := editLoopsRow, standIns := [], harness := (true, "e64cc40524ef4e0a65612d1400aeef7919e7243ddf4cbbed8d27a9810ddd4d90"), looks := false }, kinds := [], alts := [], laidByText := true, laidKinds := [.data, .pinned], laidTests := true, laidLooks := .later }
def EditLoopsCardSaid : Prop := Claim7.holds Tryz.pinned (.plain (OpenSpec.ofChange editLoopsSpec)) editLoopsCard

/-- THE TIED CARD OF 'calliopelaw15.BankBack'. -/
def bankBackCard : Claim7 := { stood := { row := bankBackRow, standIns := [], harness := (true, "e64cc40524ef4e0a65612d1400aeef7919e7243ddf4cbbed8d27a9810ddd4d90"), looks := false }, kinds := [], alts := [], laidByText := true, laidKinds := [.data, .pinned], laidTests := true, laidLooks := .later }
def BankBackCardSaid : Prop := Claim7.holds Tryz.pinned (.plain (OpenSpec.ofChange bankBackSpec)) bankBackCard

/-- THE TIED CARD OF 'calliopelaw18.FetchClean'. -/
def fetchCleanCard : Claim7 := { stood := { row := fetchCleanRow, standIns := [], harness := (true, "e64cc40524ef4e0a65612d1400aeef7919e7243ddf4cbbed8d27a9810ddd4d90"), looks := false }, kinds := [], alts := [], laidByText := true, laidKinds := [.data, .pinned], laidTests := true, laidLooks := .later }
def FetchCleanCardSaid : Prop := Claim7.holds Tryz.pinned (.plain (OpenSpec.ofChange fetchCleanSpec)) fetchCleanCard

/-- THE TIED CARD OF 'calliopelaw29.EditAdds'. -/
def editAddsCard : Claim7 := { stood := { row := editAddsRow, standIns := [], harness := (true, "e64cc40524ef4e0a65612d1400aeef7919e7243ddf4cbbed8d27a9810ddd4d90"), looks := false }, kinds := [], alts := [], laidByText := true, laidKinds := [.data, .pinned], laidTests := true, laidLooks := .later }
def EditAddsCardSaid : Prop := Claim7.holds Tryz.pinned (.plain (OpenSpec.ofChange editAddsSpec)) editAddsCard

/-- THE TIED CARD OF 'calliopelaw18.FetchFaults'. -/
def fetchFaultsCard : Claim7 := { stood := { row := fetchFaultsRow, standIns := [], harness := (true, "e64cc40524ef4e0a65612d1400aeef7919e7243ddf4cbbed8d27a9810ddd4d90"), looks := false }, kinds := [], alts := [], laidByText := true, laidKinds := [.data, .pinned], laidTests := true, laidLooks := .later }
def FetchFaultsCardSaid : Prop := Claim7.holds Tryz.pinned (.plain (OpenSpec.ofChange fetchFaultsSpec)) fetchFaultsCard

/-- THE TIED CARD OF 'calliopelaw29.EditNobody'. -/
def editNobodyCard : Claim7 := { stood := { row := editNobodyRow, standIns := [], harness := (true, "e64cc40524ef4e0a65612d1400aeef7919e7243ddf4cbbed8d27a9810ddd4d90"), looks := false }, kinds := [], alts := [], laidByText := true, laidKinds := [.data, .pinned], laidTests := true, laidLooks := .later }
def EditNobodyCardSaid : Prop := Claim7.holds Tryz.pinned (.plain (OpenSpec.ofChange editNobodySpec)) editNobodyCard

/-- THE SECOND FORM's CARD OF 'calliopelaw15.BankBuilds'. -/
def bankBuildsUptoCard : Claim7 := { stood := { row := bankBuildsUptoRow, standIns := [], harness := (true, "e64cc40524ef4e0a65612d1400aeef7919e7243ddf4cbbed8d27a9810ddd4d90"), looks := false }, kinds := [], alts := [], laidByText := true, laidKinds := [.data, .pinned], laidTests := true, laidLooks := .later }
def BankBuildsUptoCardSaid : Prop := Claim7.holds Tryz.pinned (.plain (OpenSpec.upto bankBuildsSpec)) bankBuildsUptoCard

/-- THE SECOND FORM's CARD OF 'calliopelaw31.ListBanks'. -/
def listBanksUptoCard : Claim7 := { stood := { row := listBanksUptoRow, standIns := [], harness := (true, "e64cc40524ef4e0a65612d1400aeef7919e7243ddf4cbbed8d27a9810ddd4d90"), looks := false }, kinds := [], alts := [], laidByText := true, laidKinds := [.data, .pinned], laidTests := true, laidLooks := .later }
def ListBanksUptoCardSaid : Prop := Claim7.holds Tryz.pinned (.plain (OpenSpec.upto listBanksSpec)) listBanksUptoCard

/-- THE SECOND FORM's CARD OF 'calliopelaw29.EditRenames'. -/
def editRenamesUptoCard : Claim7 := { stood := { row := editRenamesUptoRow, standIns := [], harness := (true, "e64cc40524ef4e0a65612d1400aeef7919e7243ddf4cbbed8d27a9810ddd4d90"), looks := false }, kinds := [], alts := [], laidByText := true, laidKinds := [.data, .pinned], laidTests := true, laidLooks := .later }
def EditRenamesUptoCardSaid : Prop := Claim7.holds Tryz.pinned (.plain (OpenSpec.upto editRenamesSpec)) editRenamesUptoCard

/-- THE SECOND FORM's CARD OF 'calliopelaw18.FetchNobody'. -/
def fetchNobodyUptoCard : Claim7 := { stood := { row := fetchNobodyUptoRow, standIns := [], harness := (true, "e64cc40524ef4e0a65612d1400aeef7919e7243ddf4cbbed8d27a9810ddd4d90"), looks := false }, kinds := [], alts := [], laidByText := true, laidKinds := [.data, .pinned], laidTests := true, laidLooks := .later }
def FetchNobodyUptoCardSaid : Prop := Claim7.holds Tryz.pinned (.plain (OpenSpec.upto fetchNobodySpec)) fetchNobodyUptoCard

/-- THE SECOND FORM's CARD OF 'calliopelaw29.EditRemoves'. -/
def editRemovesUptoCard : Claim7 := { stood := { row := editRemovesUptoRow, standIns := [], harness := (true, "e64cc40524ef4e0a65612d1400aeef7919e7243ddf4cbbed8d27a9810ddd4d90"), looks := false }, kinds := [], alts := [], laidByText := true, laidKinds := [.data, .pinned], laidTests := true, laidLooks := .later }
def EditRemovesUptoCardSaid : Prop := Claim7.holds Tryz.pinned (.plain (OpenSpec.upto editRemovesSpec)) editRemovesUptoCard

/-- THE SECOND FORM's CARD OF 'calliopelaw29.EditJoins'. -/
def editJoinsUptoCard : Claim7 := { stood := { row := editJoinsUptoRow, standIns := [], harness := (true, "e64cc40524ef4e0a65612d1400aeef7919e7243ddf4cbbed8d27a9810ddd4d90"), looks := false }, kinds := [], alts := [], laidByText := true, laidKinds := [.data, .pinned], laidTests := true, laidLooks := .later }
def EditJoinsUptoCardSaid : Prop := Claim7.holds Tryz.pinned (.plain (OpenSpec.upto editJoinsSpec)) editJoinsUptoCard

/-- THE SECOND FORM's CARD OF 'calliopelaw29.EditLoops'. -/
def editLoopsUptoCard : Claim7 := { stood := { row := editLoopsUptoRow, standIns := [], harness := (true, "e64cc40524ef4e0a65612d1400aeef7919e7243ddf4cbbed8d27a9810ddd4d90"), looks := false }, kinds := [], alts := [], laidByText := true, laidKinds := [.data, .pinned], laidTests := true, laidLooks := .later }
def EditLoopsUptoCardSaid : Prop := Claim7.holds Tryz.pinned (.plain (OpenSpec.upto editLoopsSpec)) editLoopsUptoCard

/-- THE SECOND FORM's CARD OF 'calliopelaw15.BankBack'. -/
def bankBackUptoCard : Claim7 := { stood := { row := bankBackUptoRow, standIns := [], harness := (true, "e64cc40524ef4e0a65612d1400aeef7919e7243ddf4cbbed8d27a9810ddd4d90"), looks := false }, kinds := [], alts := [], laidByText := true, laidKinds := [.data, .pinned], laidTests := true, laidLooks := .later }
def BankBackUptoCardSaid : Prop := Claim7.holds Tryz.pinned (.plain (OpenSpec.upto bankBackSpec)) bankBackUptoCard

/-- THE SECOND FORM's CARD OF 'calliopelaw18.FetchClean'. -/
def fetchCleanUptoCard : Claim7 := { stood := { row := fetchCleanUptoRow, standIns := [], harness := (true, "e64cc40524ef4e0a65612d1400aeef7919e7243ddf4cbbed8d27a9810ddd4d90"), looks := false }, kinds := [], alts := [], laidByText := true, laidKinds := [.data, .pinned], laidTests := true, laidLooks := .later }
def FetchCleanUptoCardSaid : Prop := Claim7.holds Tryz.pinned (.plain (OpenSpec.upto fetchCleanSpec)) fetchCleanUptoCard

/-- THE SECOND FORM's CARD OF 'calliopelaw29.EditAdds'. -/
def editAddsUptoCard : Claim7 := { stood := { row := editAddsUptoRow, standIns := [], harness := (true, "e64cc40524ef4e0a65612d1400aeef7919e7243ddf4cbbed8d27a9810ddd4d90"), looks := false }, kinds := [], alts := [], laidByText := true, laidKinds := [.data, .pinned], laidTests := true, laidLooks := .later }
def EditAddsUptoCardSaid : Prop := Claim7.holds Tryz.pinned (.plain (OpenSpec.upto editAddsSpec)) editAddsUptoCard

/-- THE SECOND FORM's CARD OF 'calliopelaw18.FetchFaults'. -/
def fetchFaultsUptoCard : Claim7 := { stood := { row := fetchFaultsUptoRow, standIns := [], harness := (true, "e64cc40524ef4e0a65612d1400aeef7919e7243ddf4cbbed8d27a9810ddd4d90"), looks := false }, kinds := [], alts := [], laidByText := true, laidKinds := [.data, .pinned], laidTests := true, laidLooks := .later }
def FetchFaultsUptoCardSaid : Prop := Claim7.holds Tryz.pinned (.plain (OpenSpec.upto fetchFaultsSpec)) fetchFaultsUptoCard

/-- THE SECOND FORM's CARD OF 'calliopelaw29.EditNobody'. -/
def editNobodyUptoCard : Claim7 := { stood := { row := editNobodyUptoRow, standIns := [], harness := (true, "e64cc40524ef4e0a65612d1400aeef7919e7243ddf4cbbed8d27a9810ddd4d90"), looks := false }, kinds := [], alts := [], laidByText := true, laidKinds := [.data, .pinned], laidTests := true, laidLooks := .later }
def EditNobodyUptoCardSaid : Prop := Claim7.holds Tryz.pinned (.plain (OpenSpec.upto editNobodySpec)) editNobodyUptoCard
end Rows
end Go.Proofs.YtgcfkblmnpnogaaGreatDoor
