/-
  DERIVED. GIVEN WITH THE SEED: THE CARDS: each row of YtbpgfkjhclpbdaaGreatDoorRows.lean that lists a variable, with what it lists TIED to the program's text (the seventh form; the later family's looks); each row that meets fmt, with fmt's text TOLD by the authors' own Lean function (tested against real Go, not proved from fmt's source: count such statements apart). THE CARD IS WHAT COUNTS. Prove the row's statement (the work); the ties are given (YtbpgfkjhclpbdaaGreatDoorTie.lean); close each card by the builder's one call (the guide's Derived/Test/ToyasCard.lean, 'card_holds'). Laid BY PROGRAM, IN A SANDBOX (cutbox-door.mjs). By AI agents, Wed Nov 11 2026. No macro, syntax, notation, axiom, sorry.
-/
import Derived.Test.YtbpgfkjhclpbdaaGreatDoorRows
import GoSem.ClaimSeven
namespace Go.Proofs.YtbpgfkjhclpbdaaGreatDoor
namespace Rows

/-- THE TIED CARD OF 'calliopelaw18.FetchFaults'. -/
def fetchFaultsCard : Claim7 := { stood := { row := fetchFaultsRow, standIns := [], harness := (true, "f4ae23eb30ace74ab9332d38db848ff5087d6beb2c1d6e5d777346d70425f708"), looks := false }, kinds := [], alts := [], laidByText := true, laidKinds := [.data, .pinned], laidTests := true, laidLooks := .later }
def FetchFaultsCardSaid : Prop := Claim7.holds Tryz.pinned (.plain (OpenSpec.ofChange fetchFaultsSpec)) fetchFaultsCard

/-- THE TIED CARD OF 'calliopelaw20.CursorRuns'. -/
def cursorRunsCard : Claim7 := { stood := { row := cursorRunsRow, standIns := [], harness := (true, "f4ae23eb30ace74ab9332d38db848ff5087d6beb2c1d6e5d777346d70425f708"), looks := false }, kinds := [], alts := [], laidByText := true, laidKinds := [.data, .pinned], laidTests := true, laidLooks := .later }
def CursorRunsCardSaid : Prop := Claim7.holds Tryz.pinned (.plain (OpenSpec.ofChange cursorRunsSpec)) cursorRunsCard

/-- THE TIED CARD OF 'calliopelaw20.CursorLost'. -/
def cursorLostCard : Claim7 := { stood := { row := cursorLostRow, standIns := [], harness := (true, "f4ae23eb30ace74ab9332d38db848ff5087d6beb2c1d6e5d777346d70425f708"), looks := false }, kinds := [], alts := [], laidByText := true, laidKinds := [.data, .pinned], laidTests := true, laidLooks := .later }
def CursorLostCardSaid : Prop := Claim7.holds Tryz.pinned (.plain (OpenSpec.ofChange cursorLostSpec)) cursorLostCard

/-- THE TIED CARD OF 'calliopelaw20.CursorClean'. -/
def cursorCleanCard : Claim7 := { stood := { row := cursorCleanRow, standIns := [], harness := (true, "f4ae23eb30ace74ab9332d38db848ff5087d6beb2c1d6e5d777346d70425f708"), looks := false }, kinds := [], alts := [], laidByText := true, laidKinds := [.data, .pinned], laidTests := true, laidLooks := .later }
def CursorCleanCardSaid : Prop := Claim7.holds Tryz.pinned (.plain (OpenSpec.ofChange cursorCleanSpec)) cursorCleanCard

/-- THE TIED CARD OF 'calliopelaw21.VoicePlays'. -/
def voicePlaysCard : Claim7 := { stood := { row := voicePlaysRow, standIns := [], harness := (true, "f4ae23eb30ace74ab9332d38db848ff5087d6beb2c1d6e5d777346d70425f708"), looks := false }, kinds := [], alts := [], laidByText := true, laidKinds := [.data, .pinned], laidTests := true, laidLooks := .later }
def VoicePlaysCardSaid : Prop := Claim7.holds Tryz.pinned (.plain (OpenSpec.ofChange voicePlaysSpec)) voicePlaysCard

/-- THE TIED CARD OF 'calliopelaw21.VoiceGoes'. -/
def voiceGoesCard : Claim7 := { stood := { row := voiceGoesRow, standIns := [], harness := (true, "f4ae23eb30ace74ab9332d38db848ff5087d6beb2c1d6e5d777346d70425f708"), looks := false }, kinds := [], alts := [], laidByText := true, laidKinds := [.data, .pinned], laidTests := true, laidLooks := .later }
def VoiceGoesCardSaid : Prop := Claim7.holds Tryz.pinned (.plain (OpenSpec.ofChange voiceGoesSpec)) voiceGoesCard

/-- THE SECOND FORM's CARD OF 'calliopelaw18.FetchFaults'. -/
def fetchFaultsUptoCard : Claim7 := { stood := { row := fetchFaultsUptoRow, standIns := [], harness := (true, "f4ae23eb30ace74ab9332d38db848ff5087d6beb2c1d6e5d777346d70425f708"), looks := false }, kinds := [], alts := [], laidByText := true, laidKinds := [.data, .pinned], laidTests := true, laidLooks := .later }
def FetchFaultsUptoCardSaid : Prop := Claim7.holds Tryz.pinned (.plain (OpenSpec.upto fetchFaultsSpec)) fetchFaultsUptoCard

/-- THE SECOND FORM's CARD OF 'calliopelaw20.CursorRuns'. -/
def cursorRunsUptoCard : Claim7 := { stood := { row := cursorRunsUptoRow, standIns := [], harness := (true, "f4ae23eb30ace74ab9332d38db848ff5087d6beb2c1d6e5d777346d70425f708"), looks := false }, kinds := [], alts := [], laidByText := true, laidKinds := [.data, .pinned], laidTests := true, laidLooks := .later }
def CursorRunsUptoCardSaid : Prop := Claim7.holds Tryz.pinned (.plain (OpenSpec.upto cursorRunsSpec)) cursorRunsUptoCard

/-- THE SECOND FORM's CARD OF 'calliopelaw20.CursorLost'. -/
def cursorLostUptoCard : Claim7 := { stood := { row := cursorLostUptoRow, standIns := [], harness := (true, "f4ae23eb30ace74ab9332d38db848ff5087d6beb2c1d6e5d777346d70425f708"), looks := false }, kinds := [], alts := [], laidByText := true, laidKinds := [.data, .pinned], laidTests := true, laidLooks := .later }
def CursorLostUptoCardSaid : Prop := Claim7.holds Tryz.pinned (.plain (OpenSpec.upto cursorLostSpec)) cursorLostUptoCard

/-- THE SECOND FORM's CARD OF 'calliopelaw20.CursorClean'. -/
def cursorCleanUptoCard : Claim7 := { stood := { row := cursorCleanUptoRow, standIns := [], harness := (true, "f4ae23eb30ace74ab9332d38db848ff5087d6beb2c1d6e5d777346d70425f708"), looks := false }, kinds := [], alts := [], laidByText := true, laidKinds := [.data, .pinned], laidTests := true, laidLooks := .later }
def CursorCleanUptoCardSaid : Prop := Claim7.holds Tryz.pinned (.plain (OpenSpec.upto cursorCleanSpec)) cursorCleanUptoCard

/-- THE SECOND FORM's CARD OF 'calliopelaw21.VoicePlays'. -/
def voicePlaysUptoCard : Claim7 := { stood := { row := voicePlaysUptoRow, standIns := [], harness := (true, "f4ae23eb30ace74ab9332d38db848ff5087d6beb2c1d6e5d777346d70425f708"), looks := false }, kinds := [], alts := [], laidByText := true, laidKinds := [.data, .pinned], laidTests := true, laidLooks := .later }
def VoicePlaysUptoCardSaid : Prop := Claim7.holds Tryz.pinned (.plain (OpenSpec.upto voicePlaysSpec)) voicePlaysUptoCard

/-- THE SECOND FORM's CARD OF 'calliopelaw21.VoiceGoes'. -/
def voiceGoesUptoCard : Claim7 := { stood := { row := voiceGoesUptoRow, standIns := [], harness := (true, "f4ae23eb30ace74ab9332d38db848ff5087d6beb2c1d6e5d777346d70425f708"), looks := false }, kinds := [], alts := [], laidByText := true, laidKinds := [.data, .pinned], laidTests := true, laidLooks := .later }
def VoiceGoesUptoCardSaid : Prop := Claim7.holds Tryz.pinned (.plain (OpenSpec.upto voiceGoesSpec)) voiceGoesUptoCard
end Rows
end Go.Proofs.YtbpgfkjhclpbdaaGreatDoor
