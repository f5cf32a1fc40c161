/-
  NARROWER THAN 'FOR EVERY INPUT', by the rows' own cells (each row's printed sentence says how): BankBuilds: laid · ListBanks: laid · EditRenames: laid · FetchNobody: laid · EditRemoves: laid · EditJoins: laid · EditLoops: laid · BankBack: laid · FetchClean: laid · EditAdds: laid · FetchFaults: laid · EditNobody: laid.
  DERIVED. THE GIVEN ROWS OF THIS SEAT. 12 by the template 'for every input the law returns true; each argument reads behind the call as it read before'; 0 by the template 'total and deterministic' (their statements: YtgcfkblmnpnogaaGreatDoorTotals.lean).
  GIVEN WITH THE SEED: the statements are not yours to turn. If you find one false, say at which input.
  Laid BY PROGRAM, IN A SANDBOX (cutbox-rows.mjs): the forced cells as the released guide's own fill.sh prints them over the translation 7b1c921e2f0a7a96… (all of the seat's roots in one cut). By AI agents, Wed Nov 11 2026. No macro, syntax, notation, axiom, sorry.
-/
import Derived.Test.YtgcfkblmnpnogaaGreatDoorChecked
import GoSem.PinnedTables
import GoSem.Claim
import GoSem.ClaimJoined
import GoSem.ClaimMapViews
import Derived.JoinedTies
import Derived.KernelRfl
namespace Go.Proofs.YtgcfkblmnpnogaaGreatDoor
/- THE CELL 'sum', in the pinned program and in every row, IS THE sha256 OF THE DUMP (.gsa) THAT YtgcfkblmnpnogaaGreatDoorProg.lean LOADS. Nothing in Lean hashes anything: it is a label: what it is worth is what the hold of that sum in a sandbox is worth. -/
noncomputable def Tryz.pinned : Pinned := { name := "ytgcfkblmnpnogaagreatdoor", sum := "7b1c921e2f0a7a96e30efec6d0d185e891a71234bc8c6741965a399a173077c3", checked := Tryz.checked }
namespace Rows
def none {H : Type} : Left H := { results := [], args := [] }

/- WHAT THE LISTED PACKAGE-LEVEL VARIABLES READ AS WHEN THE CALL BEGINS. Each datum BY PROGRAM (the guide's laid-datum.mjs) off the statement by which the dump's own 'gosem.cut.vars' lays the variable. In a bare row this is a premise. The card (YtgcfkblmnpnogaaGreatDoorCards.lean) ties it to the program's text. -/
def laid_unicode_utf8_acceptRanges {H : Type} : DataW H := .agg [.agg [.lit (.int .u8 128), .lit (.int .u8 191)], .agg [.lit (.int .u8 160), .lit (.int .u8 191)], .agg [.lit (.int .u8 128), .lit (.int .u8 159)], .agg [.lit (.int .u8 144), .lit (.int .u8 191)], .agg [.lit (.int .u8 128), .lit (.int .u8 143)], .agg [.lit (.int .u8 0), .lit (.int .u8 0)], .agg [.lit (.int .u8 0), .lit (.int .u8 0)], .agg [.lit (.int .u8 0), .lit (.int .u8 0)], .agg [.lit (.int .u8 0), .lit (.int .u8 0)], .agg [.lit (.int .u8 0), .lit (.int .u8 0)], .agg [.lit (.int .u8 0), .lit (.int .u8 0)], .agg [.lit (.int .u8 0), .lit (.int .u8 0)], .agg [.lit (.int .u8 0), .lit (.int .u8 0)], .agg [.lit (.int .u8 0), .lit (.int .u8 0)], .agg [.lit (.int .u8 0), .lit (.int .u8 0)], .agg [.lit (.int .u8 0), .lit (.int .u8 0)]]
/-- One of Go's own tables, pinned by name: the form's constant. -/
def laid_unicode_utf8_first : DataW Unit := Go.Pinned.utf8First

/-- 'calliopelaw15.BankBuilds': WHATEVER THE INPUT: true; the input reads as it did. -/
def bankBuildsSpec : ChangeSpec := { name := "bankBuilds", fn := fun _ => fun
  | [d1, d2, d3] => { results := [.lit (.bool true)], args := [d1, d2, d3] }
  | _ => none }
def bankBuildsRow : OpenClaim := { program := "ytgcfkblmnpnogaagreatdoor", sum := "7b1c921e2f0a7a96e30efec6d0d185e891a71234bc8c6741965a399a173077c3", func := "calliope/calliopelaw15.BankBuilds", spec := "bankBuilds", inPlace := ["internal/bytealg.abigen_runtime_cmpstring", "internal/bytealg.IndexByteString", "internal/bytealg.IndexString"], unfollowed := true, recurses := true, named := ["unicode/utf8.first", "unicode/utf8.acceptRanges", "internal/bytealg.MaxLen"], apart := false, laid := [("unicode/utf8.acceptRanges", laid_unicode_utf8_acceptRanges), ("unicode/utf8.first", laid_unicode_utf8_first)] }
def BankBuildsSaid : Prop := bankBuildsRow.holds Tryz.pinned (OpenSpec.ofChange bankBuildsSpec)

/-- ITS FALSE NEIGHBOUR: 'it returns false'. Refute it at one input. -/
def bankBuildsWrong : ChangeSpec := { name := "bankBuilds", fn := fun _ => fun
  | [d1, d2, d3] => { results := [.lit (.bool false)], args := [d1, d2, d3] }
  | _ => none }
def BankBuildsWrongFalsely : Prop := bankBuildsRow.holds Tryz.pinned (OpenSpec.ofChange bankBuildsWrong)

/-- 'calliopelaw31.ListBanks': WHATEVER THE INPUT: true; the input reads as it did. -/
def listBanksSpec : ChangeSpec := { name := "listBanks", fn := fun _ => fun
  | [d] => { results := [.lit (.bool true)], args := [d] }
  | _ => none }
def listBanksRow : OpenClaim := { program := "ytgcfkblmnpnogaagreatdoor", sum := "7b1c921e2f0a7a96e30efec6d0d185e891a71234bc8c6741965a399a173077c3", func := "calliope/calliopelaw31.ListBanks", spec := "listBanks", inPlace := ["internal/bytealg.abigen_runtime_cmpstring", "internal/bytealg.IndexByteString", "internal/bytealg.IndexString", "internal/abi.NoEscape", "internal/bytealg.MakeNoZero"], unfollowed := true, recurses := true, named := ["unicode/utf8.first", "unicode/utf8.acceptRanges", "internal/bytealg.MaxLen"], apart := false, laid := [("unicode/utf8.acceptRanges", laid_unicode_utf8_acceptRanges), ("unicode/utf8.first", laid_unicode_utf8_first)] }
def ListBanksSaid : Prop := listBanksRow.holds Tryz.pinned (OpenSpec.ofChange listBanksSpec)

/-- ITS FALSE NEIGHBOUR: 'it returns false'. Refute it at one input. -/
def listBanksWrong : ChangeSpec := { name := "listBanks", fn := fun _ => fun
  | [d] => { results := [.lit (.bool false)], args := [d] }
  | _ => none }
def ListBanksWrongFalsely : Prop := listBanksRow.holds Tryz.pinned (OpenSpec.ofChange listBanksWrong)

/-- 'calliopelaw29.EditRenames': WHATEVER THE INPUT: true; the input reads as it did. -/
def editRenamesSpec : ChangeSpec := { name := "editRenames", fn := fun _ => fun
  | [d1, d2, d3] => { results := [.lit (.bool true)], args := [d1, d2, d3] }
  | _ => none }
def editRenamesRow : OpenClaim := { program := "ytgcfkblmnpnogaagreatdoor", sum := "7b1c921e2f0a7a96e30efec6d0d185e891a71234bc8c6741965a399a173077c3", func := "calliope/calliopelaw29.EditRenames", spec := "editRenames", inPlace := ["internal/bytealg.abigen_runtime_cmpstring", "internal/bytealg.IndexByteString", "internal/bytealg.IndexString", "slices.overlaps[calliope/edit.raw]"], unfollowed := true, recurses := true, named := ["unicode/utf8.first", "unicode/utf8.acceptRanges", "internal/bytealg.MaxLen"], apart := false, laid := [("unicode/utf8.acceptRanges", laid_unicode_utf8_acceptRanges), ("unicode/utf8.first", laid_unicode_utf8_first)] }
def EditRenamesSaid : Prop := editRenamesRow.holds Tryz.pinned (OpenSpec.ofChange editRenamesSpec)

/-- ITS FALSE NEIGHBOUR: 'it returns false'. Refute it at one input. -/
def editRenamesWrong : ChangeSpec := { name := "editRenames", fn := fun _ => fun
  | [d1, d2, d3] => { results := [.lit (.bool false)], args := [d1, d2, d3] }
  | _ => none }
def EditRenamesWrongFalsely : Prop := editRenamesRow.holds Tryz.pinned (OpenSpec.ofChange editRenamesWrong)

/-- 'calliopelaw18.FetchNobody': WHATEVER THE INPUT: true; the input reads as it did. -/
def fetchNobodySpec : ChangeSpec := { name := "fetchNobody", fn := fun _ => fun
  | [d] => { results := [.lit (.bool true)], args := [d] }
  | _ => none }
def fetchNobodyRow : OpenClaim := { program := "ytgcfkblmnpnogaagreatdoor", sum := "7b1c921e2f0a7a96e30efec6d0d185e891a71234bc8c6741965a399a173077c3", func := "calliope/calliopelaw18.FetchNobody", spec := "fetchNobody", inPlace := ["internal/bytealg.abigen_runtime_cmpstring", "internal/bytealg.IndexByteString", "internal/bytealg.IndexString"], unfollowed := true, recurses := true, named := ["unicode/utf8.first", "unicode/utf8.acceptRanges", "internal/bytealg.MaxLen"], apart := false, laid := [("unicode/utf8.acceptRanges", laid_unicode_utf8_acceptRanges), ("unicode/utf8.first", laid_unicode_utf8_first)] }
def FetchNobodySaid : Prop := fetchNobodyRow.holds Tryz.pinned (OpenSpec.ofChange fetchNobodySpec)

/-- ITS FALSE NEIGHBOUR: 'it returns false'. Refute it at one input. -/
def fetchNobodyWrong : ChangeSpec := { name := "fetchNobody", fn := fun _ => fun
  | [d] => { results := [.lit (.bool false)], args := [d] }
  | _ => none }
def FetchNobodyWrongFalsely : Prop := fetchNobodyRow.holds Tryz.pinned (OpenSpec.ofChange fetchNobodyWrong)

/-- 'calliopelaw29.EditRemoves': WHATEVER THE INPUT: true; the input reads as it did. -/
def editRemovesSpec : ChangeSpec := { name := "editRemoves", fn := fun _ => fun
  | [d1, d2] => { results := [.lit (.bool true)], args := [d1, d2] }
  | _ => none }
def editRemovesRow : OpenClaim := { program := "ytgcfkblmnpnogaagreatdoor", sum := "7b1c921e2f0a7a96e30efec6d0d185e891a71234bc8c6741965a399a173077c3", func := "calliope/calliopelaw29.EditRemoves", spec := "editRemoves", inPlace := ["internal/bytealg.abigen_runtime_cmpstring", "internal/bytealg.IndexByteString", "internal/bytealg.IndexString", "slices.overlaps[calliope/edit.raw]"], unfollowed := true, recurses := true, named := ["unicode/utf8.first", "unicode/utf8.acceptRanges", "internal/bytealg.MaxLen"], apart := false, laid := [("unicode/utf8.acceptRanges", laid_unicode_utf8_acceptRanges), ("unicode/utf8.first", laid_unicode_utf8_first)] }
def EditRemovesSaid : Prop := editRemovesRow.holds Tryz.pinned (OpenSpec.ofChange editRemovesSpec)

/-- ITS FALSE NEIGHBOUR: 'it returns false'. Refute it at one input. -/
def editRemovesWrong : ChangeSpec := { name := "editRemoves", fn := fun _ => fun
  | [d1, d2] => { results := [.lit (.bool false)], args := [d1, d2] }
  | _ => none }
def EditRemovesWrongFalsely : Prop := editRemovesRow.holds Tryz.pinned (OpenSpec.ofChange editRemovesWrong)

/-- 'calliopelaw29.EditJoins': WHATEVER THE INPUT: true; the input reads as it did. -/
def editJoinsSpec : ChangeSpec := { name := "editJoins", fn := fun _ => fun
  | [d1, d2] => { results := [.lit (.bool true)], args := [d1, d2] }
  | _ => none }
def editJoinsRow : OpenClaim := { program := "ytgcfkblmnpnogaagreatdoor", sum := "7b1c921e2f0a7a96e30efec6d0d185e891a71234bc8c6741965a399a173077c3", func := "calliope/calliopelaw29.EditJoins", spec := "editJoins", inPlace := ["internal/bytealg.abigen_runtime_cmpstring", "internal/bytealg.IndexByteString", "internal/bytealg.IndexString", "slices.overlaps[calliope/edit.raw]"], unfollowed := true, recurses := true, named := ["unicode/utf8.first", "unicode/utf8.acceptRanges", "internal/bytealg.MaxLen"], apart := false, laid := [("unicode/utf8.acceptRanges", laid_unicode_utf8_acceptRanges), ("unicode/utf8.first", laid_unicode_utf8_first)] }
def EditJoinsSaid : Prop := editJoinsRow.holds Tryz.pinned (OpenSpec.ofChange editJoinsSpec)

/-- ITS FALSE NEIGHBOUR: 'it returns false'. Refute it at one input. -/
def editJoinsWrong : ChangeSpec := { name := "editJoins", fn := fun _ => fun
  | [d1, d2] => { results := [.lit (.bool false)], args := [d1, d2] }
  | _ => none }
def EditJoinsWrongFalsely : Prop := editJoinsRow.holds Tryz.pinned (OpenSpec.ofChange editJoinsWrong)

/-- 'calliopelaw29.EditLoops': WHATEVER THE INPUT: true; the input reads as it did. -/
def editLoopsSpec : ChangeSpec := { name := "editLoops", fn := fun _ => fun
  | [d1, d2, d3, d4] => { results := [.lit (.bool true)], args := [d1, d2, d3, d4] }
  | _ => none }
def editLoopsRow : OpenClaim := { program := "ytgcfkblmnpnogaagreatdoor", sum := "7b1c921e2f0a7a96e30efec6d0d185e891a71234bc8c6741965a399a173077c3", func := "calliope/calliopelaw29.EditLoops", spec := "editLoops", inPlace := ["internal/bytealg.abigen_runtime_cmpstring", "internal/bytealg.IndexByteString", "internal/bytealg.IndexString", "slices.overlaps[calliope/edit.raw]"], unfollowed := true, recurses := true, named := ["unicode/utf8.first", "unicode/utf8.acceptRanges", "internal/bytealg.MaxLen"], apart := false, laid := [("unicode/utf8.acceptRanges", laid_unicode_utf8_acceptRanges), ("unicode/utf8.first", laid_unicode_utf8_first)] }
def EditLoopsSaid : Prop := editLoopsRow.holds Tryz.pinned (OpenSpec.ofChange editLoopsSpec)

/-- ITS FALSE NEIGHBOUR: 'it returns false'. Refute it at one input. -/
def editLoopsWrong : ChangeSpec := { name := "editLoops", fn := fun _ => fun
  | [d1, d2, d3, d4] => { results := [.lit (.bool false)], args := [d1, d2, d3, d4] }
  | _ => none }
def EditLoopsWrongFalsely : Prop := editLoopsRow.holds Tryz.pinned (OpenSpec.ofChange editLoopsWrong)

/-- 'calliopelaw15.BankBack': WHATEVER THE INPUT: true; the input reads as it did. -/
def bankBackSpec : ChangeSpec := { name := "bankBack", fn := fun _ => fun
  | [d1, d2] => { results := [.lit (.bool true)], args := [d1, d2] }
  | _ => none }
def bankBackRow : OpenClaim := { program := "ytgcfkblmnpnogaagreatdoor", sum := "7b1c921e2f0a7a96e30efec6d0d185e891a71234bc8c6741965a399a173077c3", func := "calliope/calliopelaw15.BankBack", spec := "bankBack", inPlace := ["internal/bytealg.abigen_runtime_cmpstring", "internal/bytealg.IndexByteString", "internal/bytealg.IndexString"], unfollowed := true, recurses := true, named := ["unicode/utf8.first", "unicode/utf8.acceptRanges", "internal/bytealg.MaxLen"], apart := false, laid := [("unicode/utf8.acceptRanges", laid_unicode_utf8_acceptRanges), ("unicode/utf8.first", laid_unicode_utf8_first)] }
def BankBackSaid : Prop := bankBackRow.holds Tryz.pinned (OpenSpec.ofChange bankBackSpec)

/-- ITS FALSE NEIGHBOUR: 'it returns false'. Refute it at one input. -/
def bankBackWrong : ChangeSpec := { name := "bankBack", fn := fun _ => fun
  | [d1, d2] => { results := [.lit (.bool false)], args := [d1, d2] }
  | _ => none }
def BankBackWrongFalsely : Prop := bankBackRow.holds Tryz.pinned (OpenSpec.ofChange bankBackWrong)

/-- 'calliopelaw18.FetchClean': WHATEVER THE INPUT: true; the input reads as it did. -/
def fetchCleanSpec : ChangeSpec := { name := "fetchClean", fn := fun _ => fun
  | [d1, d2, d3, d4] => { results := [.lit (.bool true)], args := [d1, d2, d3, d4] }
  | _ => none }
def fetchCleanRow : OpenClaim := { program := "ytgcfkblmnpnogaagreatdoor", sum := "7b1c921e2f0a7a96e30efec6d0d185e891a71234bc8c6741965a399a173077c3", func := "calliope/calliopelaw18.FetchClean", spec := "fetchClean", inPlace := ["internal/bytealg.abigen_runtime_cmpstring", "internal/bytealg.IndexByteString", "internal/bytealg.IndexString"], unfollowed := true, recurses := true, named := ["unicode/utf8.first", "unicode/utf8.acceptRanges", "internal/bytealg.MaxLen"], apart := false, laid := [("unicode/utf8.acceptRanges", laid_unicode_utf8_acceptRanges), ("unicode/utf8.first", laid_unicode_utf8_first)] }
def FetchCleanSaid : Prop := fetchCleanRow.holds Tryz.pinned (OpenSpec.ofChange fetchCleanSpec)

/-- ITS FALSE NEIGHBOUR: 'it returns false'. Refute it at one input. -/
def fetchCleanWrong : ChangeSpec := { name := "fetchClean", fn := fun _ => fun
  | [d1, d2, d3, d4] => { results := [.lit (.bool false)], args := [d1, d2, d3, d4] }
  | _ => none }
def FetchCleanWrongFalsely : Prop := fetchCleanRow.holds Tryz.pinned (OpenSpec.ofChange fetchCleanWrong)

/-- 'calliopelaw29.EditAdds': WHATEVER THE INPUT: true; the input reads as it did. -/
def editAddsSpec : ChangeSpec := { name := "editAdds", fn := fun _ => fun
  | [d1, d2] => { results := [.lit (.bool true)], args := [d1, d2] }
  | _ => none }
def editAddsRow : OpenClaim := { program := "ytgcfkblmnpnogaagreatdoor", sum := "7b1c921e2f0a7a96e30efec6d0d185e891a71234bc8c6741965a399a173077c3", func := "calliope/calliopelaw29.EditAdds", spec := "editAdds", inPlace := ["internal/bytealg.abigen_runtime_cmpstring", "internal/bytealg.IndexByteString", "internal/bytealg.IndexString", "slices.overlaps[calliope/edit.raw]"], unfollowed := true, recurses := true, named := ["unicode/utf8.first", "unicode/utf8.acceptRanges", "internal/bytealg.MaxLen"], apart := false, laid := [("unicode/utf8.acceptRanges", laid_unicode_utf8_acceptRanges), ("unicode/utf8.first", laid_unicode_utf8_first)] }
def EditAddsSaid : Prop := editAddsRow.holds Tryz.pinned (OpenSpec.ofChange editAddsSpec)

/-- ITS FALSE NEIGHBOUR: 'it returns false'. Refute it at one input. -/
def editAddsWrong : ChangeSpec := { name := "editAdds", fn := fun _ => fun
  | [d1, d2] => { results := [.lit (.bool false)], args := [d1, d2] }
  | _ => none }
def EditAddsWrongFalsely : Prop := editAddsRow.holds Tryz.pinned (OpenSpec.ofChange editAddsWrong)

/-- 'calliopelaw18.FetchFaults': WHATEVER THE INPUT: true; the input reads as it did. -/
def fetchFaultsSpec : ChangeSpec := { name := "fetchFaults", fn := fun _ => fun
  | [d1, d2, d3, d4] => { results := [.lit (.bool true)], args := [d1, d2, d3, d4] }
  | _ => none }
def fetchFaultsRow : OpenClaim := { program := "ytgcfkblmnpnogaagreatdoor", sum := "7b1c921e2f0a7a96e30efec6d0d185e891a71234bc8c6741965a399a173077c3", func := "calliope/calliopelaw18.FetchFaults", spec := "fetchFaults", inPlace := ["internal/bytealg.abigen_runtime_cmpstring", "internal/bytealg.IndexByteString", "internal/bytealg.IndexString"], unfollowed := true, recurses := true, named := ["unicode/utf8.first", "unicode/utf8.acceptRanges", "internal/bytealg.MaxLen"], apart := false, laid := [("unicode/utf8.acceptRanges", laid_unicode_utf8_acceptRanges), ("unicode/utf8.first", laid_unicode_utf8_first)] }
def FetchFaultsSaid : Prop := fetchFaultsRow.holds Tryz.pinned (OpenSpec.ofChange fetchFaultsSpec)

/-- ITS FALSE NEIGHBOUR: 'it returns false'. Refute it at one input. -/
def fetchFaultsWrong : ChangeSpec := { name := "fetchFaults", fn := fun _ => fun
  | [d1, d2, d3, d4] => { results := [.lit (.bool false)], args := [d1, d2, d3, d4] }
  | _ => none }
def FetchFaultsWrongFalsely : Prop := fetchFaultsRow.holds Tryz.pinned (OpenSpec.ofChange fetchFaultsWrong)

/-- 'calliopelaw29.EditNobody': WHATEVER THE INPUT: true; the input reads as it did. -/
def editNobodySpec : ChangeSpec := { name := "editNobody", fn := fun _ => fun
  | [d] => { results := [.lit (.bool true)], args := [d] }
  | _ => none }
def editNobodyRow : OpenClaim := { program := "ytgcfkblmnpnogaagreatdoor", sum := "7b1c921e2f0a7a96e30efec6d0d185e891a71234bc8c6741965a399a173077c3", func := "calliope/calliopelaw29.EditNobody", spec := "editNobody", inPlace := ["internal/bytealg.abigen_runtime_cmpstring", "internal/bytealg.IndexByteString", "internal/bytealg.IndexString", "slices.overlaps[calliope/edit.raw]"], unfollowed := true, recurses := true, named := ["unicode/utf8.first", "unicode/utf8.acceptRanges", "internal/bytealg.MaxLen"], apart := false, laid := [("unicode/utf8.acceptRanges", laid_unicode_utf8_acceptRanges), ("unicode/utf8.first", laid_unicode_utf8_first)] }
def EditNobodySaid : Prop := editNobodyRow.holds Tryz.pinned (OpenSpec.ofChange editNobodySpec)

/-- ITS FALSE NEIGHBOUR: 'it returns false'. Refute it at one input. -/
def editNobodyWrong : ChangeSpec := { name := "editNobody", fn := fun _ => fun
  | [d] => { results := [.lit (.bool false)], args := [d] }
  | _ => none }
def EditNobodyWrongFalsely : Prop := editNobodyRow.holds Tryz.pinned (OpenSpec.ofChange editNobodyWrong)

/- THE SECOND FORM. 'bulk': how many values and letters a reading holds, each counted each time it is reached (what is shared counts as often as it is met; a slice's spare places count too). A statement '..UptoSaid' is the law's where the arguments, and the package variables that the reading takes, are together of bulk at most 1048576: NARROWER than '..Said'. Prove '..Said' where nothing that the law and all that it calls make is longer than what came in: it says more and counts as full. Else prove '..UptoSaid'. A law counts once. -/
mutual
def uptoBulk {H : Type} : DataW H → Nat
  | .lit (.string bytes) => bytes.length + 1
  | .lit _ => 1
  | .nil => 1
  | .ptr d => uptoBulk d + 1
  | .slice elems spare => uptoBulkAll elems + uptoBulkAll spare + 1
  | .agg parts => uptoBulkAll parts + 1
  | .iface _ d => uptoBulk d + 1
  | .map entries => uptoBulkEntries entries + 1
  | .held _ => 1
def uptoBulkAll {H : Type} : List (DataW H) → Nat
  | [] => 0
  | d :: r => uptoBulk d + uptoBulkAll r
def uptoBulkEntries {H : Type} : List (Lit × DataW H) → Nat
  | [] => 0
  | x :: r => uptoBulkEntry x + uptoBulkEntries r
def uptoBulkEntry {H : Type} : Lit × DataW H → Nat
  | (.string bytes, d) => bytes.length + uptoBulk d + 1
  | (_, d) => uptoBulk d + 1
 end
def uptoSmall : (H : Type) → List (DataW H) → Bool := fun _ ds => decide (uptoBulkAll ds ≤ 1048576)
def OpenSpec.upto (s : _root_.Go.ChangeSpec) : _root_.Go.OpenSpec := { _root_.Go.OpenSpec.ofChange s with cond := some uptoSmall }

/-- 'calliopelaw15.BankBuilds', WHERE WHAT IT READS IS OF BULK AT MOST 1048576: true; the input reads as it did. -/
def bankBuildsUptoRow : OpenClaim := { program := "ytgcfkblmnpnogaagreatdoor", sum := "7b1c921e2f0a7a96e30efec6d0d185e891a71234bc8c6741965a399a173077c3", func := "calliope/calliopelaw15.BankBuilds", spec := "bankBuilds", inPlace := ["internal/bytealg.abigen_runtime_cmpstring", "internal/bytealg.IndexByteString", "internal/bytealg.IndexString"], unfollowed := true, recurses := true, named := ["unicode/utf8.first", "unicode/utf8.acceptRanges", "internal/bytealg.MaxLen"], apart := false, laid := [("unicode/utf8.acceptRanges", laid_unicode_utf8_acceptRanges), ("unicode/utf8.first", laid_unicode_utf8_first)], narrowed := true }
def BankBuildsUptoSaid : Prop := bankBuildsUptoRow.holds Tryz.pinned (OpenSpec.upto bankBuildsSpec)

/-- 'calliopelaw31.ListBanks', WHERE WHAT IT READS IS OF BULK AT MOST 1048576: true; the input reads as it did. -/
def listBanksUptoRow : OpenClaim := { program := "ytgcfkblmnpnogaagreatdoor", sum := "7b1c921e2f0a7a96e30efec6d0d185e891a71234bc8c6741965a399a173077c3", func := "calliope/calliopelaw31.ListBanks", spec := "listBanks", inPlace := ["internal/bytealg.abigen_runtime_cmpstring", "internal/bytealg.IndexByteString", "internal/bytealg.IndexString", "internal/abi.NoEscape", "internal/bytealg.MakeNoZero"], unfollowed := true, recurses := true, named := ["unicode/utf8.first", "unicode/utf8.acceptRanges", "internal/bytealg.MaxLen"], apart := false, laid := [("unicode/utf8.acceptRanges", laid_unicode_utf8_acceptRanges), ("unicode/utf8.first", laid_unicode_utf8_first)], narrowed := true }
def ListBanksUptoSaid : Prop := listBanksUptoRow.holds Tryz.pinned (OpenSpec.upto listBanksSpec)

/-- 'calliopelaw29.EditRenames', WHERE WHAT IT READS IS OF BULK AT MOST 1048576: true; the input reads as it did. -/
def editRenamesUptoRow : OpenClaim := { program := "ytgcfkblmnpnogaagreatdoor", sum := "7b1c921e2f0a7a96e30efec6d0d185e891a71234bc8c6741965a399a173077c3", func := "calliope/calliopelaw29.EditRenames", spec := "editRenames", inPlace := ["internal/bytealg.abigen_runtime_cmpstring", "internal/bytealg.IndexByteString", "internal/bytealg.IndexString", "slices.overlaps[calliope/edit.raw]"], unfollowed := true, recurses := true, named := ["unicode/utf8.first", "unicode/utf8.acceptRanges", "internal/bytealg.MaxLen"], apart := false, laid := [("unicode/utf8.acceptRanges", laid_unicode_utf8_acceptRanges), ("unicode/utf8.first", laid_unicode_utf8_first)], narrowed := true }
def EditRenamesUptoSaid : Prop := editRenamesUptoRow.holds Tryz.pinned (OpenSpec.upto editRenamesSpec)

/-- 'calliopelaw18.FetchNobody', WHERE WHAT IT READS IS OF BULK AT MOST 1048576: true; the input reads as it did. -/
def fetchNobodyUptoRow : OpenClaim := { program := "ytgcfkblmnpnogaagreatdoor", sum := "7b1c921e2f0a7a96e30efec6d0d185e891a71234bc8c6741965a399a173077c3", func := "calliope/calliopelaw18.FetchNobody", spec := "fetchNobody", inPlace := ["internal/bytealg.abigen_runtime_cmpstring", "internal/bytealg.IndexByteString", "internal/bytealg.IndexString"], unfollowed := true, recurses := true, named := ["unicode/utf8.first", "unicode/utf8.acceptRanges", "internal/bytealg.MaxLen"], apart := false, laid := [("unicode/utf8.acceptRanges", laid_unicode_utf8_acceptRanges), ("unicode/utf8.first", laid_unicode_utf8_first)], narrowed := true }
def FetchNobodyUptoSaid : Prop := fetchNobodyUptoRow.holds Tryz.pinned (OpenSpec.upto fetchNobodySpec)

/-- 'calliopelaw29.EditRemoves', WHERE WHAT IT READS IS OF BULK AT MOST 1048576: true; the input reads as it did. -/
def editRemovesUptoRow : OpenClaim := { program := "ytgcfkblmnpnogaagreatdoor", sum := "7b1c921e2f0a7a96e30efec6d0d185e891a71234bc8c6741965a399a173077c3", func := "calliope/calliopelaw29.EditRemoves", spec := "editRemoves", inPlace := ["internal/bytealg.abigen_runtime_cmpstring", "internal/bytealg.IndexByteString", "internal/bytealg.IndexString", "slices.overlaps[calliope/edit.raw]"], unfollowed := true, recurses := true, named := ["unicode/utf8.first", "unicode/utf8.acceptRanges", "internal/bytealg.MaxLen"], apart := false, laid := [("unicode/utf8.acceptRanges", laid_unicode_utf8_acceptRanges), ("unicode/utf8.first", laid_unicode_utf8_first)], narrowed := true }
def EditRemovesUptoSaid : Prop := editRemovesUptoRow.holds Tryz.pinned (OpenSpec.upto editRemovesSpec)

/-- 'calliopelaw29.EditJoins', WHERE WHAT IT READS IS OF BULK AT MOST 1048576: true; the input reads as it did. -/
def editJoinsUptoRow : OpenClaim := { program := "ytgcfkblmnpnogaagreatdoor", sum := "7b1c921e2f0a7a96e30efec6d0d185e891a71234bc8c6741965a399a173077c3", func := "calliope/calliopelaw29.EditJoins", spec := "editJoins", inPlace := ["internal/bytealg.abigen_runtime_cmpstring", "internal/bytealg.IndexByteString", "internal/bytealg.IndexString", "slices.overlaps[calliope/edit.raw]"], unfollowed := true, recurses := true, named := ["unicode/utf8.first", "unicode/utf8.acceptRanges", "internal/bytealg.MaxLen"], apart := false, laid := [("unicode/utf8.acceptRanges", laid_unicode_utf8_acceptRanges), ("unicode/utf8.first", laid_unicode_utf8_first)], narrowed := true }
def EditJoinsUptoSaid : Prop := editJoinsUptoRow.holds Tryz.pinned (OpenSpec.upto editJoinsSpec)

/-- 'calliopelaw29.EditLoops', WHERE WHAT IT READS IS OF BULK AT MOST 1048576: true; the input reads as it did. -/
def editLoopsUptoRow : OpenClaim := { program := "ytgcfkblmnpnogaagreatdoor", sum := "7b1c921e2f0a7a96e30efec6d0d185e891a71234bc8c6741965a399a173077c3", func := "calliope/calliopelaw29.EditLoops", spec := "editLoops", inPlace := ["internal/bytealg.abigen_runtime_cmpstring", "internal/bytealg.IndexByteString", "internal/bytealg.IndexString", "slices.overlaps[calliope/edit.raw]"], unfollowed := true, recurses := true, named := ["unicode/utf8.first", "unicode/utf8.acceptRanges", "internal/bytealg.MaxLen"], apart := false, laid := [("unicode/utf8.acceptRanges", laid_unicode_utf8_acceptRanges), ("unicode/utf8.first", laid_unicode_utf8_first)], narrowed := true }
def EditLoopsUptoSaid : Prop := editLoopsUptoRow.holds Tryz.pinned (OpenSpec.upto editLoopsSpec)

/-- 'calliopelaw15.BankBack', WHERE WHAT IT READS IS OF BULK AT MOST 1048576: true; the input reads as it did. -/
def bankBackUptoRow : OpenClaim := { program := "ytgcfkblmnpnogaagreatdoor", sum := "7b1c921e2f0a7a96e30efec6d0d185e891a71234bc8c6741965a399a173077c3", func := "calliope/calliopelaw15.BankBack", spec := "bankBack", inPlace := ["internal/bytealg.abigen_runtime_cmpstring", "internal/bytealg.IndexByteString", "internal/bytealg.IndexString"], unfollowed := true, recurses := true, named := ["unicode/utf8.first", "unicode/utf8.acceptRanges", "internal/bytealg.MaxLen"], apart := false, laid := [("unicode/utf8.acceptRanges", laid_unicode_utf8_acceptRanges), ("unicode/utf8.first", laid_unicode_utf8_first)], narrowed := true }
def BankBackUptoSaid : Prop := bankBackUptoRow.holds Tryz.pinned (OpenSpec.upto bankBackSpec)

/-- 'calliopelaw18.FetchClean', WHERE WHAT IT READS IS OF BULK AT MOST 1048576: true; the input reads as it did. -/
def fetchCleanUptoRow : OpenClaim := { program := "ytgcfkblmnpnogaagreatdoor", sum := "7b1c921e2f0a7a96e30efec6d0d185e891a71234bc8c6741965a399a173077c3", func := "calliope/calliopelaw18.FetchClean", spec := "fetchClean", inPlace := ["internal/bytealg.abigen_runtime_cmpstring", "internal/bytealg.IndexByteString", "internal/bytealg.IndexString"], unfollowed := true, recurses := true, named := ["unicode/utf8.first", "unicode/utf8.acceptRanges", "internal/bytealg.MaxLen"], apart := false, laid := [("unicode/utf8.acceptRanges", laid_unicode_utf8_acceptRanges), ("unicode/utf8.first", laid_unicode_utf8_first)], narrowed := true }
def FetchCleanUptoSaid : Prop := fetchCleanUptoRow.holds Tryz.pinned (OpenSpec.upto fetchCleanSpec)

/-- 'calliopelaw29.EditAdds', WHERE WHAT IT READS IS OF BULK AT MOST 1048576: true; the input reads as it did. -/
def editAddsUptoRow : OpenClaim := { program := "ytgcfkblmnpnogaagreatdoor", sum := "7b1c921e2f0a7a96e30efec6d0d185e891a71234bc8c6741965a399a173077c3", func := "calliope/calliopelaw29.EditAdds", spec := "editAdds", inPlace := ["internal/bytealg.abigen_runtime_cmpstring", "internal/bytealg.IndexByteString", "internal/bytealg.IndexString", "slices.overlaps[calliope/edit.raw]"], unfollowed := true, recurses := true, named := ["unicode/utf8.first", "unicode/utf8.acceptRanges", "internal/bytealg.MaxLen"], apart := false, laid := [("unicode/utf8.acceptRanges", laid_unicode_utf8_acceptRanges), ("unicode/utf8.first", laid_unicode_utf8_first)], narrowed := true }
def EditAddsUptoSaid : Prop := editAddsUptoRow.holds Tryz.pinned (OpenSpec.upto editAddsSpec)

/-- 'calliopelaw18.FetchFaults', WHERE WHAT IT READS IS OF BULK AT MOST 1048576: true; the input reads as it did. -/
def fetchFaultsUptoRow : OpenClaim := { program := "ytgcfkblmnpnogaagreatdoor", sum := "7b1c921e2f0a7a96e30efec6d0d185e891a71234bc8c6741965a399a173077c3", func := "calliope/calliopelaw18.FetchFaults", spec := "fetchFaults", inPlace := ["internal/bytealg.abigen_runtime_cmpstring", "internal/bytealg.IndexByteString", "internal/bytealg.IndexString"], unfollowed := true, recurses := true, named := ["unicode/utf8.first", "unicode/utf8.acceptRanges", "internal/bytealg.MaxLen"], apart := false, laid := [("unicode/utf8.acceptRanges", laid_unicode_utf8_acceptRanges), ("unicode/utf8.first", laid_unicode_utf8_first)], narrowed := true }
def FetchFaultsUptoSaid : Prop := fetchFaultsUptoRow.holds Tryz.pinned (OpenSpec.upto fetchFaultsSpec)

/-- 'calliopelaw29.EditNobody', WHERE WHAT IT READS IS OF BULK AT MOST 1048576: true; the input reads as it did. -/
def editNobodyUptoRow : OpenClaim := { program := "ytgcfkblmnpnogaagreatdoor", sum := "7b1c921e2f0a7a96e30efec6d0d185e891a71234bc8c6741965a399a173077c3", func := "calliope/calliopelaw29.EditNobody", spec := "editNobody", inPlace := ["internal/bytealg.abigen_runtime_cmpstring", "internal/bytealg.IndexByteString", "internal/bytealg.IndexString", "slices.overlaps[calliope/edit.raw]"], unfollowed := true, recurses := true, named := ["unicode/utf8.first", "unicode/utf8.acceptRanges", "internal/bytealg.MaxLen"], apart := false, laid := [("unicode/utf8.acceptRanges", laid_unicode_utf8_acceptRanges), ("unicode/utf8.first", laid_unicode_utf8_first)], narrowed := true }
def EditNobodyUptoSaid : Prop := editNobodyUptoRow.holds Tryz.pinned (OpenSpec.upto editNobodySpec)

end Rows
end Go.Proofs.YtgcfkblmnpnogaaGreatDoor
