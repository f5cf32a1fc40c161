/-
  NARROWER THAN 'FOR EVERY INPUT', by the rows' own cells (each row's printed sentence says how): BankPacks: laid · BankParses: laid · BankBuilds: laid · BankFrames: laid · BankBack: laid · BankNobody: laid.
  DERIVED. THE GIVEN ROWS OF THIS SEAT. 6 by the template 'for every input the law returns true; each argument reads behind the call as it read before'; 0 by the template 'total and deterministic' (their statements: YtoagdidkadfekaaGreatDoorTotals.lean).
  GIVEN WITH THE SEED: the statements are not yours to turn. If you find one false, say at which input.
  Laid BY PROGRAM, IN A SANDBOX (cutbox-rows.mjs): the forced cells as the released guide's own fill.sh prints them over the translation 45e9027dcdb46a67… (all of the seat's roots in one cut). By AI agents, Wed Nov 11 2026. No macro, syntax, notation, axiom, sorry.
-/
import Derived.Test.YtoagdidkadfekaaGreatDoorChecked
import GoSem.PinnedTables
import GoSem.Claim
import GoSem.ClaimJoined
import GoSem.ClaimMapViews
import Derived.JoinedTies
import Derived.KernelRfl
namespace Go.Proofs.YtoagdidkadfekaaGreatDoor
/- THE CELL 'sum', in the pinned program and in every row, IS THE sha256 OF THE DUMP (.gsa) THAT YtoagdidkadfekaaGreatDoorProg.lean LOADS. Nothing in Lean hashes anything: it is a label: what it is worth is what the hold of that sum in a sandbox is worth. -/
noncomputable def Tryz.pinned : Pinned := { name := "ytoagdidkadfekaagreatdoor", sum := "45e9027dcdb46a67e6023a1807c81f12dcbbdca3ffa0afc508cfd41add648906", checked := Tryz.checked }
namespace Rows
def none {H : Type} : Left H := { results := [], args := [] }

/- WHAT THE LISTED PACKAGE-LEVEL VARIABLES READ AS WHEN THE CALL BEGINS. Each datum BY PROGRAM (the guide's laid-datum.mjs) off the statement by which the dump's own 'gosem.cut.vars' lays the variable. In a bare row this is a premise. The card (YtoagdidkadfekaaGreatDoorCards.lean) ties it to the program's text. -/
def laid_unicode_utf8_acceptRanges {H : Type} : DataW H := .agg [.agg [.lit (.int .u8 128), .lit (.int .u8 191)], .agg [.lit (.int .u8 160), .lit (.int .u8 191)], .agg [.lit (.int .u8 128), .lit (.int .u8 159)], .agg [.lit (.int .u8 144), .lit (.int .u8 191)], .agg [.lit (.int .u8 128), .lit (.int .u8 143)], .agg [.lit (.int .u8 0), .lit (.int .u8 0)], .agg [.lit (.int .u8 0), .lit (.int .u8 0)], .agg [.lit (.int .u8 0), .lit (.int .u8 0)], .agg [.lit (.int .u8 0), .lit (.int .u8 0)], .agg [.lit (.int .u8 0), .lit (.int .u8 0)], .agg [.lit (.int .u8 0), .lit (.int .u8 0)], .agg [.lit (.int .u8 0), .lit (.int .u8 0)], .agg [.lit (.int .u8 0), .lit (.int .u8 0)], .agg [.lit (.int .u8 0), .lit (.int .u8 0)], .agg [.lit (.int .u8 0), .lit (.int .u8 0)], .agg [.lit (.int .u8 0), .lit (.int .u8 0)]]
/-- One of Go's own tables, pinned by name: the form's constant. -/
def laid_unicode_utf8_first : DataW Unit := Go.Pinned.utf8First

/-- 'calliopelaw15.BankPacks': WHATEVER THE INPUT: true; the input reads as it did. -/
def bankPacksSpec : ChangeSpec := { name := "bankPacks", fn := fun _ => fun
  | [d1, d2] => { results := [.lit (.bool true)], args := [d1, d2] }
  | _ => none }
def bankPacksRow : OpenClaim := { program := "ytoagdidkadfekaagreatdoor", sum := "45e9027dcdb46a67e6023a1807c81f12dcbbdca3ffa0afc508cfd41add648906", func := "calliope/calliopelaw15.BankPacks", spec := "bankPacks", inPlace := ["internal/bytealg.abigen_runtime_cmpstring", "internal/bytealg.IndexByteString", "internal/bytealg.IndexString"], unfollowed := true, recurses := true, named := ["unicode/utf8.first", "unicode/utf8.acceptRanges", "internal/bytealg.MaxLen"], apart := false, laid := [("unicode/utf8.acceptRanges", laid_unicode_utf8_acceptRanges), ("unicode/utf8.first", laid_unicode_utf8_first)] }
def BankPacksSaid : Prop := bankPacksRow.holds Tryz.pinned (OpenSpec.ofChange bankPacksSpec)

/-- ITS FALSE NEIGHBOUR: 'it returns false'. Refute it at one input. -/
def bankPacksWrong : ChangeSpec := { name := "bankPacks", fn := fun _ => fun
  | [d1, d2] => { results := [.lit (.bool false)], args := [d1, d2] }
  | _ => none }
def BankPacksWrongFalsely : Prop := bankPacksRow.holds Tryz.pinned (OpenSpec.ofChange bankPacksWrong)

/-- 'calliopelaw15.BankParses': WHATEVER THE INPUT: true; the input reads as it did. -/
def bankParsesSpec : ChangeSpec := { name := "bankParses", fn := fun _ => fun
  | [d] => { results := [.lit (.bool true)], args := [d] }
  | _ => none }
def bankParsesRow : OpenClaim := { program := "ytoagdidkadfekaagreatdoor", sum := "45e9027dcdb46a67e6023a1807c81f12dcbbdca3ffa0afc508cfd41add648906", func := "calliope/calliopelaw15.BankParses", spec := "bankParses", inPlace := ["internal/bytealg.IndexByteString", "internal/bytealg.IndexString", "internal/bytealg.abigen_runtime_cmpstring"], unfollowed := true, recurses := true, named := ["unicode/utf8.first", "unicode/utf8.acceptRanges", "internal/bytealg.MaxLen"], apart := false, laid := [("unicode/utf8.acceptRanges", laid_unicode_utf8_acceptRanges), ("unicode/utf8.first", laid_unicode_utf8_first)] }
def BankParsesSaid : Prop := bankParsesRow.holds Tryz.pinned (OpenSpec.ofChange bankParsesSpec)

/-- ITS FALSE NEIGHBOUR: 'it returns false'. Refute it at one input. -/
def bankParsesWrong : ChangeSpec := { name := "bankParses", fn := fun _ => fun
  | [d] => { results := [.lit (.bool false)], args := [d] }
  | _ => none }
def BankParsesWrongFalsely : Prop := bankParsesRow.holds Tryz.pinned (OpenSpec.ofChange bankParsesWrong)

/-- 'calliopelaw15.BankBuilds': WHATEVER THE INPUT: true; the input reads as it did. -/
def bankBuildsSpec : ChangeSpec := { name := "bankBuilds", fn := fun _ => fun
  | [d1, d2, d3] => { results := [.lit (.bool true)], args := [d1, d2, d3] }
  | _ => none }
def bankBuildsRow : OpenClaim := { program := "ytoagdidkadfekaagreatdoor", sum := "45e9027dcdb46a67e6023a1807c81f12dcbbdca3ffa0afc508cfd41add648906", func := "calliope/calliopelaw15.BankBuilds", spec := "bankBuilds", inPlace := ["internal/bytealg.abigen_runtime_cmpstring", "internal/bytealg.IndexByteString", "internal/bytealg.IndexString"], unfollowed := true, recurses := true, named := ["unicode/utf8.first", "unicode/utf8.acceptRanges", "internal/bytealg.MaxLen"], apart := false, laid := [("unicode/utf8.acceptRanges", laid_unicode_utf8_acceptRanges), ("unicode/utf8.first", laid_unicode_utf8_first)] }
def BankBuildsSaid : Prop := bankBuildsRow.holds Tryz.pinned (OpenSpec.ofChange bankBuildsSpec)

/-- ITS FALSE NEIGHBOUR: 'it returns false'. Refute it at one input. -/
def bankBuildsWrong : ChangeSpec := { name := "bankBuilds", fn := fun _ => fun
  | [d1, d2, d3] => { results := [.lit (.bool false)], args := [d1, d2, d3] }
  | _ => none }
def BankBuildsWrongFalsely : Prop := bankBuildsRow.holds Tryz.pinned (OpenSpec.ofChange bankBuildsWrong)

/-- 'calliopelaw15.BankFrames': WHATEVER THE INPUT: true; the input reads as it did. -/
def bankFramesSpec : ChangeSpec := { name := "bankFrames", fn := fun _ => fun
  | [d1, d2, d3, d4, d5, d6] => { results := [.lit (.bool true)], args := [d1, d2, d3, d4, d5, d6] }
  | _ => none }
def bankFramesRow : OpenClaim := { program := "ytoagdidkadfekaagreatdoor", sum := "45e9027dcdb46a67e6023a1807c81f12dcbbdca3ffa0afc508cfd41add648906", func := "calliope/calliopelaw15.BankFrames", spec := "bankFrames", inPlace := ["internal/bytealg.abigen_runtime_cmpstring", "internal/bytealg.IndexByteString", "internal/bytealg.IndexString"], unfollowed := true, recurses := true, named := ["unicode/utf8.first", "unicode/utf8.acceptRanges", "internal/bytealg.MaxLen"], apart := false, laid := [("unicode/utf8.acceptRanges", laid_unicode_utf8_acceptRanges), ("unicode/utf8.first", laid_unicode_utf8_first)] }
def BankFramesSaid : Prop := bankFramesRow.holds Tryz.pinned (OpenSpec.ofChange bankFramesSpec)

/-- ITS FALSE NEIGHBOUR: 'it returns false'. Refute it at one input. -/
def bankFramesWrong : ChangeSpec := { name := "bankFrames", fn := fun _ => fun
  | [d1, d2, d3, d4, d5, d6] => { results := [.lit (.bool false)], args := [d1, d2, d3, d4, d5, d6] }
  | _ => none }
def BankFramesWrongFalsely : Prop := bankFramesRow.holds Tryz.pinned (OpenSpec.ofChange bankFramesWrong)

/-- 'calliopelaw15.BankBack': WHATEVER THE INPUT: true; the input reads as it did. -/
def bankBackSpec : ChangeSpec := { name := "bankBack", fn := fun _ => fun
  | [d1, d2] => { results := [.lit (.bool true)], args := [d1, d2] }
  | _ => none }
def bankBackRow : OpenClaim := { program := "ytoagdidkadfekaagreatdoor", sum := "45e9027dcdb46a67e6023a1807c81f12dcbbdca3ffa0afc508cfd41add648906", func := "calliope/calliopelaw15.BankBack", spec := "bankBack", inPlace := ["internal/bytealg.abigen_runtime_cmpstring", "internal/bytealg.IndexByteString", "internal/bytealg.IndexString"], unfollowed := true, recurses := true, named := ["unicode/utf8.first", "unicode/utf8.acceptRanges", "internal/bytealg.MaxLen"], apart := false, laid := [("unicode/utf8.acceptRanges", laid_unicode_utf8_acceptRanges), ("unicode/utf8.first", laid_unicode_utf8_first)] }
def BankBackSaid : Prop := bankBackRow.holds Tryz.pinned (OpenSpec.ofChange bankBackSpec)

/-- ITS FALSE NEIGHBOUR: 'it returns false'. Refute it at one input. -/
def bankBackWrong : ChangeSpec := { name := "bankBack", fn := fun _ => fun
  | [d1, d2] => { results := [.lit (.bool false)], args := [d1, d2] }
  | _ => none }
def BankBackWrongFalsely : Prop := bankBackRow.holds Tryz.pinned (OpenSpec.ofChange bankBackWrong)

/-- 'calliopelaw15.BankNobody': WHATEVER THE INPUT: true; the input reads as it did. -/
def bankNobodySpec : ChangeSpec := { name := "bankNobody", fn := fun _ => fun
  | [d1, d2] => { results := [.lit (.bool true)], args := [d1, d2] }
  | _ => none }
def bankNobodyRow : OpenClaim := { program := "ytoagdidkadfekaagreatdoor", sum := "45e9027dcdb46a67e6023a1807c81f12dcbbdca3ffa0afc508cfd41add648906", func := "calliope/calliopelaw15.BankNobody", spec := "bankNobody", inPlace := ["internal/bytealg.abigen_runtime_cmpstring", "internal/bytealg.IndexByteString", "internal/bytealg.IndexString"], unfollowed := true, recurses := true, named := ["unicode/utf8.first", "unicode/utf8.acceptRanges", "internal/bytealg.MaxLen"], apart := false, laid := [("unicode/utf8.acceptRanges", laid_unicode_utf8_acceptRanges), ("unicode/utf8.first", laid_unicode_utf8_first)] }
def BankNobodySaid : Prop := bankNobodyRow.holds Tryz.pinned (OpenSpec.ofChange bankNobodySpec)

/-- ITS FALSE NEIGHBOUR: 'it returns false'. Refute it at one input. -/
def bankNobodyWrong : ChangeSpec := { name := "bankNobody", fn := fun _ => fun
  | [d1, d2] => { results := [.lit (.bool false)], args := [d1, d2] }
  | _ => none }
def BankNobodyWrongFalsely : Prop := bankNobodyRow.holds Tryz.pinned (OpenSpec.ofChange bankNobodyWrong)

/- THE SECOND FORM. 'bulk': how many values and letters a reading holds, each counted each time it is reached (what is shared counts as often as it is met; a slice's spare places count too). A statement '..UptoSaid' is the law's where the arguments, and the package variables that the reading takes, are together of bulk at most 1048576: NARROWER than '..Said'. Prove '..Said' where nothing that the law and all that it calls make is longer than what came in: it says more and counts as full. Else prove '..UptoSaid'. A law counts once. -/
mutual
def uptoBulk {H : Type} : DataW H → Nat
  | .lit (.string bytes) => bytes.length + 1
  | .lit _ => 1
  | .nil => 1
  | .ptr d => uptoBulk d + 1
  | .slice elems spare => uptoBulkAll elems + uptoBulkAll spare + 1
  | .agg parts => uptoBulkAll parts + 1
  | .iface _ d => uptoBulk d + 1
  | .map entries => uptoBulkEntries entries + 1
  | .held _ => 1
def uptoBulkAll {H : Type} : List (DataW H) → Nat
  | [] => 0
  | d :: r => uptoBulk d + uptoBulkAll r
def uptoBulkEntries {H : Type} : List (Lit × DataW H) → Nat
  | [] => 0
  | x :: r => uptoBulkEntry x + uptoBulkEntries r
def uptoBulkEntry {H : Type} : Lit × DataW H → Nat
  | (.string bytes, d) => bytes.length + uptoBulk d + 1
  | (_, d) => uptoBulk d + 1
 end
def uptoSmall : (H : Type) → List (DataW H) → Bool := fun _ ds => decide (uptoBulkAll ds ≤ 1048576)
def OpenSpec.upto (s : _root_.Go.ChangeSpec) : _root_.Go.OpenSpec := { _root_.Go.OpenSpec.ofChange s with cond := some uptoSmall }

/-- 'calliopelaw15.BankPacks', WHERE WHAT IT READS IS OF BULK AT MOST 1048576: true; the input reads as it did. -/
def bankPacksUptoRow : OpenClaim := { program := "ytoagdidkadfekaagreatdoor", sum := "45e9027dcdb46a67e6023a1807c81f12dcbbdca3ffa0afc508cfd41add648906", func := "calliope/calliopelaw15.BankPacks", spec := "bankPacks", inPlace := ["internal/bytealg.abigen_runtime_cmpstring", "internal/bytealg.IndexByteString", "internal/bytealg.IndexString"], unfollowed := true, recurses := true, named := ["unicode/utf8.first", "unicode/utf8.acceptRanges", "internal/bytealg.MaxLen"], apart := false, laid := [("unicode/utf8.acceptRanges", laid_unicode_utf8_acceptRanges), ("unicode/utf8.first", laid_unicode_utf8_first)], narrowed := true }
def BankPacksUptoSaid : Prop := bankPacksUptoRow.holds Tryz.pinned (OpenSpec.upto bankPacksSpec)

/-- 'calliopelaw15.BankParses', WHERE WHAT IT READS IS OF BULK AT MOST 1048576: true; the input reads as it did. -/
def bankParsesUptoRow : OpenClaim := { program := "ytoagdidkadfekaagreatdoor", sum := "45e9027dcdb46a67e6023a1807c81f12dcbbdca3ffa0afc508cfd41add648906", func := "calliope/calliopelaw15.BankParses", spec := "bankParses", inPlace := ["internal/bytealg.IndexByteString", "internal/bytealg.IndexString", "internal/bytealg.abigen_runtime_cmpstring"], unfollowed := true, recurses := true, named := ["unicode/utf8.first", "unicode/utf8.acceptRanges", "internal/bytealg.MaxLen"], apart := false, laid := [("unicode/utf8.acceptRanges", laid_unicode_utf8_acceptRanges), ("unicode/utf8.first", laid_unicode_utf8_first)], narrowed := true }
def BankParsesUptoSaid : Prop := bankParsesUptoRow.holds Tryz.pinned (OpenSpec.upto bankParsesSpec)

/-- 'calliopelaw15.BankBuilds', WHERE WHAT IT READS IS OF BULK AT MOST 1048576: true; the input reads as it did. -/
def bankBuildsUptoRow : OpenClaim := { program := "ytoagdidkadfekaagreatdoor", sum := "45e9027dcdb46a67e6023a1807c81f12dcbbdca3ffa0afc508cfd41add648906", func := "calliope/calliopelaw15.BankBuilds", spec := "bankBuilds", inPlace := ["internal/bytealg.abigen_runtime_cmpstring", "internal/bytealg.IndexByteString", "internal/bytealg.IndexString"], unfollowed := true, recurses := true, named := ["unicode/utf8.first", "unicode/utf8.acceptRanges", "internal/bytealg.MaxLen"], apart := false, laid := [("unicode/utf8.acceptRanges", laid_unicode_utf8_acceptRanges), ("unicode/utf8.first", laid_unicode_utf8_first)], narrowed := true }
def BankBuildsUptoSaid : Prop := bankBuildsUptoRow.holds Tryz.pinned (OpenSpec.upto bankBuildsSpec)

/-- 'calliopelaw15.BankFrames', WHERE WHAT IT READS IS OF BULK AT MOST 1048576: true; the input reads as it did. -/
def bankFramesUptoRow : OpenClaim := { program := "ytoagdidkadfekaagreatdoor", sum := "45e9027dcdb46a67e6023a1807c81f12dcbbdca3ffa0afc508cfd41add648906", func := "calliope/calliopelaw15.BankFrames", spec := "bankFrames", inPlace := ["internal/bytealg.abigen_runtime_cmpstring", "internal/bytealg.IndexByteString", "internal/bytealg.IndexString"], unfollowed := true, recurses := true, named := ["unicode/utf8.first", "unicode/utf8.acceptRanges", "internal/bytealg.MaxLen"], apart := false, laid := [("unicode/utf8.acceptRanges", laid_unicode_utf8_acceptRanges), ("unicode/utf8.first", laid_unicode_utf8_first)], narrowed := true }
def BankFramesUptoSaid : Prop := bankFramesUptoRow.holds Tryz.pinned (OpenSpec.upto bankFramesSpec)

/-- 'calliopelaw15.BankBack', WHERE WHAT IT READS IS OF BULK AT MOST 1048576: true; the input reads as it did. -/
def bankBackUptoRow : OpenClaim := { program := "ytoagdidkadfekaagreatdoor", sum := "45e9027dcdb46a67e6023a1807c81f12dcbbdca3ffa0afc508cfd41add648906", func := "calliope/calliopelaw15.BankBack", spec := "bankBack", inPlace := ["internal/bytealg.abigen_runtime_cmpstring", "internal/bytealg.IndexByteString", "internal/bytealg.IndexString"], unfollowed := true, recurses := true, named := ["unicode/utf8.first", "unicode/utf8.acceptRanges", "internal/bytealg.MaxLen"], apart := false, laid := [("unicode/utf8.acceptRanges", laid_unicode_utf8_acceptRanges), ("unicode/utf8.first", laid_unicode_utf8_first)], narrowed := true }
def BankBackUptoSaid : Prop := bankBackUptoRow.holds Tryz.pinned (OpenSpec.upto bankBackSpec)

/-- 'calliopelaw15.BankNobody', WHERE WHAT IT READS IS OF BULK AT MOST 1048576: true; the input reads as it did. -/
def bankNobodyUptoRow : OpenClaim := { program := "ytoagdidkadfekaagreatdoor", sum := "45e9027dcdb46a67e6023a1807c81f12dcbbdca3ffa0afc508cfd41add648906", func := "calliope/calliopelaw15.BankNobody", spec := "bankNobody", inPlace := ["internal/bytealg.abigen_runtime_cmpstring", "internal/bytealg.IndexByteString", "internal/bytealg.IndexString"], unfollowed := true, recurses := true, named := ["unicode/utf8.first", "unicode/utf8.acceptRanges", "internal/bytealg.MaxLen"], apart := false, laid := [("unicode/utf8.acceptRanges", laid_unicode_utf8_acceptRanges), ("unicode/utf8.first", laid_unicode_utf8_first)], narrowed := true }
def BankNobodyUptoSaid : Prop := bankNobodyUptoRow.holds Tryz.pinned (OpenSpec.upto bankNobodySpec)

end Rows
end Go.Proofs.YtoagdidkadfekaaGreatDoor
