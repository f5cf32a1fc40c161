/-
  NARROWER THAN 'FOR EVERY INPUT', by the rows' own cells (each row's printed sentence says how): FetchFaults: laid · CursorRuns: laid · CursorLost: laid · CursorClean: laid · VoicePlays: laid · VoiceGoes: laid.
  DERIVED. THE GIVEN ROWS OF THIS SEAT. 6 by the template 'for every input the law returns true; each argument reads behind the call as it read before'; 0 by the template 'total and deterministic' (their statements: YtbpgfkjhclpbdaaGreatDoorTotals.lean).
  GIVEN WITH THE SEED: the statements are not yours to turn. If you find one false, say at which input.
  Laid BY PROGRAM, IN A SANDBOX (cutbox-rows.mjs): the forced cells as the released guide's own fill.sh prints them over the translation d16eaf358234b4da… (all of the seat's roots in one cut). By AI agents, Wed Nov 11 2026. No macro, syntax, notation, axiom, sorry.
-/
import Derived.Test.YtbpgfkjhclpbdaaGreatDoorChecked
import GoSem.PinnedTables
import GoSem.Claim
import GoSem.ClaimJoined
import GoSem.ClaimMapViews
import Derived.JoinedTies
import Derived.KernelRfl
namespace Go.Proofs.YtbpgfkjhclpbdaaGreatDoor
/- THE CELL 'sum', in the pinned program and in every row, IS THE sha256 OF THE DUMP (.gsa) THAT YtbpgfkjhclpbdaaGreatDoorProg.lean LOADS. Nothing in Lean hashes anything: it is a label: what it is worth is what the hold of that sum in a sandbox is worth. -/
noncomputable def Tryz.pinned : Pinned := { name := "ytbpgfkjhclpbdaagreatdoor", sum := "d16eaf358234b4daa578fdc420ad3dbee6239d5be6fbb6ab778efbda666cb620", checked := Tryz.checked }
namespace Rows
def none {H : Type} : Left H := { results := [], args := [] }

/- WHAT THE LISTED PACKAGE-LEVEL VARIABLES READ AS WHEN THE CALL BEGINS. Each datum BY PROGRAM (the guide's laid-datum.mjs) off the statement by which the dump's own 'gosem.cut.vars' lays the variable. In a bare row this is a premise. The card (YtbpgfkjhclpbdaaGreatDoorCards.lean) ties it to the program's text. -/
def laid_unicode_utf8_acceptRanges {H : Type} : DataW H := .agg [.agg [.lit (.int .u8 128), .lit (.int .u8 191)], .agg [.lit (.int .u8 160), .lit (.int .u8 191)], .agg [.lit (.int .u8 128), .lit (.int .u8 159)], .agg [.lit (.int .u8 144), .lit (.int .u8 191)], .agg [.lit (.int .u8 128), .lit (.int .u8 143)], .agg [.lit (.int .u8 0), .lit (.int .u8 0)], .agg [.lit (.int .u8 0), .lit (.int .u8 0)], .agg [.lit (.int .u8 0), .lit (.int .u8 0)], .agg [.lit (.int .u8 0), .lit (.int .u8 0)], .agg [.lit (.int .u8 0), .lit (.int .u8 0)], .agg [.lit (.int .u8 0), .lit (.int .u8 0)], .agg [.lit (.int .u8 0), .lit (.int .u8 0)], .agg [.lit (.int .u8 0), .lit (.int .u8 0)], .agg [.lit (.int .u8 0), .lit (.int .u8 0)], .agg [.lit (.int .u8 0), .lit (.int .u8 0)], .agg [.lit (.int .u8 0), .lit (.int .u8 0)]]
/-- One of Go's own tables, pinned by name: the form's constant. -/
def laid_unicode_utf8_first : DataW Unit := Go.Pinned.utf8First

/-- 'calliopelaw18.FetchFaults': WHATEVER THE INPUT: true; the input reads as it did. -/
def fetchFaultsSpec : ChangeSpec := { name := "fetchFaults", fn := fun _ => fun
  | [d1, d2, d3, d4] => { results := [.lit (.bool true)], args := [d1, d2, d3, d4] }
  | _ => none }
def fetchFaultsRow : OpenClaim := { program := "ytbpgfkjhclpbdaagreatdoor", sum := "d16eaf358234b4daa578fdc420ad3dbee6239d5be6fbb6ab778efbda666cb620", func := "calliope/calliopelaw18.FetchFaults", spec := "fetchFaults", inPlace := ["internal/bytealg.abigen_runtime_cmpstring", "internal/bytealg.IndexByteString", "internal/bytealg.IndexString"], unfollowed := true, recurses := true, named := ["unicode/utf8.first", "unicode/utf8.acceptRanges", "internal/bytealg.MaxLen"], apart := false, laid := [("unicode/utf8.acceptRanges", laid_unicode_utf8_acceptRanges), ("unicode/utf8.first", laid_unicode_utf8_first)] }
def FetchFaultsSaid : Prop := fetchFaultsRow.holds Tryz.pinned (OpenSpec.ofChange fetchFaultsSpec)

/-- ITS FALSE NEIGHBOUR: 'it returns false'. Refute it at one input. -/
def fetchFaultsWrong : ChangeSpec := { name := "fetchFaults", fn := fun _ => fun
  | [d1, d2, d3, d4] => { results := [.lit (.bool false)], args := [d1, d2, d3, d4] }
  | _ => none }
def FetchFaultsWrongFalsely : Prop := fetchFaultsRow.holds Tryz.pinned (OpenSpec.ofChange fetchFaultsWrong)

/-- 'calliopelaw20.CursorRuns': WHATEVER THE INPUT: true; the input reads as it did. -/
def cursorRunsSpec : ChangeSpec := { name := "cursorRuns", fn := fun _ => fun
  | [d1, d2, d3] => { results := [.lit (.bool true)], args := [d1, d2, d3] }
  | _ => none }
def cursorRunsRow : OpenClaim := { program := "ytbpgfkjhclpbdaagreatdoor", sum := "d16eaf358234b4daa578fdc420ad3dbee6239d5be6fbb6ab778efbda666cb620", func := "calliope/calliopelaw20.CursorRuns", spec := "cursorRuns", inPlace := ["internal/bytealg.abigen_runtime_cmpstring", "internal/bytealg.IndexByteString", "internal/bytealg.IndexString"], unfollowed := true, recurses := true, named := ["unicode/utf8.first", "unicode/utf8.acceptRanges", "internal/bytealg.MaxLen"], apart := false, laid := [("unicode/utf8.acceptRanges", laid_unicode_utf8_acceptRanges), ("unicode/utf8.first", laid_unicode_utf8_first)] }
def CursorRunsSaid : Prop := cursorRunsRow.holds Tryz.pinned (OpenSpec.ofChange cursorRunsSpec)

/-- ITS FALSE NEIGHBOUR: 'it returns false'. Refute it at one input. -/
def cursorRunsWrong : ChangeSpec := { name := "cursorRuns", fn := fun _ => fun
  | [d1, d2, d3] => { results := [.lit (.bool false)], args := [d1, d2, d3] }
  | _ => none }
def CursorRunsWrongFalsely : Prop := cursorRunsRow.holds Tryz.pinned (OpenSpec.ofChange cursorRunsWrong)

/-- 'calliopelaw20.CursorLost': WHATEVER THE INPUT: true; the input reads as it did. -/
def cursorLostSpec : ChangeSpec := { name := "cursorLost", fn := fun _ => fun
  | [d1, d2, d3, d4, d5] => { results := [.lit (.bool true)], args := [d1, d2, d3, d4, d5] }
  | _ => none }
def cursorLostRow : OpenClaim := { program := "ytbpgfkjhclpbdaagreatdoor", sum := "d16eaf358234b4daa578fdc420ad3dbee6239d5be6fbb6ab778efbda666cb620", func := "calliope/calliopelaw20.CursorLost", spec := "cursorLost", inPlace := ["internal/bytealg.abigen_runtime_cmpstring", "internal/bytealg.IndexByteString", "internal/bytealg.IndexString"], unfollowed := true, recurses := true, named := ["unicode/utf8.first", "unicode/utf8.acceptRanges", "internal/bytealg.MaxLen"], apart := false, laid := [("unicode/utf8.acceptRanges", laid_unicode_utf8_acceptRanges), ("unicode/utf8.first", laid_unicode_utf8_first)] }
def CursorLostSaid : Prop := cursorLostRow.holds Tryz.pinned (OpenSpec.ofChange cursorLostSpec)

/-- ITS FALSE NEIGHBOUR: 'it returns false'. Refute it at one input. -/
def cursorLostWrong : ChangeSpec := { name := "cursorLost", fn := fun _ => fun
  | [d1, d2, d3, d4, d5] => { results := [.lit (.bool false)], args := [d1, d2, d3, d4, d5] }
  | _ => none }
def CursorLostWrongFalsely : Prop := cursorLostRow.holds Tryz.pinned (OpenSpec.ofChange cursorLostWrong)

/-- 'calliopelaw20.CursorClean': WHATEVER THE INPUT: true; the input reads as it did. -/
def cursorCleanSpec : ChangeSpec := { name := "cursorClean", fn := fun _ => fun
  | [d1, d2, d3, d4, d5] => { results := [.lit (.bool true)], args := [d1, d2, d3, d4, d5] }
  | _ => none }
def cursorCleanRow : OpenClaim := { program := "ytbpgfkjhclpbdaagreatdoor", sum := "d16eaf358234b4daa578fdc420ad3dbee6239d5be6fbb6ab778efbda666cb620", func := "calliope/calliopelaw20.CursorClean", spec := "cursorClean", inPlace := ["internal/bytealg.abigen_runtime_cmpstring", "internal/bytealg.IndexByteString", "internal/bytealg.IndexString"], unfollowed := true, recurses := true, named := ["unicode/utf8.first", "unicode/utf8.acceptRanges", "internal/bytealg.MaxLen"], apart := false, laid := [("unicode/utf8.acceptRanges", laid_unicode_utf8_acceptRanges), ("unicode/utf8.first", laid_unicode_utf8_first)] }
def CursorCleanSaid : Prop := cursorCleanRow.holds Tryz.pinned (OpenSpec.ofChange cursorCleanSpec)

/-- ITS FALSE NEIGHBOUR: 'it returns false'. Refute it at one input. -/
def cursorCleanWrong : ChangeSpec := { name := "cursorClean", fn := fun _ => fun
  | [d1, d2, d3, d4, d5] => { results := [.lit (.bool false)], args := [d1, d2, d3, d4, d5] }
  | _ => none }
def CursorCleanWrongFalsely : Prop := cursorCleanRow.holds Tryz.pinned (OpenSpec.ofChange cursorCleanWrong)

/-- 'calliopelaw21.VoicePlays': WHATEVER THE INPUT: true; the input reads as it did. -/
def voicePlaysSpec : ChangeSpec := { name := "voicePlays", fn := fun _ => fun
  | [d1, d2, d3] => { results := [.lit (.bool true)], args := [d1, d2, d3] }
  | _ => none }
def voicePlaysRow : OpenClaim := { program := "ytbpgfkjhclpbdaagreatdoor", sum := "d16eaf358234b4daa578fdc420ad3dbee6239d5be6fbb6ab778efbda666cb620", func := "calliope/calliopelaw21.VoicePlays", spec := "voicePlays", inPlace := ["internal/bytealg.abigen_runtime_cmpstring", "internal/bytealg.IndexByteString", "internal/bytealg.IndexString"], unfollowed := true, recurses := true, named := ["unicode/utf8.first", "unicode/utf8.acceptRanges", "internal/bytealg.MaxLen"], apart := false, laid := [("unicode/utf8.acceptRanges", laid_unicode_utf8_acceptRanges), ("unicode/utf8.first", laid_unicode_utf8_first)] }
def VoicePlaysSaid : Prop := voicePlaysRow.holds Tryz.pinned (OpenSpec.ofChange voicePlaysSpec)

/-- ITS FALSE NEIGHBOUR: 'it returns false'. Refute it at one input. -/
def voicePlaysWrong : ChangeSpec := { name := "voicePlays", fn := fun _ => fun
  | [d1, d2, d3] => { results := [.lit (.bool false)], args := [d1, d2, d3] }
  | _ => none }
def VoicePlaysWrongFalsely : Prop := voicePlaysRow.holds Tryz.pinned (OpenSpec.ofChange voicePlaysWrong)

/-- 'calliopelaw21.VoiceGoes': WHATEVER THE INPUT: true; the input reads as it did. -/
def voiceGoesSpec : ChangeSpec := { name := "voiceGoes", fn := fun _ => fun
  | [d1, d2, d3, d4, d5] => { results := [.lit (.bool true)], args := [d1, d2, d3, d4, d5] }
  | _ => none }
def voiceGoesRow : OpenClaim := { program := "ytbpgfkjhclpbdaagreatdoor", sum := "d16eaf358234b4daa578fdc420ad3dbee6239d5be6fbb6ab778efbda666cb620", func := "calliope/calliopelaw21.VoiceGoes", spec := "voiceGoes", inPlace := ["internal/bytealg.abigen_runtime_cmpstring", "internal/bytealg.IndexByteString", "internal/bytealg.IndexString"], unfollowed := true, recurses := true, named := ["unicode/utf8.first", "unicode/utf8.acceptRanges", "internal/bytealg.MaxLen"], apart := false, laid := [("unicode/utf8.acceptRanges", laid_unicode_utf8_acceptRanges), ("unicode/utf8.first", laid_unicode_utf8_first)] }
def VoiceGoesSaid : Prop := voiceGoesRow.holds Tryz.pinned (OpenSpec.ofChange voiceGoesSpec)

/-- ITS FALSE NEIGHBOUR: 'it returns false'. Refute it at one input. -/
def voiceGoesWrong : ChangeSpec := { name := "voiceGoes", fn := fun _ => fun
  | [d1, d2, d3, d4, d5] => { results := [.lit (.bool false)], args := [d1, d2, d3, d4, d5] }
  | _ => none }
def VoiceGoesWrongFalsely : Prop := voiceGoesRow.holds Tryz.pinned (OpenSpec.ofChange voiceGoesWrong)

/- THE SECOND FORM. 'bulk': how many values and letters a reading holds, each counted each time it is reached (what is shared counts as often as it is met; a slice's spare places count too). A statement '..UptoSaid' is the law's where the arguments, and the package variables that the reading takes, are together of bulk at most 1048576: NARROWER than '..Said'. Prove '..Said' where nothing that the law and all that it calls make is longer than what came in: it says more and counts as full. Else prove '..UptoSaid'. A law counts once. -/
mutual
def uptoBulk {H : Type} : DataW H → Nat
  | .lit (.string bytes) => bytes.length + 1
  | .lit _ => 1
  | .nil => 1
  | .ptr d => uptoBulk d + 1
  | .slice elems spare => uptoBulkAll elems + uptoBulkAll spare + 1
  | .agg parts => uptoBulkAll parts + 1
  | .iface _ d => uptoBulk d + 1
  | .map entries => uptoBulkEntries entries + 1
  | .held _ => 1
def uptoBulkAll {H : Type} : List (DataW H) → Nat
  | [] => 0
  | d :: r => uptoBulk d + uptoBulkAll r
def uptoBulkEntries {H : Type} : List (Lit × DataW H) → Nat
  | [] => 0
  | x :: r => uptoBulkEntry x + uptoBulkEntries r
def uptoBulkEntry {H : Type} : Lit × DataW H → Nat
  | (.string bytes, d) => bytes.length + uptoBulk d + 1
  | (_, d) => uptoBulk d + 1
 end
def uptoSmall : (H : Type) → List (DataW H) → Bool := fun _ ds => decide (uptoBulkAll ds ≤ 1048576)
def OpenSpec.upto (s : _root_.Go.ChangeSpec) : _root_.Go.OpenSpec := { _root_.Go.OpenSpec.ofChange s with cond := some uptoSmall }

/-- 'calliopelaw18.FetchFaults', WHERE WHAT IT READS IS OF BULK AT MOST 1048576: true; the input reads as it did. -/
def fetchFaultsUptoRow : OpenClaim := { program := "ytbpgfkjhclpbdaagreatdoor", sum := "d16eaf358234b4daa578fdc420ad3dbee6239d5be6fbb6ab778efbda666cb620", func := "calliope/calliopelaw18.FetchFaults", spec := "fetchFaults", inPlace := ["internal/bytealg.abigen_runtime_cmpstring", "internal/bytealg.IndexByteString", "internal/bytealg.IndexString"], unfollowed := true, recurses := true, named := ["unicode/utf8.first", "unicode/utf8.acceptRanges", "internal/bytealg.MaxLen"], apart := false, laid := [("unicode/utf8.acceptRanges", laid_unicode_utf8_acceptRanges), ("unicode/utf8.first", laid_unicode_utf8_first)], narrowed := true }
def FetchFaultsUptoSaid : Prop := fetchFaultsUptoRow.holds Tryz.pinned (OpenSpec.upto fetchFaultsSpec)

/-- 'calliopelaw20.CursorRuns', WHERE WHAT IT READS IS OF BULK AT MOST 1048576: true; the input reads as it did. -/
def cursorRunsUptoRow : OpenClaim := { program := "ytbpgfkjhclpbdaagreatdoor", sum := "d16eaf358234b4daa578fdc420ad3dbee6239d5be6fbb6ab778efbda666cb620", func := "calliope/calliopelaw20.CursorRuns", spec := "cursorRuns", inPlace := ["internal/bytealg.abigen_runtime_cmpstring", "internal/bytealg.IndexByteString", "internal/bytealg.IndexString"], unfollowed := true, recurses := true, named := ["unicode/utf8.first", "unicode/utf8.acceptRanges", "internal/bytealg.MaxLen"], apart := false, laid := [("unicode/utf8.acceptRanges", laid_unicode_utf8_acceptRanges), ("unicode/utf8.first", laid_unicode_utf8_first)], narrowed := true }
def CursorRunsUptoSaid : Prop := cursorRunsUptoRow.holds Tryz.pinned (OpenSpec.upto cursorRunsSpec)

/-- 'calliopelaw20.CursorLost', WHERE WHAT IT READS IS OF BULK AT MOST 1048576: true; the input reads as it did. -/
def cursorLostUptoRow : OpenClaim := { program := "ytbpgfkjhclpbdaagreatdoor", sum := "d16eaf358234b4daa578fdc420ad3dbee6239d5be6fbb6ab778efbda666cb620", func := "calliope/calliopelaw20.CursorLost", spec := "cursorLost", inPlace := ["internal/bytealg.abigen_runtime_cmpstring", "internal/bytealg.IndexByteString", "internal/bytealg.IndexString"], unfollowed := true, recurses := true, named := ["unicode/utf8.first", "unicode/utf8.acceptRanges", "internal/bytealg.MaxLen"], apart := false, laid := [("unicode/utf8.acceptRanges", laid_unicode_utf8_acceptRanges), ("unicode/utf8.first", laid_unicode_utf8_first)], narrowed := true }
def CursorLostUptoSaid : Prop := cursorLostUptoRow.holds Tryz.pinned (OpenSpec.upto cursorLostSpec)

/-- 'calliopelaw20.CursorClean', WHERE WHAT IT READS IS OF BULK AT MOST 1048576: true; the input reads as it did. -/
def cursorCleanUptoRow : OpenClaim := { program := "ytbpgfkjhclpbdaagreatdoor", sum := "d16eaf358234b4daa578fdc420ad3dbee6239d5be6fbb6ab778efbda666cb620", func := "calliope/calliopelaw20.CursorClean", spec := "cursorClean", inPlace := ["internal/bytealg.abigen_runtime_cmpstring", "internal/bytealg.IndexByteString", "internal/bytealg.IndexString"], unfollowed := true, recurses := true, named := ["unicode/utf8.first", "unicode/utf8.acceptRanges", "internal/bytealg.MaxLen"], apart := false, laid := [("unicode/utf8.acceptRanges", laid_unicode_utf8_acceptRanges), ("unicode/utf8.first", laid_unicode_utf8_first)], narrowed := true }
def CursorCleanUptoSaid : Prop := cursorCleanUptoRow.holds Tryz.pinned (OpenSpec.upto cursorCleanSpec)

/-- 'calliopelaw21.VoicePlays', WHERE WHAT IT READS IS OF BULK AT MOST 1048576: true; the input reads as it did. -/
def voicePlaysUptoRow : OpenClaim := { program := "ytbpgfkjhclpbdaagreatdoor", sum := "d16eaf358234b4daa578fdc420ad3dbee6239d5be6fbb6ab778efbda666cb620", func := "calliope/calliopelaw21.VoicePlays", spec := "voicePlays", inPlace := ["internal/bytealg.abigen_runtime_cmpstring", "internal/bytealg.IndexByteString", "internal/bytealg.IndexString"], unfollowed := true, recurses := true, named := ["unicode/utf8.first", "unicode/utf8.acceptRanges", "internal/bytealg.MaxLen"], apart := false, laid := [("unicode/utf8.acceptRanges", laid_unicode_utf8_acceptRanges), ("unicode/utf8.first", laid_unicode_utf8_first)], narrowed := true }
def VoicePlaysUptoSaid : Prop := voicePlaysUptoRow.holds Tryz.pinned (OpenSpec.upto voicePlaysSpec)

/-- 'calliopelaw21.VoiceGoes', WHERE WHAT IT READS IS OF BULK AT MOST 1048576: true; the input reads as it did. -/
def voiceGoesUptoRow : OpenClaim := { program := "ytbpgfkjhclpbdaagreatdoor", sum := "d16eaf358234b4daa578fdc420ad3dbee6239d5be6fbb6ab778efbda666cb620", func := "calliope/calliopelaw21.VoiceGoes", spec := "voiceGoes", inPlace := ["internal/bytealg.abigen_runtime_cmpstring", "internal/bytealg.IndexByteString", "internal/bytealg.IndexString"], unfollowed := true, recurses := true, named := ["unicode/utf8.first", "unicode/utf8.acceptRanges", "internal/bytealg.MaxLen"], apart := false, laid := [("unicode/utf8.acceptRanges", laid_unicode_utf8_acceptRanges), ("unicode/utf8.first", laid_unicode_utf8_first)], narrowed := true }
def VoiceGoesUptoSaid : Prop := voiceGoesUptoRow.holds Tryz.pinned (OpenSpec.upto voiceGoesSpec)

end Rows
end Go.Proofs.YtbpgfkjhclpbdaaGreatDoor
