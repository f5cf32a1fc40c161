/-
  No cell of these rows narrows 'for every input' (looked for: loops, veiled, ifaces, maps, wideKeys, modest, calm, conditions, laid).
  DERIVED. THE GIVEN ROWS OF THIS SEAT. 12 by the template 'for every input the law returns true; each argument reads behind the call as it read before'; 0 by the template 'total and deterministic' (their statements: YthlidkdclhibpaaTotals.lean).
  GIVEN WITH THE SEED: the statements are not yours to turn. If you find one false, say at which input.
  Laid BY PROGRAM, IN A SANDBOX (cutbox-rows.mjs): the forced cells as the released guide's own fill.sh prints them over the translation b12db57566cd7db9… (all of the seat's roots in one cut). By AI agents, Wed Nov 11 2026. No macro, syntax, notation, axiom, sorry.
-/
import Derived.Test.YthlidkdclhibpaaChecked
import GoSem.Claim
import GoSem.ClaimJoined
import GoSem.ClaimMapViews
import Derived.JoinedTies
import Derived.KernelRfl
namespace Go.Proofs.Ythlidkdclhibpaa
/- THE CELL 'sum', in the pinned program and in every row, IS THE sha256 OF THE DUMP (.gsa) THAT YthlidkdclhibpaaProg.lean LOADS. Nothing in Lean hashes anything: it is a label: what it is worth is what the hold of that sum in a sandbox is worth. -/
noncomputable def Try.pinned : Pinned := { name := "ythlidkdclhibpaa", sum := "b12db57566cd7db9a94aa8dd7a90dbbd647ca407630384637d788d7ec16af298", checked := Try.checked }
namespace Rows
def none {H : Type} : Left H := { results := [], args := [] }

/-- 'calliopelaw14.WaveMetas': WHATEVER THE INPUT: true; the input reads as it did. -/
def waveMetasSpec : ChangeSpec := { name := "waveMetas", fn := fun _ => fun
  | [d] => { results := [.lit (.bool true)], args := [d] }
  | _ => none }
def waveMetasRow : OpenClaim := { program := "ythlidkdclhibpaa", sum := "b12db57566cd7db9a94aa8dd7a90dbbd647ca407630384637d788d7ec16af298", func := "calliope/calliopelaw14.WaveMetas", spec := "waveMetas", apart := false }
def WaveMetasSaid : Prop := waveMetasRow.holds Try.pinned (OpenSpec.ofChange waveMetasSpec)

/-- ITS FALSE NEIGHBOUR: 'it returns false'. Refute it at one input. -/
def waveMetasWrong : ChangeSpec := { name := "waveMetas", fn := fun _ => fun
  | [d] => { results := [.lit (.bool false)], args := [d] }
  | _ => none }
def WaveMetasWrongFalsely : Prop := waveMetasRow.holds Try.pinned (OpenSpec.ofChange waveMetasWrong)

/-- 'calliopelaw21.VoiceBlends': WHATEVER THE INPUT: true; the input reads as it did. -/
def voiceBlendsSpec : ChangeSpec := { name := "voiceBlends", fn := fun _ => fun
  | [d1, d2, d3] => { results := [.lit (.bool true)], args := [d1, d2, d3] }
  | _ => none }
def voiceBlendsRow : OpenClaim := { program := "ythlidkdclhibpaa", sum := "b12db57566cd7db9a94aa8dd7a90dbbd647ca407630384637d788d7ec16af298", func := "calliope/calliopelaw21.VoiceBlends", spec := "voiceBlends", apart := false }
def VoiceBlendsSaid : Prop := voiceBlendsRow.holds Try.pinned (OpenSpec.ofChange voiceBlendsSpec)

/-- ITS FALSE NEIGHBOUR: 'it returns false'. Refute it at one input. -/
def voiceBlendsWrong : ChangeSpec := { name := "voiceBlends", fn := fun _ => fun
  | [d1, d2, d3] => { results := [.lit (.bool false)], args := [d1, d2, d3] }
  | _ => none }
def VoiceBlendsWrongFalsely : Prop := voiceBlendsRow.holds Try.pinned (OpenSpec.ofChange voiceBlendsWrong)

/-- 'calliopelaw14.WaveChecks': WHATEVER THE INPUT: true; the input reads as it did. -/
def waveChecksSpec : ChangeSpec := { name := "waveChecks", fn := fun _ => fun
  | [d] => { results := [.lit (.bool true)], args := [d] }
  | _ => none }
def waveChecksRow : OpenClaim := { program := "ythlidkdclhibpaa", sum := "b12db57566cd7db9a94aa8dd7a90dbbd647ca407630384637d788d7ec16af298", func := "calliope/calliopelaw14.WaveChecks", spec := "waveChecks", apart := false }
def WaveChecksSaid : Prop := waveChecksRow.holds Try.pinned (OpenSpec.ofChange waveChecksSpec)

/-- ITS FALSE NEIGHBOUR: 'it returns false'. Refute it at one input. -/
def waveChecksWrong : ChangeSpec := { name := "waveChecks", fn := fun _ => fun
  | [d] => { results := [.lit (.bool false)], args := [d] }
  | _ => none }
def WaveChecksWrongFalsely : Prop := waveChecksRow.holds Try.pinned (OpenSpec.ofChange waveChecksWrong)

/-- 'calliopelaw21.VoiceHomes': WHATEVER THE INPUT: true; the input reads as it did. -/
def voiceHomesSpec : ChangeSpec := { name := "voiceHomes", fn := fun _ => fun
  | [d1, d2] => { results := [.lit (.bool true)], args := [d1, d2] }
  | _ => none }
def voiceHomesRow : OpenClaim := { program := "ythlidkdclhibpaa", sum := "b12db57566cd7db9a94aa8dd7a90dbbd647ca407630384637d788d7ec16af298", func := "calliope/calliopelaw21.VoiceHomes", spec := "voiceHomes", apart := false }
def VoiceHomesSaid : Prop := voiceHomesRow.holds Try.pinned (OpenSpec.ofChange voiceHomesSpec)

/-- ITS FALSE NEIGHBOUR: 'it returns false'. Refute it at one input. -/
def voiceHomesWrong : ChangeSpec := { name := "voiceHomes", fn := fun _ => fun
  | [d1, d2] => { results := [.lit (.bool false)], args := [d1, d2] }
  | _ => none }
def VoiceHomesWrongFalsely : Prop := voiceHomesRow.holds Try.pinned (OpenSpec.ofChange voiceHomesWrong)

/-- 'calliopelaw38.KitFinds': WHATEVER THE INPUT: true; the input reads as it did. -/
def kitFindsSpec : ChangeSpec := { name := "kitFinds", fn := fun _ => fun
  | [d1, d2, d3, d4, d5] => { results := [.lit (.bool true)], args := [d1, d2, d3, d4, d5] }
  | _ => none }
def kitFindsRow : OpenClaim := { program := "ythlidkdclhibpaa", sum := "b12db57566cd7db9a94aa8dd7a90dbbd647ca407630384637d788d7ec16af298", func := "calliope/calliopelaw38.KitFinds", spec := "kitFinds", unfollowed := true, recurses := true, apart := false }
def KitFindsSaid : Prop := kitFindsRow.holds Try.pinned (OpenSpec.ofChange kitFindsSpec)

/-- ITS FALSE NEIGHBOUR: 'it returns false'. Refute it at one input. -/
def kitFindsWrong : ChangeSpec := { name := "kitFinds", fn := fun _ => fun
  | [d1, d2, d3, d4, d5] => { results := [.lit (.bool false)], args := [d1, d2, d3, d4, d5] }
  | _ => none }
def KitFindsWrongFalsely : Prop := kitFindsRow.holds Try.pinned (OpenSpec.ofChange kitFindsWrong)

/-- 'calliopelaw38.KitNotes': WHATEVER THE INPUT: true; the input reads as it did. -/
def kitNotesSpec : ChangeSpec := { name := "kitNotes", fn := fun _ => fun
  | [d1, d2] => { results := [.lit (.bool true)], args := [d1, d2] }
  | _ => none }
def kitNotesRow : OpenClaim := { program := "ythlidkdclhibpaa", sum := "b12db57566cd7db9a94aa8dd7a90dbbd647ca407630384637d788d7ec16af298", func := "calliope/calliopelaw38.KitNotes", spec := "kitNotes", unfollowed := true, recurses := true, apart := false }
def KitNotesSaid : Prop := kitNotesRow.holds Try.pinned (OpenSpec.ofChange kitNotesSpec)

/-- ITS FALSE NEIGHBOUR: 'it returns false'. Refute it at one input. -/
def kitNotesWrong : ChangeSpec := { name := "kitNotes", fn := fun _ => fun
  | [d1, d2] => { results := [.lit (.bool false)], args := [d1, d2] }
  | _ => none }
def KitNotesWrongFalsely : Prop := kitNotesRow.holds Try.pinned (OpenSpec.ofChange kitNotesWrong)

/-- 'calliopelaw38.KitNews': WHATEVER THE INPUT: true; the input reads as it did. -/
def kitNewsSpec : ChangeSpec := { name := "kitNews", fn := fun _ => fun
  | [d] => { results := [.lit (.bool true)], args := [d] }
  | _ => none }
def kitNewsRow : OpenClaim := { program := "ythlidkdclhibpaa", sum := "b12db57566cd7db9a94aa8dd7a90dbbd647ca407630384637d788d7ec16af298", func := "calliope/calliopelaw38.KitNews", spec := "kitNews", unfollowed := true, recurses := true, apart := false }
def KitNewsSaid : Prop := kitNewsRow.holds Try.pinned (OpenSpec.ofChange kitNewsSpec)

/-- ITS FALSE NEIGHBOUR: 'it returns false'. Refute it at one input. -/
def kitNewsWrong : ChangeSpec := { name := "kitNews", fn := fun _ => fun
  | [d] => { results := [.lit (.bool false)], args := [d] }
  | _ => none }
def KitNewsWrongFalsely : Prop := kitNewsRow.holds Try.pinned (OpenSpec.ofChange kitNewsWrong)

/-- 'calliopelaw11.ToneIs': WHATEVER THE INPUT: true; the input reads as it did. -/
def toneIsSpec : ChangeSpec := { name := "toneIs", fn := fun _ => fun
  | [d1, d2] => { results := [.lit (.bool true)], args := [d1, d2] }
  | _ => none }
def toneIsRow : OpenClaim := { program := "ythlidkdclhibpaa", sum := "b12db57566cd7db9a94aa8dd7a90dbbd647ca407630384637d788d7ec16af298", func := "calliope/calliopelaw11.ToneIs", spec := "toneIs", unfollowed := true, recurses := true, apart := false }
def ToneIsSaid : Prop := toneIsRow.holds Try.pinned (OpenSpec.ofChange toneIsSpec)

/-- ITS FALSE NEIGHBOUR: 'it returns false'. Refute it at one input. -/
def toneIsWrong : ChangeSpec := { name := "toneIs", fn := fun _ => fun
  | [d1, d2] => { results := [.lit (.bool false)], args := [d1, d2] }
  | _ => none }
def ToneIsWrongFalsely : Prop := toneIsRow.holds Try.pinned (OpenSpec.ofChange toneIsWrong)

/-- 'calliopelaw11.ToneFinds': WHATEVER THE INPUT: true; the input reads as it did. -/
def toneFindsSpec : ChangeSpec := { name := "toneFinds", fn := fun _ => fun
  | [d] => { results := [.lit (.bool true)], args := [d] }
  | _ => none }
def toneFindsRow : OpenClaim := { program := "ythlidkdclhibpaa", sum := "b12db57566cd7db9a94aa8dd7a90dbbd647ca407630384637d788d7ec16af298", func := "calliope/calliopelaw11.ToneFinds", spec := "toneFinds", unfollowed := true, recurses := true, apart := false }
def ToneFindsSaid : Prop := toneFindsRow.holds Try.pinned (OpenSpec.ofChange toneFindsSpec)

/-- ITS FALSE NEIGHBOUR: 'it returns false'. Refute it at one input. -/
def toneFindsWrong : ChangeSpec := { name := "toneFinds", fn := fun _ => fun
  | [d] => { results := [.lit (.bool false)], args := [d] }
  | _ => none }
def ToneFindsWrongFalsely : Prop := toneFindsRow.holds Try.pinned (OpenSpec.ofChange toneFindsWrong)

/-- 'calliopelaw11.ToneGone': WHATEVER THE INPUT: true; the input reads as it did. -/
def toneGoneSpec : ChangeSpec := { name := "toneGone", fn := fun _ => fun
  | [d] => { results := [.lit (.bool true)], args := [d] }
  | _ => none }
def toneGoneRow : OpenClaim := { program := "ythlidkdclhibpaa", sum := "b12db57566cd7db9a94aa8dd7a90dbbd647ca407630384637d788d7ec16af298", func := "calliope/calliopelaw11.ToneGone", spec := "toneGone", unfollowed := true, recurses := true, apart := false }
def ToneGoneSaid : Prop := toneGoneRow.holds Try.pinned (OpenSpec.ofChange toneGoneSpec)

/-- ITS FALSE NEIGHBOUR: 'it returns false'. Refute it at one input. -/
def toneGoneWrong : ChangeSpec := { name := "toneGone", fn := fun _ => fun
  | [d] => { results := [.lit (.bool false)], args := [d] }
  | _ => none }
def ToneGoneWrongFalsely : Prop := toneGoneRow.holds Try.pinned (OpenSpec.ofChange toneGoneWrong)

/-- 'calliopelaw14.WaveAll': WHATEVER THE INPUT: true; the input reads as it did. -/
def waveAllSpec : ChangeSpec := { name := "waveAll", fn := fun _ => fun
  | [d] => { results := [.lit (.bool true)], args := [d] }
  | _ => none }
def waveAllRow : OpenClaim := { program := "ythlidkdclhibpaa", sum := "b12db57566cd7db9a94aa8dd7a90dbbd647ca407630384637d788d7ec16af298", func := "calliope/calliopelaw14.WaveAll", spec := "waveAll", inPlace := ["internal/bytealg.abigen_runtime_cmpstring"], unfollowed := true, recurses := true, apart := false }
def WaveAllSaid : Prop := waveAllRow.holds Try.pinned (OpenSpec.ofChange waveAllSpec)

/-- ITS FALSE NEIGHBOUR: 'it returns false'. Refute it at one input. -/
def waveAllWrong : ChangeSpec := { name := "waveAll", fn := fun _ => fun
  | [d] => { results := [.lit (.bool false)], args := [d] }
  | _ => none }
def WaveAllWrongFalsely : Prop := waveAllRow.holds Try.pinned (OpenSpec.ofChange waveAllWrong)

/-- 'calliopelaw43.QuotaBest': WHATEVER THE INPUT: true; the input reads as it did. -/
def quotaBestSpec : ChangeSpec := { name := "quotaBest", fn := fun _ => fun
  | [d1, d2] => { results := [.lit (.bool true)], args := [d1, d2] }
  | _ => none }
def quotaBestRow : OpenClaim := { program := "ythlidkdclhibpaa", sum := "b12db57566cd7db9a94aa8dd7a90dbbd647ca407630384637d788d7ec16af298", func := "calliope/calliopelaw43.QuotaBest", spec := "quotaBest", inPlace := ["internal/bytealg.abigen_runtime_cmpstring"], unfollowed := true, recurses := true, apart := false }
def QuotaBestSaid : Prop := quotaBestRow.holds Try.pinned (OpenSpec.ofChange quotaBestSpec)

/-- ITS FALSE NEIGHBOUR: 'it returns false'. Refute it at one input. -/
def quotaBestWrong : ChangeSpec := { name := "quotaBest", fn := fun _ => fun
  | [d1, d2] => { results := [.lit (.bool false)], args := [d1, d2] }
  | _ => none }
def QuotaBestWrongFalsely : Prop := quotaBestRow.holds Try.pinned (OpenSpec.ofChange quotaBestWrong)

/- THE SECOND FORM. 'bulk': how many values and letters a reading holds, each counted each time it is reached (what is shared counts as often as it is met; a slice's spare places count too). A statement '..UptoSaid' is the law's where the arguments, and the package variables that the reading takes, are together of bulk at most 1048576: NARROWER than '..Said'. Prove '..Said' where nothing that the law and all that it calls make is longer than what came in: it says more and counts as full. Else prove '..UptoSaid'. A law counts once. -/
mutual
def uptoBulk {H : Type} : DataW H → Nat
  | .lit (.string bytes) => bytes.length + 1
  | .lit _ => 1
  | .nil => 1
  | .ptr d => uptoBulk d + 1
  | .slice elems spare => uptoBulkAll elems + uptoBulkAll spare + 1
  | .agg parts => uptoBulkAll parts + 1
  | .iface _ d => uptoBulk d + 1
  | .map entries => uptoBulkEntries entries + 1
  | .held _ => 1
def uptoBulkAll {H : Type} : List (DataW H) → Nat
  | [] => 0
  | d :: r => uptoBulk d + uptoBulkAll r
def uptoBulkEntries {H : Type} : List (Lit × DataW H) → Nat
  | [] => 0
  | x :: r => uptoBulkEntry x + uptoBulkEntries r
def uptoBulkEntry {H : Type} : Lit × DataW H → Nat
  | (.string bytes, d) => bytes.length + uptoBulk d + 1
  | (_, d) => uptoBulk d + 1
 end
def uptoSmall : (H : Type) → List (DataW H) → Bool := fun _ ds => decide (uptoBulkAll ds ≤ 1048576)
def OpenSpec.upto (s : _root_.Go.ChangeSpec) : _root_.Go.OpenSpec := { _root_.Go.OpenSpec.ofChange s with cond := some uptoSmall }

/-- 'calliopelaw14.WaveMetas', WHERE WHAT IT READS IS OF BULK AT MOST 1048576: true; the input reads as it did. -/
def waveMetasUptoRow : OpenClaim := { program := "ythlidkdclhibpaa", sum := "b12db57566cd7db9a94aa8dd7a90dbbd647ca407630384637d788d7ec16af298", func := "calliope/calliopelaw14.WaveMetas", spec := "waveMetas", apart := false, narrowed := true }
def WaveMetasUptoSaid : Prop := waveMetasUptoRow.holds Try.pinned (OpenSpec.upto waveMetasSpec)

/-- 'calliopelaw21.VoiceBlends', WHERE WHAT IT READS IS OF BULK AT MOST 1048576: true; the input reads as it did. -/
def voiceBlendsUptoRow : OpenClaim := { program := "ythlidkdclhibpaa", sum := "b12db57566cd7db9a94aa8dd7a90dbbd647ca407630384637d788d7ec16af298", func := "calliope/calliopelaw21.VoiceBlends", spec := "voiceBlends", apart := false, narrowed := true }
def VoiceBlendsUptoSaid : Prop := voiceBlendsUptoRow.holds Try.pinned (OpenSpec.upto voiceBlendsSpec)

/-- 'calliopelaw14.WaveChecks', WHERE WHAT IT READS IS OF BULK AT MOST 1048576: true; the input reads as it did. -/
def waveChecksUptoRow : OpenClaim := { program := "ythlidkdclhibpaa", sum := "b12db57566cd7db9a94aa8dd7a90dbbd647ca407630384637d788d7ec16af298", func := "calliope/calliopelaw14.WaveChecks", spec := "waveChecks", apart := false, narrowed := true }
def WaveChecksUptoSaid : Prop := waveChecksUptoRow.holds Try.pinned (OpenSpec.upto waveChecksSpec)

/-- 'calliopelaw21.VoiceHomes', WHERE WHAT IT READS IS OF BULK AT MOST 1048576: true; the input reads as it did. -/
def voiceHomesUptoRow : OpenClaim := { program := "ythlidkdclhibpaa", sum := "b12db57566cd7db9a94aa8dd7a90dbbd647ca407630384637d788d7ec16af298", func := "calliope/calliopelaw21.VoiceHomes", spec := "voiceHomes", apart := false, narrowed := true }
def VoiceHomesUptoSaid : Prop := voiceHomesUptoRow.holds Try.pinned (OpenSpec.upto voiceHomesSpec)

/-- 'calliopelaw38.KitFinds', WHERE WHAT IT READS IS OF BULK AT MOST 1048576: true; the input reads as it did. -/
def kitFindsUptoRow : OpenClaim := { program := "ythlidkdclhibpaa", sum := "b12db57566cd7db9a94aa8dd7a90dbbd647ca407630384637d788d7ec16af298", func := "calliope/calliopelaw38.KitFinds", spec := "kitFinds", unfollowed := true, recurses := true, apart := false, narrowed := true }
def KitFindsUptoSaid : Prop := kitFindsUptoRow.holds Try.pinned (OpenSpec.upto kitFindsSpec)

/-- 'calliopelaw38.KitNotes', WHERE WHAT IT READS IS OF BULK AT MOST 1048576: true; the input reads as it did. -/
def kitNotesUptoRow : OpenClaim := { program := "ythlidkdclhibpaa", sum := "b12db57566cd7db9a94aa8dd7a90dbbd647ca407630384637d788d7ec16af298", func := "calliope/calliopelaw38.KitNotes", spec := "kitNotes", unfollowed := true, recurses := true, apart := false, narrowed := true }
def KitNotesUptoSaid : Prop := kitNotesUptoRow.holds Try.pinned (OpenSpec.upto kitNotesSpec)

/-- 'calliopelaw38.KitNews', WHERE WHAT IT READS IS OF BULK AT MOST 1048576: true; the input reads as it did. -/
def kitNewsUptoRow : OpenClaim := { program := "ythlidkdclhibpaa", sum := "b12db57566cd7db9a94aa8dd7a90dbbd647ca407630384637d788d7ec16af298", func := "calliope/calliopelaw38.KitNews", spec := "kitNews", unfollowed := true, recurses := true, apart := false, narrowed := true }
def KitNewsUptoSaid : Prop := kitNewsUptoRow.holds Try.pinned (OpenSpec.upto kitNewsSpec)

/-- 'calliopelaw11.ToneIs', WHERE WHAT IT READS IS OF BULK AT MOST 1048576: true; the input reads as it did. -/
def toneIsUptoRow : OpenClaim := { program := "ythlidkdclhibpaa", sum := "b12db57566cd7db9a94aa8dd7a90dbbd647ca407630384637d788d7ec16af298", func := "calliope/calliopelaw11.ToneIs", spec := "toneIs", unfollowed := true, recurses := true, apart := false, narrowed := true }
def ToneIsUptoSaid : Prop := toneIsUptoRow.holds Try.pinned (OpenSpec.upto toneIsSpec)

/-- 'calliopelaw11.ToneFinds', WHERE WHAT IT READS IS OF BULK AT MOST 1048576: true; the input reads as it did. -/
def toneFindsUptoRow : OpenClaim := { program := "ythlidkdclhibpaa", sum := "b12db57566cd7db9a94aa8dd7a90dbbd647ca407630384637d788d7ec16af298", func := "calliope/calliopelaw11.ToneFinds", spec := "toneFinds", unfollowed := true, recurses := true, apart := false, narrowed := true }
def ToneFindsUptoSaid : Prop := toneFindsUptoRow.holds Try.pinned (OpenSpec.upto toneFindsSpec)

/-- 'calliopelaw11.ToneGone', WHERE WHAT IT READS IS OF BULK AT MOST 1048576: true; the input reads as it did. -/
def toneGoneUptoRow : OpenClaim := { program := "ythlidkdclhibpaa", sum := "b12db57566cd7db9a94aa8dd7a90dbbd647ca407630384637d788d7ec16af298", func := "calliope/calliopelaw11.ToneGone", spec := "toneGone", unfollowed := true, recurses := true, apart := false, narrowed := true }
def ToneGoneUptoSaid : Prop := toneGoneUptoRow.holds Try.pinned (OpenSpec.upto toneGoneSpec)

/-- 'calliopelaw14.WaveAll', WHERE WHAT IT READS IS OF BULK AT MOST 1048576: true; the input reads as it did. -/
def waveAllUptoRow : OpenClaim := { program := "ythlidkdclhibpaa", sum := "b12db57566cd7db9a94aa8dd7a90dbbd647ca407630384637d788d7ec16af298", func := "calliope/calliopelaw14.WaveAll", spec := "waveAll", inPlace := ["internal/bytealg.abigen_runtime_cmpstring"], unfollowed := true, recurses := true, apart := false, narrowed := true }
def WaveAllUptoSaid : Prop := waveAllUptoRow.holds Try.pinned (OpenSpec.upto waveAllSpec)

/-- 'calliopelaw43.QuotaBest', WHERE WHAT IT READS IS OF BULK AT MOST 1048576: true; the input reads as it did. -/
def quotaBestUptoRow : OpenClaim := { program := "ythlidkdclhibpaa", sum := "b12db57566cd7db9a94aa8dd7a90dbbd647ca407630384637d788d7ec16af298", func := "calliope/calliopelaw43.QuotaBest", spec := "quotaBest", inPlace := ["internal/bytealg.abigen_runtime_cmpstring"], unfollowed := true, recurses := true, apart := false, narrowed := true }
def QuotaBestUptoSaid : Prop := quotaBestUptoRow.holds Try.pinned (OpenSpec.upto quotaBestSpec)

end Rows
end Go.Proofs.Ythlidkdclhibpaa
