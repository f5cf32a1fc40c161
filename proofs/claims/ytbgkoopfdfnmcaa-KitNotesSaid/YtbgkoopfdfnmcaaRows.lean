/-
  No cell of these rows narrows 'for every input' (looked for: loops, veiled, ifaces, maps, wideKeys, modest, calm, conditions, laid).
  DERIVED. THE GIVEN ROWS OF THIS SEAT. 3 by the template 'for every input the law returns true; each argument reads behind the call as it read before'; 0 by the template 'total and deterministic' (their statements: YtbgkoopfdfnmcaaTotals.lean).
  GIVEN WITH THE SEED: the statements are not yours to turn. If you find one false, say at which input.
  Laid BY PROGRAM, IN A SANDBOX (cutbox-rows.mjs): the forced cells as the released guide's own fill.sh prints them over the translation 1e8f27a919ded1e8… (all of the seat's roots in one cut). By AI agents, Wed Nov 11 2026. No macro, syntax, notation, axiom, sorry.
-/
import Derived.Test.YtbgkoopfdfnmcaaChecked
import GoSem.Claim
import GoSem.ClaimJoined
import GoSem.ClaimMapViews
import Derived.JoinedTies
import Derived.KernelRfl
namespace Go.Proofs.Ytbgkoopfdfnmcaa
/- THE CELL 'sum', in the pinned program and in every row, IS THE sha256 OF THE DUMP (.gsa) THAT YtbgkoopfdfnmcaaProg.lean LOADS. Nothing in Lean hashes anything: it is a label: what it is worth is what the hold of that sum in a sandbox is worth. -/
noncomputable def Try.pinned : Pinned := { name := "ytbgkoopfdfnmcaa", sum := "1e8f27a919ded1e8bcac6ca00e4cf26481fd3a6a71ab0e2c9d403f5b6b33473a", checked := Try.checked }
namespace Rows
def none {H : Type} : Left H := { results := [], args := [] }

/-- 'calliopelaw38.KitNotes': WHATEVER THE INPUT: true; the input reads as it did. -/
def kitNotesSpec : ChangeSpec := { name := "kitNotes", fn := fun _ => fun
  | [d1, d2] => { results := [.lit (.bool true)], args := [d1, d2] }
  | _ => none }
def kitNotesRow : OpenClaim := { program := "ytbgkoopfdfnmcaa", sum := "1e8f27a919ded1e8bcac6ca00e4cf26481fd3a6a71ab0e2c9d403f5b6b33473a", func := "calliope/calliopelaw38.KitNotes", spec := "kitNotes", unfollowed := true, recurses := true, apart := false }
def KitNotesSaid : Prop := kitNotesRow.holds Try.pinned (OpenSpec.ofChange kitNotesSpec)

/-- ITS FALSE NEIGHBOUR: 'it returns false'. Refute it at one input. -/
def kitNotesWrong : ChangeSpec := { name := "kitNotes", fn := fun _ => fun
  | [d1, d2] => { results := [.lit (.bool false)], args := [d1, d2] }
  | _ => none }
def KitNotesWrongFalsely : Prop := kitNotesRow.holds Try.pinned (OpenSpec.ofChange kitNotesWrong)

/-- 'calliopelaw14.WaveAll': WHATEVER THE INPUT: true; the input reads as it did. -/
def waveAllSpec : ChangeSpec := { name := "waveAll", fn := fun _ => fun
  | [d] => { results := [.lit (.bool true)], args := [d] }
  | _ => none }
def waveAllRow : OpenClaim := { program := "ytbgkoopfdfnmcaa", sum := "1e8f27a919ded1e8bcac6ca00e4cf26481fd3a6a71ab0e2c9d403f5b6b33473a", func := "calliope/calliopelaw14.WaveAll", spec := "waveAll", inPlace := ["internal/bytealg.abigen_runtime_cmpstring"], unfollowed := true, recurses := true, apart := false }
def WaveAllSaid : Prop := waveAllRow.holds Try.pinned (OpenSpec.ofChange waveAllSpec)

/-- ITS FALSE NEIGHBOUR: 'it returns false'. Refute it at one input. -/
def waveAllWrong : ChangeSpec := { name := "waveAll", fn := fun _ => fun
  | [d] => { results := [.lit (.bool false)], args := [d] }
  | _ => none }
def WaveAllWrongFalsely : Prop := waveAllRow.holds Try.pinned (OpenSpec.ofChange waveAllWrong)

/-- 'calliopelaw43.QuotaParts': WHATEVER THE INPUT: true; the input reads as it did. -/
def quotaPartsSpec : ChangeSpec := { name := "quotaParts", fn := fun _ => fun
  | [d1, d2, d3] => { results := [.lit (.bool true)], args := [d1, d2, d3] }
  | _ => none }
def quotaPartsRow : OpenClaim := { program := "ytbgkoopfdfnmcaa", sum := "1e8f27a919ded1e8bcac6ca00e4cf26481fd3a6a71ab0e2c9d403f5b6b33473a", func := "calliope/calliopelaw43.QuotaParts", spec := "quotaParts", inPlace := ["internal/bytealg.abigen_runtime_cmpstring"], unfollowed := true, recurses := true, apart := false }
def QuotaPartsSaid : Prop := quotaPartsRow.holds Try.pinned (OpenSpec.ofChange quotaPartsSpec)

/-- ITS FALSE NEIGHBOUR: 'it returns false'. Refute it at one input. -/
def quotaPartsWrong : ChangeSpec := { name := "quotaParts", fn := fun _ => fun
  | [d1, d2, d3] => { results := [.lit (.bool false)], args := [d1, d2, d3] }
  | _ => none }
def QuotaPartsWrongFalsely : Prop := quotaPartsRow.holds Try.pinned (OpenSpec.ofChange quotaPartsWrong)

/- THE SECOND FORM. 'bulk': how many values and letters a reading holds, each counted each time it is reached (what is shared counts as often as it is met; a slice's spare places count too). A statement '..UptoSaid' is the law's where the arguments, and the package variables that the reading takes, are together of bulk at most 1048576: NARROWER than '..Said'. Prove '..Said' where nothing that the law and all that it calls make is longer than what came in: it says more and counts as full. Else prove '..UptoSaid'. A law counts once. -/
mutual
def uptoBulk {H : Type} : DataW H → Nat
  | .lit (.string bytes) => bytes.length + 1
  | .lit _ => 1
  | .nil => 1
  | .ptr d => uptoBulk d + 1
  | .slice elems spare => uptoBulkAll elems + uptoBulkAll spare + 1
  | .agg parts => uptoBulkAll parts + 1
  | .iface _ d => uptoBulk d + 1
  | .map entries => uptoBulkEntries entries + 1
  | .held _ => 1
def uptoBulkAll {H : Type} : List (DataW H) → Nat
  | [] => 0
  | d :: r => uptoBulk d + uptoBulkAll r
def uptoBulkEntries {H : Type} : List (Lit × DataW H) → Nat
  | [] => 0
  | x :: r => uptoBulkEntry x + uptoBulkEntries r
def uptoBulkEntry {H : Type} : Lit × DataW H → Nat
  | (.string bytes, d) => bytes.length + uptoBulk d + 1
  | (_, d) => uptoBulk d + 1
 end
def uptoSmall : (H : Type) → List (DataW H) → Bool := fun _ ds => decide (uptoBulkAll ds ≤ 1048576)
def OpenSpec.upto (s : _root_.Go.ChangeSpec) : _root_.Go.OpenSpec := { _root_.Go.OpenSpec.ofChange s with cond := some uptoSmall }

/-- 'calliopelaw38.KitNotes', WHERE WHAT IT READS IS OF BULK AT MOST 1048576: true; the input reads as it did. -/
def kitNotesUptoRow : OpenClaim := { program := "ytbgkoopfdfnmcaa", sum := "1e8f27a919ded1e8bcac6ca00e4cf26481fd3a6a71ab0e2c9d403f5b6b33473a", func := "calliope/calliopelaw38.KitNotes", spec := "kitNotes", unfollowed := true, recurses := true, apart := false, narrowed := true }
def KitNotesUptoSaid : Prop := kitNotesUptoRow.holds Try.pinned (OpenSpec.upto kitNotesSpec)

/-- 'calliopelaw14.WaveAll', WHERE WHAT IT READS IS OF BULK AT MOST 1048576: true; the input reads as it did. -/
def waveAllUptoRow : OpenClaim := { program := "ytbgkoopfdfnmcaa", sum := "1e8f27a919ded1e8bcac6ca00e4cf26481fd3a6a71ab0e2c9d403f5b6b33473a", func := "calliope/calliopelaw14.WaveAll", spec := "waveAll", inPlace := ["internal/bytealg.abigen_runtime_cmpstring"], unfollowed := true, recurses := true, apart := false, narrowed := true }
def WaveAllUptoSaid : Prop := waveAllUptoRow.holds Try.pinned (OpenSpec.upto waveAllSpec)

/-- 'calliopelaw43.QuotaParts', WHERE WHAT IT READS IS OF BULK AT MOST 1048576: true; the input reads as it did. -/
def quotaPartsUptoRow : OpenClaim := { program := "ytbgkoopfdfnmcaa", sum := "1e8f27a919ded1e8bcac6ca00e4cf26481fd3a6a71ab0e2c9d403f5b6b33473a", func := "calliope/calliopelaw43.QuotaParts", spec := "quotaParts", inPlace := ["internal/bytealg.abigen_runtime_cmpstring"], unfollowed := true, recurses := true, apart := false, narrowed := true }
def QuotaPartsUptoSaid : Prop := quotaPartsUptoRow.holds Try.pinned (OpenSpec.upto quotaPartsSpec)

end Rows
end Go.Proofs.Ytbgkoopfdfnmcaa
