/-
  No cell of these rows narrows 'for every input' (looked for: loops, veiled, ifaces, maps, wideKeys, modest, calm, conditions, laid).
  DERIVED. THE GIVEN ROWS OF THIS SEAT. 2 by the template 'for every input the law returns true; each argument reads behind the call as it read before'; 0 by the template 'total and deterministic' (their statements: YtbgkoopfdfnmcaaGreatTotals.lean).
  GIVEN WITH THE SEED: the statements are not yours to turn. If you find one false, say at which input.
  Laid BY PROGRAM, IN A SANDBOX (cutbox-rows.mjs): the forced cells as the released guide's own fill.sh prints them over the translation 577ef7ee934d2cb4… (all of the seat's roots in one cut). By AI agents, Wed Nov 11 2026. No macro, syntax, notation, axiom, sorry.
-/
import Derived.Test.YtbgkoopfdfnmcaaGreatChecked
import GoSem.Claim
import GoSem.ClaimJoined
import GoSem.ClaimMapViews
import Derived.JoinedTies
import Derived.KernelRfl
namespace Go.Proofs.YtbgkoopfdfnmcaaGreat
/- THE CELL 'sum', in the pinned program and in every row, IS THE sha256 OF THE DUMP (.gsa) THAT YtbgkoopfdfnmcaaGreatProg.lean LOADS. Nothing in Lean hashes anything: it is a label: what it is worth is what the hold of that sum in a sandbox is worth. -/
noncomputable def Tryz.pinned : Pinned := { name := "ytbgkoopfdfnmcaagreat", sum := "577ef7ee934d2cb488cab897da5bfeafe0dd8fb1df140cf243004b15a8c547dd", checked := Tryz.checked }
namespace Rows
def none {H : Type} : Left H := { results := [], args := [] }

/-- 'calliopelaw43.QuotaCosts': WHATEVER THE INPUT: true; the input reads as it did. -/
def quotaCostsSpec : ChangeSpec := { name := "quotaCosts", fn := fun _ => fun
  | [d1, d2] => { results := [.lit (.bool true)], args := [d1, d2] }
  | _ => none }
def quotaCostsRow : OpenClaim := { program := "ytbgkoopfdfnmcaagreat", sum := "577ef7ee934d2cb488cab897da5bfeafe0dd8fb1df140cf243004b15a8c547dd", func := "calliope/calliopelaw43.QuotaCosts", spec := "quotaCosts", inPlace := ["internal/reflectlite.TypeOf", "internal/bytealg.abigen_runtime_cmpstring"], unfollowed := true, recurses := true, apart := false }
def QuotaCostsSaid : Prop := quotaCostsRow.holds Tryz.pinned (OpenSpec.ofChange quotaCostsSpec)

/-- ITS FALSE NEIGHBOUR: 'it returns false'. Refute it at one input. -/
def quotaCostsWrong : ChangeSpec := { name := "quotaCosts", fn := fun _ => fun
  | [d1, d2] => { results := [.lit (.bool false)], args := [d1, d2] }
  | _ => none }
def QuotaCostsWrongFalsely : Prop := quotaCostsRow.holds Tryz.pinned (OpenSpec.ofChange quotaCostsWrong)

/-- 'calliopelaw43.QuotaImages': WHATEVER THE INPUT: true; the input reads as it did. -/
def quotaImagesSpec : ChangeSpec := { name := "quotaImages", fn := fun _ => fun
  | [d1, d2] => { results := [.lit (.bool true)], args := [d1, d2] }
  | _ => none }
def quotaImagesRow : OpenClaim := { program := "ytbgkoopfdfnmcaagreat", sum := "577ef7ee934d2cb488cab897da5bfeafe0dd8fb1df140cf243004b15a8c547dd", func := "calliope/calliopelaw43.QuotaImages", spec := "quotaImages", inPlace := ["internal/bytealg.abigen_runtime_cmpstring"], unfollowed := true, recurses := true, apart := false }
def QuotaImagesSaid : Prop := quotaImagesRow.holds Tryz.pinned (OpenSpec.ofChange quotaImagesSpec)

/-- ITS FALSE NEIGHBOUR: 'it returns false'. Refute it at one input. -/
def quotaImagesWrong : ChangeSpec := { name := "quotaImages", fn := fun _ => fun
  | [d1, d2] => { results := [.lit (.bool false)], args := [d1, d2] }
  | _ => none }
def QuotaImagesWrongFalsely : Prop := quotaImagesRow.holds Tryz.pinned (OpenSpec.ofChange quotaImagesWrong)

/- THE SECOND FORM. 'bulk': how many values and letters a reading holds, each counted each time it is reached (what is shared counts as often as it is met; a slice's spare places count too). A statement '..UptoSaid' is the law's where the arguments, and the package variables that the reading takes, are together of bulk at most 1048576: NARROWER than '..Said'. Prove '..Said' where nothing that the law and all that it calls make is longer than what came in: it says more and counts as full. Else prove '..UptoSaid'. A law counts once. -/
mutual
def uptoBulk {H : Type} : DataW H → Nat
  | .lit (.string bytes) => bytes.length + 1
  | .lit _ => 1
  | .nil => 1
  | .ptr d => uptoBulk d + 1
  | .slice elems spare => uptoBulkAll elems + uptoBulkAll spare + 1
  | .agg parts => uptoBulkAll parts + 1
  | .iface _ d => uptoBulk d + 1
  | .map entries => uptoBulkEntries entries + 1
  | .held _ => 1
def uptoBulkAll {H : Type} : List (DataW H) → Nat
  | [] => 0
  | d :: r => uptoBulk d + uptoBulkAll r
def uptoBulkEntries {H : Type} : List (Lit × DataW H) → Nat
  | [] => 0
  | x :: r => uptoBulkEntry x + uptoBulkEntries r
def uptoBulkEntry {H : Type} : Lit × DataW H → Nat
  | (.string bytes, d) => bytes.length + uptoBulk d + 1
  | (_, d) => uptoBulk d + 1
 end
def uptoSmall : (H : Type) → List (DataW H) → Bool := fun _ ds => decide (uptoBulkAll ds ≤ 1048576)
def OpenSpec.upto (s : _root_.Go.ChangeSpec) : _root_.Go.OpenSpec := { _root_.Go.OpenSpec.ofChange s with cond := some uptoSmall }

/-- 'calliopelaw43.QuotaCosts', WHERE WHAT IT READS IS OF BULK AT MOST 1048576: true; the input reads as it did. -/
def quotaCostsUptoRow : OpenClaim := { program := "ytbgkoopfdfnmcaagreat", sum := "577ef7ee934d2cb488cab897da5bfeafe0dd8fb1df140cf243004b15a8c547dd", func := "calliope/calliopelaw43.QuotaCosts", spec := "quotaCosts", inPlace := ["internal/reflectlite.TypeOf", "internal/bytealg.abigen_runtime_cmpstring"], unfollowed := true, recurses := true, apart := false, narrowed := true }
def QuotaCostsUptoSaid : Prop := quotaCostsUptoRow.holds Tryz.pinned (OpenSpec.upto quotaCostsSpec)

/-- 'calliopelaw43.QuotaImages', WHERE WHAT IT READS IS OF BULK AT MOST 1048576: true; the input reads as it did. -/
def quotaImagesUptoRow : OpenClaim := { program := "ytbgkoopfdfnmcaagreat", sum := "577ef7ee934d2cb488cab897da5bfeafe0dd8fb1df140cf243004b15a8c547dd", func := "calliope/calliopelaw43.QuotaImages", spec := "quotaImages", inPlace := ["internal/bytealg.abigen_runtime_cmpstring"], unfollowed := true, recurses := true, apart := false, narrowed := true }
def QuotaImagesUptoSaid : Prop := quotaImagesUptoRow.holds Tryz.pinned (OpenSpec.upto quotaImagesSpec)

end Rows
end Go.Proofs.YtbgkoopfdfnmcaaGreat
