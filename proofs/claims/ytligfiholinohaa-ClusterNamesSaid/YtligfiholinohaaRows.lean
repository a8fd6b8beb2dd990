/-
  No cell of these rows narrows 'for every input' (looked for: loops, veiled, ifaces, maps, wideKeys, modest, calm, conditions, laid).
  DERIVED. THE GIVEN ROWS OF THIS SEAT. 4 by the template 'for every input the law returns true; each argument reads behind the call as it read before'; 0 by the template 'total and deterministic' (their statements: YtligfiholinohaaTotals.lean).
  GIVEN WITH THE SEED: the statements are not yours to turn. If you find one false, say at which input.
  Laid BY PROGRAM, IN A SANDBOX (cutbox-rows.mjs): the forced cells as the released guide's own fill.sh prints them over the translation 57062cd493ccb01a… (all of the seat's roots in one cut). By AI agents, Wed Nov 11 2026. No macro, syntax, notation, axiom, sorry.
-/
import Derived.Test.YtligfiholinohaaChecked
import GoSem.Claim
import GoSem.ClaimJoined
import GoSem.ClaimMapViews
import Derived.JoinedTies
import Derived.KernelRfl
namespace Go.Proofs.Ytligfiholinohaa
/- THE CELL 'sum', in the pinned program and in every row, IS THE sha256 OF THE DUMP (.gsa) THAT YtligfiholinohaaProg.lean LOADS. Nothing in Lean hashes anything: it is a label: what it is worth is what the hold of that sum in a sandbox is worth. -/
noncomputable def Try.pinned : Pinned := { name := "ytligfiholinohaa", sum := "57062cd493ccb01a8f87a77cc46ea38e522e1f69dc9373069356335426419ec3", checked := Try.checked }
namespace Rows
def none {H : Type} : Left H := { results := [], args := [] }

/-- 'quorumlaw4.CodeNames': WHATEVER THE INPUT: true; the input reads as it did. -/
def codeNamesSpec : ChangeSpec := { name := "codeNames", fn := fun _ => fun
  | [] => { results := [.lit (.bool true)], args := [] }
  | _ => none }
def codeNamesRow : OpenClaim := { program := "ytligfiholinohaa", sum := "57062cd493ccb01a8f87a77cc46ea38e522e1f69dc9373069356335426419ec3", func := "quorum/quorumlaw4.CodeNames", spec := "codeNames", plainKeys := false, apart := false }
def CodeNamesSaid : Prop := codeNamesRow.holds Try.pinned (OpenSpec.ofChange codeNamesSpec)

/-- ITS FALSE NEIGHBOUR: 'it returns false'. Refute it at one input. -/
def codeNamesWrong : ChangeSpec := { name := "codeNames", fn := fun _ => fun
  | [] => { results := [.lit (.bool false)], args := [] }
  | _ => none }
def CodeNamesWrongFalsely : Prop := codeNamesRow.holds Try.pinned (OpenSpec.ofChange codeNamesWrong)

/-- 'quorumlaw16.ClusterNames': WHATEVER THE INPUT: true; the input reads as it did. -/
def clusterNamesSpec : ChangeSpec := { name := "clusterNames", fn := fun _ => fun
  | [] => { results := [.lit (.bool true)], args := [] }
  | _ => none }
def clusterNamesRow : OpenClaim := { program := "ytligfiholinohaa", sum := "57062cd493ccb01a8f87a77cc46ea38e522e1f69dc9373069356335426419ec3", func := "quorum/quorumlaw16.ClusterNames", spec := "clusterNames", plainKeys := false, apart := false }
def ClusterNamesSaid : Prop := clusterNamesRow.holds Try.pinned (OpenSpec.ofChange clusterNamesSpec)

/-- ITS FALSE NEIGHBOUR: 'it returns false'. Refute it at one input. -/
def clusterNamesWrong : ChangeSpec := { name := "clusterNames", fn := fun _ => fun
  | [] => { results := [.lit (.bool false)], args := [] }
  | _ => none }
def ClusterNamesWrongFalsely : Prop := clusterNamesRow.holds Try.pinned (OpenSpec.ofChange clusterNamesWrong)

/-- 'quorumlaw18.EngineNames': WHATEVER THE INPUT: true; the input reads as it did. -/
def engineNamesSpec : ChangeSpec := { name := "engineNames", fn := fun _ => fun
  | [] => { results := [.lit (.bool true)], args := [] }
  | _ => none }
def engineNamesRow : OpenClaim := { program := "ytligfiholinohaa", sum := "57062cd493ccb01a8f87a77cc46ea38e522e1f69dc9373069356335426419ec3", func := "quorum/quorumlaw18.EngineNames", spec := "engineNames", plainKeys := false, apart := false }
def EngineNamesSaid : Prop := engineNamesRow.holds Try.pinned (OpenSpec.ofChange engineNamesSpec)

/-- ITS FALSE NEIGHBOUR: 'it returns false'. Refute it at one input. -/
def engineNamesWrong : ChangeSpec := { name := "engineNames", fn := fun _ => fun
  | [] => { results := [.lit (.bool false)], args := [] }
  | _ => none }
def EngineNamesWrongFalsely : Prop := engineNamesRow.holds Try.pinned (OpenSpec.ofChange engineNamesWrong)

/-- 'quorumlaw18.EngineHistory': WHATEVER THE INPUT: true; the input reads as it did. -/
def engineHistorySpec : ChangeSpec := { name := "engineHistory", fn := fun _ => fun
  | [d] => { results := [.lit (.bool true)], args := [d] }
  | _ => none }
def engineHistoryRow : OpenClaim := { program := "ytligfiholinohaa", sum := "57062cd493ccb01a8f87a77cc46ea38e522e1f69dc9373069356335426419ec3", func := "quorum/quorumlaw18.EngineHistory", spec := "engineHistory", unfollowed := true, recurses := true, plainKeys := false, apart := false }
def EngineHistorySaid : Prop := engineHistoryRow.holds Try.pinned (OpenSpec.ofChange engineHistorySpec)

/-- ITS FALSE NEIGHBOUR: 'it returns false'. Refute it at one input. -/
def engineHistoryWrong : ChangeSpec := { name := "engineHistory", fn := fun _ => fun
  | [d] => { results := [.lit (.bool false)], args := [d] }
  | _ => none }
def EngineHistoryWrongFalsely : Prop := engineHistoryRow.holds Try.pinned (OpenSpec.ofChange engineHistoryWrong)

/- THE SECOND FORM. 'bulk': how many values and letters a reading holds, each counted each time it is reached (what is shared counts as often as it is met; a slice's spare places count too). A statement '..UptoSaid' is the law's where the arguments, and the package variables that the reading takes, are together of bulk at most 1048576: NARROWER than '..Said'. Prove '..Said' where nothing that the law and all that it calls make is longer than what came in: it says more and counts as full. Else prove '..UptoSaid'. A law counts once. -/
mutual
def uptoBulk {H : Type} : DataW H → Nat
  | .lit (.string bytes) => bytes.length + 1
  | .lit _ => 1
  | .nil => 1
  | .ptr d => uptoBulk d + 1
  | .slice elems spare => uptoBulkAll elems + uptoBulkAll spare + 1
  | .agg parts => uptoBulkAll parts + 1
  | .iface _ d => uptoBulk d + 1
  | .map entries => uptoBulkEntries entries + 1
  | .held _ => 1
def uptoBulkAll {H : Type} : List (DataW H) → Nat
  | [] => 0
  | d :: r => uptoBulk d + uptoBulkAll r
def uptoBulkEntries {H : Type} : List (Lit × DataW H) → Nat
  | [] => 0
  | x :: r => uptoBulkEntry x + uptoBulkEntries r
def uptoBulkEntry {H : Type} : Lit × DataW H → Nat
  | (.string bytes, d) => bytes.length + uptoBulk d + 1
  | (_, d) => uptoBulk d + 1
 end
def uptoSmall : (H : Type) → List (DataW H) → Bool := fun _ ds => decide (uptoBulkAll ds ≤ 1048576)
def OpenSpec.upto (s : _root_.Go.ChangeSpec) : _root_.Go.OpenSpec := { _root_.Go.OpenSpec.ofChange s with cond := some uptoSmall }

/-- 'quorumlaw4.CodeNames', WHERE WHAT IT READS IS OF BULK AT MOST 1048576: true; the input reads as it did. -/
def codeNamesUptoRow : OpenClaim := { program := "ytligfiholinohaa", sum := "57062cd493ccb01a8f87a77cc46ea38e522e1f69dc9373069356335426419ec3", func := "quorum/quorumlaw4.CodeNames", spec := "codeNames", plainKeys := false, apart := false, narrowed := true }
def CodeNamesUptoSaid : Prop := codeNamesUptoRow.holds Try.pinned (OpenSpec.upto codeNamesSpec)

/-- 'quorumlaw16.ClusterNames', WHERE WHAT IT READS IS OF BULK AT MOST 1048576: true; the input reads as it did. -/
def clusterNamesUptoRow : OpenClaim := { program := "ytligfiholinohaa", sum := "57062cd493ccb01a8f87a77cc46ea38e522e1f69dc9373069356335426419ec3", func := "quorum/quorumlaw16.ClusterNames", spec := "clusterNames", plainKeys := false, apart := false, narrowed := true }
def ClusterNamesUptoSaid : Prop := clusterNamesUptoRow.holds Try.pinned (OpenSpec.upto clusterNamesSpec)

/-- 'quorumlaw18.EngineNames', WHERE WHAT IT READS IS OF BULK AT MOST 1048576: true; the input reads as it did. -/
def engineNamesUptoRow : OpenClaim := { program := "ytligfiholinohaa", sum := "57062cd493ccb01a8f87a77cc46ea38e522e1f69dc9373069356335426419ec3", func := "quorum/quorumlaw18.EngineNames", spec := "engineNames", plainKeys := false, apart := false, narrowed := true }
def EngineNamesUptoSaid : Prop := engineNamesUptoRow.holds Try.pinned (OpenSpec.upto engineNamesSpec)

/-- 'quorumlaw18.EngineHistory', WHERE WHAT IT READS IS OF BULK AT MOST 1048576: true; the input reads as it did. -/
def engineHistoryUptoRow : OpenClaim := { program := "ytligfiholinohaa", sum := "57062cd493ccb01a8f87a77cc46ea38e522e1f69dc9373069356335426419ec3", func := "quorum/quorumlaw18.EngineHistory", spec := "engineHistory", unfollowed := true, recurses := true, plainKeys := false, apart := false, narrowed := true }
def EngineHistoryUptoSaid : Prop := engineHistoryUptoRow.holds Try.pinned (OpenSpec.upto engineHistorySpec)

end Rows
end Go.Proofs.Ytligfiholinohaa
