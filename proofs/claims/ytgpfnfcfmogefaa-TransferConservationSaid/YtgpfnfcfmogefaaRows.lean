/-
  No cell of these rows narrows 'for every input' (looked for: loops, veiled, ifaces, maps, wideKeys, modest, calm, conditions, laid).
  DERIVED. THE GIVEN ROWS OF THIS SEAT. 6 by the template 'for every input the law returns true; each argument reads behind the call as it read before'; 0 by the template 'total and deterministic' (their statements: YtgpfnfcfmogefaaTotals.lean).
  GIVEN WITH THE SEED: the statements are not yours to turn. If you find one false, say at which input.
  Laid BY PROGRAM, IN A SANDBOX (cutbox-rows.mjs): the forced cells as the released guide's own fill.sh prints them over the translation 3ec7e5ce785c8738… (all of the seat's roots in one cut). By AI agents, Wed Nov 11 2026. No macro, syntax, notation, axiom, sorry.
-/
import Derived.Test.YtgpfnfcfmogefaaChecked
import GoSem.Claim
import GoSem.ClaimJoined
import GoSem.ClaimMapViews
import Derived.JoinedTies
import Derived.KernelRfl
namespace Go.Proofs.Ytgpfnfcfmogefaa
/- THE CELL 'sum', in the pinned program and in every row, IS THE sha256 OF THE DUMP (.gsa) THAT YtgpfnfcfmogefaaProg.lean LOADS. Nothing in Lean hashes anything: it is a label: what it is worth is what the hold of that sum in a sandbox is worth. -/
noncomputable def Try.pinned : Pinned := { name := "ytgpfnfcfmogefaa", sum := "3ec7e5ce785c8738a4da9d884a26258f93ca3b02f2f02685b776d26a1a277f11", checked := Try.checked }
namespace Rows
def none {H : Type} : Left H := { results := [], args := [] }

/-- 'compositorlaw41.TransferComplete': WHATEVER THE INPUT: true; the input reads as it did. -/
def transferCompleteSpec : ChangeSpec := { name := "transferComplete", fn := fun _ => fun
  | [d1, d2, d3] => { results := [.lit (.bool true)], args := [d1, d2, d3] }
  | _ => none }
def transferCompleteRow : OpenClaim := { program := "ytgpfnfcfmogefaa", sum := "3ec7e5ce785c8738a4da9d884a26258f93ca3b02f2f02685b776d26a1a277f11", func := "compositor/compositorlaw41.TransferComplete", spec := "transferComplete", apart := false }
def TransferCompleteSaid : Prop := transferCompleteRow.holds Try.pinned (OpenSpec.ofChange transferCompleteSpec)

/-- ITS FALSE NEIGHBOUR: 'it returns false'. Refute it at one input. -/
def transferCompleteWrong : ChangeSpec := { name := "transferComplete", fn := fun _ => fun
  | [d1, d2, d3] => { results := [.lit (.bool false)], args := [d1, d2, d3] }
  | _ => none }
def TransferCompleteWrongFalsely : Prop := transferCompleteRow.holds Try.pinned (OpenSpec.ofChange transferCompleteWrong)

/-- 'compositorlaw41.TransferFlow': WHATEVER THE INPUT: true; the input reads as it did. -/
def transferFlowSpec : ChangeSpec := { name := "transferFlow", fn := fun _ => fun
  | [d1, d2, d3] => { results := [.lit (.bool true)], args := [d1, d2, d3] }
  | _ => none }
def transferFlowRow : OpenClaim := { program := "ytgpfnfcfmogefaa", sum := "3ec7e5ce785c8738a4da9d884a26258f93ca3b02f2f02685b776d26a1a277f11", func := "compositor/compositorlaw41.TransferFlow", spec := "transferFlow", apart := false }
def TransferFlowSaid : Prop := transferFlowRow.holds Try.pinned (OpenSpec.ofChange transferFlowSpec)

/-- ITS FALSE NEIGHBOUR: 'it returns false'. Refute it at one input. -/
def transferFlowWrong : ChangeSpec := { name := "transferFlow", fn := fun _ => fun
  | [d1, d2, d3] => { results := [.lit (.bool false)], args := [d1, d2, d3] }
  | _ => none }
def TransferFlowWrongFalsely : Prop := transferFlowRow.holds Try.pinned (OpenSpec.ofChange transferFlowWrong)

/-- 'compositorlaw41.TransferSteps': WHATEVER THE INPUT: true; the input reads as it did. -/
def transferStepsSpec : ChangeSpec := { name := "transferSteps", fn := fun _ => fun
  | [d1, d2] => { results := [.lit (.bool true)], args := [d1, d2] }
  | _ => none }
def transferStepsRow : OpenClaim := { program := "ytgpfnfcfmogefaa", sum := "3ec7e5ce785c8738a4da9d884a26258f93ca3b02f2f02685b776d26a1a277f11", func := "compositor/compositorlaw41.TransferSteps", spec := "transferSteps", apart := false }
def TransferStepsSaid : Prop := transferStepsRow.holds Try.pinned (OpenSpec.ofChange transferStepsSpec)

/-- ITS FALSE NEIGHBOUR: 'it returns false'. Refute it at one input. -/
def transferStepsWrong : ChangeSpec := { name := "transferSteps", fn := fun _ => fun
  | [d1, d2] => { results := [.lit (.bool false)], args := [d1, d2] }
  | _ => none }
def TransferStepsWrongFalsely : Prop := transferStepsRow.holds Try.pinned (OpenSpec.ofChange transferStepsWrong)

/-- 'compositorlaw41.TransferConservation': WHATEVER THE INPUT: true; the input reads as it did. -/
def transferConservationSpec : ChangeSpec := { name := "transferConservation", fn := fun _ => fun
  | [d1, d2] => { results := [.lit (.bool true)], args := [d1, d2] }
  | _ => none }
def transferConservationRow : OpenClaim := { program := "ytgpfnfcfmogefaa", sum := "3ec7e5ce785c8738a4da9d884a26258f93ca3b02f2f02685b776d26a1a277f11", func := "compositor/compositorlaw41.TransferConservation", spec := "transferConservation", apart := false }
def TransferConservationSaid : Prop := transferConservationRow.holds Try.pinned (OpenSpec.ofChange transferConservationSpec)

/-- ITS FALSE NEIGHBOUR: 'it returns false'. Refute it at one input. -/
def transferConservationWrong : ChangeSpec := { name := "transferConservation", fn := fun _ => fun
  | [d1, d2] => { results := [.lit (.bool false)], args := [d1, d2] }
  | _ => none }
def TransferConservationWrongFalsely : Prop := transferConservationRow.holds Try.pinned (OpenSpec.ofChange transferConservationWrong)

/-- 'compositorlaw41.TransferCancel': WHATEVER THE INPUT: true; the input reads as it did. -/
def transferCancelSpec : ChangeSpec := { name := "transferCancel", fn := fun _ => fun
  | [d1, d2, d3] => { results := [.lit (.bool true)], args := [d1, d2, d3] }
  | _ => none }
def transferCancelRow : OpenClaim := { program := "ytgpfnfcfmogefaa", sum := "3ec7e5ce785c8738a4da9d884a26258f93ca3b02f2f02685b776d26a1a277f11", func := "compositor/compositorlaw41.TransferCancel", spec := "transferCancel", apart := false }
def TransferCancelSaid : Prop := transferCancelRow.holds Try.pinned (OpenSpec.ofChange transferCancelSpec)

/-- ITS FALSE NEIGHBOUR: 'it returns false'. Refute it at one input. -/
def transferCancelWrong : ChangeSpec := { name := "transferCancel", fn := fun _ => fun
  | [d1, d2, d3] => { results := [.lit (.bool false)], args := [d1, d2, d3] }
  | _ => none }
def TransferCancelWrongFalsely : Prop := transferCancelRow.holds Try.pinned (OpenSpec.ofChange transferCancelWrong)

/-- 'compositorlaw41.TransferNil': WHATEVER THE INPUT: true; the input reads as it did. -/
def transferNilSpec : ChangeSpec := { name := "transferNil", fn := fun _ => fun
  | [d1, d2] => { results := [.lit (.bool true)], args := [d1, d2] }
  | _ => none }
def transferNilRow : OpenClaim := { program := "ytgpfnfcfmogefaa", sum := "3ec7e5ce785c8738a4da9d884a26258f93ca3b02f2f02685b776d26a1a277f11", func := "compositor/compositorlaw41.TransferNil", spec := "transferNil", apart := false }
def TransferNilSaid : Prop := transferNilRow.holds Try.pinned (OpenSpec.ofChange transferNilSpec)

/-- ITS FALSE NEIGHBOUR: 'it returns false'. Refute it at one input. -/
def transferNilWrong : ChangeSpec := { name := "transferNil", fn := fun _ => fun
  | [d1, d2] => { results := [.lit (.bool false)], args := [d1, d2] }
  | _ => none }
def TransferNilWrongFalsely : Prop := transferNilRow.holds Try.pinned (OpenSpec.ofChange transferNilWrong)

/- THE SECOND FORM. 'bulk': how many values and letters a reading holds, each counted each time it is reached (what is shared counts as often as it is met; a slice's spare places count too). A statement '..UptoSaid' is the law's where the arguments, and the package variables that the reading takes, are together of bulk at most 1048576: NARROWER than '..Said'. Prove '..Said' where nothing that the law and all that it calls make is longer than what came in: it says more and counts as full. Else prove '..UptoSaid'. A law counts once. -/
mutual
def uptoBulk {H : Type} : DataW H → Nat
  | .lit (.string bytes) => bytes.length + 1
  | .lit _ => 1
  | .nil => 1
  | .ptr d => uptoBulk d + 1
  | .slice elems spare => uptoBulkAll elems + uptoBulkAll spare + 1
  | .agg parts => uptoBulkAll parts + 1
  | .iface _ d => uptoBulk d + 1
  | .map entries => uptoBulkEntries entries + 1
  | .held _ => 1
def uptoBulkAll {H : Type} : List (DataW H) → Nat
  | [] => 0
  | d :: r => uptoBulk d + uptoBulkAll r
def uptoBulkEntries {H : Type} : List (Lit × DataW H) → Nat
  | [] => 0
  | x :: r => uptoBulkEntry x + uptoBulkEntries r
def uptoBulkEntry {H : Type} : Lit × DataW H → Nat
  | (.string bytes, d) => bytes.length + uptoBulk d + 1
  | (_, d) => uptoBulk d + 1
 end
def uptoSmall : (H : Type) → List (DataW H) → Bool := fun _ ds => decide (uptoBulkAll ds ≤ 1048576)
def OpenSpec.upto (s : _root_.Go.ChangeSpec) : _root_.Go.OpenSpec := { _root_.Go.OpenSpec.ofChange s with cond := some uptoSmall }

/-- 'compositorlaw41.TransferComplete', WHERE WHAT IT READS IS OF BULK AT MOST 1048576: true; the input reads as it did. -/
def transferCompleteUptoRow : OpenClaim := { program := "ytgpfnfcfmogefaa", sum := "3ec7e5ce785c8738a4da9d884a26258f93ca3b02f2f02685b776d26a1a277f11", func := "compositor/compositorlaw41.TransferComplete", spec := "transferComplete", apart := false, narrowed := true }
def TransferCompleteUptoSaid : Prop := transferCompleteUptoRow.holds Try.pinned (OpenSpec.upto transferCompleteSpec)

/-- 'compositorlaw41.TransferFlow', WHERE WHAT IT READS IS OF BULK AT MOST 1048576: true; the input reads as it did. -/
def transferFlowUptoRow : OpenClaim := { program := "ytgpfnfcfmogefaa", sum := "3ec7e5ce785c8738a4da9d884a26258f93ca3b02f2f02685b776d26a1a277f11", func := "compositor/compositorlaw41.TransferFlow", spec := "transferFlow", apart := false, narrowed := true }
def TransferFlowUptoSaid : Prop := transferFlowUptoRow.holds Try.pinned (OpenSpec.upto transferFlowSpec)

/-- 'compositorlaw41.TransferSteps', WHERE WHAT IT READS IS OF BULK AT MOST 1048576: true; the input reads as it did. -/
def transferStepsUptoRow : OpenClaim := { program := "ytgpfnfcfmogefaa", sum := "3ec7e5ce785c8738a4da9d884a26258f93ca3b02f2f02685b776d26a1a277f11", func := "compositor/compositorlaw41.TransferSteps", spec := "transferSteps", apart := false, narrowed := true }
def TransferStepsUptoSaid : Prop := transferStepsUptoRow.holds Try.pinned (OpenSpec.upto transferStepsSpec)

/-- 'compositorlaw41.TransferConservation', WHERE WHAT IT READS IS OF BULK AT MOST 1048576: true; the input reads as it did. -/
def transferConservationUptoRow : OpenClaim := { program := "ytgpfnfcfmogefaa", sum := "3ec7e5ce785c8738a4da9d884a26258f93ca3b02f2f02685b776d26a1a277f11", func := "compositor/compositorlaw41.TransferConservation", spec := "transferConservation", apart := false, narrowed := true }
def TransferConservationUptoSaid : Prop := transferConservationUptoRow.holds Try.pinned (OpenSpec.upto transferConservationSpec)

/-- 'compositorlaw41.TransferCancel', WHERE WHAT IT READS IS OF BULK AT MOST 1048576: true; the input reads as it did. -/
def transferCancelUptoRow : OpenClaim := { program := "ytgpfnfcfmogefaa", sum := "3ec7e5ce785c8738a4da9d884a26258f93ca3b02f2f02685b776d26a1a277f11", func := "compositor/compositorlaw41.TransferCancel", spec := "transferCancel", apart := false, narrowed := true }
def TransferCancelUptoSaid : Prop := transferCancelUptoRow.holds Try.pinned (OpenSpec.upto transferCancelSpec)

/-- 'compositorlaw41.TransferNil', WHERE WHAT IT READS IS OF BULK AT MOST 1048576: true; the input reads as it did. -/
def transferNilUptoRow : OpenClaim := { program := "ytgpfnfcfmogefaa", sum := "3ec7e5ce785c8738a4da9d884a26258f93ca3b02f2f02685b776d26a1a277f11", func := "compositor/compositorlaw41.TransferNil", spec := "transferNil", apart := false, narrowed := true }
def TransferNilUptoSaid : Prop := transferNilUptoRow.holds Try.pinned (OpenSpec.upto transferNilSpec)

end Rows
end Go.Proofs.Ytgpfnfcfmogefaa
