/-
  No cell of these rows narrows 'for every input' (looked for: loops, veiled, ifaces, maps, wideKeys, modest, calm, conditions, laid).
  DERIVED. THE GIVEN ROWS OF THIS SEAT. 7 by the template 'for every input the law returns true; each argument reads behind the call as it read before'; 0 by the template 'total and deterministic' (their statements: YtchodbcfncdmaaaTotals.lean).
  GIVEN WITH THE SEED: the statements are not yours to turn. If you find one false, say at which input.
  Laid BY PROGRAM, IN A SANDBOX (cutbox-rows.mjs): the forced cells as the released guide's own fill.sh prints them over the translation 844321d820ea6d36… (all of the seat's roots in one cut). By AI agents, Wed Nov 11 2026. No macro, syntax, notation, axiom, sorry.
-/
import Derived.Test.YtchodbcfncdmaaaChecked
import GoSem.Claim
import GoSem.ClaimJoined
import GoSem.ClaimMapViews
import Derived.JoinedTies
import Derived.KernelRfl
namespace Go.Proofs.Ytchodbcfncdmaaa
/- THE CELL 'sum', in the pinned program and in every row, IS THE sha256 OF THE DUMP (.gsa) THAT YtchodbcfncdmaaaProg.lean LOADS. Nothing in Lean hashes anything: it is a label: what it is worth is what the hold of that sum in a sandbox is worth. -/
noncomputable def Try.pinned : Pinned := { name := "ytchodbcfncdmaaa", sum := "844321d820ea6d3672f280c36a19d407b6a1eca8ca1498d53e652aacf2f44bb1", checked := Try.checked }
namespace Rows
def none {H : Type} : Left H := { results := [], args := [] }

/-- 'compositorlaw31.SerialFreshness': WHATEVER THE INPUT: true; the input reads as it did. -/
def serialFreshnessSpec : ChangeSpec := { name := "serialFreshness", fn := fun _ => fun
  | [d1, d2, d3] => { results := [.lit (.bool true)], args := [d1, d2, d3] }
  | _ => none }
def serialFreshnessRow : OpenClaim := { program := "ytchodbcfncdmaaa", sum := "844321d820ea6d3672f280c36a19d407b6a1eca8ca1498d53e652aacf2f44bb1", func := "compositor/compositorlaw31.SerialFreshness", spec := "serialFreshness", apart := false }
def SerialFreshnessSaid : Prop := serialFreshnessRow.holds Try.pinned (OpenSpec.ofChange serialFreshnessSpec)

/-- ITS FALSE NEIGHBOUR: 'it returns false'. Refute it at one input. -/
def serialFreshnessWrong : ChangeSpec := { name := "serialFreshness", fn := fun _ => fun
  | [d1, d2, d3] => { results := [.lit (.bool false)], args := [d1, d2, d3] }
  | _ => none }
def SerialFreshnessWrongFalsely : Prop := serialFreshnessRow.holds Try.pinned (OpenSpec.ofChange serialFreshnessWrong)

/-- 'compositorlaw31.SerialNewer': WHATEVER THE INPUT: true; the input reads as it did. -/
def serialNewerSpec : ChangeSpec := { name := "serialNewer", fn := fun _ => fun
  | [d1, d2, d3] => { results := [.lit (.bool true)], args := [d1, d2, d3] }
  | _ => none }
def serialNewerRow : OpenClaim := { program := "ytchodbcfncdmaaa", sum := "844321d820ea6d3672f280c36a19d407b6a1eca8ca1498d53e652aacf2f44bb1", func := "compositor/compositorlaw31.SerialNewer", spec := "serialNewer", apart := false }
def SerialNewerSaid : Prop := serialNewerRow.holds Try.pinned (OpenSpec.ofChange serialNewerSpec)

/-- ITS FALSE NEIGHBOUR: 'it returns false'. Refute it at one input. -/
def serialNewerWrong : ChangeSpec := { name := "serialNewer", fn := fun _ => fun
  | [d1, d2, d3] => { results := [.lit (.bool false)], args := [d1, d2, d3] }
  | _ => none }
def SerialNewerWrongFalsely : Prop := serialNewerRow.holds Try.pinned (OpenSpec.ofChange serialNewerWrong)

/-- 'compositorlaw31.SerialNext': WHATEVER THE INPUT: true; the input reads as it did. -/
def serialNextSpec : ChangeSpec := { name := "serialNext", fn := fun _ => fun
  | [d] => { results := [.lit (.bool true)], args := [d] }
  | _ => none }
def serialNextRow : OpenClaim := { program := "ytchodbcfncdmaaa", sum := "844321d820ea6d3672f280c36a19d407b6a1eca8ca1498d53e652aacf2f44bb1", func := "compositor/compositorlaw31.SerialNext", spec := "serialNext", apart := false }
def SerialNextSaid : Prop := serialNextRow.holds Try.pinned (OpenSpec.ofChange serialNextSpec)

/-- ITS FALSE NEIGHBOUR: 'it returns false'. Refute it at one input. -/
def serialNextWrong : ChangeSpec := { name := "serialNext", fn := fun _ => fun
  | [d] => { results := [.lit (.bool false)], args := [d] }
  | _ => none }
def SerialNextWrongFalsely : Prop := serialNextRow.holds Try.pinned (OpenSpec.ofChange serialNextWrong)

/-- 'compositorlaw31.SerialLatest': WHATEVER THE INPUT: true; the input reads as it did. -/
def serialLatestSpec : ChangeSpec := { name := "serialLatest", fn := fun _ => fun
  | [d1, d2, d3] => { results := [.lit (.bool true)], args := [d1, d2, d3] }
  | _ => none }
def serialLatestRow : OpenClaim := { program := "ytchodbcfncdmaaa", sum := "844321d820ea6d3672f280c36a19d407b6a1eca8ca1498d53e652aacf2f44bb1", func := "compositor/compositorlaw31.SerialLatest", spec := "serialLatest", apart := false }
def SerialLatestSaid : Prop := serialLatestRow.holds Try.pinned (OpenSpec.ofChange serialLatestSpec)

/-- ITS FALSE NEIGHBOUR: 'it returns false'. Refute it at one input. -/
def serialLatestWrong : ChangeSpec := { name := "serialLatest", fn := fun _ => fun
  | [d1, d2, d3] => { results := [.lit (.bool false)], args := [d1, d2, d3] }
  | _ => none }
def SerialLatestWrongFalsely : Prop := serialLatestRow.holds Try.pinned (OpenSpec.ofChange serialLatestWrong)

/-- 'compositorlaw31.SerialRuns': WHATEVER THE INPUT: true; the input reads as it did. -/
def serialRunsSpec : ChangeSpec := { name := "serialRuns", fn := fun _ => fun
  | [d] => { results := [.lit (.bool true)], args := [d] }
  | _ => none }
def serialRunsRow : OpenClaim := { program := "ytchodbcfncdmaaa", sum := "844321d820ea6d3672f280c36a19d407b6a1eca8ca1498d53e652aacf2f44bb1", func := "compositor/compositorlaw31.SerialRuns", spec := "serialRuns", apart := false }
def SerialRunsSaid : Prop := serialRunsRow.holds Try.pinned (OpenSpec.ofChange serialRunsSpec)

/-- ITS FALSE NEIGHBOUR: 'it returns false'. Refute it at one input. -/
def serialRunsWrong : ChangeSpec := { name := "serialRuns", fn := fun _ => fun
  | [d] => { results := [.lit (.bool false)], args := [d] }
  | _ => none }
def SerialRunsWrongFalsely : Prop := serialRunsRow.holds Try.pinned (OpenSpec.ofChange serialRunsWrong)

/-- 'compositorlaw31.SerialForgets': WHATEVER THE INPUT: true; the input reads as it did. -/
def serialForgetsSpec : ChangeSpec := { name := "serialForgets", fn := fun _ => fun
  | [d1, d2, d3] => { results := [.lit (.bool true)], args := [d1, d2, d3] }
  | _ => none }
def serialForgetsRow : OpenClaim := { program := "ytchodbcfncdmaaa", sum := "844321d820ea6d3672f280c36a19d407b6a1eca8ca1498d53e652aacf2f44bb1", func := "compositor/compositorlaw31.SerialForgets", spec := "serialForgets", apart := false }
def SerialForgetsSaid : Prop := serialForgetsRow.holds Try.pinned (OpenSpec.ofChange serialForgetsSpec)

/-- ITS FALSE NEIGHBOUR: 'it returns false'. Refute it at one input. -/
def serialForgetsWrong : ChangeSpec := { name := "serialForgets", fn := fun _ => fun
  | [d1, d2, d3] => { results := [.lit (.bool false)], args := [d1, d2, d3] }
  | _ => none }
def SerialForgetsWrongFalsely : Prop := serialForgetsRow.holds Try.pinned (OpenSpec.ofChange serialForgetsWrong)

/-- 'compositorlaw31.SerialNil': WHATEVER THE INPUT: true; the input reads as it did. -/
def serialNilSpec : ChangeSpec := { name := "serialNil", fn := fun _ => fun
  | [d] => { results := [.lit (.bool true)], args := [d] }
  | _ => none }
def serialNilRow : OpenClaim := { program := "ytchodbcfncdmaaa", sum := "844321d820ea6d3672f280c36a19d407b6a1eca8ca1498d53e652aacf2f44bb1", func := "compositor/compositorlaw31.SerialNil", spec := "serialNil", apart := false }
def SerialNilSaid : Prop := serialNilRow.holds Try.pinned (OpenSpec.ofChange serialNilSpec)

/-- ITS FALSE NEIGHBOUR: 'it returns false'. Refute it at one input. -/
def serialNilWrong : ChangeSpec := { name := "serialNil", fn := fun _ => fun
  | [d] => { results := [.lit (.bool false)], args := [d] }
  | _ => none }
def SerialNilWrongFalsely : Prop := serialNilRow.holds Try.pinned (OpenSpec.ofChange serialNilWrong)

/- THE SECOND FORM. 'bulk': how many values and letters a reading holds, each counted each time it is reached (what is shared counts as often as it is met; a slice's spare places count too). A statement '..UptoSaid' is the law's where the arguments, and the package variables that the reading takes, are together of bulk at most 1048576: NARROWER than '..Said'. Prove '..Said' where nothing that the law and all that it calls make is longer than what came in: it says more and counts as full. Else prove '..UptoSaid'. A law counts once. -/
mutual
def uptoBulk {H : Type} : DataW H → Nat
  | .lit (.string bytes) => bytes.length + 1
  | .lit _ => 1
  | .nil => 1
  | .ptr d => uptoBulk d + 1
  | .slice elems spare => uptoBulkAll elems + uptoBulkAll spare + 1
  | .agg parts => uptoBulkAll parts + 1
  | .iface _ d => uptoBulk d + 1
  | .map entries => uptoBulkEntries entries + 1
  | .held _ => 1
def uptoBulkAll {H : Type} : List (DataW H) → Nat
  | [] => 0
  | d :: r => uptoBulk d + uptoBulkAll r
def uptoBulkEntries {H : Type} : List (Lit × DataW H) → Nat
  | [] => 0
  | x :: r => uptoBulkEntry x + uptoBulkEntries r
def uptoBulkEntry {H : Type} : Lit × DataW H → Nat
  | (.string bytes, d) => bytes.length + uptoBulk d + 1
  | (_, d) => uptoBulk d + 1
 end
def uptoSmall : (H : Type) → List (DataW H) → Bool := fun _ ds => decide (uptoBulkAll ds ≤ 1048576)
def OpenSpec.upto (s : _root_.Go.ChangeSpec) : _root_.Go.OpenSpec := { _root_.Go.OpenSpec.ofChange s with cond := some uptoSmall }

/-- 'compositorlaw31.SerialFreshness', WHERE WHAT IT READS IS OF BULK AT MOST 1048576: true; the input reads as it did. -/
def serialFreshnessUptoRow : OpenClaim := { program := "ytchodbcfncdmaaa", sum := "844321d820ea6d3672f280c36a19d407b6a1eca8ca1498d53e652aacf2f44bb1", func := "compositor/compositorlaw31.SerialFreshness", spec := "serialFreshness", apart := false, narrowed := true }
def SerialFreshnessUptoSaid : Prop := serialFreshnessUptoRow.holds Try.pinned (OpenSpec.upto serialFreshnessSpec)

/-- 'compositorlaw31.SerialNewer', WHERE WHAT IT READS IS OF BULK AT MOST 1048576: true; the input reads as it did. -/
def serialNewerUptoRow : OpenClaim := { program := "ytchodbcfncdmaaa", sum := "844321d820ea6d3672f280c36a19d407b6a1eca8ca1498d53e652aacf2f44bb1", func := "compositor/compositorlaw31.SerialNewer", spec := "serialNewer", apart := false, narrowed := true }
def SerialNewerUptoSaid : Prop := serialNewerUptoRow.holds Try.pinned (OpenSpec.upto serialNewerSpec)

/-- 'compositorlaw31.SerialNext', WHERE WHAT IT READS IS OF BULK AT MOST 1048576: true; the input reads as it did. -/
def serialNextUptoRow : OpenClaim := { program := "ytchodbcfncdmaaa", sum := "844321d820ea6d3672f280c36a19d407b6a1eca8ca1498d53e652aacf2f44bb1", func := "compositor/compositorlaw31.SerialNext", spec := "serialNext", apart := false, narrowed := true }
def SerialNextUptoSaid : Prop := serialNextUptoRow.holds Try.pinned (OpenSpec.upto serialNextSpec)

/-- 'compositorlaw31.SerialLatest', WHERE WHAT IT READS IS OF BULK AT MOST 1048576: true; the input reads as it did. -/
def serialLatestUptoRow : OpenClaim := { program := "ytchodbcfncdmaaa", sum := "844321d820ea6d3672f280c36a19d407b6a1eca8ca1498d53e652aacf2f44bb1", func := "compositor/compositorlaw31.SerialLatest", spec := "serialLatest", apart := false, narrowed := true }
def SerialLatestUptoSaid : Prop := serialLatestUptoRow.holds Try.pinned (OpenSpec.upto serialLatestSpec)

/-- 'compositorlaw31.SerialRuns', WHERE WHAT IT READS IS OF BULK AT MOST 1048576: true; the input reads as it did. -/
def serialRunsUptoRow : OpenClaim := { program := "ytchodbcfncdmaaa", sum := "844321d820ea6d3672f280c36a19d407b6a1eca8ca1498d53e652aacf2f44bb1", func := "compositor/compositorlaw31.SerialRuns", spec := "serialRuns", apart := false, narrowed := true }
def SerialRunsUptoSaid : Prop := serialRunsUptoRow.holds Try.pinned (OpenSpec.upto serialRunsSpec)

/-- 'compositorlaw31.SerialForgets', WHERE WHAT IT READS IS OF BULK AT MOST 1048576: true; the input reads as it did. -/
def serialForgetsUptoRow : OpenClaim := { program := "ytchodbcfncdmaaa", sum := "844321d820ea6d3672f280c36a19d407b6a1eca8ca1498d53e652aacf2f44bb1", func := "compositor/compositorlaw31.SerialForgets", spec := "serialForgets", apart := false, narrowed := true }
def SerialForgetsUptoSaid : Prop := serialForgetsUptoRow.holds Try.pinned (OpenSpec.upto serialForgetsSpec)

/-- 'compositorlaw31.SerialNil', WHERE WHAT IT READS IS OF BULK AT MOST 1048576: true; the input reads as it did. -/
def serialNilUptoRow : OpenClaim := { program := "ytchodbcfncdmaaa", sum := "844321d820ea6d3672f280c36a19d407b6a1eca8ca1498d53e652aacf2f44bb1", func := "compositor/compositorlaw31.SerialNil", spec := "serialNil", apart := false, narrowed := true }
def SerialNilUptoSaid : Prop := serialNilUptoRow.holds Try.pinned (OpenSpec.upto serialNilSpec)

end Rows
end Go.Proofs.Ytchodbcfncdmaaa
