/-
  No cell of these rows narrows 'for every input' (looked for: loops, veiled, ifaces, maps, wideKeys, modest, calm, conditions, laid).
  DERIVED. THE GIVEN ROWS OF THIS SEAT. 7 by the template 'for every input the law returns true; each argument reads behind the call as it read before'; 0 by the template 'total and deterministic' (their statements: YteolilggeaffaaaTotals.lean).
  GIVEN WITH THE SEED: the statements are not yours to turn. If you find one false, say at which input.
  Laid BY PROGRAM, IN A SANDBOX (cutbox-rows.mjs): the forced cells as the released guide's own fill.sh prints them over the translation dd3a30609c56babe… (all of the seat's roots in one cut). By AI agents, Wed Nov 11 2026. No macro, syntax, notation, axiom, sorry.
-/
import Derived.Test.YteolilggeaffaaaChecked
import GoSem.Claim
import GoSem.ClaimJoined
import GoSem.ClaimMapViews
import Derived.JoinedTies
import Derived.KernelRfl
namespace Go.Proofs.Yteolilggeaffaaa
/- THE CELL 'sum', in the pinned program and in every row, IS THE sha256 OF THE DUMP (.gsa) THAT YteolilggeaffaaaProg.lean LOADS. Nothing in Lean hashes anything: it is a label: what it is worth is what the hold of that sum in a sandbox is worth. -/
noncomputable def Try.pinned : Pinned := { name := "yteolilggeaffaaa", sum := "dd3a30609c56babea4de018a41a30006df0e250099799c8a4bd4aaf21652c822", checked := Try.checked }
namespace Rows
def none {H : Type} : Left H := { results := [], args := [] }

/-- 'compositorlaw43.DndAccess': WHATEVER THE INPUT: true; the input reads as it did. -/
def dndAccessSpec : ChangeSpec := { name := "dndAccess", fn := fun _ => fun
  | [d1, d2] => { results := [.lit (.bool true)], args := [d1, d2] }
  | _ => none }
def dndAccessRow : OpenClaim := { program := "yteolilggeaffaaa", sum := "dd3a30609c56babea4de018a41a30006df0e250099799c8a4bd4aaf21652c822", func := "compositor/compositorlaw43.DndAccess", spec := "dndAccess", inPlace := ["slices.overlaps[int]"], unfollowed := true, recurses := true, apart := false }
def DndAccessSaid : Prop := dndAccessRow.holds Try.pinned (OpenSpec.ofChange dndAccessSpec)

/-- ITS FALSE NEIGHBOUR: 'it returns false'. Refute it at one input. -/
def dndAccessWrong : ChangeSpec := { name := "dndAccess", fn := fun _ => fun
  | [d1, d2] => { results := [.lit (.bool false)], args := [d1, d2] }
  | _ => none }
def DndAccessWrongFalsely : Prop := dndAccessRow.holds Try.pinned (OpenSpec.ofChange dndAccessWrong)

/-- 'compositorlaw43.DndActions': WHATEVER THE INPUT: true; the input reads as it did. -/
def dndActionsSpec : ChangeSpec := { name := "dndActions", fn := fun _ => fun
  | [d1, d2, d3] => { results := [.lit (.bool true)], args := [d1, d2, d3] }
  | _ => none }
def dndActionsRow : OpenClaim := { program := "yteolilggeaffaaa", sum := "dd3a30609c56babea4de018a41a30006df0e250099799c8a4bd4aaf21652c822", func := "compositor/compositorlaw43.DndActions", spec := "dndActions", inPlace := ["slices.overlaps[int]"], unfollowed := true, recurses := true, apart := false }
def DndActionsSaid : Prop := dndActionsRow.holds Try.pinned (OpenSpec.ofChange dndActionsSpec)

/-- ITS FALSE NEIGHBOUR: 'it returns false'. Refute it at one input. -/
def dndActionsWrong : ChangeSpec := { name := "dndActions", fn := fun _ => fun
  | [d1, d2, d3] => { results := [.lit (.bool false)], args := [d1, d2, d3] }
  | _ => none }
def DndActionsWrongFalsely : Prop := dndActionsRow.holds Try.pinned (OpenSpec.ofChange dndActionsWrong)

/-- 'compositorlaw43.DndRuns': WHATEVER THE INPUT: true; the input reads as it did. -/
def dndRunsSpec : ChangeSpec := { name := "dndRuns", fn := fun _ => fun
  | [d] => { results := [.lit (.bool true)], args := [d] }
  | _ => none }
def dndRunsRow : OpenClaim := { program := "yteolilggeaffaaa", sum := "dd3a30609c56babea4de018a41a30006df0e250099799c8a4bd4aaf21652c822", func := "compositor/compositorlaw43.DndRuns", spec := "dndRuns", inPlace := ["slices.overlaps[int]"], unfollowed := true, recurses := true, apart := false }
def DndRunsSaid : Prop := dndRunsRow.holds Try.pinned (OpenSpec.ofChange dndRunsSpec)

/-- ITS FALSE NEIGHBOUR: 'it returns false'. Refute it at one input. -/
def dndRunsWrong : ChangeSpec := { name := "dndRuns", fn := fun _ => fun
  | [d] => { results := [.lit (.bool false)], args := [d] }
  | _ => none }
def DndRunsWrongFalsely : Prop := dndRunsRow.holds Try.pinned (OpenSpec.ofChange dndRunsWrong)

/-- 'compositorlaw43.DndProtocol': WHATEVER THE INPUT: true; the input reads as it did. -/
def dndProtocolSpec : ChangeSpec := { name := "dndProtocol", fn := fun _ => fun
  | [d] => { results := [.lit (.bool true)], args := [d] }
  | _ => none }
def dndProtocolRow : OpenClaim := { program := "yteolilggeaffaaa", sum := "dd3a30609c56babea4de018a41a30006df0e250099799c8a4bd4aaf21652c822", func := "compositor/compositorlaw43.DndProtocol", spec := "dndProtocol", inPlace := ["slices.overlaps[int]"], unfollowed := true, recurses := true, apart := false }
def DndProtocolSaid : Prop := dndProtocolRow.holds Try.pinned (OpenSpec.ofChange dndProtocolSpec)

/-- ITS FALSE NEIGHBOUR: 'it returns false'. Refute it at one input. -/
def dndProtocolWrong : ChangeSpec := { name := "dndProtocol", fn := fun _ => fun
  | [d] => { results := [.lit (.bool false)], args := [d] }
  | _ => none }
def DndProtocolWrongFalsely : Prop := dndProtocolRow.holds Try.pinned (OpenSpec.ofChange dndProtocolWrong)

/-- 'compositorlaw43.DndStart': WHATEVER THE INPUT: true; the input reads as it did. -/
def dndStartSpec : ChangeSpec := { name := "dndStart", fn := fun _ => fun
  | [d1, d2] => { results := [.lit (.bool true)], args := [d1, d2] }
  | _ => none }
def dndStartRow : OpenClaim := { program := "yteolilggeaffaaa", sum := "dd3a30609c56babea4de018a41a30006df0e250099799c8a4bd4aaf21652c822", func := "compositor/compositorlaw43.DndStart", spec := "dndStart", inPlace := ["slices.overlaps[int]"], unfollowed := true, recurses := true, apart := false }
def DndStartSaid : Prop := dndStartRow.holds Try.pinned (OpenSpec.ofChange dndStartSpec)

/-- ITS FALSE NEIGHBOUR: 'it returns false'. Refute it at one input. -/
def dndStartWrong : ChangeSpec := { name := "dndStart", fn := fun _ => fun
  | [d1, d2] => { results := [.lit (.bool false)], args := [d1, d2] }
  | _ => none }
def DndStartWrongFalsely : Prop := dndStartRow.holds Try.pinned (OpenSpec.ofChange dndStartWrong)

/-- 'compositorlaw43.DndEnds': WHATEVER THE INPUT: true; the input reads as it did. -/
def dndEndsSpec : ChangeSpec := { name := "dndEnds", fn := fun _ => fun
  | [d1, d2] => { results := [.lit (.bool true)], args := [d1, d2] }
  | _ => none }
def dndEndsRow : OpenClaim := { program := "yteolilggeaffaaa", sum := "dd3a30609c56babea4de018a41a30006df0e250099799c8a4bd4aaf21652c822", func := "compositor/compositorlaw43.DndEnds", spec := "dndEnds", inPlace := ["slices.overlaps[int]"], unfollowed := true, recurses := true, apart := false }
def DndEndsSaid : Prop := dndEndsRow.holds Try.pinned (OpenSpec.ofChange dndEndsSpec)

/-- ITS FALSE NEIGHBOUR: 'it returns false'. Refute it at one input. -/
def dndEndsWrong : ChangeSpec := { name := "dndEnds", fn := fun _ => fun
  | [d1, d2] => { results := [.lit (.bool false)], args := [d1, d2] }
  | _ => none }
def DndEndsWrongFalsely : Prop := dndEndsRow.holds Try.pinned (OpenSpec.ofChange dndEndsWrong)

/-- 'compositorlaw43.DndNil': WHATEVER THE INPUT: true; the input reads as it did. -/
def dndNilSpec : ChangeSpec := { name := "dndNil", fn := fun _ => fun
  | [d] => { results := [.lit (.bool true)], args := [d] }
  | _ => none }
def dndNilRow : OpenClaim := { program := "yteolilggeaffaaa", sum := "dd3a30609c56babea4de018a41a30006df0e250099799c8a4bd4aaf21652c822", func := "compositor/compositorlaw43.DndNil", spec := "dndNil", inPlace := ["slices.overlaps[int]"], unfollowed := true, recurses := true, apart := false }
def DndNilSaid : Prop := dndNilRow.holds Try.pinned (OpenSpec.ofChange dndNilSpec)

/-- ITS FALSE NEIGHBOUR: 'it returns false'. Refute it at one input. -/
def dndNilWrong : ChangeSpec := { name := "dndNil", fn := fun _ => fun
  | [d] => { results := [.lit (.bool false)], args := [d] }
  | _ => none }
def DndNilWrongFalsely : Prop := dndNilRow.holds Try.pinned (OpenSpec.ofChange dndNilWrong)

/- THE SECOND FORM. 'bulk': how many values and letters a reading holds, each counted each time it is reached (what is shared counts as often as it is met; a slice's spare places count too). A statement '..UptoSaid' is the law's where the arguments, and the package variables that the reading takes, are together of bulk at most 1048576: NARROWER than '..Said'. Prove '..Said' where nothing that the law and all that it calls make is longer than what came in: it says more and counts as full. Else prove '..UptoSaid'. A law counts once. -/
mutual
def uptoBulk {H : Type} : DataW H → Nat
  | .lit (.string bytes) => bytes.length + 1
  | .lit _ => 1
  | .nil => 1
  | .ptr d => uptoBulk d + 1
  | .slice elems spare => uptoBulkAll elems + uptoBulkAll spare + 1
  | .agg parts => uptoBulkAll parts + 1
  | .iface _ d => uptoBulk d + 1
  | .map entries => uptoBulkEntries entries + 1
  | .held _ => 1
def uptoBulkAll {H : Type} : List (DataW H) → Nat
  | [] => 0
  | d :: r => uptoBulk d + uptoBulkAll r
def uptoBulkEntries {H : Type} : List (Lit × DataW H) → Nat
  | [] => 0
  | x :: r => uptoBulkEntry x + uptoBulkEntries r
def uptoBulkEntry {H : Type} : Lit × DataW H → Nat
  | (.string bytes, d) => bytes.length + uptoBulk d + 1
  | (_, d) => uptoBulk d + 1
 end
def uptoSmall : (H : Type) → List (DataW H) → Bool := fun _ ds => decide (uptoBulkAll ds ≤ 1048576)
def OpenSpec.upto (s : _root_.Go.ChangeSpec) : _root_.Go.OpenSpec := { _root_.Go.OpenSpec.ofChange s with cond := some uptoSmall }

/-- 'compositorlaw43.DndAccess', WHERE WHAT IT READS IS OF BULK AT MOST 1048576: true; the input reads as it did. -/
def dndAccessUptoRow : OpenClaim := { program := "yteolilggeaffaaa", sum := "dd3a30609c56babea4de018a41a30006df0e250099799c8a4bd4aaf21652c822", func := "compositor/compositorlaw43.DndAccess", spec := "dndAccess", inPlace := ["slices.overlaps[int]"], unfollowed := true, recurses := true, apart := false, narrowed := true }
def DndAccessUptoSaid : Prop := dndAccessUptoRow.holds Try.pinned (OpenSpec.upto dndAccessSpec)

/-- 'compositorlaw43.DndActions', WHERE WHAT IT READS IS OF BULK AT MOST 1048576: true; the input reads as it did. -/
def dndActionsUptoRow : OpenClaim := { program := "yteolilggeaffaaa", sum := "dd3a30609c56babea4de018a41a30006df0e250099799c8a4bd4aaf21652c822", func := "compositor/compositorlaw43.DndActions", spec := "dndActions", inPlace := ["slices.overlaps[int]"], unfollowed := true, recurses := true, apart := false, narrowed := true }
def DndActionsUptoSaid : Prop := dndActionsUptoRow.holds Try.pinned (OpenSpec.upto dndActionsSpec)

/-- 'compositorlaw43.DndRuns', WHERE WHAT IT READS IS OF BULK AT MOST 1048576: true; the input reads as it did. -/
def dndRunsUptoRow : OpenClaim := { program := "yteolilggeaffaaa", sum := "dd3a30609c56babea4de018a41a30006df0e250099799c8a4bd4aaf21652c822", func := "compositor/compositorlaw43.DndRuns", spec := "dndRuns", inPlace := ["slices.overlaps[int]"], unfollowed := true, recurses := true, apart := false, narrowed := true }
def DndRunsUptoSaid : Prop := dndRunsUptoRow.holds Try.pinned (OpenSpec.upto dndRunsSpec)

/-- 'compositorlaw43.DndProtocol', WHERE WHAT IT READS IS OF BULK AT MOST 1048576: true; the input reads as it did. -/
def dndProtocolUptoRow : OpenClaim := { program := "yteolilggeaffaaa", sum := "dd3a30609c56babea4de018a41a30006df0e250099799c8a4bd4aaf21652c822", func := "compositor/compositorlaw43.DndProtocol", spec := "dndProtocol", inPlace := ["slices.overlaps[int]"], unfollowed := true, recurses := true, apart := false, narrowed := true }
def DndProtocolUptoSaid : Prop := dndProtocolUptoRow.holds Try.pinned (OpenSpec.upto dndProtocolSpec)

/-- 'compositorlaw43.DndStart', WHERE WHAT IT READS IS OF BULK AT MOST 1048576: true; the input reads as it did. -/
def dndStartUptoRow : OpenClaim := { program := "yteolilggeaffaaa", sum := "dd3a30609c56babea4de018a41a30006df0e250099799c8a4bd4aaf21652c822", func := "compositor/compositorlaw43.DndStart", spec := "dndStart", inPlace := ["slices.overlaps[int]"], unfollowed := true, recurses := true, apart := false, narrowed := true }
def DndStartUptoSaid : Prop := dndStartUptoRow.holds Try.pinned (OpenSpec.upto dndStartSpec)

/-- 'compositorlaw43.DndEnds', WHERE WHAT IT READS IS OF BULK AT MOST 1048576: true; the input reads as it did. -/
def dndEndsUptoRow : OpenClaim := { program := "yteolilggeaffaaa", sum := "dd3a30609c56babea4de018a41a30006df0e250099799c8a4bd4aaf21652c822", func := "compositor/compositorlaw43.DndEnds", spec := "dndEnds", inPlace := ["slices.overlaps[int]"], unfollowed := true, recurses := true, apart := false, narrowed := true }
def DndEndsUptoSaid : Prop := dndEndsUptoRow.holds Try.pinned (OpenSpec.upto dndEndsSpec)

/-- 'compositorlaw43.DndNil', WHERE WHAT IT READS IS OF BULK AT MOST 1048576: true; the input reads as it did. -/
def dndNilUptoRow : OpenClaim := { program := "yteolilggeaffaaa", sum := "dd3a30609c56babea4de018a41a30006df0e250099799c8a4bd4aaf21652c822", func := "compositor/compositorlaw43.DndNil", spec := "dndNil", inPlace := ["slices.overlaps[int]"], unfollowed := true, recurses := true, apart := false, narrowed := true }
def DndNilUptoSaid : Prop := dndNilUptoRow.holds Try.pinned (OpenSpec.upto dndNilSpec)

end Rows
end Go.Proofs.Yteolilggeaffaaa
