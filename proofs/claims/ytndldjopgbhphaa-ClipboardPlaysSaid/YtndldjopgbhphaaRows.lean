/-
  No cell of these rows narrows 'for every input' (looked for: loops, veiled, ifaces, maps, wideKeys, modest, calm, conditions, laid).
  DERIVED. THE GIVEN ROWS OF THIS SEAT. 8 by the template 'for every input the law returns true; each argument reads behind the call as it read before'; 0 by the template 'total and deterministic' (their statements: YtndldjopgbhphaaTotals.lean).
  GIVEN WITH THE SEED: the statements are not yours to turn. If you find one false, say at which input.
  Laid BY PROGRAM, IN A SANDBOX (cutbox-rows.mjs): the forced cells as the released guide's own fill.sh prints them over the translation ff9fcfb2ac43fabd… (all of the seat's roots in one cut). By AI agents, Wed Nov 11 2026. No macro, syntax, notation, axiom, sorry.
-/
import Derived.Test.YtndldjopgbhphaaChecked
import GoSem.Claim
import GoSem.ClaimJoined
import GoSem.ClaimMapViews
import Derived.JoinedTies
import Derived.KernelRfl
namespace Go.Proofs.Ytndldjopgbhphaa
/- THE CELL 'sum', in the pinned program and in every row, IS THE sha256 OF THE DUMP (.gsa) THAT YtndldjopgbhphaaProg.lean LOADS. Nothing in Lean hashes anything: it is a label: what it is worth is what the hold of that sum in a sandbox is worth. -/
noncomputable def Try.pinned : Pinned := { name := "ytndldjopgbhphaa", sum := "ff9fcfb2ac43fabdf49b1511b60efd5af04b1ce19b6cc811787b7c5ee985aacd", checked := Try.checked }
namespace Rows
def none {H : Type} : Left H := { results := [], args := [] }

/-- 'compositorlaw42.ClipboardSerials': WHATEVER THE INPUT: true; the input reads as it did. -/
def clipboardSerialsSpec : ChangeSpec := { name := "clipboardSerials", fn := fun _ => fun
  | [d1, d2] => { results := [.lit (.bool true)], args := [d1, d2] }
  | _ => none }
def clipboardSerialsRow : OpenClaim := { program := "ytndldjopgbhphaa", sum := "ff9fcfb2ac43fabdf49b1511b60efd5af04b1ce19b6cc811787b7c5ee985aacd", func := "compositor/compositorlaw42.ClipboardSerials", spec := "clipboardSerials", unfollowed := true, recurses := true, apart := false }
def ClipboardSerialsSaid : Prop := clipboardSerialsRow.holds Try.pinned (OpenSpec.ofChange clipboardSerialsSpec)

/-- ITS FALSE NEIGHBOUR: 'it returns false'. Refute it at one input. -/
def clipboardSerialsWrong : ChangeSpec := { name := "clipboardSerials", fn := fun _ => fun
  | [d1, d2] => { results := [.lit (.bool false)], args := [d1, d2] }
  | _ => none }
def ClipboardSerialsWrongFalsely : Prop := clipboardSerialsRow.holds Try.pinned (OpenSpec.ofChange clipboardSerialsWrong)

/-- 'compositorlaw42.ClipboardNumbers': WHATEVER THE INPUT: true; the input reads as it did. -/
def clipboardNumbersSpec : ChangeSpec := { name := "clipboardNumbers", fn := fun _ => fun
  | [d1, d2] => { results := [.lit (.bool true)], args := [d1, d2] }
  | _ => none }
def clipboardNumbersRow : OpenClaim := { program := "ytndldjopgbhphaa", sum := "ff9fcfb2ac43fabdf49b1511b60efd5af04b1ce19b6cc811787b7c5ee985aacd", func := "compositor/compositorlaw42.ClipboardNumbers", spec := "clipboardNumbers", unfollowed := true, recurses := true, apart := false }
def ClipboardNumbersSaid : Prop := clipboardNumbersRow.holds Try.pinned (OpenSpec.ofChange clipboardNumbersSpec)

/-- ITS FALSE NEIGHBOUR: 'it returns false'. Refute it at one input. -/
def clipboardNumbersWrong : ChangeSpec := { name := "clipboardNumbers", fn := fun _ => fun
  | [d1, d2] => { results := [.lit (.bool false)], args := [d1, d2] }
  | _ => none }
def ClipboardNumbersWrongFalsely : Prop := clipboardNumbersRow.holds Try.pinned (OpenSpec.ofChange clipboardNumbersWrong)

/-- 'compositorlaw42.ClipboardAccess': WHATEVER THE INPUT: true; the input reads as it did. -/
def clipboardAccessSpec : ChangeSpec := { name := "clipboardAccess", fn := fun _ => fun
  | [d1, d2, d3] => { results := [.lit (.bool true)], args := [d1, d2, d3] }
  | _ => none }
def clipboardAccessRow : OpenClaim := { program := "ytndldjopgbhphaa", sum := "ff9fcfb2ac43fabdf49b1511b60efd5af04b1ce19b6cc811787b7c5ee985aacd", func := "compositor/compositorlaw42.ClipboardAccess", spec := "clipboardAccess", unfollowed := true, recurses := true, apart := false }
def ClipboardAccessSaid : Prop := clipboardAccessRow.holds Try.pinned (OpenSpec.ofChange clipboardAccessSpec)

/-- ITS FALSE NEIGHBOUR: 'it returns false'. Refute it at one input. -/
def clipboardAccessWrong : ChangeSpec := { name := "clipboardAccess", fn := fun _ => fun
  | [d1, d2, d3] => { results := [.lit (.bool false)], args := [d1, d2, d3] }
  | _ => none }
def ClipboardAccessWrongFalsely : Prop := clipboardAccessRow.holds Try.pinned (OpenSpec.ofChange clipboardAccessWrong)

/-- 'compositorlaw42.ClipboardPlays': WHATEVER THE INPUT: true; the input reads as it did. -/
def clipboardPlaysSpec : ChangeSpec := { name := "clipboardPlays", fn := fun _ => fun
  | [d] => { results := [.lit (.bool true)], args := [d] }
  | _ => none }
def clipboardPlaysRow : OpenClaim := { program := "ytndldjopgbhphaa", sum := "ff9fcfb2ac43fabdf49b1511b60efd5af04b1ce19b6cc811787b7c5ee985aacd", func := "compositor/compositorlaw42.ClipboardPlays", spec := "clipboardPlays", unfollowed := true, recurses := true, apart := false }
def ClipboardPlaysSaid : Prop := clipboardPlaysRow.holds Try.pinned (OpenSpec.ofChange clipboardPlaysSpec)

/-- ITS FALSE NEIGHBOUR: 'it returns false'. Refute it at one input. -/
def clipboardPlaysWrong : ChangeSpec := { name := "clipboardPlays", fn := fun _ => fun
  | [d] => { results := [.lit (.bool false)], args := [d] }
  | _ => none }
def ClipboardPlaysWrongFalsely : Prop := clipboardPlaysRow.holds Try.pinned (OpenSpec.ofChange clipboardPlaysWrong)

/-- 'compositorlaw42.ClipboardNil': WHATEVER THE INPUT: true; the input reads as it did. -/
def clipboardNilSpec : ChangeSpec := { name := "clipboardNil", fn := fun _ => fun
  | [d1, d2] => { results := [.lit (.bool true)], args := [d1, d2] }
  | _ => none }
def clipboardNilRow : OpenClaim := { program := "ytndldjopgbhphaa", sum := "ff9fcfb2ac43fabdf49b1511b60efd5af04b1ce19b6cc811787b7c5ee985aacd", func := "compositor/compositorlaw42.ClipboardNil", spec := "clipboardNil", unfollowed := true, recurses := true, apart := false }
def ClipboardNilSaid : Prop := clipboardNilRow.holds Try.pinned (OpenSpec.ofChange clipboardNilSpec)

/-- ITS FALSE NEIGHBOUR: 'it returns false'. Refute it at one input. -/
def clipboardNilWrong : ChangeSpec := { name := "clipboardNil", fn := fun _ => fun
  | [d1, d2] => { results := [.lit (.bool false)], args := [d1, d2] }
  | _ => none }
def ClipboardNilWrongFalsely : Prop := clipboardNilRow.holds Try.pinned (OpenSpec.ofChange clipboardNilWrong)

/-- 'compositorlaw42.ClipboardFlows': WHATEVER THE INPUT: true; the input reads as it did. -/
def clipboardFlowsSpec : ChangeSpec := { name := "clipboardFlows", fn := fun _ => fun
  | [d1, d2, d3] => { results := [.lit (.bool true)], args := [d1, d2, d3] }
  | _ => none }
def clipboardFlowsRow : OpenClaim := { program := "ytndldjopgbhphaa", sum := "ff9fcfb2ac43fabdf49b1511b60efd5af04b1ce19b6cc811787b7c5ee985aacd", func := "compositor/compositorlaw42.ClipboardFlows", spec := "clipboardFlows", unfollowed := true, recurses := true, apart := false }
def ClipboardFlowsSaid : Prop := clipboardFlowsRow.holds Try.pinned (OpenSpec.ofChange clipboardFlowsSpec)

/-- ITS FALSE NEIGHBOUR: 'it returns false'. Refute it at one input. -/
def clipboardFlowsWrong : ChangeSpec := { name := "clipboardFlows", fn := fun _ => fun
  | [d1, d2, d3] => { results := [.lit (.bool false)], args := [d1, d2, d3] }
  | _ => none }
def ClipboardFlowsWrongFalsely : Prop := clipboardFlowsRow.holds Try.pinned (OpenSpec.ofChange clipboardFlowsWrong)

/-- 'compositorlaw42.ClipboardClear': WHATEVER THE INPUT: true; the input reads as it did. -/
def clipboardClearSpec : ChangeSpec := { name := "clipboardClear", fn := fun _ => fun
  | [d1, d2] => { results := [.lit (.bool true)], args := [d1, d2] }
  | _ => none }
def clipboardClearRow : OpenClaim := { program := "ytndldjopgbhphaa", sum := "ff9fcfb2ac43fabdf49b1511b60efd5af04b1ce19b6cc811787b7c5ee985aacd", func := "compositor/compositorlaw42.ClipboardClear", spec := "clipboardClear", unfollowed := true, recurses := true, apart := false }
def ClipboardClearSaid : Prop := clipboardClearRow.holds Try.pinned (OpenSpec.ofChange clipboardClearSpec)

/-- ITS FALSE NEIGHBOUR: 'it returns false'. Refute it at one input. -/
def clipboardClearWrong : ChangeSpec := { name := "clipboardClear", fn := fun _ => fun
  | [d1, d2] => { results := [.lit (.bool false)], args := [d1, d2] }
  | _ => none }
def ClipboardClearWrongFalsely : Prop := clipboardClearRow.holds Try.pinned (OpenSpec.ofChange clipboardClearWrong)

/-- 'compositortop.TopPaste': WHATEVER THE INPUT: true; the input reads as it did. -/
def topPasteSpec : ChangeSpec := { name := "topPaste", fn := fun _ => fun
  | [d1, d2, d3] => { results := [.lit (.bool true)], args := [d1, d2, d3] }
  | _ => none }
def topPasteRow : OpenClaim := { program := "ytndldjopgbhphaa", sum := "ff9fcfb2ac43fabdf49b1511b60efd5af04b1ce19b6cc811787b7c5ee985aacd", func := "compositor/compositortop.TopPaste", spec := "topPaste", unfollowed := true, recurses := true, apart := false }
def TopPasteSaid : Prop := topPasteRow.holds Try.pinned (OpenSpec.ofChange topPasteSpec)

/-- ITS FALSE NEIGHBOUR: 'it returns false'. Refute it at one input. -/
def topPasteWrong : ChangeSpec := { name := "topPaste", fn := fun _ => fun
  | [d1, d2, d3] => { results := [.lit (.bool false)], args := [d1, d2, d3] }
  | _ => none }
def TopPasteWrongFalsely : Prop := topPasteRow.holds Try.pinned (OpenSpec.ofChange topPasteWrong)

/- THE SECOND FORM. 'bulk': how many values and letters a reading holds, each counted each time it is reached (what is shared counts as often as it is met; a slice's spare places count too). A statement '..UptoSaid' is the law's where the arguments, and the package variables that the reading takes, are together of bulk at most 1048576: NARROWER than '..Said'. Prove '..Said' where nothing that the law and all that it calls make is longer than what came in: it says more and counts as full. Else prove '..UptoSaid'. A law counts once. -/
mutual
def uptoBulk {H : Type} : DataW H → Nat
  | .lit (.string bytes) => bytes.length + 1
  | .lit _ => 1
  | .nil => 1
  | .ptr d => uptoBulk d + 1
  | .slice elems spare => uptoBulkAll elems + uptoBulkAll spare + 1
  | .agg parts => uptoBulkAll parts + 1
  | .iface _ d => uptoBulk d + 1
  | .map entries => uptoBulkEntries entries + 1
  | .held _ => 1
def uptoBulkAll {H : Type} : List (DataW H) → Nat
  | [] => 0
  | d :: r => uptoBulk d + uptoBulkAll r
def uptoBulkEntries {H : Type} : List (Lit × DataW H) → Nat
  | [] => 0
  | x :: r => uptoBulkEntry x + uptoBulkEntries r
def uptoBulkEntry {H : Type} : Lit × DataW H → Nat
  | (.string bytes, d) => bytes.length + uptoBulk d + 1
  | (_, d) => uptoBulk d + 1
 end
def uptoSmall : (H : Type) → List (DataW H) → Bool := fun _ ds => decide (uptoBulkAll ds ≤ 1048576)
def OpenSpec.upto (s : _root_.Go.ChangeSpec) : _root_.Go.OpenSpec := { _root_.Go.OpenSpec.ofChange s with cond := some uptoSmall }

/-- 'compositorlaw42.ClipboardSerials', WHERE WHAT IT READS IS OF BULK AT MOST 1048576: true; the input reads as it did. -/
def clipboardSerialsUptoRow : OpenClaim := { program := "ytndldjopgbhphaa", sum := "ff9fcfb2ac43fabdf49b1511b60efd5af04b1ce19b6cc811787b7c5ee985aacd", func := "compositor/compositorlaw42.ClipboardSerials", spec := "clipboardSerials", unfollowed := true, recurses := true, apart := false, narrowed := true }
def ClipboardSerialsUptoSaid : Prop := clipboardSerialsUptoRow.holds Try.pinned (OpenSpec.upto clipboardSerialsSpec)

/-- 'compositorlaw42.ClipboardNumbers', WHERE WHAT IT READS IS OF BULK AT MOST 1048576: true; the input reads as it did. -/
def clipboardNumbersUptoRow : OpenClaim := { program := "ytndldjopgbhphaa", sum := "ff9fcfb2ac43fabdf49b1511b60efd5af04b1ce19b6cc811787b7c5ee985aacd", func := "compositor/compositorlaw42.ClipboardNumbers", spec := "clipboardNumbers", unfollowed := true, recurses := true, apart := false, narrowed := true }
def ClipboardNumbersUptoSaid : Prop := clipboardNumbersUptoRow.holds Try.pinned (OpenSpec.upto clipboardNumbersSpec)

/-- 'compositorlaw42.ClipboardAccess', WHERE WHAT IT READS IS OF BULK AT MOST 1048576: true; the input reads as it did. -/
def clipboardAccessUptoRow : OpenClaim := { program := "ytndldjopgbhphaa", sum := "ff9fcfb2ac43fabdf49b1511b60efd5af04b1ce19b6cc811787b7c5ee985aacd", func := "compositor/compositorlaw42.ClipboardAccess", spec := "clipboardAccess", unfollowed := true, recurses := true, apart := false, narrowed := true }
def ClipboardAccessUptoSaid : Prop := clipboardAccessUptoRow.holds Try.pinned (OpenSpec.upto clipboardAccessSpec)

/-- 'compositorlaw42.ClipboardPlays', WHERE WHAT IT READS IS OF BULK AT MOST 1048576: true; the input reads as it did. -/
def clipboardPlaysUptoRow : OpenClaim := { program := "ytndldjopgbhphaa", sum := "ff9fcfb2ac43fabdf49b1511b60efd5af04b1ce19b6cc811787b7c5ee985aacd", func := "compositor/compositorlaw42.ClipboardPlays", spec := "clipboardPlays", unfollowed := true, recurses := true, apart := false, narrowed := true }
def ClipboardPlaysUptoSaid : Prop := clipboardPlaysUptoRow.holds Try.pinned (OpenSpec.upto clipboardPlaysSpec)

/-- 'compositorlaw42.ClipboardNil', WHERE WHAT IT READS IS OF BULK AT MOST 1048576: true; the input reads as it did. -/
def clipboardNilUptoRow : OpenClaim := { program := "ytndldjopgbhphaa", sum := "ff9fcfb2ac43fabdf49b1511b60efd5af04b1ce19b6cc811787b7c5ee985aacd", func := "compositor/compositorlaw42.ClipboardNil", spec := "clipboardNil", unfollowed := true, recurses := true, apart := false, narrowed := true }
def ClipboardNilUptoSaid : Prop := clipboardNilUptoRow.holds Try.pinned (OpenSpec.upto clipboardNilSpec)

/-- 'compositorlaw42.ClipboardFlows', WHERE WHAT IT READS IS OF BULK AT MOST 1048576: true; the input reads as it did. -/
def clipboardFlowsUptoRow : OpenClaim := { program := "ytndldjopgbhphaa", sum := "ff9fcfb2ac43fabdf49b1511b60efd5af04b1ce19b6cc811787b7c5ee985aacd", func := "compositor/compositorlaw42.ClipboardFlows", spec := "clipboardFlows", unfollowed := true, recurses := true, apart := false, narrowed := true }
def ClipboardFlowsUptoSaid : Prop := clipboardFlowsUptoRow.holds Try.pinned (OpenSpec.upto clipboardFlowsSpec)

/-- 'compositorlaw42.ClipboardClear', WHERE WHAT IT READS IS OF BULK AT MOST 1048576: true; the input reads as it did. -/
def clipboardClearUptoRow : OpenClaim := { program := "ytndldjopgbhphaa", sum := "ff9fcfb2ac43fabdf49b1511b60efd5af04b1ce19b6cc811787b7c5ee985aacd", func := "compositor/compositorlaw42.ClipboardClear", spec := "clipboardClear", unfollowed := true, recurses := true, apart := false, narrowed := true }
def ClipboardClearUptoSaid : Prop := clipboardClearUptoRow.holds Try.pinned (OpenSpec.upto clipboardClearSpec)

/-- 'compositortop.TopPaste', WHERE WHAT IT READS IS OF BULK AT MOST 1048576: true; the input reads as it did. -/
def topPasteUptoRow : OpenClaim := { program := "ytndldjopgbhphaa", sum := "ff9fcfb2ac43fabdf49b1511b60efd5af04b1ce19b6cc811787b7c5ee985aacd", func := "compositor/compositortop.TopPaste", spec := "topPaste", unfollowed := true, recurses := true, apart := false, narrowed := true }
def TopPasteUptoSaid : Prop := topPasteUptoRow.holds Try.pinned (OpenSpec.upto topPasteSpec)

end Rows
end Go.Proofs.Ytndldjopgbhphaa
