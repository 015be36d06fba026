/-
  No cell of these rows narrows 'for every input' (looked for: loops, veiled, ifaces, maps, wideKeys, modest, calm, conditions, laid).
  DERIVED. THE GIVEN ROWS OF THIS SEAT. 7 by the template 'for every input the law returns true; each argument reads behind the call as it read before'; 0 by the template 'total and deterministic' (their statements: YtnbmpdjphmbofaaTotals.lean).
  GIVEN WITH THE SEED: the statements are not yours to turn. If you find one false, say at which input.
  Laid BY PROGRAM, IN A SANDBOX (cutbox-rows.mjs): the forced cells as the released guide's own fill.sh prints them over the translation fdbea036d2a40089… (all of the seat's roots in one cut). By AI agents, Wed Nov 11 2026. No macro, syntax, notation, axiom, sorry.
-/
import Derived.Test.YtnbmpdjphmbofaaChecked
import GoSem.Claim
import GoSem.ClaimJoined
import GoSem.ClaimMapViews
import Derived.JoinedTies
import Derived.KernelRfl
namespace Go.Proofs.Ytnbmpdjphmbofaa
/- THE CELL 'sum', in the pinned program and in every row, IS THE sha256 OF THE DUMP (.gsa) THAT YtnbmpdjphmbofaaProg.lean LOADS. Nothing in Lean hashes anything: it is a label: what it is worth is what the hold of that sum in a sandbox is worth. -/
noncomputable def Try.pinned : Pinned := { name := "ytnbmpdjphmbofaa", sum := "fdbea036d2a40089d9414363d7ee6c64361fef4f9ed484d490ef7dd1bb54802c", checked := Try.checked }
namespace Rows
def none {H : Type} : Left H := { results := [], args := [] }

/-- 'compositorlaw40.OfferChecks': WHATEVER THE INPUT: true; the input reads as it did. -/
def offerChecksSpec : ChangeSpec := { name := "offerChecks", fn := fun _ => fun
  | [d1, d2] => { results := [.lit (.bool true)], args := [d1, d2] }
  | _ => none }
def offerChecksRow : OpenClaim := { program := "ytnbmpdjphmbofaa", sum := "fdbea036d2a40089d9414363d7ee6c64361fef4f9ed484d490ef7dd1bb54802c", func := "compositor/compositorlaw40.OfferChecks", spec := "offerChecks", inPlace := ["slices.overlaps[int]"], apart := false }
def OfferChecksSaid : Prop := offerChecksRow.holds Try.pinned (OpenSpec.ofChange offerChecksSpec)

/-- ITS FALSE NEIGHBOUR: 'it returns false'. Refute it at one input. -/
def offerChecksWrong : ChangeSpec := { name := "offerChecks", fn := fun _ => fun
  | [d1, d2] => { results := [.lit (.bool false)], args := [d1, d2] }
  | _ => none }
def OfferChecksWrongFalsely : Prop := offerChecksRow.holds Try.pinned (OpenSpec.ofChange offerChecksWrong)

/-- 'compositorlaw40.OfferActions': WHATEVER THE INPUT: true; the input reads as it did. -/
def offerActionsSpec : ChangeSpec := { name := "offerActions", fn := fun _ => fun
  | [d] => { results := [.lit (.bool true)], args := [d] }
  | _ => none }
def offerActionsRow : OpenClaim := { program := "ytnbmpdjphmbofaa", sum := "fdbea036d2a40089d9414363d7ee6c64361fef4f9ed484d490ef7dd1bb54802c", func := "compositor/compositorlaw40.OfferActions", spec := "offerActions", inPlace := ["slices.overlaps[int]"], apart := false }
def OfferActionsSaid : Prop := offerActionsRow.holds Try.pinned (OpenSpec.ofChange offerActionsSpec)

/-- ITS FALSE NEIGHBOUR: 'it returns false'. Refute it at one input. -/
def offerActionsWrong : ChangeSpec := { name := "offerActions", fn := fun _ => fun
  | [d] => { results := [.lit (.bool false)], args := [d] }
  | _ => none }
def OfferActionsWrongFalsely : Prop := offerActionsRow.holds Try.pinned (OpenSpec.ofChange offerActionsWrong)

/-- 'compositorlaw40.OfferNegotiation': WHATEVER THE INPUT: true; the input reads as it did. -/
def offerNegotiationSpec : ChangeSpec := { name := "offerNegotiation", fn := fun _ => fun
  | [d1, d2, d3] => { results := [.lit (.bool true)], args := [d1, d2, d3] }
  | _ => none }
def offerNegotiationRow : OpenClaim := { program := "ytnbmpdjphmbofaa", sum := "fdbea036d2a40089d9414363d7ee6c64361fef4f9ed484d490ef7dd1bb54802c", func := "compositor/compositorlaw40.OfferNegotiation", spec := "offerNegotiation", inPlace := ["slices.overlaps[int]"], apart := false }
def OfferNegotiationSaid : Prop := offerNegotiationRow.holds Try.pinned (OpenSpec.ofChange offerNegotiationSpec)

/-- ITS FALSE NEIGHBOUR: 'it returns false'. Refute it at one input. -/
def offerNegotiationWrong : ChangeSpec := { name := "offerNegotiation", fn := fun _ => fun
  | [d1, d2, d3] => { results := [.lit (.bool false)], args := [d1, d2, d3] }
  | _ => none }
def OfferNegotiationWrongFalsely : Prop := offerNegotiationRow.holds Try.pinned (OpenSpec.ofChange offerNegotiationWrong)

/-- 'compositorlaw40.OfferModifiers': WHATEVER THE INPUT: true; the input reads as it did. -/
def offerModifiersSpec : ChangeSpec := { name := "offerModifiers", fn := fun _ => fun
  | [d] => { results := [.lit (.bool true)], args := [d] }
  | _ => none }
def offerModifiersRow : OpenClaim := { program := "ytnbmpdjphmbofaa", sum := "fdbea036d2a40089d9414363d7ee6c64361fef4f9ed484d490ef7dd1bb54802c", func := "compositor/compositorlaw40.OfferModifiers", spec := "offerModifiers", inPlace := ["slices.overlaps[int]"], apart := false }
def OfferModifiersSaid : Prop := offerModifiersRow.holds Try.pinned (OpenSpec.ofChange offerModifiersSpec)

/-- ITS FALSE NEIGHBOUR: 'it returns false'. Refute it at one input. -/
def offerModifiersWrong : ChangeSpec := { name := "offerModifiers", fn := fun _ => fun
  | [d] => { results := [.lit (.bool false)], args := [d] }
  | _ => none }
def OfferModifiersWrongFalsely : Prop := offerModifiersRow.holds Try.pinned (OpenSpec.ofChange offerModifiersWrong)

/-- 'compositorlaw40.OfferFormats': WHATEVER THE INPUT: true; the input reads as it did. -/
def offerFormatsSpec : ChangeSpec := { name := "offerFormats", fn := fun _ => fun
  | [d] => { results := [.lit (.bool true)], args := [d] }
  | _ => none }
def offerFormatsRow : OpenClaim := { program := "ytnbmpdjphmbofaa", sum := "fdbea036d2a40089d9414363d7ee6c64361fef4f9ed484d490ef7dd1bb54802c", func := "compositor/compositorlaw40.OfferFormats", spec := "offerFormats", inPlace := ["slices.overlaps[int]"], apart := false }
def OfferFormatsSaid : Prop := offerFormatsRow.holds Try.pinned (OpenSpec.ofChange offerFormatsSpec)

/-- ITS FALSE NEIGHBOUR: 'it returns false'. Refute it at one input. -/
def offerFormatsWrong : ChangeSpec := { name := "offerFormats", fn := fun _ => fun
  | [d] => { results := [.lit (.bool false)], args := [d] }
  | _ => none }
def OfferFormatsWrongFalsely : Prop := offerFormatsRow.holds Try.pinned (OpenSpec.ofChange offerFormatsWrong)

/-- 'compositorlaw40.OfferChooses': WHATEVER THE INPUT: true; the input reads as it did. -/
def offerChoosesSpec : ChangeSpec := { name := "offerChooses", fn := fun _ => fun
  | [d1, d2] => { results := [.lit (.bool true)], args := [d1, d2] }
  | _ => none }
def offerChoosesRow : OpenClaim := { program := "ytnbmpdjphmbofaa", sum := "fdbea036d2a40089d9414363d7ee6c64361fef4f9ed484d490ef7dd1bb54802c", func := "compositor/compositorlaw40.OfferChooses", spec := "offerChooses", inPlace := ["slices.overlaps[int]"], apart := false }
def OfferChoosesSaid : Prop := offerChoosesRow.holds Try.pinned (OpenSpec.ofChange offerChoosesSpec)

/-- ITS FALSE NEIGHBOUR: 'it returns false'. Refute it at one input. -/
def offerChoosesWrong : ChangeSpec := { name := "offerChooses", fn := fun _ => fun
  | [d1, d2] => { results := [.lit (.bool false)], args := [d1, d2] }
  | _ => none }
def OfferChoosesWrongFalsely : Prop := offerChoosesRow.holds Try.pinned (OpenSpec.ofChange offerChoosesWrong)

/-- 'compositorlaw40.OfferCommon': WHATEVER THE INPUT: true; the input reads as it did. -/
def offerCommonSpec : ChangeSpec := { name := "offerCommon", fn := fun _ => fun
  | [d1, d2] => { results := [.lit (.bool true)], args := [d1, d2] }
  | _ => none }
def offerCommonRow : OpenClaim := { program := "ytnbmpdjphmbofaa", sum := "fdbea036d2a40089d9414363d7ee6c64361fef4f9ed484d490ef7dd1bb54802c", func := "compositor/compositorlaw40.OfferCommon", spec := "offerCommon", inPlace := ["slices.overlaps[int]"], apart := false }
def OfferCommonSaid : Prop := offerCommonRow.holds Try.pinned (OpenSpec.ofChange offerCommonSpec)

/-- ITS FALSE NEIGHBOUR: 'it returns false'. Refute it at one input. -/
def offerCommonWrong : ChangeSpec := { name := "offerCommon", fn := fun _ => fun
  | [d1, d2] => { results := [.lit (.bool false)], args := [d1, d2] }
  | _ => none }
def OfferCommonWrongFalsely : Prop := offerCommonRow.holds Try.pinned (OpenSpec.ofChange offerCommonWrong)

/- THE SECOND FORM. 'bulk': how many values and letters a reading holds, each counted each time it is reached (what is shared counts as often as it is met; a slice's spare places count too). A statement '..UptoSaid' is the law's where the arguments, and the package variables that the reading takes, are together of bulk at most 1048576: NARROWER than '..Said'. Prove '..Said' where nothing that the law and all that it calls make is longer than what came in: it says more and counts as full. Else prove '..UptoSaid'. A law counts once. -/
mutual
def uptoBulk {H : Type} : DataW H → Nat
  | .lit (.string bytes) => bytes.length + 1
  | .lit _ => 1
  | .nil => 1
  | .ptr d => uptoBulk d + 1
  | .slice elems spare => uptoBulkAll elems + uptoBulkAll spare + 1
  | .agg parts => uptoBulkAll parts + 1
  | .iface _ d => uptoBulk d + 1
  | .map entries => uptoBulkEntries entries + 1
  | .held _ => 1
def uptoBulkAll {H : Type} : List (DataW H) → Nat
  | [] => 0
  | d :: r => uptoBulk d + uptoBulkAll r
def uptoBulkEntries {H : Type} : List (Lit × DataW H) → Nat
  | [] => 0
  | x :: r => uptoBulkEntry x + uptoBulkEntries r
def uptoBulkEntry {H : Type} : Lit × DataW H → Nat
  | (.string bytes, d) => bytes.length + uptoBulk d + 1
  | (_, d) => uptoBulk d + 1
 end
def uptoSmall : (H : Type) → List (DataW H) → Bool := fun _ ds => decide (uptoBulkAll ds ≤ 1048576)
def OpenSpec.upto (s : _root_.Go.ChangeSpec) : _root_.Go.OpenSpec := { _root_.Go.OpenSpec.ofChange s with cond := some uptoSmall }

/-- 'compositorlaw40.OfferChecks', WHERE WHAT IT READS IS OF BULK AT MOST 1048576: true; the input reads as it did. -/
def offerChecksUptoRow : OpenClaim := { program := "ytnbmpdjphmbofaa", sum := "fdbea036d2a40089d9414363d7ee6c64361fef4f9ed484d490ef7dd1bb54802c", func := "compositor/compositorlaw40.OfferChecks", spec := "offerChecks", inPlace := ["slices.overlaps[int]"], apart := false, narrowed := true }
def OfferChecksUptoSaid : Prop := offerChecksUptoRow.holds Try.pinned (OpenSpec.upto offerChecksSpec)

/-- 'compositorlaw40.OfferActions', WHERE WHAT IT READS IS OF BULK AT MOST 1048576: true; the input reads as it did. -/
def offerActionsUptoRow : OpenClaim := { program := "ytnbmpdjphmbofaa", sum := "fdbea036d2a40089d9414363d7ee6c64361fef4f9ed484d490ef7dd1bb54802c", func := "compositor/compositorlaw40.OfferActions", spec := "offerActions", inPlace := ["slices.overlaps[int]"], apart := false, narrowed := true }
def OfferActionsUptoSaid : Prop := offerActionsUptoRow.holds Try.pinned (OpenSpec.upto offerActionsSpec)

/-- 'compositorlaw40.OfferNegotiation', WHERE WHAT IT READS IS OF BULK AT MOST 1048576: true; the input reads as it did. -/
def offerNegotiationUptoRow : OpenClaim := { program := "ytnbmpdjphmbofaa", sum := "fdbea036d2a40089d9414363d7ee6c64361fef4f9ed484d490ef7dd1bb54802c", func := "compositor/compositorlaw40.OfferNegotiation", spec := "offerNegotiation", inPlace := ["slices.overlaps[int]"], apart := false, narrowed := true }
def OfferNegotiationUptoSaid : Prop := offerNegotiationUptoRow.holds Try.pinned (OpenSpec.upto offerNegotiationSpec)

/-- 'compositorlaw40.OfferModifiers', WHERE WHAT IT READS IS OF BULK AT MOST 1048576: true; the input reads as it did. -/
def offerModifiersUptoRow : OpenClaim := { program := "ytnbmpdjphmbofaa", sum := "fdbea036d2a40089d9414363d7ee6c64361fef4f9ed484d490ef7dd1bb54802c", func := "compositor/compositorlaw40.OfferModifiers", spec := "offerModifiers", inPlace := ["slices.overlaps[int]"], apart := false, narrowed := true }
def OfferModifiersUptoSaid : Prop := offerModifiersUptoRow.holds Try.pinned (OpenSpec.upto offerModifiersSpec)

/-- 'compositorlaw40.OfferFormats', WHERE WHAT IT READS IS OF BULK AT MOST 1048576: true; the input reads as it did. -/
def offerFormatsUptoRow : OpenClaim := { program := "ytnbmpdjphmbofaa", sum := "fdbea036d2a40089d9414363d7ee6c64361fef4f9ed484d490ef7dd1bb54802c", func := "compositor/compositorlaw40.OfferFormats", spec := "offerFormats", inPlace := ["slices.overlaps[int]"], apart := false, narrowed := true }
def OfferFormatsUptoSaid : Prop := offerFormatsUptoRow.holds Try.pinned (OpenSpec.upto offerFormatsSpec)

/-- 'compositorlaw40.OfferChooses', WHERE WHAT IT READS IS OF BULK AT MOST 1048576: true; the input reads as it did. -/
def offerChoosesUptoRow : OpenClaim := { program := "ytnbmpdjphmbofaa", sum := "fdbea036d2a40089d9414363d7ee6c64361fef4f9ed484d490ef7dd1bb54802c", func := "compositor/compositorlaw40.OfferChooses", spec := "offerChooses", inPlace := ["slices.overlaps[int]"], apart := false, narrowed := true }
def OfferChoosesUptoSaid : Prop := offerChoosesUptoRow.holds Try.pinned (OpenSpec.upto offerChoosesSpec)

/-- 'compositorlaw40.OfferCommon', WHERE WHAT IT READS IS OF BULK AT MOST 1048576: true; the input reads as it did. -/
def offerCommonUptoRow : OpenClaim := { program := "ytnbmpdjphmbofaa", sum := "fdbea036d2a40089d9414363d7ee6c64361fef4f9ed484d490ef7dd1bb54802c", func := "compositor/compositorlaw40.OfferCommon", spec := "offerCommon", inPlace := ["slices.overlaps[int]"], apart := false, narrowed := true }
def OfferCommonUptoSaid : Prop := offerCommonUptoRow.holds Try.pinned (OpenSpec.upto offerCommonSpec)

end Rows
end Go.Proofs.Ytnbmpdjphmbofaa
