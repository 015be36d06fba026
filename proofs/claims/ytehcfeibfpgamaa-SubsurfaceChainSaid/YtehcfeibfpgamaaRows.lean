/-
  No cell of these rows narrows 'for every input' (looked for: loops, veiled, ifaces, maps, wideKeys, modest, calm, conditions, laid).
  DERIVED. THE GIVEN ROWS OF THIS SEAT. 7 by the template 'for every input the law returns true; each argument reads behind the call as it read before'; 0 by the template 'total and deterministic' (their statements: YtehcfeibfpgamaaTotals.lean).
  GIVEN WITH THE SEED: the statements are not yours to turn. If you find one false, say at which input.
  Laid BY PROGRAM, IN A SANDBOX (cutbox-rows.mjs): the forced cells as the released guide's own fill.sh prints them over the translation 8deb957df2e3bcf1… (all of the seat's roots in one cut). By AI agents, Wed Nov 11 2026. No macro, syntax, notation, axiom, sorry.
-/
import Derived.Test.YtehcfeibfpgamaaChecked
import GoSem.Claim
import GoSem.ClaimJoined
import GoSem.ClaimMapViews
import Derived.JoinedTies
import Derived.KernelRfl
namespace Go.Proofs.Ytehcfeibfpgamaa
/- THE CELL 'sum', in the pinned program and in every row, IS THE sha256 OF THE DUMP (.gsa) THAT YtehcfeibfpgamaaProg.lean LOADS. Nothing in Lean hashes anything: it is a label: what it is worth is what the hold of that sum in a sandbox is worth. -/
noncomputable def Try.pinned : Pinned := { name := "ytehcfeibfpgamaa", sum := "8deb957df2e3bcf1ababa57f3754bccc876def6e98d4920dea14f68fa31379e4", checked := Try.checked }
namespace Rows
def none {H : Type} : Left H := { results := [], args := [] }

/-- 'compositorlaw18.SubsurfaceChain': WHATEVER THE INPUT: true; the input reads as it did. -/
def subsurfaceChainSpec : ChangeSpec := { name := "subsurfaceChain", fn := fun _ => fun
  | [d1, d2] => { results := [.lit (.bool true)], args := [d1, d2] }
  | _ => none }
def subsurfaceChainRow : OpenClaim := { program := "ytehcfeibfpgamaa", sum := "8deb957df2e3bcf1ababa57f3754bccc876def6e98d4920dea14f68fa31379e4", func := "compositor/compositorlaw18.SubsurfaceChain", spec := "subsurfaceChain", inPlace := ["slices.overlaps[int]"], unfollowed := true, recurses := true, apart := false }
def SubsurfaceChainSaid : Prop := subsurfaceChainRow.holds Try.pinned (OpenSpec.ofChange subsurfaceChainSpec)

/-- ITS FALSE NEIGHBOUR: 'it returns false'. Refute it at one input. -/
def subsurfaceChainWrong : ChangeSpec := { name := "subsurfaceChain", fn := fun _ => fun
  | [d1, d2] => { results := [.lit (.bool false)], args := [d1, d2] }
  | _ => none }
def SubsurfaceChainWrongFalsely : Prop := subsurfaceChainRow.holds Try.pinned (OpenSpec.ofChange subsurfaceChainWrong)

/-- 'compositorlaw18.SubsurfaceLimits': WHATEVER THE INPUT: true; the input reads as it did. -/
def subsurfaceLimitsSpec : ChangeSpec := { name := "subsurfaceLimits", fn := fun _ => fun
  | [d] => { results := [.lit (.bool true)], args := [d] }
  | _ => none }
def subsurfaceLimitsRow : OpenClaim := { program := "ytehcfeibfpgamaa", sum := "8deb957df2e3bcf1ababa57f3754bccc876def6e98d4920dea14f68fa31379e4", func := "compositor/compositorlaw18.SubsurfaceLimits", spec := "subsurfaceLimits", inPlace := ["slices.overlaps[int]"], unfollowed := true, recurses := true, apart := false }
def SubsurfaceLimitsSaid : Prop := subsurfaceLimitsRow.holds Try.pinned (OpenSpec.ofChange subsurfaceLimitsSpec)

/-- ITS FALSE NEIGHBOUR: 'it returns false'. Refute it at one input. -/
def subsurfaceLimitsWrong : ChangeSpec := { name := "subsurfaceLimits", fn := fun _ => fun
  | [d] => { results := [.lit (.bool false)], args := [d] }
  | _ => none }
def SubsurfaceLimitsWrongFalsely : Prop := subsurfaceLimitsRow.holds Try.pinned (OpenSpec.ofChange subsurfaceLimitsWrong)

/-- 'compositorlaw18.SubsurfaceBuffered': WHATEVER THE INPUT: true; the input reads as it did. -/
def subsurfaceBufferedSpec : ChangeSpec := { name := "subsurfaceBuffered", fn := fun _ => fun
  | [d1, d2, d3] => { results := [.lit (.bool true)], args := [d1, d2, d3] }
  | _ => none }
def subsurfaceBufferedRow : OpenClaim := { program := "ytehcfeibfpgamaa", sum := "8deb957df2e3bcf1ababa57f3754bccc876def6e98d4920dea14f68fa31379e4", func := "compositor/compositorlaw18.SubsurfaceBuffered", spec := "subsurfaceBuffered", inPlace := ["slices.overlaps[int]"], unfollowed := true, recurses := true, apart := false }
def SubsurfaceBufferedSaid : Prop := subsurfaceBufferedRow.holds Try.pinned (OpenSpec.ofChange subsurfaceBufferedSpec)

/-- ITS FALSE NEIGHBOUR: 'it returns false'. Refute it at one input. -/
def subsurfaceBufferedWrong : ChangeSpec := { name := "subsurfaceBuffered", fn := fun _ => fun
  | [d1, d2, d3] => { results := [.lit (.bool false)], args := [d1, d2, d3] }
  | _ => none }
def SubsurfaceBufferedWrongFalsely : Prop := subsurfaceBufferedRow.holds Try.pinned (OpenSpec.ofChange subsurfaceBufferedWrong)

/-- 'compositorlaw18.SubsurfaceOrder': WHATEVER THE INPUT: true; the input reads as it did. -/
def subsurfaceOrderSpec : ChangeSpec := { name := "subsurfaceOrder", fn := fun _ => fun
  | [d1, d2] => { results := [.lit (.bool true)], args := [d1, d2] }
  | _ => none }
def subsurfaceOrderRow : OpenClaim := { program := "ytehcfeibfpgamaa", sum := "8deb957df2e3bcf1ababa57f3754bccc876def6e98d4920dea14f68fa31379e4", func := "compositor/compositorlaw18.SubsurfaceOrder", spec := "subsurfaceOrder", inPlace := ["slices.overlaps[int]"], unfollowed := true, recurses := true, apart := false }
def SubsurfaceOrderSaid : Prop := subsurfaceOrderRow.holds Try.pinned (OpenSpec.ofChange subsurfaceOrderSpec)

/-- ITS FALSE NEIGHBOUR: 'it returns false'. Refute it at one input. -/
def subsurfaceOrderWrong : ChangeSpec := { name := "subsurfaceOrder", fn := fun _ => fun
  | [d1, d2] => { results := [.lit (.bool false)], args := [d1, d2] }
  | _ => none }
def SubsurfaceOrderWrongFalsely : Prop := subsurfaceOrderRow.holds Try.pinned (OpenSpec.ofChange subsurfaceOrderWrong)

/-- 'compositorlaw18.SubsurfacePlays': WHATEVER THE INPUT: true; the input reads as it did. -/
def subsurfacePlaysSpec : ChangeSpec := { name := "subsurfacePlays", fn := fun _ => fun
  | [d1, d2] => { results := [.lit (.bool true)], args := [d1, d2] }
  | _ => none }
def subsurfacePlaysRow : OpenClaim := { program := "ytehcfeibfpgamaa", sum := "8deb957df2e3bcf1ababa57f3754bccc876def6e98d4920dea14f68fa31379e4", func := "compositor/compositorlaw18.SubsurfacePlays", spec := "subsurfacePlays", inPlace := ["slices.overlaps[int]"], unfollowed := true, recurses := true, apart := false }
def SubsurfacePlaysSaid : Prop := subsurfacePlaysRow.holds Try.pinned (OpenSpec.ofChange subsurfacePlaysSpec)

/-- ITS FALSE NEIGHBOUR: 'it returns false'. Refute it at one input. -/
def subsurfacePlaysWrong : ChangeSpec := { name := "subsurfacePlays", fn := fun _ => fun
  | [d1, d2] => { results := [.lit (.bool false)], args := [d1, d2] }
  | _ => none }
def SubsurfacePlaysWrongFalsely : Prop := subsurfacePlaysRow.holds Try.pinned (OpenSpec.ofChange subsurfacePlaysWrong)

/-- 'compositorlaw18.SubsurfaceApplication': WHATEVER THE INPUT: true; the input reads as it did. -/
def subsurfaceApplicationSpec : ChangeSpec := { name := "subsurfaceApplication", fn := fun _ => fun
  | [d1, d2] => { results := [.lit (.bool true)], args := [d1, d2] }
  | _ => none }
def subsurfaceApplicationRow : OpenClaim := { program := "ytehcfeibfpgamaa", sum := "8deb957df2e3bcf1ababa57f3754bccc876def6e98d4920dea14f68fa31379e4", func := "compositor/compositorlaw18.SubsurfaceApplication", spec := "subsurfaceApplication", inPlace := ["slices.overlaps[int]"], unfollowed := true, recurses := true, apart := false }
def SubsurfaceApplicationSaid : Prop := subsurfaceApplicationRow.holds Try.pinned (OpenSpec.ofChange subsurfaceApplicationSpec)

/-- ITS FALSE NEIGHBOUR: 'it returns false'. Refute it at one input. -/
def subsurfaceApplicationWrong : ChangeSpec := { name := "subsurfaceApplication", fn := fun _ => fun
  | [d1, d2] => { results := [.lit (.bool false)], args := [d1, d2] }
  | _ => none }
def SubsurfaceApplicationWrongFalsely : Prop := subsurfaceApplicationRow.holds Try.pinned (OpenSpec.ofChange subsurfaceApplicationWrong)

/-- 'compositorlaw18.SubsurfaceForest': WHATEVER THE INPUT: true; the input reads as it did. -/
def subsurfaceForestSpec : ChangeSpec := { name := "subsurfaceForest", fn := fun _ => fun
  | [d1, d2] => { results := [.lit (.bool true)], args := [d1, d2] }
  | _ => none }
def subsurfaceForestRow : OpenClaim := { program := "ytehcfeibfpgamaa", sum := "8deb957df2e3bcf1ababa57f3754bccc876def6e98d4920dea14f68fa31379e4", func := "compositor/compositorlaw18.SubsurfaceForest", spec := "subsurfaceForest", inPlace := ["slices.overlaps[int]"], unfollowed := true, recurses := true, apart := false }
def SubsurfaceForestSaid : Prop := subsurfaceForestRow.holds Try.pinned (OpenSpec.ofChange subsurfaceForestSpec)

/-- ITS FALSE NEIGHBOUR: 'it returns false'. Refute it at one input. -/
def subsurfaceForestWrong : ChangeSpec := { name := "subsurfaceForest", fn := fun _ => fun
  | [d1, d2] => { results := [.lit (.bool false)], args := [d1, d2] }
  | _ => none }
def SubsurfaceForestWrongFalsely : Prop := subsurfaceForestRow.holds Try.pinned (OpenSpec.ofChange subsurfaceForestWrong)

/- THE SECOND FORM. 'bulk': how many values and letters a reading holds, each counted each time it is reached (what is shared counts as often as it is met; a slice's spare places count too). A statement '..UptoSaid' is the law's where the arguments, and the package variables that the reading takes, are together of bulk at most 1048576: NARROWER than '..Said'. Prove '..Said' where nothing that the law and all that it calls make is longer than what came in: it says more and counts as full. Else prove '..UptoSaid'. A law counts once. -/
mutual
def uptoBulk {H : Type} : DataW H → Nat
  | .lit (.string bytes) => bytes.length + 1
  | .lit _ => 1
  | .nil => 1
  | .ptr d => uptoBulk d + 1
  | .slice elems spare => uptoBulkAll elems + uptoBulkAll spare + 1
  | .agg parts => uptoBulkAll parts + 1
  | .iface _ d => uptoBulk d + 1
  | .map entries => uptoBulkEntries entries + 1
  | .held _ => 1
def uptoBulkAll {H : Type} : List (DataW H) → Nat
  | [] => 0
  | d :: r => uptoBulk d + uptoBulkAll r
def uptoBulkEntries {H : Type} : List (Lit × DataW H) → Nat
  | [] => 0
  | x :: r => uptoBulkEntry x + uptoBulkEntries r
def uptoBulkEntry {H : Type} : Lit × DataW H → Nat
  | (.string bytes, d) => bytes.length + uptoBulk d + 1
  | (_, d) => uptoBulk d + 1
 end
def uptoSmall : (H : Type) → List (DataW H) → Bool := fun _ ds => decide (uptoBulkAll ds ≤ 1048576)
def OpenSpec.upto (s : _root_.Go.ChangeSpec) : _root_.Go.OpenSpec := { _root_.Go.OpenSpec.ofChange s with cond := some uptoSmall }

/-- 'compositorlaw18.SubsurfaceChain', WHERE WHAT IT READS IS OF BULK AT MOST 1048576: true; the input reads as it did. -/
def subsurfaceChainUptoRow : OpenClaim := { program := "ytehcfeibfpgamaa", sum := "8deb957df2e3bcf1ababa57f3754bccc876def6e98d4920dea14f68fa31379e4", func := "compositor/compositorlaw18.SubsurfaceChain", spec := "subsurfaceChain", inPlace := ["slices.overlaps[int]"], unfollowed := true, recurses := true, apart := false, narrowed := true }
def SubsurfaceChainUptoSaid : Prop := subsurfaceChainUptoRow.holds Try.pinned (OpenSpec.upto subsurfaceChainSpec)

/-- 'compositorlaw18.SubsurfaceLimits', WHERE WHAT IT READS IS OF BULK AT MOST 1048576: true; the input reads as it did. -/
def subsurfaceLimitsUptoRow : OpenClaim := { program := "ytehcfeibfpgamaa", sum := "8deb957df2e3bcf1ababa57f3754bccc876def6e98d4920dea14f68fa31379e4", func := "compositor/compositorlaw18.SubsurfaceLimits", spec := "subsurfaceLimits", inPlace := ["slices.overlaps[int]"], unfollowed := true, recurses := true, apart := false, narrowed := true }
def SubsurfaceLimitsUptoSaid : Prop := subsurfaceLimitsUptoRow.holds Try.pinned (OpenSpec.upto subsurfaceLimitsSpec)

/-- 'compositorlaw18.SubsurfaceBuffered', WHERE WHAT IT READS IS OF BULK AT MOST 1048576: true; the input reads as it did. -/
def subsurfaceBufferedUptoRow : OpenClaim := { program := "ytehcfeibfpgamaa", sum := "8deb957df2e3bcf1ababa57f3754bccc876def6e98d4920dea14f68fa31379e4", func := "compositor/compositorlaw18.SubsurfaceBuffered", spec := "subsurfaceBuffered", inPlace := ["slices.overlaps[int]"], unfollowed := true, recurses := true, apart := false, narrowed := true }
def SubsurfaceBufferedUptoSaid : Prop := subsurfaceBufferedUptoRow.holds Try.pinned (OpenSpec.upto subsurfaceBufferedSpec)

/-- 'compositorlaw18.SubsurfaceOrder', WHERE WHAT IT READS IS OF BULK AT MOST 1048576: true; the input reads as it did. -/
def subsurfaceOrderUptoRow : OpenClaim := { program := "ytehcfeibfpgamaa", sum := "8deb957df2e3bcf1ababa57f3754bccc876def6e98d4920dea14f68fa31379e4", func := "compositor/compositorlaw18.SubsurfaceOrder", spec := "subsurfaceOrder", inPlace := ["slices.overlaps[int]"], unfollowed := true, recurses := true, apart := false, narrowed := true }
def SubsurfaceOrderUptoSaid : Prop := subsurfaceOrderUptoRow.holds Try.pinned (OpenSpec.upto subsurfaceOrderSpec)

/-- 'compositorlaw18.SubsurfacePlays', WHERE WHAT IT READS IS OF BULK AT MOST 1048576: true; the input reads as it did. -/
def subsurfacePlaysUptoRow : OpenClaim := { program := "ytehcfeibfpgamaa", sum := "8deb957df2e3bcf1ababa57f3754bccc876def6e98d4920dea14f68fa31379e4", func := "compositor/compositorlaw18.SubsurfacePlays", spec := "subsurfacePlays", inPlace := ["slices.overlaps[int]"], unfollowed := true, recurses := true, apart := false, narrowed := true }
def SubsurfacePlaysUptoSaid : Prop := subsurfacePlaysUptoRow.holds Try.pinned (OpenSpec.upto subsurfacePlaysSpec)

/-- 'compositorlaw18.SubsurfaceApplication', WHERE WHAT IT READS IS OF BULK AT MOST 1048576: true; the input reads as it did. -/
def subsurfaceApplicationUptoRow : OpenClaim := { program := "ytehcfeibfpgamaa", sum := "8deb957df2e3bcf1ababa57f3754bccc876def6e98d4920dea14f68fa31379e4", func := "compositor/compositorlaw18.SubsurfaceApplication", spec := "subsurfaceApplication", inPlace := ["slices.overlaps[int]"], unfollowed := true, recurses := true, apart := false, narrowed := true }
def SubsurfaceApplicationUptoSaid : Prop := subsurfaceApplicationUptoRow.holds Try.pinned (OpenSpec.upto subsurfaceApplicationSpec)

/-- 'compositorlaw18.SubsurfaceForest', WHERE WHAT IT READS IS OF BULK AT MOST 1048576: true; the input reads as it did. -/
def subsurfaceForestUptoRow : OpenClaim := { program := "ytehcfeibfpgamaa", sum := "8deb957df2e3bcf1ababa57f3754bccc876def6e98d4920dea14f68fa31379e4", func := "compositor/compositorlaw18.SubsurfaceForest", spec := "subsurfaceForest", inPlace := ["slices.overlaps[int]"], unfollowed := true, recurses := true, apart := false, narrowed := true }
def SubsurfaceForestUptoSaid : Prop := subsurfaceForestUptoRow.holds Try.pinned (OpenSpec.upto subsurfaceForestSpec)

end Rows
end Go.Proofs.Ytehcfeibfpgamaa
