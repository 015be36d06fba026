/- offer.ValidFormat, offer.Check with results by name; strings in new blocks. -/
import Derived.Test.YtnbmpdjphmbofaaChk
set_option linter.unusedVariables false
set_option linter.unusedSimpArgs false
set_option maxRecDepth 100000
namespace Go.Proofs.Ytnbmpdjphmbofaa
open Go.RowKit

theorem valid_v (s : ByteArray) (b : Bool) (w : World) (h : validB s = b) : Calls Try.prog 15 #[.string s] w fun e w' => e = .returned (.bool b) ∧ w = w' := by
  subst h
  exact valid_ok s w
theorem ocheck_v (v : Int) (A : Option Addr) (n cap : Nat) (fs : List ByteArray) (acts : Int) (w : World) (h : StrsAt w A n fs) (hc : n ≤ cap) (hm : cap ≤ maxLen) (hv : checkV fs acts = v) :
    Calls Try.prog 12 #[.agg #[.slice A n cap, .int .i64 acts]] w fun e w' => e = .returned (.int .i64 v) ∧ Same w w' := by
  subst hv
  exact ocheck_ok A n cap fs acts w h hc hm
theorem strs_new (w : World) (T : TypeId) (F : Nat × Nat) (n : Nat) (xs : List ByteArray) (C : Array Value) (hC : C = (xs.map Value.string).toArray) (hn : xs.length = n) (k : Nat) (hk : k = w.heap.size) : StrsAt (w.alloc (.cells C T F)) (some ⟨k, 0, none⟩) n xs := by
  subst hC hk
  refine ⟨hn, fun _ => ⟨w.heap.size, 0, rfl, by simp, fun j x hj => ?_⟩⟩
  rw [cell_of_row _ _ _ _ _ _ (at_new w _), Nat.zero_add]
  simp [hj]
theorem StrsAt.alloc {w : World} {A : Option Addr} {n : Nat} {xs : List ByteArray} (h : StrsAt w A n xs) (o : Obj) : StrsAt (w.alloc o) A n xs := h.same ((Chg.refl (fun _ => False) w).alloc o)
end Go.Proofs.Ytnbmpdjphmbofaa
