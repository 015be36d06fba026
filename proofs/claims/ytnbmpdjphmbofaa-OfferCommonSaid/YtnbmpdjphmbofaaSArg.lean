/- Slices of strings as arguments. -/
import Derived.Test.YtnbmpdjphmbofaaArgs
import Derived.Test.YtnbmpdjphmbofaaChk
import Derived.SliceStrings
set_option linter.unusedVariables false
set_option linter.unusedSimpArgs false
set_option maxRecDepth 100000
namespace Go.Proofs.Ytnbmpdjphmbofaa
open Go.RowKit Go.ChangeShapes Go.WideShapes Go.Deep

def SArg (w : World) (A : Option Addr) (len cap : Nat) (fs : List ByteArray) : Prop := StrsAt w A len fs ∧ len ≤ cap ∧ cap ≤ maxLen
section
variable {H : Type} {enc : TypeId × Value → H} {w : World} {base : Nat} {spare : Nat → Bool} {held : Bool}
theorem cellsStr : Try.prog.cellsOf 9 = 1 := by kernel_rfl
theorem open_strsT {fuel : Nat} {v : Value} {x : DataW H × List MemPlace} (h : DataW.trod enc Try.prog w base spare held fuel 22 [v] = some x) :
    ∃ (A : Option Addr) (len cap : Nat) (xs : List ByteArray), v = .slice A len cap ∧ SArg w A len cap xs := by
  rcases open_strings Try.underlying22 Try.underlying9 cellsStr h with ⟨hcs, _⟩ | ⟨a, len, cap, zs, hcs, _, hl, hm, hzl, _, hc, _⟩
  · simp only [List.cons.injEq, and_true] at hcs
    exact ⟨none, 0, 0, [], hcs, ⟨rfl, fun h => absurd h (by omega)⟩, Nat.le_refl _, by unfold maxLen; omega⟩
  · simp only [List.cons.injEq, and_true] at hcs
    have hll : len ≤ zs.length := by rw [hzl]; split <;> omega
    refine ⟨some a, len, cap, zs.take len, hcs, ⟨by rw [List.length_take]; omega, fun hn => ?_⟩, hl, hm⟩
    have hsp : a.spot = none := by
      have := hc 0 (by omega)
      rw [show a.add 0 = a by simp [Addr.add]] at this
      unfold World.cell? at this
      split at this
      · split at this
        · cases this
        · rename_i hsn; simpa using hsn
      · cases this
    obtain ⟨b, o, s⟩ := a
    simp only at hsp
    subst hsp
    refine ⟨b, o, rfl, ?_, fun j x hj => ?_⟩
    · have := hc 0 (by omega)
      rw [add_plain] at this
      exact World.block_lt_of_cell? w _ this
    · have hjl : j < len := by have := (List.getElem?_eq_some_iff.1 hj).1; rw [List.length_take] at this; omega
      have := hc j (by omega)
      rw [add_plain] at this
      rw [this]
      rw [List.getElem?_take, if_pos hjl] at hj
      rw [List.getD_eq_getElem?_getD, hj]
      rfl
theorem open_strs {r : Reach} {b0 : Nat} {v : Value} {d : DataW H} {p : List MemPlace} (hv : Value.okWide Try.prog w r b0 22 v) (h : DataW.Trod enc Try.prog w base spare held 22 v d p) :
    ∃ (A : Option Addr) (len cap : Nat) (xs : List ByteArray), v = .slice A len cap ∧ SArg w A len cap xs := by
  obtain ⟨a0, len0, cap0, rfl⟩ := okWide_slice Try.underlying22 hv
  obtain ⟨fuel, hf⟩ := h
  exact open_strsT hf
end
end Go.Proofs.Ytnbmpdjphmbofaa
