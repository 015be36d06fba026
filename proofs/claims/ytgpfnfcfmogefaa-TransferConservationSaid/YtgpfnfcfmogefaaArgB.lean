/- Arguments that are slices of bytes. -/
import Derived.Test.YtgpfnfcfmogefaaArgs
import Derived.Test.YtgpfnfcfmogefaaPipM
import Derived.ChangeSlices
set_option linter.unusedVariables false
set_option linter.unusedSimpArgs false
namespace Go.Proofs.Ytgpfnfcfmogefaa
open Go.RowKit Go.ChangeShapes Go.WideShapes Go.Deep

section
variable {H : Type} {enc : TypeId × Value → H} {w : World} {base : Nat} {spare : Nat → Bool} {held : Bool}
theorem cellsU8 : Try.prog.cellsOf 5 = 1 := by kernel_rfl
theorem open_bytesT {fuel : Nat} {v : Value} {x : DataW H × List MemPlace} (h : DataW.trod enc Try.prog w base spare held fuel 22 [v] = some x) :
    ∃ (A : Option Addr) (len cap : Nat) (xs : List Int), v = .slice A len cap ∧ BytesAt w (fun _ => True) A len cap xs := by
  rcases open_ints Try.underlying22 Try.underlying5 cellsU8 h with ⟨hcs, _⟩ | ⟨a, len, cap, zs, hcs, _, hl, hm, hzl, _, hc, _⟩
  · simp only [List.cons.injEq, and_true] at hcs
    exact ⟨none, 0, 0, [], hcs, BytesAt.nil _ _⟩
  · simp only [List.cons.injEq, and_true] at hcs
    have hll : len ≤ zs.length := by rw [hzl]; split <;> omega
    refine ⟨some a, len, cap, zs.take len, hcs, by rw [List.length_take]; omega, hl, hm, fun hn => ?_⟩
    have hsp : a.spot = none := by
      have := hc 0 (by omega)
      rw [show a.add 0 = a by simp [Addr.add]] at this
      unfold World.cell? at this
      split at this
      · split at this
        · cases this
        · rename_i hsn; simpa using hsn
      · cases this
    obtain ⟨b, o, s⟩ := a
    simp only at hsp
    subst hsp
    refine ⟨b, o, rfl, trivial, ?_, fun j x hj => ?_⟩
    · have := hc 0 (by omega)
      rw [add_plain] at this
      exact World.block_lt_of_cell? w _ this
    · have hjl : j < len := by have := (List.getElem?_eq_some_iff.1 hj).1; rw [List.length_take] at this; omega
      have := hc j (by omega)
      rw [add_plain] at this
      rw [this]
      rw [List.getElem?_take, if_pos hjl] at hj
      rw [List.getD_eq_getElem?_getD, hj]
      rfl
theorem open_bytes {r : Reach} {b0 : Nat} {v : Value} {d : DataW H} {p : List MemPlace} (hv : Value.okWide Try.prog w r b0 22 v) (h : DataW.Trod enc Try.prog w base spare held 22 v d p) :
    ∃ (A : Option Addr) (len cap : Nat) (xs : List Int), v = .slice A len cap ∧ BytesAt w (fun _ => True) A len cap xs := by
  obtain ⟨a0, len0, cap0, rfl⟩ := okWide_slice Try.underlying22 hv
  obtain ⟨fuel, hf⟩ := h
  exact open_bytesT hf
end
end Go.Proofs.Ytgpfnfcfmogefaa
