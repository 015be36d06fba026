/- slices.Clone and slices.DeleteFunc at []int, out of the library's contracts; without. -/
import Derived.Test.YtehcfeibfpgamaaSubE
import Derived.Shelf.Slices.Clone
import Derived.Shelf.SlicesE.DeleteFunc
set_option linter.unusedVariables false
set_option linter.unusedSimpArgs false
set_option maxRecDepth 100000
namespace Go.Proofs.Ytehcfeibfpgamaa
open Go.RowKit Go.Shelf

def renC : Go.Shelf.Ren := { g := fun k => k, f := fun k => 34, t := fun k => if k = 3 then 3 else if k = 4 then 4 else 29 }
theorem lays_clone : Go.Proofs.Lays2.n15 Try.prog renC := {
  mixed := by kernel_rfl
  f15 := by kernel_rfl
  t3 := by kernel_rfl
  a3 := fun _ => by kernel_rfl
  z3 := fun _ => by kernel_rfl
  v3 := fun _ => by kernel_rfl
  t4 := by kernel_rfl
  a4 := fun _ => by kernel_rfl
  z4 := fun _ => by kernel_rfl
  v4 := fun _ => by kernel_rfl
  t22 := by kernel_rfl
  a22 := fun _ => by kernel_rfl
  z22 := fun _ => by kernel_rfl
  v22 := fun _ => by kernel_rfl
  i3 := by kernel_rfl }
def renD : Go.Shelf.Ren := { g := fun k => k, f := fun k => if k = 6 then 69 else 65, t := fun k => if k = 0 then 0 else if k = 3 then 3 else if k = 4 then 4 else if k = 22 then 29 else if k = 23 then 3 else 75 }
theorem lays_delete : Go.Proofs.SlLaysH.n10 Try.prog renD := {
  mixed := by kernel_rfl
  f6 := ⟨"slices.IndexFunc[[]int,int]", by decide, by kernel_rfl⟩
  f10 := ⟨"slices.DeleteFunc[[]int,int]", by decide, by kernel_rfl⟩
  t0 := by kernel_rfl
  a0 := fun _ => by kernel_rfl
  z0 := fun _ => by kernel_rfl
  v0 := fun _ => by kernel_rfl
  t3 := by kernel_rfl
  a3 := fun _ => by kernel_rfl
  z3 := fun _ => by kernel_rfl
  v3 := fun _ => by kernel_rfl
  t4 := by kernel_rfl
  a4 := fun _ => by kernel_rfl
  z4 := fun _ => by kernel_rfl
  v4 := fun _ => by kernel_rfl
  t22 := by kernel_rfl
  a22 := fun _ => by kernel_rfl
  z22 := fun _ => by kernel_rfl
  v22 := fun _ => by kernel_rfl
  a23 := fun _ => by kernel_rfl
  z23 := fun _ => by kernel_rfl
  t25 := by kernel_rfl
  a25 := fun _ => by kernel_rfl
  z25 := fun _ => by kernel_rfl
  v25 := fun _ => by kernel_rfl }

/-- A row of numbers that a call made: its block is new and its own. -/
def Made (w : World) (xs : List Int) (v : Value) (w' : World) : Prop :=
  ∃ g c, v = .slice (some ⟨g, 0, none⟩) xs.length c ∧ w.heap.size ≤ g ∧ w'.ownsRow w.heap.size 3 1 v xs.length (ints xs) ∧ Same w w'
section
variable {w : World} {R : Nat → Prop} {v : Value} {xs : List Int}
theorem yclone (h : SlAt w R v xs) (hn : xs.length ≤ 100000) :
    Calls Try.prog 34 #[v] w fun e w' => ∃ v', e = .returned v' ∧ Made w xs v' w' := by
  obtain ⟨g, c, rfl, hr, hg, hc⟩ := h.ints
  have hget : ∀ j, j < xs.length → w.cell? ⟨g, 0 + j, none⟩ = some (.int .i64 (xs.getD j 0)) := fun j hj => hc j _ (by rw [List.getD_eq_getElem?_getD, List.getElem?_eq_getElem hj]; rfl)
  have h0 := Any.slices_Clone_int lays_clone g 0 xs.length c xs w (Nat.le_refl _) (by omega) hget
  refine Calls.mono h0 ?_
  rintro e w' ⟨v', rfl, ho, hne, hb⟩
  rw [List.take_length] at ho
  have hs : Same w w' := ⟨hb.os, hb.tape, hb.output, hb.size, fun k hk _ => hb.block k hk⟩
  refine ⟨v', rfl, ?_⟩
  rcases ho.2 with ⟨e, _⟩ | ⟨g', cap', cur, hv, hg', hgg, hnc, hcm, hcs, ht⟩
  · exact absurd e hne
  · exact ⟨g', cap', hv, hg', ho, hs⟩
end
end Go.Proofs.Ytehcfeibfpgamaa
