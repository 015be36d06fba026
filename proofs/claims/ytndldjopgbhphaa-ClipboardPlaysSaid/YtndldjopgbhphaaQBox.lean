/- The reference's pipe in a block of the law's own. -/
import Derived.Test.YtndldjopgbhphaaPk35
set_option linter.unusedVariables false
set_option linter.unusedSimpArgs false
set_option maxRecDepth 100000
namespace Go.Proofs.Ytndldjopgbhphaa
open Go.RowKit

def qcells (q : PSt) (A : Option Addr) (n cap : Nat) : List Value := [.int .i64 q.win, .int .i64 q.cr, .slice A n cap, .bool (q.cl && !q.cn), .bool q.cn]
theorem qcells_0 {w : World} {Y : Nat} {q : PSt} {A : Option Addr} {n cap : Nat} (h : w.heap[Y]? = some (.cells (qcells q A n cap).toArray 83 (0, 0))) :
    w.cell? ⟨Y, 0, none⟩ = some (.int .i64 q.win) ∧ w.cell? ⟨Y, 1, none⟩ = some (.int .i64 q.cr) ∧ w.cell? ⟨Y, 2, none⟩ = some (.slice A n cap) ∧ w.cell? ⟨Y, 3, none⟩ = some (.bool (q.cl && !q.cn)) ∧ w.cell? ⟨Y, 4, none⟩ = some (.bool q.cn) :=
  ⟨by rw [cell_at h]; rfl, by rw [cell_at h]; rfl, by rw [cell_at h]; rfl, by rw [cell_at h]; rfl, by rw [cell_at h]; rfl⟩

/-- The reference's bytes through a write of the program's. -/
theorem bytes_wrote {w w' : World} {R R' : Nat → Prop} {Y : Nat} {A : Option Addr} {n cap : Nat} {xs : List Int} (h : BytesAt w (fun x => ¬ R x ∧ x ≠ Y) A n cap xs) (hc : Chg R w w') (hR : ∀ x, R' x → R x ∨ w.heap.size ≤ x) : BytesAt w' (fun x => ¬ R' x ∧ x ≠ Y) A n cap xs :=
  (h.mono (R' := fun x => (¬ R x ∧ ¬ R' x) ∧ x ≠ Y) (fun x hx hr => ⟨⟨hr.1, fun h2 => (hR x h2).elim hr.1 (fun h3 => by omega)⟩, hr.2⟩)).chg hc (fun x hx hr => hx.1.1 hr) |>.mono (fun x _ hx => ⟨hx.1.2, hx.2⟩)

theorem BytesAt.off2 {w w' : World} {R : Nat → Prop} {Y : Nat} {A : Option Addr} {n cap : Nat} {xs : List Int} (h : BytesAt w' (fun x => w.heap.size ≤ x) A n cap xs) (hlt : ∀ x, R x → x < w.heap.size) (hY : Y < w.heap.size) : BytesAt w' (fun x => ¬ R x ∧ x ≠ Y) A n cap xs :=
  h.mono (fun x _ hx => ⟨fun hr => by have := hlt x hr; omega, fun e => by omega⟩)
end Go.Proofs.Ytndldjopgbhphaa
