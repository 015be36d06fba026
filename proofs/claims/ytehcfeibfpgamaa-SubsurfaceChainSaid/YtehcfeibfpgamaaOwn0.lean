/- What an object owns: the blocks R before a call and R' behind it. -/
import Derived.Test.YtehcfeibfpgamaaBas2
set_option linter.unusedVariables false
set_option linter.unusedSimpArgs false
set_option maxRecDepth 100000
namespace Go.Proofs.Ytehcfeibfpgamaa
open Go.RowKit

structure Own (R R' : Nat → Prop) (w w' : World) : Prop where
  chg : Chg R w w'
  new : ∀ x, R' x → R x ∨ w.heap.size ≤ x
section
variable {R R' R'' S : Nat → Prop} {u v w : World}
theorem Own.refl (R : Nat → Prop) (w : World) : Own R R w w := ⟨Chg.refl _ _, fun _ h => .inl h⟩
theorem Own.trans (h : Own R R' u v) (k : Own R' R'' v w) : Own R R'' u w :=
  ⟨h.chg.then_ k.chg (fun i hi q => (h.new i q).resolve_right (by omega)), fun x hx => by
    rcases k.new x hx with q | q
    · exact h.new x q
    · exact .inr (by have := h.chg.size; omega)⟩
theorem Own.same (h : Own R R' u v) (k : Same v w) : Own R R' u w :=
  ⟨h.chg.then_ k (fun _ _ q => q.elim), h.new⟩
theorem Own.of_same (h : Same u v) (hn : ∀ x, R' x → R x ∨ u.heap.size ≤ x) : Own R R' u v := ⟨Chg.of_same h, hn⟩
theorem Own.size (h : Own R R' u v) : u.heap.size ≤ v.heap.size := h.chg.size
theorem Own.same_of (h : Own R R' u v) (w0 : World) (hs : Same w0 u) (hf : ∀ x, R x → w0.heap.size ≤ x) : Same w0 v :=
  hs.then_ h.chg (fun i hi q => by have := hf i q; omega)
theorem Own.base {B : Nat} (h : Own R R' u v) (hf : ∀ x, R x → B ≤ x) (hB : B ≤ u.heap.size) : ∀ x, R' x → B ≤ x := fun x hx => by
  rcases h.new x hx with q | q
  · exact hf x q
  · omega
theorem Own.not {k : Nat} (h : Own R R' u v) (hk : k < u.heap.size) (hn : ¬ R k) : ¬ R' k := fun q => by
  rcases h.new k q with q | q
  · exact hn q
  · omega
end
theorem Chg.set1 {S : Nat → Prop} {u v : World} (h : Chg S u v) (b i : Nat) (x : Value) (hb : S b) : Chg S u (v.setCell ⟨b, i, none⟩ x) := h.setCell _ _ (fun _ => hb)
theorem Chg.set2 {S : Nat → Prop} {u v : World} (h : Chg S u v) (b i j : Nat) (x y : Value) (hb : S b) : Chg S u ((v.setCell ⟨b, i, none⟩ x).setCell ⟨b, j, none⟩ y) := (h.set1 b i x hb).set1 b j y hb
end Go.Proofs.Ytehcfeibfpgamaa
