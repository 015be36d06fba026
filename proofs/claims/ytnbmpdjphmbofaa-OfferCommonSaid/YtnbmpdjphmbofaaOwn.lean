/- What an object owns: the blocks R before a call and R' behind it. -/
import Derived.Test.YtnbmpdjphmbofaaSArg
import Derived.Test.YtnbmpdjphmbofaaOffB
set_option linter.unusedVariables false
set_option linter.unusedSimpArgs false
set_option maxRecDepth 100000
namespace Go.Proofs.Ytnbmpdjphmbofaa
open Go.RowKit

structure Own (R R' : Nat → Prop) (w w' : World) : Prop where
  chg : Chg R w w'
  new : ∀ x, R' x → R x ∨ w.heap.size ≤ x
section
variable {R R' R'' S : Nat → Prop} {u v w : World}
theorem Own.refl (R : Nat → Prop) (w : World) : Own R R w w := ⟨Chg.refl _ _, fun _ h => .inl h⟩
theorem Own.trans (h : Own R R' u v) (k : Own R' R'' v w) : Own R R'' u w :=
  ⟨h.chg.then_ k.chg (fun i hi q => (h.new i q).resolve_right (by omega)), fun x hx => by
    rcases k.new x hx with q | q
    · exact h.new x q
    · exact .inr (by have := h.chg.size; omega)⟩
theorem Own.same (h : Own R R' u v) (k : Same v w) : Own R R' u w :=
  ⟨h.chg.then_ k (fun _ _ q => q.elim), h.new⟩
theorem Own.of_same (h : Same u v) (hn : ∀ x, R' x → R x ∨ u.heap.size ≤ x) : Own R R' u v := ⟨Chg.of_same h, hn⟩
theorem Own.size (h : Own R R' u v) : u.heap.size ≤ v.heap.size := h.chg.size
theorem Own.same_of (h : Own R R' u v) (w0 : World) (hs : Same w0 u) (hf : ∀ x, R x → w0.heap.size ≤ x) : Same w0 v :=
  hs.then_ h.chg (fun i hi q => by have := hf i q; omega)
theorem Own.base {B : Nat} (h : Own R R' u v) (hf : ∀ x, R x → B ≤ x) (hB : B ≤ u.heap.size) : ∀ x, R' x → B ≤ x := fun x hx => by
  rcases h.new x hx with q | q
  · exact hf x q
  · omega
theorem Own.not {k : Nat} (h : Own R R' u v) (hk : k < u.heap.size) (hn : ¬ R k) : ¬ R' k := fun q => by
  rcases h.new k q with q | q
  · exact hn q
  · omega
end

theorem Chg.set1 {S : Nat → Prop} {u v : World} (h : Chg S u v) (b i : Nat) (x : Value) (hb : S b) : Chg S u (v.setCell ⟨b, i, none⟩ x) := h.setCell _ _ (fun _ => hb)
theorem Chg.set2 {S : Nat → Prop} {u v : World} (h : Chg S u v) (b i j : Nat) (x y : Value) (hb : S b) : Chg S u ((v.setCell ⟨b, i, none⟩ x).setCell ⟨b, j, none⟩ y) := (h.set1 b i x hb).set1 b j y hb
theorem StrsAt.chg2 {S : Nat → Prop} {w w' : World} {A : Option Addr} {n : Nat} {xs : List ByteArray} (h : StrsAt w A n xs) (k : Chg S w w') (hs : 0 < n → ∀ b o, A = some ⟨b, o, none⟩ → ¬ S b) : StrsAt w' A n xs := by
  refine ⟨h.1, fun hn => ?_⟩
  obtain ⟨b, o, hA, hb, hc⟩ := h.2 hn
  exact ⟨b, o, hA, Nat.lt_of_lt_of_le hb k.size, fun j x hx => k.cell (hc j x hx) (fun hS => hs hn b o hA hS)⟩
theorem SArg.chg2 {S : Nat → Prop} {w w' : World} {A : Option Addr} {n cap : Nat} {xs : List ByteArray} (h : SArg w A n cap xs) (k : Chg S w w') (hs : 0 < n → ∀ b o, A = some ⟨b, o, none⟩ → ¬ S b) : SArg w' A n cap xs := ⟨h.1.chg2 k hs, h.2⟩
theorem SArg.same {w w' : World} {A : Option Addr} {n cap : Nat} {xs : List ByteArray} (h : SArg w A n cap xs) (k : Same w w') : SArg w' A n cap xs := ⟨h.1.same k, h.2⟩
theorem SArg.nil (w : World) : SArg w none 0 0 [] := ⟨⟨rfl, fun h => absurd h (by omega)⟩, by omega, by unfold maxLen; omega⟩
/-- What lies in w keeps lying there under a change of blocks that are new since w. -/
theorem StrsAt.old {S : Nat → Prop} {w w' : World} {A : Option Addr} {n : Nat} {xs : List ByteArray} (h : StrsAt w A n xs) (k : Chg S w w') (hs : ∀ b, b < w.heap.size → ¬ S b) : StrsAt w' A n xs :=
  h.chg2 k (fun hn b o hA => by
    obtain ⟨b', o', hA', hb, _⟩ := h.2 hn
    rw [hA] at hA'
    cases hA'
    exact hs b hb)
end Go.Proofs.Ytnbmpdjphmbofaa
