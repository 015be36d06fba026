/- Parts of the walk, packed: SArg, OffB, Own. -/
import Derived.Test.YtndldjopgbhphaaArgs
import Derived.Test.YtndldjopgbhphaaPk13
import Derived.SliceStrings
set_option linter.unusedVariables false
set_option linter.unusedSimpArgs false
set_option maxRecDepth 100000
namespace Go.Proofs.Ytndldjopgbhphaa
open Go.RowKit Go.ChangeShapes Go.WideShapes Go.Deep

def SArg (w : World) (A : Option Addr) (len cap : Nat) (fs : List ByteArray) : Prop := StrsAt w A len fs ∧ len ≤ cap ∧ cap ≤ maxLen
section
variable {H : Type} {enc : TypeId × Value → H} {w : World} {base : Nat} {spare : Nat → Bool} {held : Bool}
theorem cellsStr : Try.prog.cellsOf 9 = 1 := by kernel_rfl
theorem open_strsT {fuel : Nat} {v : Value} {x : DataW H × List MemPlace} (h : DataW.trod enc Try.prog w base spare held fuel 34 [v] = some x) :
    ∃ (A : Option Addr) (len cap : Nat) (xs : List ByteArray), v = .slice A len cap ∧ SArg w A len cap xs := by
  rcases open_strings Try.underlying34 Try.underlying9 cellsStr h with ⟨hcs, _⟩ | ⟨a, len, cap, zs, hcs, _, hl, hm, hzl, _, hc, _⟩
  · simp only [List.cons.injEq, and_true] at hcs
    exact ⟨none, 0, 0, [], hcs, ⟨rfl, fun h => absurd h (by omega)⟩, Nat.le_refl _, by unfold maxLen; omega⟩
  · simp only [List.cons.injEq, and_true] at hcs
    have hll : len ≤ zs.length := by rw [hzl]; split <;> omega
    refine ⟨some a, len, cap, zs.take len, hcs, ⟨by rw [List.length_take]; omega, fun hn => ?_⟩, hl, hm⟩
    have hsp : a.spot = none := by
      have := hc 0 (by omega)
      rw [show a.add 0 = a by simp [Addr.add]] at this
      unfold World.cell? at this
      split at this
      · split at this
        · cases this
        · rename_i hsn; simpa using hsn
      · cases this
    obtain ⟨b, o, s⟩ := a
    simp only at hsp
    subst hsp
    refine ⟨b, o, rfl, ?_, fun j x hj => ?_⟩
    · have := hc 0 (by omega)
      rw [add_plain] at this
      exact World.block_lt_of_cell? w _ this
    · have hjl : j < len := by have := (List.getElem?_eq_some_iff.1 hj).1; rw [List.length_take] at this; omega
      have := hc j (by omega)
      rw [add_plain] at this
      rw [this]
      rw [List.getElem?_take, if_pos hjl] at hj
      rw [List.getD_eq_getElem?_getD, hj]
      rfl
theorem open_strs {r : Reach} {b0 : Nat} {v : Value} {d : DataW H} {p : List MemPlace} (hv : Value.okWide Try.prog w r b0 34 v) (h : DataW.Trod enc Try.prog w base spare held 34 v d p) :
    ∃ (A : Option Addr) (len cap : Nat) (xs : List ByteArray), v = .slice A len cap ∧ SArg w A len cap xs := by
  obtain ⟨a0, len0, cap0, rfl⟩ := okWide_slice Try.underlying34 hv
  obtain ⟨fuel, hf⟩ := h
  exact open_strsT hf
end
end Go.Proofs.Ytndldjopgbhphaa

namespace Go.Proofs.Ytndldjopgbhphaa
open Go.RowKit

theorem valid_v (s : ByteArray) (b : Bool) (w : World) (h : validB s = b) : Calls Try.prog 82 #[.string s] w fun e w' => e = .returned (.bool b) ∧ w = w' := by
  subst h
  exact valid_ok s w
theorem ocheck_v (v : Int) (A : Option Addr) (n cap : Nat) (fs : List ByteArray) (acts : Int) (w : World) (h : StrsAt w A n fs) (hc : n ≤ cap) (hm : cap ≤ maxLen) (hv : checkV fs acts = v) :
    Calls Try.prog 57 #[.agg #[.slice A n cap, .int .i64 acts]] w fun e w' => e = .returned (.int .i64 v) ∧ Same w w' := by
  subst hv
  exact ocheck_ok A n cap fs acts w h hc hm
theorem strs_new (w : World) (T : TypeId) (F : Nat × Nat) (n : Nat) (xs : List ByteArray) (C : Array Value) (hC : C = (xs.map Value.string).toArray) (hn : xs.length = n) (k : Nat) (hk : k = w.heap.size) : StrsAt (w.alloc (.cells C T F)) (some ⟨k, 0, none⟩) n xs := by
  subst hC hk
  refine ⟨hn, fun _ => ⟨w.heap.size, 0, rfl, by simp, fun j x hj => ?_⟩⟩
  rw [cell_of_row _ _ _ _ _ _ (at_new w _), Nat.zero_add]
  simp [hj]
theorem StrsAt.alloc {w : World} {A : Option Addr} {n : Nat} {xs : List ByteArray} (h : StrsAt w A n xs) (o : Obj) : StrsAt (w.alloc o) A n xs := h.same ((Chg.refl (fun _ => False) w).alloc o)
end Go.Proofs.Ytndldjopgbhphaa

namespace Go.Proofs.Ytndldjopgbhphaa
open Go.RowKit

structure Own (R R' : Nat → Prop) (w w' : World) : Prop where
  chg : Chg R w w'
  new : ∀ x, R' x → R x ∨ w.heap.size ≤ x
section
variable {R R' R'' S : Nat → Prop} {u v w : World}
theorem Own.refl (R : Nat → Prop) (w : World) : Own R R w w := ⟨Chg.refl _ _, fun _ h => .inl h⟩
theorem Own.trans (h : Own R R' u v) (k : Own R' R'' v w) : Own R R'' u w :=
  ⟨h.chg.then_ k.chg (fun i hi q => (h.new i q).resolve_right (by omega)), fun x hx => by
    rcases k.new x hx with q | q
    · exact h.new x q
    · exact .inr (by have := h.chg.size; omega)⟩
theorem Own.same (h : Own R R' u v) (k : Same v w) : Own R R' u w :=
  ⟨h.chg.then_ k (fun _ _ q => q.elim), h.new⟩
theorem Own.of_same (h : Same u v) (hn : ∀ x, R' x → R x ∨ u.heap.size ≤ x) : Own R R' u v := ⟨Chg.of_same h, hn⟩
theorem Own.size (h : Own R R' u v) : u.heap.size ≤ v.heap.size := h.chg.size
theorem Own.same_of (h : Own R R' u v) (w0 : World) (hs : Same w0 u) (hf : ∀ x, R x → w0.heap.size ≤ x) : Same w0 v :=
  hs.then_ h.chg (fun i hi q => by have := hf i q; omega)
theorem Own.base {B : Nat} (h : Own R R' u v) (hf : ∀ x, R x → B ≤ x) (hB : B ≤ u.heap.size) : ∀ x, R' x → B ≤ x := fun x hx => by
  rcases h.new x hx with q | q
  · exact hf x q
  · omega
theorem Own.not {k : Nat} (h : Own R R' u v) (hk : k < u.heap.size) (hn : ¬ R k) : ¬ R' k := fun q => by
  rcases h.new k q with q | q
  · exact hn q
  · omega
end

theorem Chg.set1 {S : Nat → Prop} {u v : World} (h : Chg S u v) (b i : Nat) (x : Value) (hb : S b) : Chg S u (v.setCell ⟨b, i, none⟩ x) := h.setCell _ _ (fun _ => hb)
theorem Chg.set2 {S : Nat → Prop} {u v : World} (h : Chg S u v) (b i j : Nat) (x y : Value) (hb : S b) : Chg S u ((v.setCell ⟨b, i, none⟩ x).setCell ⟨b, j, none⟩ y) := (h.set1 b i x hb).set1 b j y hb
theorem StrsAt.chg2 {S : Nat → Prop} {w w' : World} {A : Option Addr} {n : Nat} {xs : List ByteArray} (h : StrsAt w A n xs) (k : Chg S w w') (hs : 0 < n → ∀ b o, A = some ⟨b, o, none⟩ → ¬ S b) : StrsAt w' A n xs := by
  refine ⟨h.1, fun hn => ?_⟩
  obtain ⟨b, o, hA, hb, hc⟩ := h.2 hn
  exact ⟨b, o, hA, Nat.lt_of_lt_of_le hb k.size, fun j x hx => k.cell (hc j x hx) (fun hS => hs hn b o hA hS)⟩
theorem SArg.chg2 {S : Nat → Prop} {w w' : World} {A : Option Addr} {n cap : Nat} {xs : List ByteArray} (h : SArg w A n cap xs) (k : Chg S w w') (hs : 0 < n → ∀ b o, A = some ⟨b, o, none⟩ → ¬ S b) : SArg w' A n cap xs := ⟨h.1.chg2 k hs, h.2⟩
theorem SArg.same {w w' : World} {A : Option Addr} {n cap : Nat} {xs : List ByteArray} (h : SArg w A n cap xs) (k : Same w w') : SArg w' A n cap xs := ⟨h.1.same k, h.2⟩
theorem SArg.nil (w : World) : SArg w none 0 0 [] := ⟨⟨rfl, fun h => absurd h (by omega)⟩, by omega, by unfold maxLen; omega⟩
/-- What lies in w keeps lying there under a change of blocks that are new since w. -/
theorem StrsAt.old {S : Nat → Prop} {w w' : World} {A : Option Addr} {n : Nat} {xs : List ByteArray} (h : StrsAt w A n xs) (k : Chg S w w') (hs : ∀ b, b < w.heap.size → ¬ S b) : StrsAt w' A n xs :=
  h.chg2 k (fun hn b o hA => by
    obtain ⟨b', o', hA', hb, _⟩ := h.2 hn
    rw [hA] at hA'
    cases hA'
    exact hs b hb)
end Go.Proofs.Ytndldjopgbhphaa
