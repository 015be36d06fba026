/- Rows of bytes that a law builds up beside the pipe. -/
import Derived.Test.YtgpfnfcfmogefaaPipB
set_option linter.unusedVariables false
set_option linter.unusedSimpArgs false
namespace Go.Proofs.Ytgpfnfcfmogefaa
open Go.RowKit

/-- v holds ys in a row that was made since w0 and that is none of S. -/
structure OwnG (w0 w : World) (S : Nat → Prop) (v : Value) (ys : List Int) : Prop where
  own : w.ownsRow w0.heap.size 5 1 v ys.length (ys.map (Value.int .u8))
  off : ∀ x, v.ownBlock = some x → ¬ S x
section
variable {w0 w w' : World} {S S' T : Nat → Prop} {v : Value} {ys : List Int}
theorem OwnG.nil (w0 w : World) (S : Nat → Prop) : OwnG w0 w S (.slice none 0 0) [] := ⟨World.ownsRow_nil _ _ _ _, fun x hx => by cases hx⟩
theorem OwnG.chg (h : OwnG w0 w S v ys) (k : Chg T w w') (hs : ∀ x, T x → v.ownBlock = some x → False) : OwnG w0 w' S v ys := ⟨h.own.chg k (fun x hx ht => hs x ht hx), h.off⟩
theorem OwnG.chgS (h : OwnG w0 w S v ys) (k : Chg T w w') (hs : ∀ x, T x → S x) : OwnG w0 w' S v ys := h.chg k (fun x ht hx => h.off x hx (hs x ht))
theorem OwnG.to (h : OwnG w0 w S v ys) (hS : ∀ x, S' x → S x ∨ w.heap.size ≤ x) : OwnG w0 w S' v ys :=
  ⟨h.own, fun x hx hs => (hS x hs).elim (h.off x hx) (fun e => by have := (h.own.lt x hx).2; omega)⟩
theorem OwnG.wrote {R R' : Nat → Prop} (h : OwnG w0 w R v ys) (hc : Chg R w w') (hR : ∀ x, R' x → R x ∨ w.heap.size ≤ x) : OwnG w0 w' R' v ys :=
  ((h.to (S' := fun x => R x ∨ R' x) (fun x hx => hx.elim .inl (hR x))).chgS hc (fun _ q => .inl q)).to (fun _ q => .inl (.inr q))
theorem OwnG.form (h : OwnG w0 w S v ys) : ∃ A cap, v = .slice A ys.length cap ∧ ys.length ≤ cap := own_form h.own
theorem OwnG.bytes (h : OwnG w0 w S v ys) : ∃ A cap, v = .slice A ys.length cap ∧ BytesAt w (fun x => w0.heap.size ≤ x) A ys.length cap ys := BytesAt.of_own h.own
theorem wpl_appendG {ops : Array Oper} {Q : Exit → Act → World → Prop} {rest : List Oper} {a : Act} {d : Option Tmp} {ty : TypeId} {pst : String} {ed : Array Edge} {s x : Operand} {R : Nat → Prop}
    (h : OwnG w0 w S v ys) (hlt : ∀ x, S x → x < w.heap.size) (hs : a.eval s = v) (A : Option Addr) (m c : Nat) (xs : List Int) (hx : a.eval x = .slice A m c) (hb : BytesAt w R A m c xs)
    (hn : ys.length + m ≤ 10000000) (hw : w0.heap.size ≤ w.heap.size)
    (k : ∀ A' cap' w', OwnG w0 w' S (.slice A' (ys.length + m) cap') (ys ++ xs) → Chg (fun x => v.ownBlock = some x) w w' → wpList Try.prog ops Q rest (a.put d (.slice A' (ys.length + m) cap')) w') :
    wpList Try.prog ops Q (⟨d, .call { callee := .builtin .append, args := #[s, x], argTypes := #[22, 22] }, ty, pst, ed, none⟩ :: rest) a w := by
  have hxl := hb.1
  have hll : (ys ++ xs).length = ys.length + m := by rw [List.length_append, hxl]
  rcases Nat.eq_zero_or_pos m with h0 | h0
  · subst h0
    obtain ⟨A0, cap0, rfl, hle⟩ := h.form
    obtain rfl : xs = [] := List.length_eq_zero_iff.1 hxl
    refine wpl_append_nothing Try.underlying22 info_u8 A0 _ cap0 hle hs A c hx ?_
    exact k A0 cap0 w (by rw [List.append_nil]; exact h) (Chg.refl _ _)
  · refine wpl_appendB w0.heap.size v ys.length ys h.own hs A m c xs hx hb h0 hn hw (fun g cap w' h1 h2 h3 h4 => k _ cap w' ⟨by rw [hll]; exact h1, fun y hy hys => ?_⟩ h2)
    cases hy
    rcases h3 with h3 | h3
    · exact h.off _ h3 hys
    · have := hlt _ hys; simp only at this h3; omega
theorem wpl_appendG' {ops : Array Oper} {Q : Exit → Act → World → Prop} {rest : List Oper} {a : Act} {d : Option Tmp} {ty : TypeId} {pst : String} {ed : Array Edge} {s x : Operand} {R : Nat → Prop}
    (h : OwnG w0 w S v ys) (g : Nat) (hg : ys.length = g) (hlt : ∀ x, S x → x < w.heap.size) (hs : a.eval s = v) (A : Option Addr) (m c : Nat) (xs : List Int) (hx : a.eval x = .slice A m c) (hb : BytesAt w R A m c xs)
    (hn : g + m ≤ 10000000) (hw : w0.heap.size ≤ w.heap.size)
    (k : ∀ A' cap' w', OwnG w0 w' S (.slice A' (g + m) cap') (ys ++ xs) → Chg (fun x => v.ownBlock = some x) w w' → wpList Try.prog ops Q rest (a.put d (.slice A' (g + m) cap')) w') :
    wpList Try.prog ops Q (⟨d, .call { callee := .builtin .append, args := #[s, x], argTypes := #[22, 22] }, ty, pst, ed, none⟩ :: rest) a w := by
  subst hg
  exact wpl_appendG h hlt hs A m c xs hx hb hn hw k
end
end Go.Proofs.Ytgpfnfcfmogefaa
