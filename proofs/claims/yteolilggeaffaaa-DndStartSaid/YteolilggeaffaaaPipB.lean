/- The pipe as a law uses it: made since the law began; each call with its results by name. -/
import Derived.Test.YteolilggeaffaaaPipX
import Derived.Laws.BytesArg
set_option linter.unusedVariables false
set_option linter.unusedSimpArgs false
set_option maxRecDepth 100000
namespace Go.Proofs.Yteolilggeaffaaa
open Go.RowKit

/-- The pipe in block b was made since w0, and what lay in w0 is as it was. -/
structure Pip (w0 w : World) (b : Nat) (R : Nat → Prop) (q : PSt) : Prop where
  pipe : PipeAt w b R q
  fresh : ∀ x, R x → w0.heap.size ≤ x
  same : Same w0 w
section
variable {w0 w w' : World} {b : Nat} {R : Nat → Prop} {q : PSt}
theorem Pip.step (h : Pip w0 w b R q) {q' : PSt} {S : Nat → Prop} (hp : PipeAt w' b R q') (hc : Chg S w w') (hs : ∀ x, S x → R x) : Pip w0 w' b R q' :=
  ⟨hp, h.fresh, h.same.then_ hc (fun i hi q => by have := h.fresh i (hs i q); omega)⟩
theorem Pip.next (h : Pip w0 w b R q) {S : Nat → Prop} (hc : Chg S w w') (hs : ∀ x, S x → ¬ R x ∧ w0.heap.size ≤ x) : Pip w0 w' b R q :=
  ⟨h.pipe.chg hc (fun x hr hx => (hs x hx).1 hr), h.fresh, h.same.then_ hc (fun i hi q => by have := (hs i q).2; omega)⟩
theorem Pip.same_ (h : Pip w0 w b R q) (hc : Same w w') : Pip w0 w' b R q := h.next hc (fun _ q => q.elim)
theorem pgrant_v (q' : PSt) (v n : Int) (h : Pip w0 w b R q) (hn : n ≤ 9223372036854775807) (h1 : q.grE n = v) (h2 : q.grant n = q') :
    Calls Try.prog 35 #[.pointer (some ⟨b, 0, none⟩), .int .i64 n] w fun e w' => e = .returned (.int .i64 v) ∧ Pip w0 w' b R q' ∧ Chg R w w' := by
  refine (pgrant_ok b w R q n h.pipe hn).mono ?_
  rintro e w' ⟨rfl, hp, hc⟩
  subst h1 h2
  have hb : ∀ x, x = b → R x := fun x e => by rw [e]; exact h.pipe.rb
  exact ⟨rfl, h.step hp hc hb, hc.mono (fun x _ e => hb x e)⟩
theorem pcancel_v (q' : PSt) (v : Int) (h : Pip w0 w b R q) (h1 : q.caE = v) (h2 : q.cancel = q') :
    Calls Try.prog 63 #[.pointer (some ⟨b, 0, none⟩)] w fun e w' => e = .returned (.int .i64 v) ∧ Pip w0 w' b R q' ∧ Chg R w w' := by
  refine (pcancel_ok b w R q h.pipe).mono ?_
  rintro e w' ⟨rfl, hp, hc⟩
  subst h1 h2
  have hb : ∀ x, x = b → R x := fun x e => by rw [e]; exact h.pipe.rb
  exact ⟨rfl, h.step hp hc hb, hc.mono (fun x _ e => hb x e)⟩
theorem pnew_v (w : World) (n : Int) (h0 : 1 ≤ n) (h1 : n ≤ 65536) : Calls Try.prog 44 #[.int .i64 n] w fun e w' => ∃ b R, e = .returned (.tuple #[.pointer (some ⟨b, 0, none⟩), .int .i64 0]) ∧ Pip w w' b R (PSt.new n) ∧ Same w w' := by
  refine (pnew_ok w n h0 h1).mono ?_
  rintro e w' ⟨rfl, hp, hc⟩
  exact ⟨_, _, rfl, ⟨hp, fun x hx => by omega, hc⟩, hc⟩
theorem pdone_v (v : Bool) (h : Pip w0 w b R q) (h1 : q.done = v) : Calls Try.prog 80 #[.pointer (some ⟨b, 0, none⟩)] w fun e w' => e = .returned (.bool v) ∧ w = w' := by
  subst h1; exact pdone_ok b w R q h.pipe
end
theorem BytesAt.off {w w' : World} {R : Nat → Prop} {A : Option Addr} {n cap : Nat} {xs : List Int} (h : BytesAt w' (fun x => w.heap.size ≤ x) A n cap xs) (hlt : ∀ x, R x → x < w.heap.size) : BytesAt w' (fun x => ¬ R x) A n cap xs :=
  h.mono (fun x _ hx hr => by have := hlt x hr; omega)
theorem bytes_new (w : World) (T : TypeId) (F : Nat × Nat) (n : Nat) (xs : List Int) (C : Array Value) (hC : C = (xs.map (Value.int .u8)).toArray) (hn : xs.length = n) (hm : n ≤ maxLen) : BytesAt (w.alloc (.cells C T F)) (fun _ => True) (some ⟨w.heap.size, 0, none⟩) n n xs := by
  subst hC
  refine ⟨hn, Nat.le_refl _, hm, fun _ => ⟨w.heap.size, 0, rfl, trivial, by simp, fun j x hj => ?_⟩⟩
  rw [cell_of_row _ _ _ _ _ _ (at_new w _), Nat.zero_add]
  simp [hj]
end Go.Proofs.Yteolilggeaffaaa
