/- The pipe as a law uses it: made since the law began; each call with its results by name. -/
import Derived.Test.YtndldjopgbhphaaPipS
import Derived.Test.YtndldjopgbhphaaAppB
import Derived.Laws.BytesArg
set_option linter.unusedVariables false
set_option linter.unusedSimpArgs false
set_option maxRecDepth 100000
namespace Go.Proofs.Ytndldjopgbhphaa
open Go.RowKit

/-- The pipe in block b was made since w0, and what lay in w0 is as it was. -/
structure Pip (w0 w : World) (b : Nat) (R : Nat → Prop) (q : PSt) : Prop where
  pipe : PipeAt w b R q
  fresh : ∀ x, R x → w0.heap.size ≤ x
  same : Same w0 w
section
variable {w0 w w' : World} {b : Nat} {R : Nat → Prop} {q : PSt}
theorem Pip.step (h : Pip w0 w b R q) {q' : PSt} {S : Nat → Prop} (hp : PipeAt w' b R q') (hc : Chg S w w') (hs : ∀ x, S x → R x) : Pip w0 w' b R q' :=
  ⟨hp, h.fresh, h.same.then_ hc (fun i hi q => by have := h.fresh i (hs i q); omega)⟩
theorem Pip.next (h : Pip w0 w b R q) {S : Nat → Prop} (hc : Chg S w w') (hs : ∀ x, S x → ¬ R x ∧ w0.heap.size ≤ x) : Pip w0 w' b R q :=
  ⟨h.pipe.chg hc (fun x hr hx => (hs x hx).1 hr), h.fresh, h.same.then_ hc (fun i hi q => by have := (hs i q).2; omega)⟩
theorem Pip.same_ (h : Pip w0 w b R q) (hc : Same w w') : Pip w0 w' b R q := h.next hc (fun _ q => q.elim)
theorem pgrant_v (q' : PSt) (v n : Int) (h : Pip w0 w b R q) (hn : n ≤ 9223372036854775807) (h1 : q.grE n = v) (h2 : q.grant n = q') :
    Calls Try.prog 39 #[.pointer (some ⟨b, 0, none⟩), .int .i64 n] w fun e w' => e = .returned (.int .i64 v) ∧ Pip w0 w' b R q' ∧ Chg R w w' := by
  refine (pgrant_ok b w R q n h.pipe hn).mono ?_
  rintro e w' ⟨rfl, hp, hc⟩
  subst h1 h2
  have hb : ∀ x, x = b → R x := fun x e => by rw [e]; exact h.pipe.rb
  exact ⟨rfl, h.step hp hc hb, hc.mono (fun x _ e => hb x e)⟩
theorem pclose_v (q' : PSt) (v : Int) (h : Pip w0 w b R q) (h1 : q.clE = v) (h2 : q.close = q') :
    Calls Try.prog 53 #[.pointer (some ⟨b, 0, none⟩)] w fun e w' => e = .returned (.int .i64 v) ∧ Pip w0 w' b R q' ∧ Chg R w w' := by
  refine (pclose_ok b w R q h.pipe).mono ?_
  rintro e w' ⟨rfl, hp, hc⟩
  subst h1 h2
  have hb : ∀ x, x = b → R x := fun x e => by rw [e]; exact h.pipe.rb
  exact ⟨rfl, h.step hp hc hb, hc.mono (fun x _ e => hb x e)⟩
theorem pcancel_v (q' : PSt) (v : Int) (h : Pip w0 w b R q) (h1 : q.caE = v) (h2 : q.cancel = q') :
    Calls Try.prog 66 #[.pointer (some ⟨b, 0, none⟩)] w fun e w' => e = .returned (.int .i64 v) ∧ Pip w0 w' b R q' ∧ Chg R w w' := by
  refine (pcancel_ok b w R q h.pipe).mono ?_
  rintro e w' ⟨rfl, hp, hc⟩
  subst h1 h2
  have hb : ∀ x, x = b → R x := fun x e => by rw [e]; exact h.pipe.rb
  exact ⟨rfl, h.step hp hc hb, hc.mono (fun x _ e => hb x e)⟩
def PWroteV (w0 w : World) (b : Nat) (R : Nat → Prop) (q' : PSt) (n v : Int) (e : Ending) (w' : World) : Prop :=
  e = .returned (.tuple #[.int .i64 n, .int .i64 v]) ∧ ∃ R', Pip w0 w' b R' q' ∧ (∀ x, R' x → R x ∨ w.heap.size ≤ x) ∧ Chg R w w'
theorem pwrite_v (q' : PSt) (n v : Int) (A : Option Addr) (len cap : Nat) (xs : List Int) (h : Pip w0 w b R q) (hx : BytesAt w (fun _ => True) A len cap xs) (h0 : (q.wrN xs.length : Int) = n) (h1 : q.wrE = v) (h2 : q.write xs = q') :
    Calls Try.prog 41 #[.pointer (some ⟨b, 0, none⟩), .slice A len cap] w (PWroteV w0 w b R q' n v) := by
  refine (pwrite_ok b w R q A len cap xs h.pipe hx).mono ?_
  rintro e w' ⟨rfl, R', hp, hR, hc⟩
  subst h0 h1 h2
  have hs := h.same.size
  refine ⟨rfl, R', ⟨hp, fun x hx => ?_, h.same.then_ hc (fun i hi q => by have := h.fresh i q; omega)⟩, hR, hc⟩
  rcases hR x hx with h3 | h3
  · exact h.fresh x h3
  · omega
def PReadV (w0 w : World) (b : Nat) (R : Nat → Prop) (q' : PSt) (xs : List Int) (v : Int) (e : Ending) (w' : World) : Prop :=
  ∃ A cap, e = .returned (.tuple #[.slice A xs.length cap, .int .i64 v]) ∧ BytesAt w' (fun x => w.heap.size ≤ x) A xs.length cap xs ∧ Pip w0 w' b R q' ∧ Chg R w w'
theorem pread_v (q' : PSt) (xs : List Int) (v m : Int) (h : Pip w0 w b R q) (h0 : q.rd m = xs) (h1 : q.rdE m = v) (h2 : q.read m = q') :
    Calls Try.prog 43 #[.pointer (some ⟨b, 0, none⟩), .int .i64 m] w (PReadV w0 w b R q' xs v) := by
  refine (pread_ok b w R q m h.pipe).mono ?_
  rintro e w' ⟨A, n, cap, rfl, hown, hp, hc⟩
  subst h0 h1 h2
  obtain ⟨A', cap', hv, hb⟩ := BytesAt.of_own hown
  cases hv
  have hl := hb.1
  subst hl
  exact ⟨A, cap, rfl, hb, h.step hp hc (fun _ q => q), hc⟩
def PReadN (w0 w : World) (b : Nat) (R : Nat → Prop) (q' : PSt) (xs : List Int) (n : Nat) (v : Int) (e : Ending) (w' : World) : Prop :=
  ∃ A cap, e = .returned (.tuple #[.slice A n cap, .int .i64 v]) ∧ BytesAt w' (fun x => w.heap.size ≤ x) A n cap xs ∧ Pip w0 w' b R q' ∧ Chg R w w'
theorem pread_n (q' : PSt) (xs : List Int) (n : Nat) (v m : Int) (h : Pip w0 w b R q) (h0 : q.rd m = xs) (hn : xs.length = n) (h1 : q.rdE m = v) (h2 : q.read m = q') :
    Calls Try.prog 43 #[.pointer (some ⟨b, 0, none⟩), .int .i64 m] w (PReadN w0 w b R q' xs n v) := by
  subst hn
  exact pread_v q' xs v m h h0 h1 h2
theorem pnew_v (w : World) (n : Int) (h0 : 1 ≤ n) (h1 : n ≤ 65536) : Calls Try.prog 62 #[.int .i64 n] w fun e w' => ∃ b R, e = .returned (.tuple #[.pointer (some ⟨b, 0, none⟩), .int .i64 0]) ∧ Pip w w' b R (PSt.new n) ∧ Same w w' := by
  refine (pnew_ok w n h0 h1).mono ?_
  rintro e w' ⟨rfl, hp, hc⟩
  exact ⟨_, _, rfl, ⟨hp, fun x hx => by omega, hc⟩, hc⟩
theorem pcredit_v (v : Int) (h : Pip w0 w b R q) (h1 : q.cr = v) : Calls Try.prog 46 #[.pointer (some ⟨b, 0, none⟩)] w fun e w' => e = .returned (.int .i64 v) ∧ w = w' := by
  subst h1; exact pcredit_ok b w R q h.pipe
theorem pbuffered_v (v : Int) (h : Pip w0 w b R q) (h1 : (q.bs.length : Int) = v) : Calls Try.prog 44 #[.pointer (some ⟨b, 0, none⟩)] w fun e w' => e = .returned (.int .i64 v) ∧ w = w' := by
  subst h1; exact pbuffered_ok b w R q h.pipe
theorem pdone_v (v : Bool) (h : Pip w0 w b R q) (h1 : q.done = v) : Calls Try.prog 54 #[.pointer (some ⟨b, 0, none⟩)] w fun e w' => e = .returned (.bool v) ∧ w = w' := by
  subst h1; exact pdone_ok b w R q h.pipe
theorem elem_bytes : Try.prog.underlying 22 = some (.slice (Try.prog.elem 22)) := by kernel_rfl
theorem size_elem (w : World) : (sizeOf (Try.prog.elem 22)).run Try.prog w = .ok 1 w := by kernel_rfl
/-- 's[m:]', the if under one name. -/
theorem slice_from (A : Option Addr) (n c m : Nat) (h : m ≤ n) : ∃ An, An = (if c = m then A else A.map (·.add (m * 1))) ∧ ∀ w, (Instr.sliceAt 22 (.slice A n c) (some (.int .i64 m)) none none).run Try.prog w = .ok (.slice An (n - m) (c - m)) w := by
  refine ⟨_, rfl, fun w => ?_⟩
  rw [run_sliceAt_slice w _ _ _ _ _ elem_bytes, run_slice_l w _ _ _ _ elem_bytes _ _ (by omega) (by omega), size_elem]
  simp [sliced, Result.andThen]
theorem strOfNums_nil : strOfNums [] = ByteArray.empty := rfl
theorem run_cv {A : Option Addr} {n cap : Nat} {xs : List Int} (h : BytesAt w R A n cap xs) : (convert 22 9 (.slice A n cap)).run Try.prog w = .ok (.string (strOfNums xs)) w := by
  rcases Nat.eq_zero_or_pos n with h0 | h0
  · subst h0
    obtain rfl : xs = [] := List.length_eq_zero_iff.1 h.1
    cases A with
    | none => exact run_convert_bytes_nil w _ _ Try.underlying22 Try.underlying5 _ _ _ Try.underlying9
    | some ad =>
      have hl : (loadCells ad 0).run Try.prog w = .ok (([] : List Int).map (Value.int .u8)).toArray w := by
        simpa using run_loadCells_list (P := Try.prog) w ad [] (fun j v hj => by simp at hj)
      rw [run_convert_bytes_string w _ _ _ _ _ _ Try.underlying22 Try.underlying5 Try.underlying9, run_bytesToString w _ _ _ [] hl]
      rfl
  · obtain ⟨b, o, hA, _, _, hc⟩ := h.2.2.2 h0
    subst hA
    exact run_convert_bytes_arg w _ _ Try.underlying22 Try.underlying5 b o n cap xs h.1 (fun i hi => by
      have hx : xs[i]? = some (xs.getD i 0) := by rw [List.getD_eq_getElem?_getD, List.getElem?_eq_getElem (by rw [h.1]; exact hi)]; rfl
      exact hc i _ hx) _ Try.underlying9
end
theorem BytesAt.off {w w' : World} {R : Nat → Prop} {A : Option Addr} {n cap : Nat} {xs : List Int} (h : BytesAt w' (fun x => w.heap.size ≤ x) A n cap xs) (hlt : ∀ x, R x → x < w.heap.size) : BytesAt w' (fun x => ¬ R x) A n cap xs :=
  h.mono (fun x _ hx hr => by have := hlt x hr; omega)
theorem bytes_new (w : World) (T : TypeId) (F : Nat × Nat) (n : Nat) (xs : List Int) (C : Array Value) (hC : C = (xs.map (Value.int .u8)).toArray) (hn : xs.length = n) (hm : n ≤ maxLen) : BytesAt (w.alloc (.cells C T F)) (fun _ => True) (some ⟨w.heap.size, 0, none⟩) n n xs := by
  subst hC
  refine ⟨hn, Nat.le_refl _, hm, fun _ => ⟨w.heap.size, 0, rfl, trivial, by simp, fun j x hj => ?_⟩⟩
  rw [cell_of_row _ _ _ _ _ _ (at_new w _), Nat.zero_add]
  simp [hj]
end Go.Proofs.Ytndldjopgbhphaa
