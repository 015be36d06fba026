/- Parts of the walk, packed: AppB, PipB. -/
import Derived.Test.YtndldjopgbhphaaPk06
import Derived.Deep.Upon
import Derived.Test.YtndldjopgbhphaaPipS
import Derived.Test.YtndldjopgbhphaaPipX
import Derived.Laws.BytesArg
set_option linter.unusedVariables false
set_option linter.unusedSimpArgs false
set_option maxRecDepth 100000
namespace Go.Proofs.Ytndldjopgbhphaa
open Go.RowKit

theorem wpl_append_nothing {P : Program} {ops : Array Oper} {Q : Exit → Act → World → Prop} {rest : List Oper} {a : Act} {w : World} {d : Option Tmp} {ty t e : TypeId} {pst : String} {ed : Array Edge} {s x : Operand} {size bytes : Nat} {z : Value}
    (ht : P.underlying t = some (.slice e)) (hi : (P.info? e).map (fun i => (i.zero, i.size, i.bytes)) = some (some z, size, bytes)) (A0 : Option Addr) (n cap : Nat) (hle : n ≤ cap) (hs : a.eval s = .slice A0 n cap) (A : Option Addr) (c : Nat) (hx : a.eval x = .slice A 0 c)
    (h : wpList P ops Q rest (a.put d (.slice A0 n cap)) w) :
    wpList P ops Q (⟨d, .call { callee := .builtin .append, args := #[s, x], argTypes := #[t, t] }, ty, pst, ed, none⟩ :: rest) a w := by
  obtain ⟨i, hi0, hz0, hz1, hz2⟩ := info_parts hi
  have hsrc : Go.Src P i.size t (.slice A 0 c) 0 [] w := by
    cases A with
    | none => exact Go.Src.ofNil w ht c
    | some ad => exact Go.Src.ofSlice w ht ad 0 c [] (by simp) (fun j u hj => by simp at hj) (fun u hu => by simp at hu)
  have hr := run_append_nothing w t t ty e i ht hi0 A0 n cap hle (.slice A 0 c) hsrc
  refine wpl_ok (.slice A0 n cap) rfl ?_ h
  unfold execOp
  simp only [resolve, invoke, builtin, Sem.run_bind, Sem.run_pure, Result.andThen_ok, List.map_toArray, List.map_cons, List.map_nil, hs, hx, hr]

theorem own_form {w : World} {base : Nat} {e : TypeId} {size : Nat} {v : Value} {n : Nat} {ys : List Value} (h : w.ownsRow base e size v n ys) : ∃ A cap, v = .slice A n cap ∧ n ≤ cap := by
  rcases h.2 with ⟨rfl, rfl⟩ | ⟨g, cap, cur, rfl, hb, hg, hc, _⟩
  · exact ⟨none, 0, rfl, Nat.le_refl _⟩
  · exact ⟨_, cap, rfl, hc⟩

theorem wpl_appendAny {ops : Array Oper} {Q : Exit → Act → World → Prop} {rest : List Oper} {a : Act} {w : World} {d : Option Tmp} {ty : TypeId} {pst : String} {ed : Array Edge} {s x : Operand} {R : Nat → Prop}
    (base : Nat) (v : Value) (n : Nat) (ys : List Int) (hown : w.ownsRow base 5 1 v n (ys.map (Value.int .u8))) (hs : a.eval s = v) (A : Option Addr) (m c : Nat) (xs : List Int) (hx : a.eval x = .slice A m c) (hb : BytesAt w R A m c xs)
    (hn : n + m ≤ 10000000) (hbase : base ≤ w.heap.size)
    (h : ∀ A' cap w', w'.ownsRow base 5 1 (.slice A' (n + m) cap) (n + m) ((ys ++ xs).map (Value.int .u8)) → Chg (fun y => v.ownBlock = some y) w w' → wpList Try.prog ops Q rest (a.put d (.slice A' (n + m) cap)) w') :
    wpList Try.prog ops Q (⟨d, .call { callee := .builtin .append, args := #[s, x], argTypes := #[22, 22] }, ty, pst, ed, none⟩ :: rest) a w := by
  rcases Nat.eq_zero_or_pos m with h0 | h0
  · subst h0
    obtain ⟨A0, cap0, rfl, hle⟩ := own_form hown
    obtain rfl : xs = [] := List.length_eq_zero_iff.1 hb.1
    refine wpl_append_nothing Try.underlying22 info_u8 A0 n cap0 hle hs A c hx ?_
    exact h A0 cap0 w (by simpa using hown) (Chg.refl _ _)
  · exact wpl_appendB base v n ys hown hs A m c xs hx hb h0 hn hbase (fun g cap w' h1 h2 _ _ => h _ cap w' h1 h2)
end Go.Proofs.Ytndldjopgbhphaa

namespace Go.Proofs.Ytndldjopgbhphaa
open Go.RowKit

/-- The pipe in block b was made since w0, and what lay in w0 is as it was. -/
structure Pip (w0 w : World) (b : Nat) (R : Nat → Prop) (q : PSt) : Prop where
  pipe : PipeAt w b R q
  fresh : ∀ x, R x → w0.heap.size ≤ x
  same : Same w0 w
section
variable {w0 w w' : World} {b : Nat} {R : Nat → Prop} {q : PSt}
theorem Pip.step (h : Pip w0 w b R q) {q' : PSt} {S : Nat → Prop} (hp : PipeAt w' b R q') (hc : Chg S w w') (hs : ∀ x, S x → R x) : Pip w0 w' b R q' :=
  ⟨hp, h.fresh, h.same.then_ hc (fun i hi q => by have := h.fresh i (hs i q); omega)⟩
theorem Pip.next (h : Pip w0 w b R q) {S : Nat → Prop} (hc : Chg S w w') (hs : ∀ x, S x → ¬ R x ∧ w0.heap.size ≤ x) : Pip w0 w' b R q :=
  ⟨h.pipe.chg hc (fun x hr hx => (hs x hx).1 hr), h.fresh, h.same.then_ hc (fun i hi q => by have := (hs i q).2; omega)⟩
theorem Pip.same_ (h : Pip w0 w b R q) (hc : Same w w') : Pip w0 w' b R q := h.next hc (fun _ q => q.elim)
theorem pgrant_v (q' : PSt) (v n : Int) (h : Pip w0 w b R q) (hn : n ≤ 9223372036854775807) (h1 : q.grE n = v) (h2 : q.grant n = q') :
    Calls Try.prog 39 #[.pointer (some ⟨b, 0, none⟩), .int .i64 n] w fun e w' => e = .returned (.int .i64 v) ∧ Pip w0 w' b R q' ∧ Chg R w w' := by
  refine (pgrant_ok b w R q n h.pipe hn).mono ?_
  rintro e w' ⟨rfl, hp, hc⟩
  subst h1 h2
  have hb : ∀ x, x = b → R x := fun x e => by rw [e]; exact h.pipe.rb
  exact ⟨rfl, h.step hp hc hb, hc.mono (fun x _ e => hb x e)⟩
theorem pclose_v (q' : PSt) (v : Int) (h : Pip w0 w b R q) (h1 : q.clE = v) (h2 : q.close = q') :
    Calls Try.prog 53 #[.pointer (some ⟨b, 0, none⟩)] w fun e w' => e = .returned (.int .i64 v) ∧ Pip w0 w' b R q' ∧ Chg R w w' := by
  refine (pclose_ok b w R q h.pipe).mono ?_
  rintro e w' ⟨rfl, hp, hc⟩
  subst h1 h2
  have hb : ∀ x, x = b → R x := fun x e => by rw [e]; exact h.pipe.rb
  exact ⟨rfl, h.step hp hc hb, hc.mono (fun x _ e => hb x e)⟩
theorem pcancel_v (q' : PSt) (v : Int) (h : Pip w0 w b R q) (h1 : q.caE = v) (h2 : q.cancel = q') :
    Calls Try.prog 66 #[.pointer (some ⟨b, 0, none⟩)] w fun e w' => e = .returned (.int .i64 v) ∧ Pip w0 w' b R q' ∧ Chg R w w' := by
  refine (pcancel_ok b w R q h.pipe).mono ?_
  rintro e w' ⟨rfl, hp, hc⟩
  subst h1 h2
  have hb : ∀ x, x = b → R x := fun x e => by rw [e]; exact h.pipe.rb
  exact ⟨rfl, h.step hp hc hb, hc.mono (fun x _ e => hb x e)⟩
def PWroteV (w0 w : World) (b : Nat) (R : Nat → Prop) (q' : PSt) (n v : Int) (e : Ending) (w' : World) : Prop :=
  e = .returned (.tuple #[.int .i64 n, .int .i64 v]) ∧ ∃ R', Pip w0 w' b R' q' ∧ (∀ x, R' x → R x ∨ w.heap.size ≤ x) ∧ Chg R w w'
theorem pwrite_v (q' : PSt) (n v : Int) (A : Option Addr) (len cap : Nat) (xs : List Int) (h : Pip w0 w b R q) (hx : BytesAt w (fun _ => True) A len cap xs) (h0 : (q.wrN xs.length : Int) = n) (h1 : q.wrE = v) (h2 : q.write xs = q') :
    Calls Try.prog 41 #[.pointer (some ⟨b, 0, none⟩), .slice A len cap] w (PWroteV w0 w b R q' n v) := by
  refine (pwrite_ok b w R q A len cap xs h.pipe hx).mono ?_
  rintro e w' ⟨rfl, R', hp, hR, hc⟩
  subst h0 h1 h2
  have hs := h.same.size
  refine ⟨rfl, R', ⟨hp, fun x hx => ?_, h.same.then_ hc (fun i hi q => by have := h.fresh i q; omega)⟩, hR, hc⟩
  rcases hR x hx with h3 | h3
  · exact h.fresh x h3
  · omega
def PReadV (w0 w : World) (b : Nat) (R : Nat → Prop) (q' : PSt) (xs : List Int) (v : Int) (e : Ending) (w' : World) : Prop :=
  ∃ A cap, e = .returned (.tuple #[.slice A xs.length cap, .int .i64 v]) ∧ BytesAt w' (fun x => w.heap.size ≤ x) A xs.length cap xs ∧ Pip w0 w' b R q' ∧ Chg R w w'
theorem pread_v (q' : PSt) (xs : List Int) (v m : Int) (h : Pip w0 w b R q) (h0 : q.rd m = xs) (h1 : q.rdE m = v) (h2 : q.read m = q') :
    Calls Try.prog 43 #[.pointer (some ⟨b, 0, none⟩), .int .i64 m] w (PReadV w0 w b R q' xs v) := by
  refine (pread_ok b w R q m h.pipe).mono ?_
  rintro e w' ⟨A, n, cap, rfl, hown, hp, hc⟩
  subst h0 h1 h2
  obtain ⟨A', cap', hv, hb⟩ := BytesAt.of_own hown
  cases hv
  have hl := hb.1
  subst hl
  exact ⟨A, cap, rfl, hb, h.step hp hc (fun _ q => q), hc⟩
def PReadN (w0 w : World) (b : Nat) (R : Nat → Prop) (q' : PSt) (xs : List Int) (n : Nat) (v : Int) (e : Ending) (w' : World) : Prop :=
  ∃ A cap, e = .returned (.tuple #[.slice A n cap, .int .i64 v]) ∧ BytesAt w' (fun x => w.heap.size ≤ x) A n cap xs ∧ Pip w0 w' b R q' ∧ Chg R w w'
theorem pread_n (q' : PSt) (xs : List Int) (n : Nat) (v m : Int) (h : Pip w0 w b R q) (h0 : q.rd m = xs) (hn : xs.length = n) (h1 : q.rdE m = v) (h2 : q.read m = q') :
    Calls Try.prog 43 #[.pointer (some ⟨b, 0, none⟩), .int .i64 m] w (PReadN w0 w b R q' xs n v) := by
  subst hn
  exact pread_v q' xs v m h h0 h1 h2
theorem pnew_v (w : World) (n : Int) (h0 : 1 ≤ n) (h1 : n ≤ 65536) : Calls Try.prog 62 #[.int .i64 n] w fun e w' => ∃ b R, e = .returned (.tuple #[.pointer (some ⟨b, 0, none⟩), .int .i64 0]) ∧ Pip w w' b R (PSt.new n) ∧ Same w w' := by
  refine (pnew_ok w n h0 h1).mono ?_
  rintro e w' ⟨rfl, hp, hc⟩
  exact ⟨_, _, rfl, ⟨hp, fun x hx => by omega, hc⟩, hc⟩
theorem pcredit_v (v : Int) (h : Pip w0 w b R q) (h1 : q.cr = v) : Calls Try.prog 46 #[.pointer (some ⟨b, 0, none⟩)] w fun e w' => e = .returned (.int .i64 v) ∧ w = w' := by
  subst h1; exact pcredit_ok b w R q h.pipe
theorem pbuffered_v (v : Int) (h : Pip w0 w b R q) (h1 : (q.bs.length : Int) = v) : Calls Try.prog 44 #[.pointer (some ⟨b, 0, none⟩)] w fun e w' => e = .returned (.int .i64 v) ∧ w = w' := by
  subst h1; exact pbuffered_ok b w R q h.pipe
theorem pdone_v (v : Bool) (h : Pip w0 w b R q) (h1 : q.done = v) : Calls Try.prog 54 #[.pointer (some ⟨b, 0, none⟩)] w fun e w' => e = .returned (.bool v) ∧ w = w' := by
  subst h1; exact pdone_ok b w R q h.pipe
theorem elem_bytes : Try.prog.underlying 22 = some (.slice (Try.prog.elem 22)) := by kernel_rfl
theorem size_elem (w : World) : (sizeOf (Try.prog.elem 22)).run Try.prog w = .ok 1 w := by kernel_rfl
/-- 's[m:]', the if under one name. -/
theorem slice_from (A : Option Addr) (n c m : Nat) (h : m ≤ n) : ∃ An, An = (if c = m then A else A.map (·.add (m * 1))) ∧ ∀ w, (Instr.sliceAt 22 (.slice A n c) (some (.int .i64 m)) none none).run Try.prog w = .ok (.slice An (n - m) (c - m)) w := by
  refine ⟨_, rfl, fun w => ?_⟩
  rw [run_sliceAt_slice w _ _ _ _ _ elem_bytes, run_slice_l w _ _ _ _ elem_bytes _ _ (by omega) (by omega), size_elem]
  simp [sliced, Result.andThen]
theorem strOfNums_nil : strOfNums [] = ByteArray.empty := rfl
theorem run_cv {A : Option Addr} {n cap : Nat} {xs : List Int} (h : BytesAt w R A n cap xs) : (convert 22 9 (.slice A n cap)).run Try.prog w = .ok (.string (strOfNums xs)) w := by
  rcases Nat.eq_zero_or_pos n with h0 | h0
  · subst h0
    obtain rfl : xs = [] := List.length_eq_zero_iff.1 h.1
    cases A with
    | none => exact run_convert_bytes_nil w _ _ Try.underlying22 Try.underlying5 _ _ _ Try.underlying9
    | some ad =>
      have hl : (loadCells ad 0).run Try.prog w = .ok (([] : List Int).map (Value.int .u8)).toArray w := by
        simpa using run_loadCells_list (P := Try.prog) w ad [] (fun j v hj => by simp at hj)
      rw [run_convert_bytes_string w _ _ _ _ _ _ Try.underlying22 Try.underlying5 Try.underlying9, run_bytesToString w _ _ _ [] hl]
      rfl
  · obtain ⟨b, o, hA, _, _, hc⟩ := h.2.2.2 h0
    subst hA
    exact run_convert_bytes_arg w _ _ Try.underlying22 Try.underlying5 b o n cap xs h.1 (fun i hi => by
      have hx : xs[i]? = some (xs.getD i 0) := by rw [List.getD_eq_getElem?_getD, List.getElem?_eq_getElem (by rw [h.1]; exact hi)]; rfl
      exact hc i _ hx) _ Try.underlying9
end
theorem BytesAt.off {w w' : World} {R : Nat → Prop} {A : Option Addr} {n cap : Nat} {xs : List Int} (h : BytesAt w' (fun x => w.heap.size ≤ x) A n cap xs) (hlt : ∀ x, R x → x < w.heap.size) : BytesAt w' (fun x => ¬ R x) A n cap xs :=
  h.mono (fun x _ hx hr => by have := hlt x hr; omega)
theorem bytes_new (w : World) (T : TypeId) (F : Nat × Nat) (n : Nat) (xs : List Int) (C : Array Value) (hC : C = (xs.map (Value.int .u8)).toArray) (hn : xs.length = n) (hm : n ≤ maxLen) : BytesAt (w.alloc (.cells C T F)) (fun _ => True) (some ⟨w.heap.size, 0, none⟩) n n xs := by
  subst hC
  refine ⟨hn, Nat.le_refl _, hm, fun _ => ⟨w.heap.size, 0, rfl, trivial, by simp, fun j x hj => ?_⟩⟩
  rw [cell_of_row _ _ _ _ _ _ (at_new w _), Nat.zero_add]
  simp [hj]
end Go.Proofs.Ytndldjopgbhphaa
