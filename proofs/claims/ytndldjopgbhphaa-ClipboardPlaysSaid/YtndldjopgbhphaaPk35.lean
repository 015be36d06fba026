/- Parts of the walk, packed: QB41, VarK. -/
import Derived.Test.YtndldjopgbhphaaS41
import Derived.Test.YtndldjopgbhphaaQ41
import Derived.Test.YtndldjopgbhphaaPk10
import Derived.Test.YtndldjopgbhphaaSerY
import Derived.Test.YtndldjopgbhphaaPk01
import Derived.Laws.Tables
import Derived.Deep.MidRow
import Derived.StillTailTactics
set_option linter.unusedVariables false
set_option linter.unusedSimpArgs false
set_option maxRecDepth 100000
namespace Go.Proofs.Ytndldjopgbhphaa
open Go.RowKit

/-- The reference forgets 'closed' when it is cancelled. -/
def PSt.toRef (q : PSt) : PSt := { q with cl := q.cl && !q.cn }
theorem toRef_over (q : PSt) : q.toRef.over = q.over := by obtain ⟨a, b, c, cl, cn⟩ := q; cases cl <;> cases cn <;> rfl
theorem toRef_wrN (q : PSt) (l : Nat) : q.toRef.wrN l = q.wrN l := by unfold PSt.wrN; rw [toRef_over]; rfl
theorem toRef_wrE (q : PSt) : q.toRef.wrE = q.wrE := by unfold PSt.wrE; rw [toRef_over]
theorem toRef_write (q : PSt) (xs : List Int) : q.toRef.write xs = (q.write xs).toRef := by unfold PSt.write; rw [toRef_wrN]; rfl
theorem toRef_rdE (q : PSt) (m : Int) : q.toRef.rdE m = q.rdE m := by obtain ⟨a, b, c, cl, cn⟩ := q; cases cl <;> cases cn <;> rfl
theorem toRef_rdN (q : PSt) (m : Int) : q.toRef.rdN m = q.rdN m := by unfold PSt.rdN; rw [toRef_rdE]; rfl
theorem toRef_rd (q : PSt) (m : Int) : q.toRef.rd m = q.rd m := by unfold PSt.rd; rw [toRef_rdN]; rfl
theorem toRef_read (q : PSt) (m : Int) : q.toRef.read m = (q.read m).toRef := by unfold PSt.read; rw [toRef_rdN]; rfl
theorem toRef_grE (q : PSt) (n : Int) : q.toRef.grE n = q.grE n := by unfold PSt.grE; rw [toRef_over]; rfl
theorem toRef_grant (q : PSt) (n : Int) : q.toRef.grant n = (q.grant n).toRef := by unfold PSt.grant; rw [toRef_grE]; split <;> rfl
theorem toRef_clE (q : PSt) : q.toRef.clE = q.clE := by unfold PSt.clE; rw [toRef_over]
theorem toRef_close (q : PSt) : q.toRef.close = q.close.toRef := by obtain ⟨a, b, c, cl, cn⟩ := q; cases cl <;> cases cn <;> rfl
theorem toRef_rdone (q : PSt) : q.toRef.rdone = q.done := by obtain ⟨a, b, c, cl, cn⟩ := q; cases cl <;> cases cn <;> cases c <;> rfl
theorem toRef_caE (q : PSt) : q.toRef.rcaE = q.caE := by unfold PSt.rcaE PSt.caE; rw [toRef_rdone]; rfl
theorem toRef_cancel (q : PSt) : q.toRef.rcancel = q.cancel.toRef := by obtain ⟨a, b, c, cl, cn⟩ := q; cases cl <;> cases cn <;> cases c <;> rfl
theorem toRef_ok {q : PSt} (h : q.ok) : q.toRef.ok := ⟨h.w0, h.w1, h.c0, h.sum, h.cn0, fun hc => h.cl0 (by unfold PSt.toRef at hc; simp only [Bool.and_eq_true] at hc; exact hc.1)⟩

/-- The reference's value of q. -/
def rqv (q : PSt) (A : Option Addr) (n cap : Nat) : Value := .agg #[.int .i64 q.win, .int .i64 q.cr, .slice A n cap, .bool (q.cl && !q.cn), .bool q.cn]
def RRet (w : World) (R : Nat → Prop) (q : PSt) (v : Int) (e : Ending) (w' : World) : Prop :=
  ∃ A n cap, e = .returned (.tuple #[.agg #[.int .i64 q.win, .int .i64 q.cr, .slice A n cap, .bool (q.cl && !q.cn), .bool q.cn], .int .i64 v]) ∧ BytesAt w' R A n cap q.bs ∧ Same w w'
def RRet2 (w : World) (R : Nat → Prop) (q : PSt) (k v : Int) (e : Ending) (w' : World) : Prop :=
  ∃ A n cap, e = .returned (.tuple #[.agg #[.int .i64 q.win, .int .i64 q.cr, .slice A n cap, .bool (q.cl && !q.cn), .bool q.cn], .int .i64 k, .int .i64 v]) ∧ BytesAt w' R A n cap q.bs ∧ Same w w'
def RRead (w : World) (R : Nat → Prop) (q : PSt) (xs : List Int) (v : Int) (e : Ending) (w' : World) : Prop :=
  ∃ A n cap A2 n2 cap2, e = .returned (.tuple #[.agg #[.int .i64 q.win, .int .i64 q.cr, .slice A n cap, .bool (q.cl && !q.cn), .bool q.cn], .slice A2 n2 cap2, .int .i64 v]) ∧ BytesAt w' R A n cap q.bs ∧ BytesAt w' R A2 n2 cap2 xs ∧ Same w w'
section
variable {w : World} {q : PSt} {R : Nat → Prop} {A : Option Addr} {n cap : Nat}
theorem qwrite_q (q' : PSt) (k v : Int) (A1 : Option Addr) (n1 cap1 : Nat) (xs : List Int) (h : BytesAt w R A n cap q.bs) (h1 : BytesAt w (fun _ => True) A1 n1 cap1 xs) (hok : q.ok) (hk : (q.wrN xs.length : Int) = k) (hv : q.wrE = v) (hq : q.write xs = q') :
    Calls Try.prog 40 #[.agg #[.int .i64 q.win, .int .i64 q.cr, .slice A n cap, .bool (q.cl && !q.cn), .bool q.cn], .slice A1 n1 cap1] w (RRet2 w (fun x => R x ∨ w.heap.size ≤ x) q' k v) := by
  have := qwrite_ok q.toRef R A n cap A1 n1 cap1 xs w h h1 (toRef_ok hok)
  rw [toRef_wrN, toRef_wrE, toRef_write, hk, hv, hq] at this
  exact this
theorem qread_q (q' : PSt) (xs : List Int) (v m : Int) (h : BytesAt w R A n cap q.bs) (hok : q.ok) (hx : q.rd m = xs) (hv : q.rdE m = v) (hq : q.read m = q') :
    Calls Try.prog 42 #[.agg #[.int .i64 q.win, .int .i64 q.cr, .slice A n cap, .bool (q.cl && !q.cn), .bool q.cn], .int .i64 m] w (RRead w R q' xs v) := by
  have hl : q.bs.length ≤ 1048576 := by have := hok.sum; have := hok.w1; have := hok.c0; omega
  have := qread_ok q.toRef R A n cap m w h hl
  unfold QReadOut at this
  rw [toRef_rdE, toRef_read, toRef_rd, hx, hv, hq] at this
  exact this
theorem qgrant_q (q' : PSt) (v m : Int) (h : BytesAt w R A n cap q.bs) (hok : q.ok) (hm : m ≤ 9223372036854775807) (hv : q.grE m = v) (hq : q.grant m = q') :
    Calls Try.prog 38 #[.agg #[.int .i64 q.win, .int .i64 q.cr, .slice A n cap, .bool (q.cl && !q.cn), .bool q.cn], .int .i64 m] w (RRet w R q' v) := by
  have := qgrant_ok q.toRef R A n cap m w h (toRef_ok hok) hm
  rw [toRef_grE, toRef_grant, hv, hq] at this
  exact this
theorem qcancel_q (q' : PSt) (v : Int) (h : BytesAt w R A n cap q.bs) (hok : q.ok) (hv : q.caE = v) (hq : q.cancel = q') :
    Calls Try.prog 65 #[.agg #[.int .i64 q.win, .int .i64 q.cr, .slice A n cap, .bool (q.cl && !q.cn), .bool q.cn]] w (RRet w R q' v) := by
  have hl : q.bs.length ≤ 1048576 := by have := hok.sum; have := hok.w1; have := hok.c0; omega
  have := qcancel_ok q.toRef R A n cap w h hl
  rw [toRef_caE, toRef_cancel, hv, hq] at this
  exact this
theorem qcredit_q (q : PSt) (A : Option Addr) (n cap : Nat) (w : World) : Calls Try.prog 47 #[.agg #[.int .i64 q.win, .int .i64 q.cr, .slice A n cap, .bool (q.cl && !q.cn), .bool q.cn]] w fun e w' => e = .returned (.int .i64 q.cr) ∧ Same w w' :=
  qcredit_ok q.toRef A n cap w
theorem qbuffered_q (h : BytesAt w R A n cap q.bs) : Calls Try.prog 45 #[.agg #[.int .i64 q.win, .int .i64 q.cr, .slice A n cap, .bool (q.cl && !q.cn), .bool q.cn]] w fun e w' => e = .returned (.int .i64 q.bs.length) ∧ Same w w' := by
  have hn := h.1
  subst hn
  exact qbuffered_ok q.toRef A cap w
theorem qdone_q (h : BytesAt w R A n cap q.bs) (hok : q.ok) : Calls Try.prog 70 #[.agg #[.int .i64 q.win, .int .i64 q.cr, .slice A n cap, .bool (q.cl && !q.cn), .bool q.cn]] w fun e w' => e = .returned (.bool q.done) ∧ Same w w' := by
  have hl : q.bs.length ≤ 1048576 := by have := hok.sum; have := hok.w1; have := hok.c0; omega
  have hn := h.1
  subst hn
  have := qdone_ok q.toRef A cap w hl
  rw [toRef_rdone] at this
  refine this.mono ?_
  rintro e w' ⟨rfl, rfl⟩
  exact ⟨rfl, (Chg.refl _ _).alloc _⟩
end
end Go.Proofs.Ytndldjopgbhphaa

namespace Go.Proofs.Ytndldjopgbhphaa
open Go.RowKit

/-- A variable of a struct type. -/
def VarAt (w : World) (g : Nat) (T : TypeId) (cs : Array Value) : Prop := w.heap[g]? = some (.cells cs T (0, 0))
section
variable {w w' : World} {g k : Nat} {T : TypeId} {cs c2 : Array Value}
theorem VarAt.same (h : VarAt w g T cs) (q : Same w w') : VarAt w' g T cs := q.at_ h (fun q => q)
theorem VarAt.set (h : VarAt w g T cs) (c2 : Array Value) (hne : g ≠ k) : VarAt (w.setRow k c2) g T cs := by
  unfold VarAt
  rw [setRow_other _ _ _ _ hne]
  exact h
theorem VarAt.put (h : VarAt w g T cs) (c2 : Array Value) : VarAt (w.setRow g c2) g T c2 := setRow_heap _ _ _ _ _ _ h
theorem VarAt.alloc (h : VarAt w g T cs) (o : Obj) : VarAt (w.alloc o) g T cs := h.same ((Chg.refl _ _).alloc o)
theorem VarAt.new (w : World) (T : TypeId) (cs : Array Value) : VarAt (w.alloc (.cells cs T)) w.heap.size T cs := at_new _ _
theorem VarAt.newk (e : w.heap.size = k) : VarAt (w.alloc (.cells cs T)) k T cs := by subst e; exact VarAt.new w T cs
theorem VarAt.drew (h : VarAt w g T cs) : VarAt w.drew g T cs := h.same ((Chg.refl _ _).drew)
theorem Chg.setRow {S : Nat → Prop} {u v : World} (h : Chg S u v) (g : Nat) (cs : Array Value) (hg : g < u.heap.size → S g) : Chg S u (v.setRow g cs) :=
  ⟨by rw [setRow_os]; exact h.os, by rw [setRow_tape]; exact h.tape, by rw [setRow_output]; exact h.output, by rw [setRow_size]; exact h.size, fun i hi hs => (setRow_other v g i cs (fun e => hs (by subst e; exact hg hi))).trans (h.block i hi hs)⟩
variable {P : Program} {ops : Array Oper} {Q : Exit → Act → World → Prop} {rest : List Oper} {a : Act} {d : Option Tmp} {ty t : TypeId} {ps : String} {ed : Array Edge}
theorem wpl_storeRow {x y : Operand} (old : Array Value) (hx : a.eval x = .pointer (some ⟨g, 0, none⟩)) (hy : a.eval y = .agg cs) (hg : VarAt w g T old) (hi : (P.info? t).map (·.size) = some cs.size) (hold : old.size = cs.size)
    (h1 : cs.all (·.oneCell') = true) (h : wpList P ops Q rest (a.put d undef) (w.setRow g cs)) : wpList P ops Q (⟨d, .store t x y, ty, ps, ed, none⟩ :: rest) a w :=
  wpl_storev x y ⟨g, 0, none⟩ hx (by rw [hy]; exact run_storeVar_row w g T t old cs hg hi hold h1) h
theorem exec_loadv {x : Operand} {A : Addr} {V : Value} {gd} (hx : a.eval x = .pointer (some A)) (hr : (loadVar t A).run P w = .ok V w) : (execOp a.eval ⟨d, .load t x, ty, ps, ed, gd⟩).run P w = .ok (.value V) w := by
  unfold execOp Instr.loadAt Instr.sureAddr; simp only [hx, Sem.run_bind, Sem.run_pure, hr, Result.andThen_ok]
theorem results_cell3 {fn : Func} {p q r : Tmp} {ta tb tc : TypeId} {tmps : Array Value} {A B C : Addr} {U V Z : Value} (h : fn.results = #[.cell p ta, .cell q tb, .cell r tc]) (hp : tmps.getD p undef = .pointer (some A)) (hq : tmps.getD q undef = .pointer (some B)) (hr : tmps.getD r undef = .pointer (some C))
    (ha : (loadVar ta A).run P w = .ok U w) (hb : (loadVar tb B).run P w = .ok V w) (hc : (loadVar tc C).run P w = .ok Z w) : (results fn tmps).run P w = .ok (.tuple #[U, V, Z]) w := by
  have hp' : tmps[p]?.getD undef = .pointer (some A) := by simpa using hp
  have hq' : tmps[q]?.getD undef = .pointer (some B) := by simpa using hq
  have hr' : tmps[r]?.getD undef = .pointer (some C) := by simpa using hr
  simp [results, h, hp', hq', hr', ha, hb, hc, asAddr, Sem.run_bind, Sem.run_pure]
end
end Go.Proofs.Ytndldjopgbhphaa
