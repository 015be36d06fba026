/- The reference's pipe beside the program's: one state for both. -/
import Derived.Test.YtndldjopgbhphaaS41
import Derived.Test.YtndldjopgbhphaaPipB
set_option linter.unusedVariables false
set_option linter.unusedSimpArgs false
set_option maxRecDepth 100000
namespace Go.Proofs.Ytndldjopgbhphaa
open Go.RowKit

/-- The reference forgets 'closed' when it is cancelled. -/
def PSt.toRef (q : PSt) : PSt := { q with cl := q.cl && !q.cn }
theorem toRef_over (q : PSt) : q.toRef.over = q.over := by obtain ⟨a, b, c, cl, cn⟩ := q; cases cl <;> cases cn <;> rfl
theorem toRef_wrN (q : PSt) (l : Nat) : q.toRef.wrN l = q.wrN l := by unfold PSt.wrN; rw [toRef_over]; rfl
theorem toRef_wrE (q : PSt) : q.toRef.wrE = q.wrE := by unfold PSt.wrE; rw [toRef_over]
theorem toRef_write (q : PSt) (xs : List Int) : q.toRef.write xs = (q.write xs).toRef := by unfold PSt.write; rw [toRef_wrN]; rfl
theorem toRef_rdE (q : PSt) (m : Int) : q.toRef.rdE m = q.rdE m := by obtain ⟨a, b, c, cl, cn⟩ := q; cases cl <;> cases cn <;> rfl
theorem toRef_rdN (q : PSt) (m : Int) : q.toRef.rdN m = q.rdN m := by unfold PSt.rdN; rw [toRef_rdE]; rfl
theorem toRef_rd (q : PSt) (m : Int) : q.toRef.rd m = q.rd m := by unfold PSt.rd; rw [toRef_rdN]; rfl
theorem toRef_read (q : PSt) (m : Int) : q.toRef.read m = (q.read m).toRef := by unfold PSt.read; rw [toRef_rdN]; rfl
theorem toRef_grE (q : PSt) (n : Int) : q.toRef.grE n = q.grE n := by unfold PSt.grE; rw [toRef_over]; rfl
theorem toRef_grant (q : PSt) (n : Int) : q.toRef.grant n = (q.grant n).toRef := by unfold PSt.grant; rw [toRef_grE]; split <;> rfl
theorem toRef_clE (q : PSt) : q.toRef.clE = q.clE := by unfold PSt.clE; rw [toRef_over]
theorem toRef_close (q : PSt) : q.toRef.close = q.close.toRef := by obtain ⟨a, b, c, cl, cn⟩ := q; cases cl <;> cases cn <;> rfl
theorem toRef_rdone (q : PSt) : q.toRef.rdone = q.done := by obtain ⟨a, b, c, cl, cn⟩ := q; cases cl <;> cases cn <;> cases c <;> rfl
theorem toRef_caE (q : PSt) : q.toRef.rcaE = q.caE := by unfold PSt.rcaE PSt.caE; rw [toRef_rdone]; rfl
theorem toRef_cancel (q : PSt) : q.toRef.rcancel = q.cancel.toRef := by obtain ⟨a, b, c, cl, cn⟩ := q; cases cl <;> cases cn <;> cases c <;> rfl
theorem toRef_ok {q : PSt} (h : q.ok) : q.toRef.ok := ⟨h.w0, h.w1, h.c0, h.sum, h.cn0, fun hc => h.cl0 (by unfold PSt.toRef at hc; simp only [Bool.and_eq_true] at hc; exact hc.1)⟩

/-- The reference's value of q. -/
def rqv (q : PSt) (A : Option Addr) (n cap : Nat) : Value := .agg #[.int .i64 q.win, .int .i64 q.cr, .slice A n cap, .bool (q.cl && !q.cn), .bool q.cn]
def RRet (w : World) (R : Nat → Prop) (q : PSt) (v : Int) (e : Ending) (w' : World) : Prop :=
  ∃ A n cap, e = .returned (.tuple #[.agg #[.int .i64 q.win, .int .i64 q.cr, .slice A n cap, .bool (q.cl && !q.cn), .bool q.cn], .int .i64 v]) ∧ BytesAt w' R A n cap q.bs ∧ Same w w'
def RRet2 (w : World) (R : Nat → Prop) (q : PSt) (k v : Int) (e : Ending) (w' : World) : Prop :=
  ∃ A n cap, e = .returned (.tuple #[.agg #[.int .i64 q.win, .int .i64 q.cr, .slice A n cap, .bool (q.cl && !q.cn), .bool q.cn], .int .i64 k, .int .i64 v]) ∧ BytesAt w' R A n cap q.bs ∧ Same w w'
def RRead (w : World) (R : Nat → Prop) (q : PSt) (xs : List Int) (v : Int) (e : Ending) (w' : World) : Prop :=
  ∃ A n cap A2 n2 cap2, e = .returned (.tuple #[.agg #[.int .i64 q.win, .int .i64 q.cr, .slice A n cap, .bool (q.cl && !q.cn), .bool q.cn], .slice A2 n2 cap2, .int .i64 v]) ∧ BytesAt w' R A n cap q.bs ∧ BytesAt w' R A2 n2 cap2 xs ∧ Same w w'
section
variable {w : World} {q : PSt} {R : Nat → Prop} {A : Option Addr} {n cap : Nat}
theorem qwrite_q (q' : PSt) (k v : Int) (A1 : Option Addr) (n1 cap1 : Nat) (xs : List Int) (h : BytesAt w R A n cap q.bs) (h1 : BytesAt w (fun _ => True) A1 n1 cap1 xs) (hok : q.ok) (hk : (q.wrN xs.length : Int) = k) (hv : q.wrE = v) (hq : q.write xs = q') :
    Calls Try.prog 40 #[.agg #[.int .i64 q.win, .int .i64 q.cr, .slice A n cap, .bool (q.cl && !q.cn), .bool q.cn], .slice A1 n1 cap1] w (RRet2 w (fun x => R x ∨ w.heap.size ≤ x) q' k v) := by
  have := qwrite_ok q.toRef R A n cap A1 n1 cap1 xs w h h1 (toRef_ok hok)
  rw [toRef_wrN, toRef_wrE, toRef_write, hk, hv, hq] at this
  exact this
theorem qread_q (q' : PSt) (xs : List Int) (v m : Int) (h : BytesAt w R A n cap q.bs) (hok : q.ok) (hx : q.rd m = xs) (hv : q.rdE m = v) (hq : q.read m = q') :
    Calls Try.prog 42 #[.agg #[.int .i64 q.win, .int .i64 q.cr, .slice A n cap, .bool (q.cl && !q.cn), .bool q.cn], .int .i64 m] w (RRead w R q' xs v) := by
  have hl : q.bs.length ≤ 1048576 := by have := hok.sum; have := hok.w1; have := hok.c0; omega
  have := qread_ok q.toRef R A n cap m w h hl
  unfold QReadOut at this
  rw [toRef_rdE, toRef_read, toRef_rd, hx, hv, hq] at this
  exact this
theorem qgrant_q (q' : PSt) (v m : Int) (h : BytesAt w R A n cap q.bs) (hok : q.ok) (hm : m ≤ 9223372036854775807) (hv : q.grE m = v) (hq : q.grant m = q') :
    Calls Try.prog 38 #[.agg #[.int .i64 q.win, .int .i64 q.cr, .slice A n cap, .bool (q.cl && !q.cn), .bool q.cn], .int .i64 m] w (RRet w R q' v) := by
  have := qgrant_ok q.toRef R A n cap m w h (toRef_ok hok) hm
  rw [toRef_grE, toRef_grant, hv, hq] at this
  exact this
theorem qcancel_q (q' : PSt) (v : Int) (h : BytesAt w R A n cap q.bs) (hok : q.ok) (hv : q.caE = v) (hq : q.cancel = q') :
    Calls Try.prog 65 #[.agg #[.int .i64 q.win, .int .i64 q.cr, .slice A n cap, .bool (q.cl && !q.cn), .bool q.cn]] w (RRet w R q' v) := by
  have hl : q.bs.length ≤ 1048576 := by have := hok.sum; have := hok.w1; have := hok.c0; omega
  have := qcancel_ok q.toRef R A n cap w h hl
  rw [toRef_caE, toRef_cancel, hv, hq] at this
  exact this
theorem qcredit_q (q : PSt) (A : Option Addr) (n cap : Nat) (w : World) : Calls Try.prog 47 #[.agg #[.int .i64 q.win, .int .i64 q.cr, .slice A n cap, .bool (q.cl && !q.cn), .bool q.cn]] w fun e w' => e = .returned (.int .i64 q.cr) ∧ Same w w' :=
  qcredit_ok q.toRef A n cap w
theorem qbuffered_q (h : BytesAt w R A n cap q.bs) : Calls Try.prog 45 #[.agg #[.int .i64 q.win, .int .i64 q.cr, .slice A n cap, .bool (q.cl && !q.cn), .bool q.cn]] w fun e w' => e = .returned (.int .i64 q.bs.length) ∧ Same w w' := by
  have hn := h.1
  subst hn
  exact qbuffered_ok q.toRef A cap w
theorem qdone_q (h : BytesAt w R A n cap q.bs) (hok : q.ok) : Calls Try.prog 70 #[.agg #[.int .i64 q.win, .int .i64 q.cr, .slice A n cap, .bool (q.cl && !q.cn), .bool q.cn]] w fun e w' => e = .returned (.bool q.done) ∧ Same w w' := by
  have hl : q.bs.length ≤ 1048576 := by have := hok.sum; have := hok.w1; have := hok.c0; omega
  have hn := h.1
  subst hn
  have := qdone_ok q.toRef A cap w hl
  rw [toRef_rdone] at this
  refine this.mono ?_
  rintro e w' ⟨rfl, rfl⟩
  exact ⟨rfl, (Chg.refl _ _).alloc _⟩
end
end Go.Proofs.Ytndldjopgbhphaa
