/- Parts of the walk, packed: Q41, QB41. -/
import Derived.Test.YteolilggeaffaaaPk03
set_option linter.unusedVariables false
set_option linter.unusedSimpArgs false
set_option maxRecDepth 100000
namespace Go.Proofs.Yteolilggeaffaaa
open Go.RowKit

def rpv (q : PSt) (A : Option Addr) (n cap : Nat) : Value := .agg #[.int .i64 q.win, .int .i64 q.cr, .slice A n cap, .bool q.cl, .bool q.cn]
theorem infoQPipe : (Try.prog.info? 112).map (fun i => i.size) = some 5 := by kernel_rfl
theorem run_load_rp {w : World} {g : Nat} {a b c d e : Value} (h : w.heap[g]? = some (.cells #[a, b, c, d, e] 112 (0, 0))) : (loadVar 112 ⟨g, 0, none⟩).run Try.prog w = .ok (.agg #[a, b, c, d, e]) w :=
  run_loadMid (P := Try.prog) (C := [a, b, c, d, e]) 112 0 5 _ h infoQPipe Try.underlying112 rfl (by simp)

theorem qover_ok (q : PSt) (A : Option Addr) (n cap : Nat) (w : World) : Calls Try.prog 77 #[rpv q A n cap] w fun e w' => e = .returned (.bool q.over) ∧ w.alloc (.cells #[.int .i64 q.win, .int .i64 q.cr, .slice A n cap, .bool q.cl, .bool q.cn] 112) = w' := by
  obtain ⟨win, cr, bs, cl, cn⟩ := q
  cases cl <;> cases cn
  all_goals
    unfold rpv
    go_enter Try.func77, Try.ntmps77
    go_wp2
    go_ret
    exact ⟨rfl, rfl⟩
def PSt.rdone (q : PSt) : Bool := q.cl && q.bs.isEmpty
theorem qdone_ok (q : PSt) (A : Option Addr) (cap : Nat) (w : World) (hl : q.bs.length ≤ 1048576) : Calls Try.prog 87 #[rpv q A q.bs.length cap] w fun e w' => e = .returned (.bool q.rdone) ∧ w.alloc (.cells #[.int .i64 q.win, .int .i64 q.cr, .slice A q.bs.length cap, .bool q.cl, .bool q.cn] 112) = w' := by
  obtain ⟨win, cr, bs, cl, cn⟩ := q
  simp only at hl ⊢
  have h1 : ((bs.length : Int) == 0) = bs.isEmpty := by cases bs <;> simp; omega
  unfold rpv PSt.rdone
  simp only
  cases cl
  · go_enter Try.func87, Try.ntmps87
    go_wp2
    go_ret
    exact ⟨rfl, rfl⟩
  · cases hb : bs.isEmpty
    all_goals
      rw [hb] at h1
      have HB := Lib.hid hb
      clear hb
      go_enter Try.func87, Try.ntmps87
      go_wp2
      go_ret
      exact ⟨rfl, rfl⟩
theorem qnew_ok (n : Int) (w : World) (h0 : 1 ≤ n) (h1 : n ≤ 65536) : Calls Try.prog 75 #[.int .i64 n] w fun e w' => e = .returned (.tuple #[rpv (PSt.new n) none 0 0, .int .i64 0]) ∧ Same w w' := by
  go_enter Try.func75, Try.ntmps75
  go_wp2
  refine bodyPost_ret (results_cell_tmp Try.results75 rfl (run_load_rp (at_new _ _))) rfl ⟨rfl, (Chg.refl _ _).alloc _⟩
theorem qnew_bad (n : Int) (w : World) (h : n < 1 ∨ 65536 < n) : Calls Try.prog 75 #[.int .i64 n] w fun e w' => e = .returned (.tuple #[rpv ⟨0, 0, [], false, false⟩ none 0 0, .int .i64 6]) ∧ Same w w' := by
  by_cases h0 : n < 1
  · have h2 : ¬ 65536 < n := by omega
    clear h
    go_enter Try.func75, Try.ntmps75
    go_wp2
    refine bodyPost_ret (results_cell_tmp Try.results75 rfl (run_load_rp (at_new _ _))) rfl ⟨rfl, (Chg.refl _ _).alloc _⟩
  · have h2 : 65536 < n := by omega
    clear h
    go_enter Try.func75, Try.ntmps75
    go_wp2
    refine bodyPost_ret (results_cell_tmp Try.results75 rfl (run_load_rp (at_new _ _))) rfl ⟨rfl, (Chg.refl _ _).alloc _⟩

theorem heap_alloc3_1 (w : World) (a b c : Obj) : (((w.alloc a).alloc b).alloc c).heap[w.heap.size + 1]? = some b := by
  have := heap_alloc_new (w.alloc a) b
  have := at_alloc (o' := c) this
  simpa using this
theorem heap_alloc2_1 (w : World) (a b : Obj) : ((w.alloc a).alloc b).heap[w.heap.size + 1]? = some b := by
  have := heap_alloc_new (w.alloc a) b
  simpa using this
theorem same_alloc3 (w : World) (a b c : Obj) : Same w (((w.alloc a).alloc b).alloc c) := (((Chg.refl _ _).alloc _).alloc _).alloc _
/-! ### Cancel -/
def PSt.rcaE (q : PSt) : Int := if q.cn || q.rdone then 20 else 0
def PSt.rcancel (q : PSt) : PSt := if q.cn || q.rdone then q else ⟨q.win, 0, [], false, true⟩
/-- What a call hands back: the pipe, its bytes in a row with R. -/
def QRet (w : World) (R : Nat → Prop) (q : PSt) (more : List Value) (e : Ending) (w' : World) : Prop :=
  ∃ A n cap, e = .returned (.tuple (rpv q A n cap :: more).toArray) ∧ BytesAt w' R A n cap q.bs ∧ Same w w'
theorem same_alloc2 (w : World) (a b : Obj) : Same w ((w.alloc a).alloc b) := ((Chg.refl _ _).alloc _).alloc _
theorem qcancel_ok (q : PSt) (R : Nat → Prop) (A : Option Addr) (n cap : Nat) (w : World) (h : BytesAt w R A n cap q.bs) (hl : q.bs.length ≤ 1048576) :
    Calls Try.prog 76 #[rpv q A n cap] w (QRet w R q.rcancel [.int .i64 q.rcaE]) := by
  have hn : n = q.bs.length := h.1.symm
  subst hn
  have HB := Lib.hid h
  have HD := Lib.hid (fun w => qdone_ok q A cap w hl)
  clear h hl
  unfold rpv at HD ⊢
  unfold PSt.rcancel PSt.rcaE
  cases hcn : q.cn
  · rw [hcn] at HD
    cases hd : q.rdone
    · rw [hd] at HD
      have HX := Lib.hid hd
      have HY := Lib.hid hcn
      clear hd hcn
      go_enter Try.func76, Try.ntmps76
      go_wp2_with fail
      refine (HD.out _).mono ?_
      rintro e w1 ⟨rfl, rfl⟩
      go_wp2
      exact bodyPost_ret (results_cell_tmp Try.results76 rfl (run_load_rp (heap_alloc3_1 _ _ _ _))) rfl ⟨none, 0, 0, rfl, BytesAt.nil _ _, same_alloc3 _ _ _ _⟩
    · rw [hd] at HD
      have HX := Lib.hid hd
      have HY := Lib.hid hcn
      clear hd hcn
      go_enter Try.func76, Try.ntmps76
      go_wp2_with fail
      refine (HD.out _).mono ?_
      rintro e w1 ⟨rfl, rfl⟩
      go_wp2
      exact bodyPost_ret (results_cell_tmp Try.results76 rfl (run_load_rp (heap_alloc3_1 _ _ _ _))) rfl ⟨A, _, cap, by rw [rpv, HY.out]; rfl, HB.out.chg (same_alloc3 _ _ _ _) (fun _ _ q => q), same_alloc3 _ _ _ _⟩
  · have HY := Lib.hid hcn
    clear hcn HD
    go_enter Try.func76, Try.ntmps76
    go_wp2
    exact bodyPost_ret (results_cell_tmp Try.results76 rfl (run_load_rp (heap_alloc2_1 _ _ _))) rfl ⟨A, _, cap, by rw [rpv, HY.out]; rfl, HB.out.chg (same_alloc2 _ _ _) (fun _ _ q => q), same_alloc2 _ _ _⟩

/-! ### Grant -/
theorem qgrant_ok (q : PSt) (R : Nat → Prop) (A : Option Addr) (n cap : Nat) (m : Int) (w : World) (h : BytesAt w R A n cap q.bs) (hok : q.ok) (hm : m ≤ 9223372036854775807) :
    Calls Try.prog 57 #[rpv q A n cap, .int .i64 m] w (QRet w R (q.grant m) [.int .i64 (q.grE m)]) := by
  have hn : n = q.bs.length := h.1.symm
  subst hn
  have HB := Lib.hid h
  have HO := Lib.hid (fun w => qover_ok q A q.bs.length cap w)
  have hsum := hok.sum
  have hw0 := hok.w0
  have hw1 := hok.w1
  have hc0 := hok.c0
  have hl0 : 0 ≤ (q.bs.length : Int) := Int.natCast_nonneg _
  clear h hok
  unfold rpv at HO ⊢
  by_cases h6 : m < 0
  · have e1 : q.grE m = 6 := by unfold PSt.grE; rw [if_pos h6]
    have e2 : q.grant m = q := by unfold PSt.grant; rw [e1]; simp
    rw [e1, e2]
    clear e1 e2 HO
    go_enter Try.func57, Try.ntmps57
    go_wp2
    exact bodyPost_ret (results_cell_tmp Try.results57 rfl (run_load_rp (heap_alloc2_1 _ _ _))) rfl ⟨A, _, cap, rfl, HB.out.chg (same_alloc2 _ _ _) (fun _ _ q => q), same_alloc2 _ _ _⟩
  have h7 : 0 ≤ m := by omega
  cases hov : q.over
  · rw [hov] at HO
    by_cases h18 : m > q.win - q.cr - q.bs.length
    · have e1 : q.grE m = 18 := by unfold PSt.grE; rw [if_neg h6, if_neg (by rw [hov]; simp), if_pos h18]
      have e2 : q.grant m = q := by unfold PSt.grant; rw [e1]; simp
      rw [e1, e2]
      clear e1 e2 hov
      go_enter Try.func57, Try.ntmps57
      go_wp2_with fail
      refine (HO.out _).mono ?_
      rintro e w1 ⟨rfl, rfl⟩
      go_wp2
      exact bodyPost_ret (results_cell_tmp Try.results57 rfl (run_load_rp (heap_alloc3_1 _ _ _ _))) rfl ⟨A, _, cap, rfl, HB.out.chg (same_alloc3 _ _ _ _) (fun _ _ q => q), same_alloc3 _ _ _ _⟩
    · have e1 : q.grE m = 0 := by unfold PSt.grE; rw [if_neg h6, if_neg (by rw [hov]; simp), if_neg h18]
      have e2 : q.grant m = { q with cr := q.cr + m } := by unfold PSt.grant; rw [if_pos e1]
      rw [e1, e2]
      have h18' : m ≤ q.win - q.cr - q.bs.length := by omega
      clear e1 e2 hov h18
      go_enter Try.func57, Try.ntmps57
      go_wp2_with fail
      refine (HO.out _).mono ?_
      rintro e w1 ⟨rfl, rfl⟩
      go_wp2
      exact bodyPost_ret (results_cell_tmp Try.results57 rfl (run_load_rp (heap_alloc3_1 _ _ _ _))) rfl ⟨A, _, cap, rfl, HB.out.chg (same_alloc3 _ _ _ _) (fun _ _ q => q), same_alloc3 _ _ _ _⟩
  · rw [hov] at HO
    have e1 : q.grE m = 20 := by unfold PSt.grE; rw [if_neg h6, if_pos hov]
    have e2 : q.grant m = q := by unfold PSt.grant; rw [e1]; simp
    rw [e1, e2]
    clear e1 e2 hov
    go_enter Try.func57, Try.ntmps57
    go_wp2_with fail
    refine (HO.out _).mono ?_
    rintro e w1 ⟨rfl, rfl⟩
    go_wp2
    exact bodyPost_ret (results_cell_tmp Try.results57 rfl (run_load_rp (heap_alloc3_1 _ _ _ _))) rfl ⟨A, _, cap, rfl, HB.out.chg (same_alloc3 _ _ _ _) (fun _ _ q => q), same_alloc3 _ _ _ _⟩
end Go.Proofs.Yteolilggeaffaaa

namespace Go.Proofs.Yteolilggeaffaaa
open Go.RowKit

/-- The reference forgets 'closed' when it is cancelled. -/
def PSt.toRef (q : PSt) : PSt := { q with cl := q.cl && !q.cn }
theorem toRef_over (q : PSt) : q.toRef.over = q.over := by obtain ⟨a, b, c, cl, cn⟩ := q; cases cl <;> cases cn <;> rfl
theorem toRef_wrN (q : PSt) (l : Nat) : q.toRef.wrN l = q.wrN l := by unfold PSt.wrN; rw [toRef_over]; rfl
theorem toRef_wrE (q : PSt) : q.toRef.wrE = q.wrE := by unfold PSt.wrE; rw [toRef_over]
theorem toRef_write (q : PSt) (xs : List Int) : q.toRef.write xs = (q.write xs).toRef := by unfold PSt.write; rw [toRef_wrN]; rfl
theorem toRef_rdE (q : PSt) (m : Int) : q.toRef.rdE m = q.rdE m := by obtain ⟨a, b, c, cl, cn⟩ := q; cases cl <;> cases cn <;> rfl
theorem toRef_rdN (q : PSt) (m : Int) : q.toRef.rdN m = q.rdN m := by unfold PSt.rdN; rw [toRef_rdE]; rfl
theorem toRef_rd (q : PSt) (m : Int) : q.toRef.rd m = q.rd m := by unfold PSt.rd; rw [toRef_rdN]; rfl
theorem toRef_read (q : PSt) (m : Int) : q.toRef.read m = (q.read m).toRef := by unfold PSt.read; rw [toRef_rdN]; rfl
theorem toRef_grE (q : PSt) (n : Int) : q.toRef.grE n = q.grE n := by unfold PSt.grE; rw [toRef_over]; rfl
theorem toRef_grant (q : PSt) (n : Int) : q.toRef.grant n = (q.grant n).toRef := by unfold PSt.grant; rw [toRef_grE]; split <;> rfl
theorem toRef_clE (q : PSt) : q.toRef.clE = q.clE := by unfold PSt.clE; rw [toRef_over]
theorem toRef_close (q : PSt) : q.toRef.close = q.close.toRef := by obtain ⟨a, b, c, cl, cn⟩ := q; cases cl <;> cases cn <;> rfl
theorem toRef_rdone (q : PSt) : q.toRef.rdone = q.done := by obtain ⟨a, b, c, cl, cn⟩ := q; cases cl <;> cases cn <;> cases c <;> rfl
theorem toRef_caE (q : PSt) : q.toRef.rcaE = q.caE := by unfold PSt.rcaE PSt.caE; rw [toRef_rdone]; rfl
theorem toRef_cancel (q : PSt) : q.toRef.rcancel = q.cancel.toRef := by obtain ⟨a, b, c, cl, cn⟩ := q; cases cl <;> cases cn <;> cases c <;> rfl
theorem toRef_ok {q : PSt} (h : q.ok) : q.toRef.ok := ⟨h.w0, h.w1, h.c0, h.sum, h.cn0, fun hc => h.cl0 (by unfold PSt.toRef at hc; simp only [Bool.and_eq_true] at hc; exact hc.1)⟩

/-- The reference's value of q. -/
def rqv (q : PSt) (A : Option Addr) (n cap : Nat) : Value := .agg #[.int .i64 q.win, .int .i64 q.cr, .slice A n cap, .bool (q.cl && !q.cn), .bool q.cn]
def RRet (w : World) (R : Nat → Prop) (q : PSt) (v : Int) (e : Ending) (w' : World) : Prop :=
  ∃ A n cap, e = .returned (.tuple #[.agg #[.int .i64 q.win, .int .i64 q.cr, .slice A n cap, .bool (q.cl && !q.cn), .bool q.cn], .int .i64 v]) ∧ BytesAt w' R A n cap q.bs ∧ Same w w'
def RRet2 (w : World) (R : Nat → Prop) (q : PSt) (k v : Int) (e : Ending) (w' : World) : Prop :=
  ∃ A n cap, e = .returned (.tuple #[.agg #[.int .i64 q.win, .int .i64 q.cr, .slice A n cap, .bool (q.cl && !q.cn), .bool q.cn], .int .i64 k, .int .i64 v]) ∧ BytesAt w' R A n cap q.bs ∧ Same w w'
def RRead (w : World) (R : Nat → Prop) (q : PSt) (xs : List Int) (v : Int) (e : Ending) (w' : World) : Prop :=
  ∃ A n cap A2 n2 cap2, e = .returned (.tuple #[.agg #[.int .i64 q.win, .int .i64 q.cr, .slice A n cap, .bool (q.cl && !q.cn), .bool q.cn], .slice A2 n2 cap2, .int .i64 v]) ∧ BytesAt w' R A n cap q.bs ∧ BytesAt w' R A2 n2 cap2 xs ∧ Same w w'
section
variable {w : World} {q : PSt} {R : Nat → Prop} {A : Option Addr} {n cap : Nat}
theorem qgrant_q (q' : PSt) (v m : Int) (h : BytesAt w R A n cap q.bs) (hok : q.ok) (hm : m ≤ 9223372036854775807) (hv : q.grE m = v) (hq : q.grant m = q') :
    Calls Try.prog 57 #[.agg #[.int .i64 q.win, .int .i64 q.cr, .slice A n cap, .bool (q.cl && !q.cn), .bool q.cn], .int .i64 m] w (RRet w R q' v) := by
  have := qgrant_ok q.toRef R A n cap m w h (toRef_ok hok) hm
  rw [toRef_grE, toRef_grant, hv, hq] at this
  exact this
theorem qcancel_q (q' : PSt) (v : Int) (h : BytesAt w R A n cap q.bs) (hok : q.ok) (hv : q.caE = v) (hq : q.cancel = q') :
    Calls Try.prog 76 #[.agg #[.int .i64 q.win, .int .i64 q.cr, .slice A n cap, .bool (q.cl && !q.cn), .bool q.cn]] w (RRet w R q' v) := by
  have hl : q.bs.length ≤ 1048576 := by have := hok.sum; have := hok.w1; have := hok.c0; omega
  have := qcancel_ok q.toRef R A n cap w h hl
  rw [toRef_caE, toRef_cancel, hv, hq] at this
  exact this
theorem qdone_q (h : BytesAt w R A n cap q.bs) (hok : q.ok) : Calls Try.prog 87 #[.agg #[.int .i64 q.win, .int .i64 q.cr, .slice A n cap, .bool (q.cl && !q.cn), .bool q.cn]] w fun e w' => e = .returned (.bool q.done) ∧ Same w w' := by
  have hl : q.bs.length ≤ 1048576 := by have := hok.sum; have := hok.w1; have := hok.c0; omega
  have hn := h.1
  subst hn
  have := qdone_ok q.toRef A cap w hl
  rw [toRef_rdone] at this
  refine this.mono ?_
  rintro e w' ⟨rfl, rfl⟩
  exact ⟨rfl, (Chg.refl _ _).alloc _⟩
end
end Go.Proofs.Yteolilggeaffaaa
