/- The walks of package compositorref41. -/
import Derived.Test.YtndldjopgbhphaaPipS
import Derived.Test.YtndldjopgbhphaaPk10
set_option linter.unusedVariables false
set_option linter.unusedSimpArgs false
set_option maxRecDepth 100000
namespace Go.Proofs.Ytndldjopgbhphaa
open Go.RowKit

def rpv (q : PSt) (A : Option Addr) (n cap : Nat) : Value := .agg #[.int .i64 q.win, .int .i64 q.cr, .slice A n cap, .bool q.cl, .bool q.cn]
theorem infoQPipe : (Try.prog.info? 83).map (fun i => i.size) = some 5 := by kernel_rfl
theorem run_load_rp {w : World} {g : Nat} {a b c d e : Value} (h : w.heap[g]? = some (.cells #[a, b, c, d, e] 83 (0, 0))) : (loadVar 83 ⟨g, 0, none⟩).run Try.prog w = .ok (.agg #[a, b, c, d, e]) w :=
  run_loadMid (P := Try.prog) (C := [a, b, c, d, e]) 83 0 5 _ h infoQPipe Try.underlying83 rfl (by simp)

theorem qover_ok (q : PSt) (A : Option Addr) (n cap : Nat) (w : World) : Calls Try.prog 68 #[rpv q A n cap] w fun e w' => e = .returned (.bool q.over) ∧ w.alloc (.cells #[.int .i64 q.win, .int .i64 q.cr, .slice A n cap, .bool q.cl, .bool q.cn] 83) = w' := by
  obtain ⟨win, cr, bs, cl, cn⟩ := q
  cases cl <;> cases cn
  all_goals
    unfold rpv
    go_enter Try.func68, Try.ntmps68
    go_wp2
    go_ret
    exact ⟨rfl, rfl⟩
theorem qcredit_ok (q : PSt) (A : Option Addr) (n cap : Nat) (w : World) : Calls Try.prog 47 #[rpv q A n cap] w fun e w' => e = .returned (.int .i64 q.cr) ∧ Same w w' := by
  unfold rpv
  go_enter Try.func47, Try.ntmps47
  go_wp2
  go_ret
  exact ⟨rfl, (Chg.refl _ _).alloc _⟩
theorem qbuffered_ok (q : PSt) (A : Option Addr) (cap : Nat) (w : World) : Calls Try.prog 45 #[rpv q A q.bs.length cap] w fun e w' => e = .returned (.int .i64 q.bs.length) ∧ Same w w' := by
  unfold rpv
  go_enter Try.func45, Try.ntmps45
  go_wp2
  go_ret
  exact ⟨rfl, (Chg.refl _ _).alloc _⟩
def PSt.rdone (q : PSt) : Bool := q.cl && q.bs.isEmpty
theorem qdone_ok (q : PSt) (A : Option Addr) (cap : Nat) (w : World) (hl : q.bs.length ≤ 1048576) : Calls Try.prog 70 #[rpv q A q.bs.length cap] w fun e w' => e = .returned (.bool q.rdone) ∧ w.alloc (.cells #[.int .i64 q.win, .int .i64 q.cr, .slice A q.bs.length cap, .bool q.cl, .bool q.cn] 83) = w' := by
  obtain ⟨win, cr, bs, cl, cn⟩ := q
  simp only at hl ⊢
  have h1 : ((bs.length : Int) == 0) = bs.isEmpty := by cases bs <;> simp; omega
  unfold rpv PSt.rdone
  simp only
  cases cl
  · go_enter Try.func70, Try.ntmps70
    go_wp2
    go_ret
    exact ⟨rfl, rfl⟩
  · cases hb : bs.isEmpty
    all_goals
      rw [hb] at h1
      have HB := Lib.hid hb
      clear hb
      go_enter Try.func70, Try.ntmps70
      go_wp2
      go_ret
      exact ⟨rfl, rfl⟩
theorem qnew_ok (n : Int) (w : World) (h0 : 1 ≤ n) (h1 : n ≤ 65536) : Calls Try.prog 37 #[.int .i64 n] w fun e w' => e = .returned (.tuple #[rpv (PSt.new n) none 0 0, .int .i64 0]) ∧ Same w w' := by
  go_enter Try.func37, Try.ntmps37
  go_wp2
  refine bodyPost_ret (results_cell_tmp Try.results37 rfl (run_load_rp (at_new _ _))) rfl ⟨rfl, (Chg.refl _ _).alloc _⟩
theorem qnew_bad (n : Int) (w : World) (h : n < 1 ∨ 65536 < n) : Calls Try.prog 37 #[.int .i64 n] w fun e w' => e = .returned (.tuple #[rpv ⟨0, 0, [], false, false⟩ none 0 0, .int .i64 6]) ∧ Same w w' := by
  by_cases h0 : n < 1
  · have h2 : ¬ 65536 < n := by omega
    clear h
    go_enter Try.func37, Try.ntmps37
    go_wp2
    refine bodyPost_ret (results_cell_tmp Try.results37 rfl (run_load_rp (at_new _ _))) rfl ⟨rfl, (Chg.refl _ _).alloc _⟩
  · have h2 : 65536 < n := by omega
    clear h
    go_enter Try.func37, Try.ntmps37
    go_wp2
    refine bodyPost_ret (results_cell_tmp Try.results37 rfl (run_load_rp (at_new _ _))) rfl ⟨rfl, (Chg.refl _ _).alloc _⟩

theorem heap_alloc3_1 (w : World) (a b c : Obj) : (((w.alloc a).alloc b).alloc c).heap[w.heap.size + 1]? = some b := by
  have := heap_alloc_new (w.alloc a) b
  have := at_alloc (o' := c) this
  simpa using this
theorem heap_alloc2_1 (w : World) (a b : Obj) : ((w.alloc a).alloc b).heap[w.heap.size + 1]? = some b := by
  have := heap_alloc_new (w.alloc a) b
  simpa using this
theorem same_alloc3 (w : World) (a b c : Obj) : Same w (((w.alloc a).alloc b).alloc c) := (((Chg.refl _ _).alloc _).alloc _).alloc _
/-! ### Cancel -/
def PSt.rcaE (q : PSt) : Int := if q.cn || q.rdone then 20 else 0
def PSt.rcancel (q : PSt) : PSt := if q.cn || q.rdone then q else ⟨q.win, 0, [], false, true⟩
/-- What a call hands back: the pipe, its bytes in a row with R. -/
def QRet (w : World) (R : Nat → Prop) (q : PSt) (more : List Value) (e : Ending) (w' : World) : Prop :=
  ∃ A n cap, e = .returned (.tuple (rpv q A n cap :: more).toArray) ∧ BytesAt w' R A n cap q.bs ∧ Same w w'
theorem same_alloc2 (w : World) (a b : Obj) : Same w ((w.alloc a).alloc b) := ((Chg.refl _ _).alloc _).alloc _
theorem qcancel_ok (q : PSt) (R : Nat → Prop) (A : Option Addr) (n cap : Nat) (w : World) (h : BytesAt w R A n cap q.bs) (hl : q.bs.length ≤ 1048576) :
    Calls Try.prog 65 #[rpv q A n cap] w (QRet w R q.rcancel [.int .i64 q.rcaE]) := by
  have hn : n = q.bs.length := h.1.symm
  subst hn
  have HB := Lib.hid h
  have HD := Lib.hid (fun w => qdone_ok q A cap w hl)
  clear h hl
  unfold rpv at HD ⊢
  unfold PSt.rcancel PSt.rcaE
  cases hcn : q.cn
  · rw [hcn] at HD
    cases hd : q.rdone
    · rw [hd] at HD
      have HX := Lib.hid hd
      have HY := Lib.hid hcn
      clear hd hcn
      go_enter Try.func65, Try.ntmps65
      go_wp2_with fail
      refine (HD.out _).mono ?_
      rintro e w1 ⟨rfl, rfl⟩
      go_wp2
      exact bodyPost_ret (results_cell_tmp Try.results65 rfl (run_load_rp (heap_alloc3_1 _ _ _ _))) rfl ⟨none, 0, 0, rfl, BytesAt.nil _ _, same_alloc3 _ _ _ _⟩
    · rw [hd] at HD
      have HX := Lib.hid hd
      have HY := Lib.hid hcn
      clear hd hcn
      go_enter Try.func65, Try.ntmps65
      go_wp2_with fail
      refine (HD.out _).mono ?_
      rintro e w1 ⟨rfl, rfl⟩
      go_wp2
      exact bodyPost_ret (results_cell_tmp Try.results65 rfl (run_load_rp (heap_alloc3_1 _ _ _ _))) rfl ⟨A, _, cap, by rw [rpv, HY.out]; rfl, HB.out.chg (same_alloc3 _ _ _ _) (fun _ _ q => q), same_alloc3 _ _ _ _⟩
  · have HY := Lib.hid hcn
    clear hcn HD
    go_enter Try.func65, Try.ntmps65
    go_wp2
    exact bodyPost_ret (results_cell_tmp Try.results65 rfl (run_load_rp (heap_alloc2_1 _ _ _))) rfl ⟨A, _, cap, by rw [rpv, HY.out]; rfl, HB.out.chg (same_alloc2 _ _ _) (fun _ _ q => q), same_alloc2 _ _ _⟩

/-! ### Grant -/
theorem qgrant_ok (q : PSt) (R : Nat → Prop) (A : Option Addr) (n cap : Nat) (m : Int) (w : World) (h : BytesAt w R A n cap q.bs) (hok : q.ok) (hm : m ≤ 9223372036854775807) :
    Calls Try.prog 38 #[rpv q A n cap, .int .i64 m] w (QRet w R (q.grant m) [.int .i64 (q.grE m)]) := by
  have hn : n = q.bs.length := h.1.symm
  subst hn
  have HB := Lib.hid h
  have HO := Lib.hid (fun w => qover_ok q A q.bs.length cap w)
  have hsum := hok.sum
  have hw0 := hok.w0
  have hw1 := hok.w1
  have hc0 := hok.c0
  have hl0 : 0 ≤ (q.bs.length : Int) := Int.natCast_nonneg _
  clear h hok
  unfold rpv at HO ⊢
  by_cases h6 : m < 0
  · have e1 : q.grE m = 6 := by unfold PSt.grE; rw [if_pos h6]
    have e2 : q.grant m = q := by unfold PSt.grant; rw [e1]; simp
    rw [e1, e2]
    clear e1 e2 HO
    go_enter Try.func38, Try.ntmps38
    go_wp2
    exact bodyPost_ret (results_cell_tmp Try.results38 rfl (run_load_rp (heap_alloc2_1 _ _ _))) rfl ⟨A, _, cap, rfl, HB.out.chg (same_alloc2 _ _ _) (fun _ _ q => q), same_alloc2 _ _ _⟩
  have h7 : 0 ≤ m := by omega
  cases hov : q.over
  · rw [hov] at HO
    by_cases h18 : m > q.win - q.cr - q.bs.length
    · have e1 : q.grE m = 18 := by unfold PSt.grE; rw [if_neg h6, if_neg (by rw [hov]; simp), if_pos h18]
      have e2 : q.grant m = q := by unfold PSt.grant; rw [e1]; simp
      rw [e1, e2]
      clear e1 e2 hov
      go_enter Try.func38, Try.ntmps38
      go_wp2_with fail
      refine (HO.out _).mono ?_
      rintro e w1 ⟨rfl, rfl⟩
      go_wp2
      exact bodyPost_ret (results_cell_tmp Try.results38 rfl (run_load_rp (heap_alloc3_1 _ _ _ _))) rfl ⟨A, _, cap, rfl, HB.out.chg (same_alloc3 _ _ _ _) (fun _ _ q => q), same_alloc3 _ _ _ _⟩
    · have e1 : q.grE m = 0 := by unfold PSt.grE; rw [if_neg h6, if_neg (by rw [hov]; simp), if_neg h18]
      have e2 : q.grant m = { q with cr := q.cr + m } := by unfold PSt.grant; rw [if_pos e1]
      rw [e1, e2]
      have h18' : m ≤ q.win - q.cr - q.bs.length := by omega
      clear e1 e2 hov h18
      go_enter Try.func38, Try.ntmps38
      go_wp2_with fail
      refine (HO.out _).mono ?_
      rintro e w1 ⟨rfl, rfl⟩
      go_wp2
      exact bodyPost_ret (results_cell_tmp Try.results38 rfl (run_load_rp (heap_alloc3_1 _ _ _ _))) rfl ⟨A, _, cap, rfl, HB.out.chg (same_alloc3 _ _ _ _) (fun _ _ q => q), same_alloc3 _ _ _ _⟩
  · rw [hov] at HO
    have e1 : q.grE m = 20 := by unfold PSt.grE; rw [if_neg h6, if_pos hov]
    have e2 : q.grant m = q := by unfold PSt.grant; rw [e1]; simp
    rw [e1, e2]
    clear e1 e2 hov
    go_enter Try.func38, Try.ntmps38
    go_wp2_with fail
    refine (HO.out _).mono ?_
    rintro e w1 ⟨rfl, rfl⟩
    go_wp2
    exact bodyPost_ret (results_cell_tmp Try.results38 rfl (run_load_rp (heap_alloc3_1 _ _ _ _))) rfl ⟨A, _, cap, rfl, HB.out.chg (same_alloc3 _ _ _ _) (fun _ _ q => q), same_alloc3 _ _ _ _⟩
end Go.Proofs.Ytndldjopgbhphaa
