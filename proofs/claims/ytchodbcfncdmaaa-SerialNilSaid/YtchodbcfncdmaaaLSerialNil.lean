/- The walk of SerialNil: for all arguments it returns true and leaves what was there as it was. -/
import Derived.Test.YtchodbcfncdmaaaSerN
import Derived.Test.YtchodbcfncdmaaaEx31
import Derived.Test.YtchodbcfncdmaaaArgs31
import Derived.Deep.QuietTactic
import Derived.BigQuiet
set_option linter.unusedVariables false
set_option linter.unusedSimpArgs false
namespace Go.Proofs.Ytchodbcfncdmaaa
open Go.RowKit

def deadCells : Array Value := (SLog.mk 0 0 (List.replicate 256 Ent.zero)).cells.toArray.setIfInBounds 0 (.bool false)
theorem run_build_zlog (w : World) : (Instr.build 53 #[]).run Try.prog w = .ok (.agg deadCells) w := by kernel_rfl
theorem deadCells_0 : deadCells[0]? = some (.bool false) := by kernel_rfl

theorem under_entry : Try.prog.underlying 47 = some (.struct (Try.prog.fieldsOf 47)) := by kernel_rfl
theorem stood_entry : Try.prog.stoodInHeld 47 = false := by kernel_rfl
theorem guard_entry : Try.prog.eqGuardType Try.prog.depth 47 = false := by kernel_rfl
def zeroEnt : Value := .agg #[.int .u32 0, .int .i64 0, .int .i64 0, .int .i64 0]
theorem neq_zero (w : World) : (Op.equalIn 10000 47 zeroEnt zeroEnt).run Try.prog w = .ok true w := by kernel_rfl
def nilAt (B : Nat) (i : Nat) : Option Addr := if i = 0 then none else some ⟨B, 0, none⟩
/-- What holds at the head of a round. w.heap.size: the block of x; + 1: the dead log; + 2: the slice. -/
def NilRel (w : World) (x : LOp) (v5 : Value) (wr : World) : Prop :=
  ∃ i : Nat, i ≤ 2 ∧ v5 = .int .i64 i ∧ Same w wr ∧ wr.heap[w.heap.size]? = some (.cells x.cells.toArray 25 (0, 0)) ∧ wr.heap[w.heap.size + 1]? = some (.cells deadCells 53 (0, 0)) ∧
    wr.heap[w.heap.size + 1 + 1]? = some (.cells #[.pointer none, .pointer (some ⟨w.heap.size + 1, 0, none⟩)] 27 (0, 0))

set_option maxRecDepth 100000 in
set_option maxHeartbeats 1000000 in
theorem SerialNil_walk (x : LOp) (w : World) :
    Calls Try.prog 9 #[.agg x.cells.toArray] w fun e w' => e = .returned (.bool true) ∧ Same w w' := by
  obtain ⟨k, m, c, s, ev, ms, bk⟩ := x
  simp only [LOp.cells]
  go_enter Try.func9, Try.ntmps9
  go_wp2_with (first | (refine wpl_build (t := 53) _ #[] (.agg deadCells) ?_ (run_build_zlog _) ?_; · simp [Act.eval]) | (refine wpl_box (t := 53) _ deadCells rfl ?_))
  go_loopw [5] (fun v wr => NilRel w ⟨k, m, c, s, ev, ms, bk⟩ v wr) (fun v _ => 2 - (intOf v).toNat)
  case atStart =>
    refine ⟨0, by omega, rfl, (((Chg.refl _ w).alloc _).alloc _).alloc _, ?_, ?_, ?_⟩
    · exact at_alloc (at_alloc (at_new _ _))
    · refine at_alloc ?_
      have := at_new (w.alloc (Obj.cells #[Value.int IntKind.i64 k, Value.int IntKind.i64 m, Value.int IntKind.i64 c, Value.int IntKind.i64 s, Value.int IntKind.i64 ev, Value.int IntKind.i64 ms, Value.int IntKind.u32 bk] 25)) (Obj.cells deadCells 53)
      rwa [World.size_alloc] at this
    · have := at_new ((w.alloc (Obj.cells #[Value.int IntKind.i64 k, Value.int IntKind.i64 m, Value.int IntKind.i64 c, Value.int IntKind.i64 s, Value.int IntKind.i64 ev, Value.int IntKind.i64 ms, Value.int IntKind.u32 bk] 25)).alloc (Obj.cells deadCells 53)) (Obj.cells #[Value.pointer none, Value.pointer (some { block := w.heap.size + 1, off := 0 })] 27)
      rwa [World.size_alloc, World.size_alloc] at this
  case round =>
    obtain ⟨i, hi, rfl, hs, hx, hd, hp⟩ := hrel
    by_cases hlt2 : i < 2
    · have hb2 : (i : Int) < 2 := by omega
      have cx2 : wr.cell? ⟨w.heap.size, 2, none⟩ = some (.int .i64 c) := by rw [cell_at hx]; rfl
      have cx3 : wr.cell? ⟨w.heap.size, 3, none⟩ = some (.int .i64 s) := by rw [cell_at hx]; rfl
      have cx4 : wr.cell? ⟨w.heap.size, 4, none⟩ = some (.int .i64 ev) := by rw [cell_at hx]; rfl
      have cx5 : wr.cell? ⟨w.heap.size, 5, none⟩ = some (.int .i64 ms) := by rw [cell_at hx]; rfl
      have cx6 : wr.cell? ⟨w.heap.size, 6, none⟩ = some (.int .u32 bk) := by rw [cell_at hx]; rfl
      obtain ⟨p, hpp, hdead⟩ : ∃ p, wr.cell? ⟨w.heap.size + 1 + 1, i, none⟩ = some (.pointer p) ∧ Dead wr p := by
        match i, hlt2 with
        | 0, _ => exact ⟨none, by rw [cell_of_row _ _ _ _ _ _ hp]; rfl, .inl rfl⟩
        | 1, _ => exact ⟨some ⟨w.heap.size + 1, 0, none⟩, by rw [cell_of_row _ _ _ _ _ _ hp]; rfl, .inr ⟨_, rfl, by rw [cell_of_row _ _ _ _ _ _ hd]; exact deadCells_0⟩⟩
      have HS := Lib.hid hs
      have HX := Lib.hid (And.intro hx (And.intro hd hp))
      have HD := Lib.hid hdead
      clear hs hx hd hp hdead
      go_wp2
      refine wp_tail 6 (by kernel_rfl) (by kernel_rfl) ?_
      simp only [List.take_succ_cons, List.take_zero, List.drop_succ_cons, List.drop_zero]
      repeat still_step
      try refine wpStill_nil ?_
      go_wp2_with (go_at_call 17; refine (forget_dead _ _ _ HD.out.drew).mono ?_; rintro e w' ⟨rfl, rfl⟩)
      refine wp_tail 10 (by kernel_rfl) (by kernel_rfl) ?_
      simp only [List.take_succ_cons, List.take_zero, List.drop_succ_cons, List.drop_zero]
      repeat still_step
      try refine wpStill_nil ?_
      go_wp2_with (first | (go_at_call 12; refine (issue_dead _ _ _ _ _ HD.out.drew.drew).mono ?_; rintro e w' ⟨rfl, rfl⟩) | (go_at_call 21; refine (find_dead _ _ _ HD.out.drew.drew).mono ?_; rintro e w1 ⟨rfl, hs1⟩; have hs1' := (Chg.refl (fun _ => False) wr).drew.drew.trans hs1; clear hs1; have l1 : w.heap.size + 1 + 1 < w1.heap.size := Nat.lt_of_lt_of_le (lt_of_at HX.out.2.2) hs1'.size; replace cx2 := hs1'.cell cx2 (fun q => q); replace cx3 := hs1'.cell cx3 (fun q => q); replace cx4 := hs1'.cell cx4 (fun q => q); replace cx5 := hs1'.cell cx5 (fun q => q); replace cx6 := hs1'.cell cx6 (fun q => q); replace hpp := hs1'.cell hpp (fun q => q); have HS1 := Lib.hid hs1'; clear hs1'))
      have l0 : w.heap.size < w1.heap.size := by omega
      have hdead1 : ∀ o n, Dead ((w1.alloc o).drewN n) p := fun o n => ((HD.out.chg HS1.out (fun _ _ q => q)).alloc o)
      have HD1 := Lib.hid hdead1
      clear hdead1
      have nz := neq_zero
      have ge := guard_entry
      simp only [zeroEnt] at nz
      go_quiet ((first | (go_at_call 18; exact Calls.quiet_of_same ((latest_dead _ _ _ _ (HD1.out _ _)).mono (fun _ _ ⟨a, b⟩ => ⟨a, b.symm⟩))) | (go_at_call 13; exact Calls.quiet_of_same ((check_dead _ _ _ _ _ (HD1.out _ _)).mono (fun _ _ ⟨a, b⟩ => ⟨a, b.symm⟩)))))
      go_wp2
      go_roundw
      case rel =>
        have hall := HX.out
        have hs1 := HS1.out
        refine ⟨i + 1, by omega, by go_num, ?_, ?_, ?_, ?_⟩
        · refine (HS.out.trans hs1).trans ?_
          repeat (first | (with_reducible refine Chg.drew ?_) | (with_reducible refine Chg.drewN ?_ _) | (with_reducible refine Chg.alloc ?_ _) | (with_reducible refine Chg.setCell ?_ _ _ ?_; rotate_left 1; · (intro q; first | (simp; done) | (exfalso; revert q; simp; done) | (exfalso; revert q; simp; omega) | (simp; omega))))
          exact Chg.refl _ _
        · exact at_alloc (hs1.at_ hall.1 (fun q => q))
        · exact at_alloc (hs1.at_ hall.2.1 (fun q => q))
        · exact at_alloc (hs1.at_ hall.2.2 (fun q => q))
      case measure => simp [intOf]; omega
    · have hb2 : ¬ (i : Int) < 2 := by omega
      have HS := Lib.hid hs
      clear hs hx hd hp
      go_wp2_with (first | (go_at_call 10; refine (example31_ok _).mono ?_; rintro e w1 ⟨rfl, hs⟩; have HS1 := Lib.hid hs; clear hs))
      go_ret
      exact ⟨rfl, HS.out.trans HS1.out⟩
end Go.Proofs.Ytchodbcfncdmaaa
