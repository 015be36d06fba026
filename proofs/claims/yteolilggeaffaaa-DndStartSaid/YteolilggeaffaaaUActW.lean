/- compositorref40.Action's walk. -/
import Derived.Test.YteolilggeaffaaaUAct
set_option linter.unusedVariables false
set_option linter.unusedSimpArgs false
set_option maxRecDepth 100000
namespace Go.Proofs.Yteolilggeaffaaa
open Go.RowKit

set_option maxRecDepth 100000 in
set_option maxHeartbeats 4000000 in
theorem uaction_ok (s t p m : Int) (w : World) : Calls Try.prog 19 #[.int .i64 s, .int .i64 t, .int .i64 p, .int .i64 m] w fun e w' => e = .returned (.int .i64 (actionV s t p m)) ∧ w = w' := by
  rw [action_eq]
  unfold commonV
  cases h0 : (bits BinOp.and IntKind.i64 (bits BinOp.and IntKind.i64 s t) 7 == 0)
  · cases h1 : (bits BinOp.and IntKind.i64 (bits BinOp.and IntKind.i64 (bits BinOp.and IntKind.i64 s t) 7) 1 != 0) <;> cases h2 : (bits BinOp.and IntKind.i64 (bits BinOp.and IntKind.i64 (bits BinOp.and IntKind.i64 s t) 7) 2 != 0) <;>
    cases m4 : (bits BinOp.and IntKind.i64 m 4 != 0) <;> cases m1 : (bits BinOp.and IntKind.i64 m 1 != 0) <;> cases hs : singleV p <;>
    cases hp : (bits BinOp.and IntKind.i64 (bits BinOp.and IntKind.i64 (bits BinOp.and IntKind.i64 s t) 7) p != 0)
    all_goals
      have HV := Lib.hid (show uactionV (bits BinOp.and IntKind.i64 (bits BinOp.and IntKind.i64 s t) 7) p m = _ by unfold uactionV; rw [h0, h1, h2, m4, m1, hs, hp])
      have HS := Lib.hid hs
      have h1' := beq_of_bne _ h1
      have h2' := beq_of_bne _ h2
      have m4' := beq_of_bne _ m4
      have m1' := beq_of_bne _ m1
      have hp' := beq_of_bne _ hp
      simp only [Bool.not_true, Bool.not_false] at h1' h2' m4' m1' hp'
      clear hs
      go_enter Try.func19, Try.ntmps19
      go_wp2_with (go_at_call 46; refine (single_v _ _ _ HS.out).mono ?_; rintro e w' ⟨rfl, rfl⟩)
      go_ret
      exact ⟨by rw [HV.out]; rfl, rfl⟩
  · have HV := Lib.hid (show uactionV (bits BinOp.and IntKind.i64 (bits BinOp.and IntKind.i64 s t) 7) p m = 0 by unfold uactionV; rw [h0]; rfl)
    go_enter Try.func19, Try.ntmps19
    go_wp2
    go_ret
    exact ⟨by rw [HV.out]; rfl, rfl⟩
end Go.Proofs.Yteolilggeaffaaa
