/- compositorref40.Action computes what offer.Action computes. -/
import Derived.Test.YteolilggeaffaaaAct
set_option linter.unusedVariables false
set_option linter.unusedSimpArgs false
set_option maxRecDepth 100000
namespace Go.Proofs.Yteolilggeaffaaa
open Go.RowKit

theorem bits7 (x : Int) : 0 ≤ bits BinOp.and IntKind.i64 x 7 ∧ bits BinOp.and IntKind.i64 x 7 ≤ 7 := by
  unfold bits
  dsimp only
  have h1 : (BitVec.ofInt IntKind.i64.bits x &&& BitVec.ofInt IntKind.i64.bits 7).toNat ≤ 7 := by
    rw [BitVec.toNat_and]
    exact Nat.le_trans Nat.and_le_right (by decide)
  rw [IntWalk.i64_in _ (by omega)]
  omega
theorem range8 {c : Int} (h : 0 ≤ c ∧ c ≤ 7) : c = 0 ∨ c = 1 ∨ c = 2 ∨ c = 3 ∨ c = 4 ∨ c = 5 ∨ c = 6 ∨ c = 7 := by omega
theorem common8 (s t : Int) : 0 ≤ commonV s t ∧ commonV s t ≤ 7 := bits7 _

def singleV (p : Int) : Bool := p == 1 || p == 2 || p == 4
/-- compositorref40.Action, told plainly. -/
def uactionV (c p m : Int) : Int :=
  if c == 0 then 0
  else if (bits BinOp.and IntKind.i64 m 4 != 0) && (bits BinOp.and IntKind.i64 c 1 != 0) then 1
  else if (bits BinOp.and IntKind.i64 m 1 != 0) && (bits BinOp.and IntKind.i64 c 2 != 0) then 2
  else if singleV p && (bits BinOp.and IntKind.i64 c p != 0) then p
  else if bits BinOp.and IntKind.i64 c 1 != 0 then 1
  else if bits BinOp.and IntKind.i64 c 2 != 0 then 2 else 4
theorem contains_single (p : Int) : ([1, 2, 4] : List Int).contains p = singleV p := by
  unfold singleV
  rw [show ([1, 2, 4] : List Int).contains p = (p == 1 || (p == 2 || (p == 4 || false))) from rfl, Bool.or_false, Bool.or_assoc]
theorem single_iff {p : Int} (h : singleV p = true) : p = 1 ∨ p = 2 ∨ p = 4 := by
  unfold singleV at h
  simp only [Bool.or_eq_true, beq_iff_eq] at h
  omega
theorem action_eq (s t p m : Int) : actionV s t p m = uactionV (commonV s t) p m := by
  unfold actionV
  have hr := common8 s t
  generalize commonV s t = c at hr
  unfold ordC ordM ordP uactionV
  rw [contains_single]
  cases (bits BinOp.and IntKind.i64 m 4 != 0) <;> cases (bits BinOp.and IntKind.i64 m 1 != 0) <;> cases hs : singleV p
  all_goals
    try (have hp : p = 1 ∨ p = 2 ∨ p = 4 := single_iff hs)
    try (rcases hp with rfl | rfl | rfl)
  all_goals
    clear hs
    rcases range8 hr with rfl | rfl | rfl | rfl | rfl | rfl | rfl | rfl <;> rfl

set_option maxRecDepth 100000 in
theorem single_ok (p : Int) (w : World) : Calls Try.prog 46 #[.int .i64 p] w fun e w' => e = .returned (.bool (singleV p)) ∧ w = w' := by
  by_cases h1 : p = 1
  · subst h1
    go_enter Try.func46, Try.ntmps46
    go_wp2
    go_ret
    exact ⟨rfl, rfl⟩
  by_cases h2 : p = 2
  · subst h2
    go_enter Try.func46, Try.ntmps46
    go_wp2
    go_ret
    exact ⟨rfl, rfl⟩
  by_cases h4 : p = 4
  · subst h4
    go_enter Try.func46, Try.ntmps46
    go_wp2
    go_ret
    exact ⟨rfl, rfl⟩
  have e1 : (p == 1) = false := by simpa using h1
  have e2 : (p == 2) = false := by simpa using h2
  have e4 : (p == 4) = false := by simpa using h4
  have HV := Lib.hid (show singleV p = false by unfold singleV; rw [e1, e2, e4]; rfl)
  clear h1 h2 h4
  go_enter Try.func46, Try.ntmps46
  go_wp2
  go_ret
  exact ⟨by rw [HV.out]; rfl, rfl⟩
theorem single_v (p : Int) (b : Bool) (w : World) (h : singleV p = b) : Calls Try.prog 46 #[.int .i64 p] w fun e w' => e = .returned (.bool b) ∧ w = w' := by
  subst h
  exact single_ok p w

end Go.Proofs.Yteolilggeaffaaa
