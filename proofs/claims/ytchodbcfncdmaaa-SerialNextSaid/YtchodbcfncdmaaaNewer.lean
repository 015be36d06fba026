/- Newer, in plain numbers. -/
import Derived.Test.YtchodbcfncdmaaaEx31
set_option linter.unusedVariables false
set_option linter.unusedSimpArgs false
namespace Go.Proofs.Ytchodbcfncdmaaa
open Go.RowKit

theorem newerB_eq (a b : Int) : newerB a b = (decide (1 ≤ (a - b) % 4294967296) && decide ((a - b) % 4294967296 < 2147483648)) := by
  unfold newerB wrap32
  rw [Bool.eq_iff_iff]
  simp only [Bool.and_eq_true, decide_eq_true_eq]
  omega
theorem refNewer_ok (a b : Int) (w : World) :
    Calls Try.prog 15 #[.int .u32 a, .int .u32 b] w fun e w' => e = .returned (.bool (newerB a b)) ∧ w = w' := by
  rw [newerB_eq]
  generalize hd : (a - b) % 4294967296 = d
  have HD := Lib.hid hd
  have h0 : 0 ≤ d ∧ d < 4294967296 := by omega
  by_cases h1 : 1 ≤ d
  · go_enter Try.func15, Try.ntmps15
    go_wp2
    go_ret
    exact ⟨by simp [h1], rfl⟩
  · go_enter Try.func15, Try.ntmps15
    go_wp2
    go_ret
    exact ⟨by simp; omega, rfl⟩

end Go.Proofs.Ytchodbcfncdmaaa
