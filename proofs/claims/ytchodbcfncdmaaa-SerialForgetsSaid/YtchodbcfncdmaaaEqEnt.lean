/- Two entries of a log compared. -/
import Derived.Test.YtchodbcfncdmaaaSerY
set_option linter.unusedVariables false
set_option linter.unusedSimpArgs false
namespace Go.Proofs.Ytchodbcfncdmaaa
open Go.RowKit
theorem under_entry : Try.prog.underlying 47 = some (.struct (Try.prog.fieldsOf 47)) := by kernel_rfl
theorem stood_entry : Try.prog.stoodInHeld 47 = false := by kernel_rfl
theorem guard_entry : Try.prog.eqGuardType Try.prog.depth 47 = false := by kernel_rfl
theorem eql_same (s c f k : Int) (w : World) : (Op.equalIn 10000 47 (.agg #[.int .u32 s, .int .i64 c, .int .i64 f, .int .i64 k]) (.agg #[.int .u32 s, .int .i64 c, .int .i64 f, .int .i64 k])).run Try.prog w = .ok true w := by
  rw [run_equalIn_agg w 9999 _ _ _ under_entry stood_entry]
  have h := under_entry
  rw [Try.underlying47] at h
  simp only [Option.some.injEq, TypeDesc.struct.injEq] at h
  rw [← h]
  simp [Op.eqFields, part, isAgg, run_underlying Try.underlying23, run_underlying Try.underlying3, Sem.run_bind, run_equalIn_int _ _ _ _ _ _ _ Try.underlying23, run_equalIn_int _ _ _ _ _ _ _ Try.underlying3]
end Go.Proofs.Ytchodbcfncdmaaa
