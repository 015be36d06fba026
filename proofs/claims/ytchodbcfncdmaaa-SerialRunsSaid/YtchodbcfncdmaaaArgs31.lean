/- The arguments of compositorlaw31's laws: calls (Op), one by value, and slices of them. -/
import Derived.Test.YtchodbcfncdmaaaArgs
set_option linter.unusedVariables false
set_option linter.unusedSimpArgs false
namespace Go.Proofs.Ytchodbcfncdmaaa
open Go.RowKit Go.ChangeShapes Go.WideShapes Go.Deep

structure LOp where
  kind : Int
  many : Int
  client : Int
  surface : Int
  event : Int
  mask : Int
  back : Int
def LOp.cells (x : LOp) : List Value := [.int .i64 x.kind, .int .i64 x.many, .int .i64 x.client, .int .i64 x.surface, .int .i64 x.event, .int .i64 x.mask, .int .u32 x.back]
def i64ok (n : Int) : Prop := -9223372036854775808 ≤ n ∧ n ≤ 9223372036854775807
def LOp.ok (x : LOp) : Prop := i64ok x.kind ∧ i64ok x.many ∧ i64ok x.client ∧ i64ok x.surface ∧ i64ok x.event ∧ i64ok x.mask ∧ (0 ≤ x.back ∧ x.back ≤ 4294967295)
theorem cellsOp : Try.prog.cellsOf 25 = 7 := by kernel_rfl

section
variable {H : Type} {enc : TypeId × Value → H} {w : World} {base : Nat} {spare : Nat → Bool} {held : Bool}
theorem conv_op (cs' : List Value) (m : Nat) (y : DataW H × List MemPlace) (h : DataW.trod enc Try.prog w base spare held m 25 cs' = some y) : ∃ x : LOp, cs' = x.cells ∧ x.ok := by
  obtain ⟨hl, hf⟩ := fields_one Try.underlying25 (by kernel_rfl) (by kernel_rfl) h
  obtain ⟨v0, y0, n0, e0, t0⟩ := hf 0 _ rfl
  obtain ⟨v1, y1, n1, e1, t1⟩ := hf 1 _ rfl
  obtain ⟨v2, y2, n2, e2, t2⟩ := hf 2 _ rfl
  obtain ⟨v3, y3, n3, e3, t3⟩ := hf 3 _ rfl
  obtain ⟨v4, y4, n4, e4, t4⟩ := hf 4 _ rfl
  obtain ⟨v5, y5, n5, e5, t5⟩ := hf 5 _ rfl
  obtain ⟨v6, y6, n6, e6, t6⟩ := hf 6 _ rfl
  obtain ⟨a0, q0, _, w0⟩ := DataW.trod_int Try.underlying3 t0
  obtain ⟨a1, q1, _, w1⟩ := DataW.trod_int Try.underlying3 t1
  obtain ⟨a2, q2, _, w2⟩ := DataW.trod_int Try.underlying3 t2
  obtain ⟨a3, q3, _, w3⟩ := DataW.trod_int Try.underlying3 t3
  obtain ⟨a4, q4, _, w4⟩ := DataW.trod_int Try.underlying3 t4
  obtain ⟨a5, q5, _, w5⟩ := DataW.trod_int Try.underlying3 t5
  obtain ⟨a6, q6, _, w6⟩ := DataW.trod_int Try.underlying23 t6
  refine ⟨⟨a0, a1, a2, a3, a4, a5, a6⟩, ?_, of_wf_int w0, of_wf_int w1, of_wf_int w2, of_wf_int w3, of_wf_int w4, of_wf_int w5, of_wf_u32 w6⟩
  match cs', hl with
  | [u0, u1, u2, u3, u4, u5, u6], _ =>
    simp at e0 e1 e2 e3 e4 e5 e6 q0 q1 q2 q3 q4 q5 q6
    subst e0 e1 e2 e3 e4 e5 e6 q0 q1 q2 q3 q4 q5 q6
    rfl
theorem open_op {r : Reach} {b0 : Nat} {v : Value} {d : DataW H} {p : List MemPlace} (hv : Value.okWide Try.prog w r b0 25 v) (h : DataW.Trod enc Try.prog w base spare held 25 v d p) :
    ∃ x : LOp, v = .agg x.cells.toArray ∧ x.ok := by
  obtain ⟨cs, rfl, hsz⟩ := okWide_struct Try.underlying25 hv
  obtain ⟨fuel, hf⟩ := h
  obtain ⟨x, hx, hok⟩ := conv_op _ _ _ hf
  refine ⟨x, ?_, hok⟩
  rw [← hx]
  simp [Value.cells]
def OpsAt (w : World) (A : Option Addr) (len : Nat) (l : List LOp) : Prop := RowsAt w A len 7 LOp.cells l ∧ (∀ x ∈ l, x.ok) ∧ len ≤ maxLen
theorem open_ops {r : Reach} {b0 : Nat} {v : Value} {d : DataW H} {p : List MemPlace} (hv : Value.okWide Try.prog w r b0 22 v) (h : DataW.Trod enc Try.prog w base spare held 22 v d p) :
    ∃ (A : Option Addr) (len cap : Nat) (l : List LOp), v = .slice A len cap ∧ OpsAt w A len l :=
  open_rows LOp.cells LOp.ok Try.underlying22 cellsOp (by omega) conv_op hv h
end
end Go.Proofs.Ytchodbcfncdmaaa
