/- The arguments of compositorlaw40's laws: slices of strings, offers by value, Ask by value; the guard 'light'; prog and want. -/
import Derived.Test.YtnbmpdjphmbofaaSArg
set_option linter.unusedVariables false
set_option linter.unusedSimpArgs false
set_option maxRecDepth 100000
namespace Go.Proofs.Ytnbmpdjphmbofaa
open Go.RowKit Go.ChangeShapes Go.WideShapes Go.Deep

structure OArg where
  A : Option Addr
  len : Nat
  cap : Nat
  fs : List ByteArray
  acts : Int
def OArg.cells (x : OArg) : List Value := [.slice x.A x.len x.cap, .int .i64 x.acts]
def OArg.ok (w : World) (x : OArg) : Prop := SArg w x.A x.len x.cap x.fs
structure AskArg where
  s : Int
  t : Int
  p : Int
  m : Int
def AskArg.cells (x : AskArg) : List Value := [.int .i64 x.s, .int .i64 x.t, .int .i64 x.p, .int .i64 x.m]
section
variable {H : Type} {enc : TypeId × Value → H} {w : World} {base : Nat} {spare : Nat → Bool} {held : Bool}
theorem conv_offer (cs' : List Value) (m : Nat) (y : DataW H × List MemPlace) (h : DataW.trod enc Try.prog w base spare held m 24 cs' = some y) : ∃ x : OArg, cs' = x.cells ∧ x.ok w := by
  obtain ⟨hl, hf⟩ := fields_one Try.underlying24 (by kernel_rfl) (by kernel_rfl) h
  obtain ⟨v0, y0, n0, e0, t0⟩ := hf 0 _ rfl
  obtain ⟨v1, y1, n1, e1, t1⟩ := hf 1 _ rfl
  obtain ⟨a1, q1, _, w1⟩ := DataW.trod_int Try.underlying3 t1
  obtain ⟨A, len, cap, xs, q0, hb⟩ := open_strsT t0
  refine ⟨⟨A, len, cap, xs, a1⟩, ?_, hb⟩
  match cs', hl with
  | [u0, u1], _ =>
    simp at e0 e1 q1
    subst e0 e1 q1 q0
    rfl
theorem open_offer {r : Reach} {b0 : Nat} {v : Value} {d : DataW H} {p : List MemPlace} (hv : Value.okWide Try.prog w r b0 24 v) (h : DataW.Trod enc Try.prog w base spare held 24 v d p) :
    ∃ x : OArg, v = .agg x.cells.toArray ∧ x.ok w := by
  obtain ⟨cs, rfl, hsz⟩ := okWide_struct Try.underlying24 hv
  obtain ⟨fuel, hf⟩ := h
  obtain ⟨x, hx, hok⟩ := conv_offer _ _ _ hf
  refine ⟨x, ?_, hok⟩
  rw [← hx]
  simp [Value.cells]
theorem conv_ask (cs' : List Value) (m : Nat) (y : DataW H × List MemPlace) (h : DataW.trod enc Try.prog w base spare held m 35 cs' = some y) : ∃ x : AskArg, cs' = x.cells ∧ True := by
  obtain ⟨hl, hf⟩ := fields_one Try.underlying35 (by kernel_rfl) (by kernel_rfl) h
  obtain ⟨v0, y0, n0, e0, t0⟩ := hf 0 _ rfl
  obtain ⟨v1, y1, n1, e1, t1⟩ := hf 1 _ rfl
  obtain ⟨v2, y2, n2, e2, t2⟩ := hf 2 _ rfl
  obtain ⟨v3, y3, n3, e3, t3⟩ := hf 3 _ rfl
  obtain ⟨a0, q0, _, w0⟩ := DataW.trod_int Try.underlying3 t0
  obtain ⟨a1, q1, _, w1⟩ := DataW.trod_int Try.underlying3 t1
  obtain ⟨a2, q2, _, w2⟩ := DataW.trod_int Try.underlying3 t2
  obtain ⟨a3, q3, _, w3⟩ := DataW.trod_int Try.underlying3 t3
  refine ⟨⟨a0, a1, a2, a3⟩, ?_, trivial⟩
  match cs', hl with
  | [u0, u1, u2, u3], _ =>
    simp at e0 e1 e2 e3 q0 q1 q2 q3
    subst e0 e1 e2 e3 q0 q1 q2 q3
    rfl
theorem open_ask {r : Reach} {b0 : Nat} {v : Value} {d : DataW H} {p : List MemPlace} (hv : Value.okWide Try.prog w r b0 35 v) (h : DataW.Trod enc Try.prog w base spare held 35 v d p) :
    ∃ x : AskArg, v = .agg x.cells.toArray ∧ True := by
  obtain ⟨cs, rfl, hsz⟩ := okWide_struct Try.underlying35 hv
  obtain ⟨fuel, hf⟩ := h
  obtain ⟨x, hx, hok⟩ := conv_ask _ _ _ hf
  refine ⟨x, ?_, hok⟩
  rw [← hx]
  simp [Value.cells]
end
end Go.Proofs.Ytnbmpdjphmbofaa
