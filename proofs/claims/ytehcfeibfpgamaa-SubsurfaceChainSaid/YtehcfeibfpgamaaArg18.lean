/- The arguments of compositorlaw18's laws: rows of calls (Op), of numbers, of bytes. -/
import Derived.Test.YtehcfeibfpgamaaArgs
import Derived.Test.YtehcfeibfpgamaaContI
set_option linter.unusedVariables false
set_option linter.unusedSimpArgs false
set_option maxRecDepth 100000
namespace Go.Proofs.Ytehcfeibfpgamaa
open Go.RowKit Go.ChangeShapes Go.WideShapes Go.Deep

def icell (x : Int) : List Value := [.int .i64 x]
theorem cellsInt : Try.prog.cellsOf 3 = 1 := by kernel_rfl
theorem cellsU8A : Try.prog.cellsOf 5 = 1 := by kernel_rfl
def ucell (x : Int) : List Value := [.int .u8 x]
/-- A row of numbers of the caller's. -/
def IArg (w : World) (A : Option Addr) (len : Nat) (l : List Int) : Prop := RowsAt w A len 1 icell l ∧ (∀ x ∈ l, True) ∧ len ≤ maxLen
def UArg (w : World) (A : Option Addr) (len : Nat) (l : List Int) : Prop := RowsAt w A len 1 ucell l ∧ (∀ x ∈ l, 0 ≤ x ∧ x ≤ 255) ∧ len ≤ maxLen
structure YOp where
  kind : Int
  id : Int
  a : Int
  b : Int
  on : Bool
def YOp.cells (x : YOp) : List Value := [.int .i64 x.kind, .int .i64 x.id, .int .i64 x.a, .int .i64 x.b, .bool x.on]
def OArg (w : World) (A : Option Addr) (len : Nat) (l : List YOp) : Prop := RowsAt w A len 5 YOp.cells l ∧ (∀ x ∈ l, True) ∧ len ≤ maxLen
theorem cellsOp : Try.prog.cellsOf 42 = 5 := by kernel_rfl
section
variable {H : Type} {enc : TypeId × Value → H} {w : World} {base : Nat} {spare : Nat → Bool} {held : Bool}
theorem open_iarg {r : Reach} {b0 : Nat} {v : Value} {d : DataW H} {p : List MemPlace} (hv : Value.okWide Try.prog w r b0 29 v) (h : DataW.Trod enc Try.prog w base spare held 29 v d p) :
    ∃ (A : Option Addr) (len cap : Nat) (l : List Int), v = .slice A len cap ∧ IArg w A len l :=
  open_rows icell (fun _ => True) Try.underlying29 cellsInt (by omega) (fun cs' m y h => by
    obtain ⟨n, rfl, _, hw⟩ := DataW.trod_int Try.underlying3 h
    exact ⟨n, rfl, trivial⟩) hv h
theorem open_uarg {r : Reach} {b0 : Nat} {v : Value} {d : DataW H} {p : List MemPlace} (hv : Value.okWide Try.prog w r b0 22 v) (h : DataW.Trod enc Try.prog w base spare held 22 v d p) :
    ∃ (A : Option Addr) (len cap : Nat) (l : List Int), v = .slice A len cap ∧ UArg w A len l :=
  open_rows ucell (fun x => 0 ≤ x ∧ x ≤ 255) Try.underlying22 cellsU8A (by omega) (fun cs' m y h => by
    obtain ⟨n, rfl, _, hw⟩ := DataW.trod_int Try.underlying5 h
    exact ⟨n, rfl, of_wf_u8 hw⟩) hv h
theorem conv_yop (cs' : List Value) (m : Nat) (y : DataW H × List MemPlace) (h : DataW.trod enc Try.prog w base spare held m 42 cs' = some y) : ∃ x : YOp, cs' = x.cells ∧ True := by
  obtain ⟨hl, hf⟩ := fields_one Try.underlying42 (by kernel_rfl) (by kernel_rfl) h
  obtain ⟨v0, y0, n0, e0, t0⟩ := hf 0 _ rfl
  obtain ⟨v1, y1, n1, e1, t1⟩ := hf 1 _ rfl
  obtain ⟨v2, y2, n2, e2, t2⟩ := hf 2 _ rfl
  obtain ⟨v3, y3, n3, e3, t3⟩ := hf 3 _ rfl
  obtain ⟨v4, y4, n4, e4, t4⟩ := hf 4 _ rfl
  obtain ⟨a0, q0, _, w0⟩ := DataW.trod_int Try.underlying3 t0
  obtain ⟨a1, q1, _, w1⟩ := DataW.trod_int Try.underlying3 t1
  obtain ⟨a2, q2, _, w2⟩ := DataW.trod_int Try.underlying3 t2
  obtain ⟨a3, q3, _, w3⟩ := DataW.trod_int Try.underlying3 t3
  obtain ⟨a4, q4, _⟩ := DataW.trod_bool Try.underlying4 t4
  refine ⟨⟨a0, a1, a2, a3, a4⟩, ?_, trivial⟩
  match cs', hl with
  | [u0, u1, u2, u3, u4], _ =>
    simp at e0 e1 e2 e3 e4 q0 q1 q2 q3 q4
    subst e0 e1 e2 e3 e4 q0 q1 q2 q3 q4
    rfl
theorem open_oarg {r : Reach} {b0 : Nat} {v : Value} {d : DataW H} {p : List MemPlace} (hv : Value.okWide Try.prog w r b0 36 v) (h : DataW.Trod enc Try.prog w base spare held 36 v d p) :
    ∃ (A : Option Addr) (len cap : Nat) (l : List YOp), v = .slice A len cap ∧ OArg w A len l :=
  open_rows YOp.cells (fun _ => True) Try.underlying36 cellsOp (by omega) conv_yop hv h
end
theorem OArg.at_ {w : World} {A : Option Addr} {len : Nat} {l : List YOp} (h : OArg w A len l) {i : Nat} (hi : i < len) :
    ∃ b o x, A = some ⟨b, o, none⟩ ∧ b < w.heap.size ∧ l[i]? = some x ∧ w.cell? ⟨b, o + i * 5, none⟩ = some (.int .i64 x.kind) ∧ w.cell? ⟨b, o + i * 5 + 1, none⟩ = some (.int .i64 x.id) ∧ w.cell? ⟨b, o + i * 5 + 2, none⟩ = some (.int .i64 x.a)
      ∧ w.cell? ⟨b, o + i * 5 + 3, none⟩ = some (.int .i64 x.b) ∧ w.cell? ⟨b, o + i * 5 + 4, none⟩ = some (.bool x.on) := by
  obtain ⟨b, o, hA, hb, hc⟩ := h.1.2 (by omega)
  have hx : l[i]? = some (l[i]'(by rw [h.1.1]; exact hi)) := List.getElem?_eq_getElem (by rw [h.1.1]; exact hi)
  exact ⟨b, o, _, hA, hb, hx, hc i _ hx 0 _ rfl, hc i _ hx 1 _ rfl, hc i _ hx 2 _ rfl, hc i _ hx 3 _ rfl, hc i _ hx 4 _ rfl⟩
theorem IArg.at_ {w : World} {A : Option Addr} {len : Nat} {l : List Int} (h : IArg w A len l) {i : Nat} (hi : i < len) :
    ∃ b o x, A = some ⟨b, o, none⟩ ∧ b < w.heap.size ∧ l[i]? = some x ∧ w.cell? ⟨b, o + i, none⟩ = some (.int .i64 x) := by
  obtain ⟨b, o, hA, hb, hc⟩ := h.1.2 (by omega)
  have hx : l[i]? = some (l[i]'(by rw [h.1.1]; exact hi)) := List.getElem?_eq_getElem (by rw [h.1.1]; exact hi)
  refine ⟨b, o, _, hA, hb, hx, ?_⟩
  have := hc i _ hx 0 _ rfl
  rw [Nat.mul_one] at this
  exact this
theorem UArg.at_ {w : World} {A : Option Addr} {len : Nat} {l : List Int} (h : UArg w A len l) {i : Nat} (hi : i < len) :
    ∃ b o x, A = some ⟨b, o, none⟩ ∧ b < w.heap.size ∧ l[i]? = some x ∧ (0 ≤ x ∧ x ≤ 255) ∧ w.cell? ⟨b, o + i, none⟩ = some (.int .u8 x) := by
  obtain ⟨b, o, hA, hb, hc⟩ := h.1.2 (by omega)
  have hx : l[i]? = some (l[i]'(by rw [h.1.1]; exact hi)) := List.getElem?_eq_getElem (by rw [h.1.1]; exact hi)
  refine ⟨b, o, _, hA, hb, hx, h.2.1 _ (List.getElem_mem _), ?_⟩
  have := hc i _ hx 0 _ rfl
  rw [Nat.mul_one] at this
  exact this
theorem OArg.same {w w' : World} {A : Option Addr} {len : Nat} {l : List YOp} (h : OArg w A len l) (k : Same w w') : OArg w' A len l := ⟨h.1.chg k (fun _ _ q => q), h.2⟩
theorem IArg.same {w w' : World} {A : Option Addr} {len : Nat} {l : List Int} (h : IArg w A len l) (k : Same w w') : IArg w' A len l := ⟨h.1.chg k (fun _ _ q => q), h.2⟩
theorem UArg.same {w w' : World} {A : Option Addr} {len : Nat} {l : List Int} (h : UArg w A len l) (k : Same w w') : UArg w' A len l := ⟨h.1.chg k (fun _ _ q => q), h.2⟩
end Go.Proofs.Ytehcfeibfpgamaa
