/- The calls (Op) that compositorlaw41's laws are given, and the guard 'large'. -/
import Derived.Test.YtgpfnfcfmogefaaArgB
import Derived.Test.YtgpfnfcfmogefaaPipB
set_option linter.unusedVariables false
set_option linter.unusedSimpArgs false
namespace Go.Proofs.Ytgpfnfcfmogefaa
open Go.RowKit Go.ChangeShapes Go.WideShapes Go.Deep

structure TOp where
  kind : Int
  n : Int
  A : Option Addr
  len : Nat
  cap : Nat
  xs : List Int
def TOp.cells (x : TOp) : List Value := [.int .i64 x.kind, .int .i64 x.n, .slice x.A x.len x.cap]
def TOp.ok (w : World) (x : TOp) : Prop := (-9223372036854775808 ≤ x.kind ∧ x.kind ≤ 9223372036854775807) ∧ (-9223372036854775808 ≤ x.n ∧ x.n ≤ 9223372036854775807) ∧ BytesAt w (fun _ => True) x.A x.len x.cap x.xs
theorem cellsTOp : Try.prog.cellsOf 44 = 3 := by kernel_rfl
section
variable {H : Type} {enc : TypeId × Value → H} {w : World} {base : Nat} {spare : Nat → Bool} {held : Bool}
theorem conv_top (cs' : List Value) (m : Nat) (y : DataW H × List MemPlace) (h : DataW.trod enc Try.prog w base spare held m 44 cs' = some y) : ∃ x : TOp, cs' = x.cells ∧ x.ok w := by
  obtain ⟨hl, hf⟩ := fields_one Try.underlying44 (by kernel_rfl) (by kernel_rfl) h
  obtain ⟨v0, y0, n0, e0, t0⟩ := hf 0 _ rfl
  obtain ⟨v1, y1, n1, e1, t1⟩ := hf 1 _ rfl
  obtain ⟨v2, y2, n2, e2, t2⟩ := hf 2 _ rfl
  obtain ⟨a0, q0, _, w0⟩ := DataW.trod_int Try.underlying3 t0
  obtain ⟨a1, q1, _, w1⟩ := DataW.trod_int Try.underlying3 t1
  obtain ⟨A, len, cap, xs, q2, hb⟩ := open_bytesT t2
  refine ⟨⟨a0, a1, A, len, cap, xs⟩, ?_, of_wf_int w0, of_wf_int w1, hb⟩
  match cs', hl with
  | [u0, u1, u2], _ =>
    simp at e0 e1 e2 q0 q1
    subst e0 e1 e2 q0 q1 q2
    rfl
def TOpsAt (w : World) (A : Option Addr) (len : Nat) (l : List TOp) : Prop := RowsAt w A len 3 TOp.cells l ∧ (∀ x ∈ l, x.ok w) ∧ len ≤ maxLen
theorem open_tops {r : Reach} {b0 : Nat} {v : Value} {d : DataW H} {p : List MemPlace} (hv : Value.okWide Try.prog w r b0 37 v) (h : DataW.Trod enc Try.prog w base spare held 37 v d p) :
    ∃ (A : Option Addr) (len cap : Nat) (l : List TOp), v = .slice A len cap ∧ TOpsAt w A len l :=
  open_rows TOp.cells (TOp.ok w) Try.underlying37 cellsTOp (by omega) conv_top hv h
end

theorem TOpsAt.at_ {w : World} {A : Option Addr} {len : Nat} {l : List TOp} (h : TOpsAt w A len l) {i : Nat} (hi : i < len) :
    ∃ b o x, A = some ⟨b, o, none⟩ ∧ b < w.heap.size ∧ l[i]? = some x ∧ x.ok w ∧ w.cell? ⟨b, o + i * 3, none⟩ = some (.int .i64 x.kind) ∧ w.cell? ⟨b, o + i * 3 + 1, none⟩ = some (.int .i64 x.n) ∧ w.cell? ⟨b, o + i * 3 + 2, none⟩ = some (.slice x.A x.len x.cap) := by
  obtain ⟨b, o, hA, hb, hc⟩ := h.1.2 (by omega)
  have hx : l[i]? = some (l[i]'(by rw [h.1.1]; exact hi)) := List.getElem?_eq_getElem (by rw [h.1.1]; exact hi)
  exact ⟨b, o, _, hA, hb, hx, h.2.1 _ (List.getElem_mem _), hc i _ hx 0 _ rfl, hc i _ hx 1 _ rfl, hc i _ hx 2 _ rfl⟩

def largeB (l : List TOp) : Bool := decide (100 < l.length) || l.any fun x => decide (4000 < x.len)
set_option maxRecDepth 100000 in
theorem large_ok (A : Option Addr) (len cap : Nat) (l : List TOp) (w : World) (h : TOpsAt w A len l) :
    Calls Try.prog 19 #[.slice A len cap] w fun e w' => e = .returned (.bool (largeB l)) ∧ w = w' := by
  have hl := h.1.1
  have hm := h.2.2
  unfold maxLen at hm
  have HO := Lib.hid h
  have HL := Lib.hid hl
  by_cases hg : 100 < len
  · have hB : largeB l = true := by unfold largeB; rw [hl]; simp [hg]
    rw [hB]
    clear h hl hB
    go_enter Try.func19, Try.ntmps19
    go_wp2
    go_ret
    exact ⟨rfl, rfl⟩
  · clear h hl
    go_enter Try.func19, Try.ntmps19
    go_wp2
    go_loop [9] (fun v9 => ∃ i : Nat, i ≤ len ∧ v9 = .int .i64 i ∧ (l.take i).any (fun x => decide (4000 < x.len)) = false) (fun v9 => len - (intOf v9).toNat)
    case atStart => exact ⟨0, by omega, rfl, by simp⟩
    case round =>
      obtain ⟨i, hi, rfl, hany⟩ := hrel
      have HA := Lib.hid hany
      clear hany
      by_cases hlt : i < len
      · obtain ⟨b, o, x, rfl, hbw, hx, hok, c0, c1, c2⟩ := HO.out.at_ hlt
        have hxl : x.len ≤ 9223372036854775807 := by have h1 := hok.2.2.2.1; have h2 := hok.2.2.2.2.1; unfold maxLen at h2; omega
        have HX := Lib.hid hx
        have hii : (i : Int) < len := by omega
        clear hx hok
        by_cases hxg : 4000 < x.len
        · go_wp2
          go_ret
          refine ⟨?_, rfl⟩
          have : largeB l = true := by
            unfold largeB
            rw [Bool.or_eq_true, List.any_eq_true]
            exact .inr ⟨x, List.mem_of_getElem? HX.out, by simpa using hxg⟩
          rw [this]
          rfl
        · go_wp2
          go_round
          case rel =>
            refine ⟨i + 1, by omega, by go_num, ?_⟩
            rw [List.take_add_one, HX.out]
            simp only [Option.toList_some, List.any_append, List.any_cons, List.any_nil, HA.out, Bool.false_or, Bool.or_false]
            simp; omega
          case measure => simp [intOf]; omega
      · have hie : i = len := by omega
        have hlt' : ¬ (i : Int) < len := by omega
        have HI := Lib.hid hie
        clear hie
        go_wp2
        go_ret
        refine ⟨?_, rfl⟩
        have : largeB l = false := by
          unfold largeB
          have h1 := HA.out
          rw [HI.out, ← HL.out, List.take_length] at h1
          rw [h1, HL.out]
          simp; omega
        rw [this]
        rfl
end Go.Proofs.Ytgpfnfcfmogefaa
