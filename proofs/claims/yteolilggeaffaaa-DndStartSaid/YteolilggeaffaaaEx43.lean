/- exampleHolds of compositorlaw43: it returns true and leaves what was there as it was. -/
import Derived.Test.YteolilggeaffaaaDSes
set_option linter.unusedVariables false
set_option linter.unusedSimpArgs false
set_option maxRecDepth 100000
namespace Go.Proofs.Yteolilggeaffaaa
open Go.RowKit

def tp : ByteArray := ⟨#[116, 101, 120, 116, 47, 112, 108, 97, 105, 110]⟩
theorem infoOff : (Try.prog.info? 74).map (fun i => i.size) = some 2 := by kernel_rfl
theorem run_load_off {w : World} {g : Nat} {a b : Value} (h : w.heap[g]? = some (.cells #[a, b] 74 (0, 0))) : (loadVar 74 ⟨g, 0, none⟩).run Try.prog w = .ok (.agg #[a, b]) w :=
  run_loadMid (P := Try.prog) (C := [a, b]) 74 0 2 _ h infoOff Try.underlying74 rfl (by simp)
def TextOut (acts : Int) (w : World) (e : Ending) (w' : World) : Prop := ∃ g, e = .returned (.agg #[.slice (some ⟨g, 0, none⟩) 1 1, .int .i64 acts]) ∧ w.heap.size ≤ g ∧ SArg w' (some ⟨g, 0, none⟩) 1 1 [tp] ∧ Same w w'
theorem text_ok (acts : Int) (w : World) : Calls Try.prog 39 #[.int .i64 acts] w (TextOut acts w) := by
  go_enter Try.func39, Try.ntmps39
  go_wp2
  refine bodyPost_ret (results_cell1 Try.results39 rfl (run_load_off (at_alloc (at_new _ _)))) rfl ⟨w.heap.size + 1, rfl, by omega, ⟨strs_new _ _ _ 1 [tp] _ rfl rfl _ (by simp), by omega, by unfold maxLen; omega⟩, ((Chg.refl _ _).alloc _).alloc _⟩

theorem under_deliv : Try.prog.underlying 72 = some (.struct (Try.prog.fieldsOf 72)) := by kernel_rfl
theorem stood_deliv : Try.prog.stoodInHeld 72 = false := by kernel_rfl
/-- A delivery compared with itself. -/
theorem eql_deliv (a1 a2 a3 a4 a5 a6 a7 a8 a9 : Int) (w : World) : (binOp .eql 72 (.agg #[.int .i64 a1, .int .i64 a2, .int .i64 a3, .int .i64 a4, .int .i64 a5, .int .i64 a6, .int .i64 a7, .int .i64 a8, .int .u32 a9]) (.agg #[.int .i64 a1, .int .i64 a2, .int .i64 a3, .int .i64 a4, .int .i64 a5, .int .i64 a6, .int .i64 a7, .int .i64 a8, .int .u32 a9])).run Try.prog w = .ok (.bool true) w := by
  have h9 : (Op.equalIn 10000 72 (.agg #[.int .i64 a1, .int .i64 a2, .int .i64 a3, .int .i64 a4, .int .i64 a5, .int .i64 a6, .int .i64 a7, .int .i64 a8, .int .u32 a9]) (.agg #[.int .i64 a1, .int .i64 a2, .int .i64 a3, .int .i64 a4, .int .i64 a5, .int .i64 a6, .int .i64 a7, .int .i64 a8, .int .u32 a9])).run Try.prog w = .ok true w := by
    rw [run_equalIn_agg w 9999 _ _ _ under_deliv stood_deliv]
    have h := under_deliv
    rw [Try.underlying72] at h
    simp only [Option.some.injEq, TypeDesc.struct.injEq] at h
    rw [← h]
    simp [Op.eqFields, part, isAgg, run_underlying Try.underlying33, run_underlying Try.underlying3, Sem.run_bind, run_equalIn_int _ _ _ _ _ _ _ Try.underlying33, run_equalIn_int _ _ _ _ _ _ _ Try.underlying3]
  simp only [binOp]
  simp [Op.equal, Op.maxDepth, h9]
/-- One delivery, where it lies. -/
def One (w : World) (g : Nat) (C : List Value) : Prop := ∃ cur : List Value, w.heap[g]? = some (.cells cur.toArray 72 (0, 0)) ∧ cur.take 9 = C
theorem OutAt.one {base : Nat} {w : World} {v : Value} {C : List Value} (h : OutAt base w v [C]) : ∃ g cap, v = .slice (some ⟨g, 0, none⟩) 1 cap ∧ base ≤ g ∧ g < w.heap.size ∧ 1 ≤ cap ∧ One w g C := by
  rcases h.2 with ⟨_, hn⟩ | ⟨g, cap, cur, rfl, hb, hg, hc, hm, hs, ht⟩
  · simp at hn
  · refine ⟨g, cap, rfl, hb, (Array.getElem?_eq_some_iff.1 hg).1, hc, cur.toList, by simpa using hg, by simpa using ht⟩
theorem OutAt.none {base : Nat} {w : World} {v : Value} (h : OutAt base w v []) : ∃ A cap, v = .slice A 0 cap := by
  rcases h.2 with ⟨rfl, _⟩ | ⟨g, cap, cur, rfl, _⟩
  · exact ⟨_, _, rfl⟩
  · exact ⟨_, _, rfl⟩
theorem One.chg {S : Nat → Prop} {w w' : World} {g : Nat} {C : List Value} (h : One w g C) (k : Chg S w w') (hs : ¬ S g) : One w' g C := by
  obtain ⟨cur, h1, h2⟩ := h
  exact ⟨cur, k.at_ h1 hs, h2⟩
theorem One.cell {w : World} {g : Nat} {C : List Value} (h : One w g C) (i : Nat) (hi : i < 9) : w.cell? ⟨g, i, none⟩ = C[i]? := by
  obtain ⟨cur, h1, h2⟩ := h
  rw [cell_at h1 i, ← h2, List.getElem?_take, if_pos hi]
theorem One.lt {w : World} {g : Nat} {C : List Value} (h : One w g C) : g < w.heap.size := by
  obtain ⟨cur, h1, _⟩ := h
  exact (Array.getElem?_eq_some_iff.1 h1).1
theorem One.cells {w : World} {g : Nat} {a1 a2 a3 a4 a5 a6 a7 a8 a9 : Int} (h : One w g (delivC a1 a2 a3 a4 a5 a6 a7 a8 a9)) :
    w.cell? ⟨g, 0, none⟩ = some (.int .i64 a1) ∧ w.cell? ⟨g, 1, none⟩ = some (.int .i64 a2) ∧ w.cell? ⟨g, 2, none⟩ = some (.int .i64 a3) ∧ w.cell? ⟨g, 3, none⟩ = some (.int .i64 a4) ∧ w.cell? ⟨g, 4, none⟩ = some (.int .i64 a5) ∧
    w.cell? ⟨g, 5, none⟩ = some (.int .i64 a6) ∧ w.cell? ⟨g, 6, none⟩ = some (.int .i64 a7) ∧ w.cell? ⟨g, 7, none⟩ = some (.int .i64 a8) ∧ w.cell? ⟨g, 8, none⟩ = some (.int .u32 a9) := by
  refine ⟨?_, ?_, ?_, ?_, ?_, ?_, ?_, ?_, ?_⟩ <;> (rw [h.cell _ (by omega)]; rfl)
def exL : SLog := SLog.new.issue 1 5 4
def exL2 : SLog := exL.issue 2 7 14
def exD1 : DSt := ⟨1, [tp], 3, 0, 0, ByteArray.empty, 0, 0, 0, false, 0, [], 0⟩
def exD2 : DSt := ⟨1, [tp], 3, 2, 7, ByteArray.empty, 0, 0, 1, true, 10, [], 0⟩
def exD3 : DSt := ⟨1, [tp], 3, 2, 7, ByteArray.empty, 0, 0, 1, true, 11, [], 0⟩
def exD4 : DSt := ⟨1, [tp], 3, 2, 7, tp, 0, 0, 1, true, 11, [], 0⟩
def exD5 : DSt := ⟨1, [tp], 3, 2, 7, tp, 6, 2, 1, true, 11, [], 0⟩
def exD6 : DSt := ⟨2, [tp], 3, 2, 7, tp, 6, 2, 1, true, 11, [], 0⟩
theorem ex_a : DSt.startE DSt.new exL 1 5 0 [tp] 3 1 = 0 := by decide +kernel
theorem ex_a' : DSt.start DSt.new exL 1 5 0 [tp] 3 1 = exD1 := by unfold DSt.start; rw [if_pos ex_a]; rfl
theorem ex_b : DSt.mv exD1 2 7 10 = exD2 := by rfl
theorem ex_bl : DSt.mvL exD1 exL 2 7 = exL2 := by rfl
theorem ex_bo : DSt.mvO exD1 exL 2 7 3 4 10 = [delivC 2 7 14 0 3 4 1 0 2] := by rfl
theorem ex_c : DSt.mv exD2 2 7 11 = exD3 := by rfl
theorem ex_cl : DSt.mvL exD2 exL2 2 7 = exL2 := by rfl
theorem ex_co : DSt.mvO exD2 exL2 2 7 4 4 11 = [delivC 2 7 15 11 4 4 0 0 0] := by rfl
theorem ex_e : DSt.acceptE exD3 3 tp = 17 := by decide +kernel
theorem ex_e' : DSt.accept exD3 3 tp = exD3 := by unfold DSt.accept; rw [if_neg (by rw [ex_e]; decide)]
theorem ex_f : DSt.acceptE exD3 2 tp = 0 := by decide +kernel
theorem ex_f' : DSt.accept exD3 2 tp = exD4 := by unfold DSt.accept; rw [if_pos ex_f]; rfl
theorem ex_g : DSt.setActE exD4 2 6 2 = 0 := by decide +kernel
theorem ex_g' : DSt.setAct exD4 2 6 2 = exD5 := by unfold DSt.setAct; rw [if_pos ex_g]; rfl
theorem ex_act : DSt.act exD5 = 2 := by decide +kernel
theorem ex_h : DSt.dropB exD5 = true := by decide +kernel
theorem ex_hs : DSt.dropS exD5 = exD6 := (drop_yes rfl ex_h).1
theorem ex_ho : DSt.dropO exD5 = [delivC 2 7 17 0 0 0 0 0 0] := (drop_yes rfl ex_h).2
theorem ex_i : DSt.finE exD6 2 = 14 := by decide +kernel
theorem ex_i' : DSt.fin exD6 2 = exD6 := by unfold DSt.fin; rw [if_neg (by rw [ex_i]; decide)]
theorem ex_j : DSt.rcvE exD6 2 tp 100 = 0 := by decide +kernel
theorem ex_k (x : DFlow) : DSt.finE { exD6 with flows := exD6.flows ++ [x] } 2 = 0 := by rfl
theorem ex_k' (x : DFlow) : DSt.fin { exD6 with flows := exD6.flows ++ [x] } 2 = DSt.endS { exD6 with flows := exD6.flows ++ [x] } := by unfold DSt.fin; rw [if_pos (ex_k x)]
end Go.Proofs.Yteolilggeaffaaa
