/- Base lemmas of this seat's proofs: what changes from world to world is told block by block; regions that draw their order; single steps of a walk as laws. -/
import Derived.Test.YtehcfeibfpgamaaRows
import Derived.WalkKit
import Derived.WalkSpells
import Derived.WalkLawsBesides
import Derived.StillTailTactics
import Derived.Lib.Hide
set_option linter.unusedVariables false
set_option linter.unusedSimpArgs false
set_option maxRecDepth 100000
namespace Go.Proofs.Ytehcfeibfpgamaa
open Go.RowKit

theorem wp_tail {P : Program} {id : Nat} {Q : Exit → Act → World → Prop} {a : Act} {w : World} {l : List Oper} (n : Nat) (hm : P.follows .mixedOrders = true) (hB : Region.lexTailB .any l.toArray n = true)
    (h : wpStill P l.toArray w.drew (fun a' => wpList P l.toArray Q (l.drop n) a' w.drew) (l.take n) a) : (Code.region id l.toArray true).wp P Q a w :=
  wp_region_still_tail n hm hB h

theorem wp_still {P : Program} {id : Nat} {Q : Exit → Act → World → Prop} {a : Act} {w : World} {l : List Oper} (hm : P.follows .mixedOrders = true) (hB : Region.lexB .any l.toArray = true)
    (h : wpStill P l.toArray w.drew (fun a' => Q .normal a' w.drew) l a) : (Code.region id l.toArray true).wp P Q a w :=
  wp_region_still_lit hm hB h

/-- From w to w' at most the blocks with S have turned. -/
structure Chg (S : Nat → Prop) (w w' : World) : Prop where
  os : w'.os = w.os
  tape : w'.tape = w.tape
  output : w'.output = w.output
  size : w.heap.size ≤ w'.heap.size
  block : ∀ k, k < w.heap.size → ¬ S k → w'.heap[k]? = w.heap[k]?

abbrev Same (w w' : World) : Prop := Chg (fun _ => False) w w'

namespace Chg
variable {S R : Nat → Prop} {u v w : World}
theorem refl (S : Nat → Prop) (w : World) : Chg S w w := ⟨rfl, rfl, rfl, Nat.le_refl _, fun _ _ _ => rfl⟩
theorem trans (h : Chg S u v) (k : Chg S v w) : Chg S u w :=
  ⟨k.os.trans h.os, k.tape.trans h.tape, k.output.trans h.output, Nat.le_trans h.size k.size, fun i hi hs => (k.block i (Nat.lt_of_lt_of_le hi h.size) hs).trans (h.block i hi hs)⟩
theorem mono (h : Chg S u v) (hs : ∀ k, k < u.heap.size → S k → R k) : Chg R u v :=
  ⟨h.os, h.tape, h.output, h.size, fun i hi hr => h.block i hi (fun q => hr (hs i hi q))⟩
theorem of_same (h : Same u v) : Chg S u v := h.mono (fun _ _ q => q.elim)
/-- The second step may turn what is new since the first, too. -/
theorem then_ (h : Chg S u v) (k : Chg R v w) (hr : ∀ i, i < u.heap.size → R i → S i) : Chg S u w :=
  ⟨k.os.trans h.os, k.tape.trans h.tape, k.output.trans h.output, Nat.le_trans h.size k.size,
    fun i hi hs => (k.block i (Nat.lt_of_lt_of_le hi h.size) (fun q => hs (hr i hi q))).trans (h.block i hi hs)⟩
theorem drew (h : Chg S u v) : Chg S u v.drew := ⟨h.os, h.tape, h.output, h.size, h.block⟩
theorem drewN (h : Chg S u v) (n : Nat) : Chg S u (v.drewN n) := ⟨h.os, h.tape, h.output, h.size, h.block⟩
theorem alloc (h : Chg S u v) (o : Obj) : Chg S u (v.alloc o) :=
  ⟨h.os, h.tape, h.output, by have := h.size; simp; omega, fun i hi hs => (Below.heap_alloc _ _ _ (by have := h.size; omega)).trans (h.block i hi hs)⟩
theorem setCell (h : Chg S u v) (a : Addr) (x : Value) (ha : a.block < u.heap.size → S a.block) : Chg S u (v.setCell a x) :=
  ⟨h.os, h.tape, h.output, by have := h.size; simp; omega, fun i hi hs => (Below.heap_setCell _ _ _ _ (by intro e; subst e; exact hs (ha hi))).trans (h.block i hi hs)⟩
theorem at_ (h : Chg S u v) {b : Nat} {o : Obj} (hb : u.heap[b]? = some o) (hs : ¬ S b) : v.heap[b]? = some o :=
  (h.block b (Array.getElem?_eq_some_iff.1 hb).1 hs).trans hb
theorem grown {row : Option Nat} (h : Chg S u v) (hg : v.grownBy w row) (hr : ∀ k, row = some k → k < u.heap.size → S k) : Chg S u w :=
  ⟨hg.os.trans h.os, hg.tape.trans h.tape, hg.output.trans h.output, Nat.le_trans h.size hg.size,
    fun i hi hs => (hg.block i (Nat.lt_of_lt_of_le hi h.size) (fun e => hs (hr i e.symm hi))).trans (h.block i hi hs)⟩
theorem below (h : Chg S u v) {B : Nat} (hB : B ≤ u.heap.size) (hs : ∀ k, S k → B ≤ k) : Below B u v :=
  ⟨h.os, h.tape, h.output, h.size, fun i hi => h.block i (by omega) (fun q => by have := hs i q; omega)⟩
theorem cell (h : Chg S u v) {b o : Nat} {x : Value} (hc : u.cell? ⟨b, o, none⟩ = some x) (hs : ¬ S b) : v.cell? ⟨b, o, none⟩ = some x :=
  (World.cell?_of_block (a := ⟨b, o, none⟩) (h.block b (World.block_lt_of_cell? u _ hc) hs)).trans hc
end Chg

theorem lt_of_at {w : World} {b : Nat} {o : Obj} (h : w.heap[b]? = some o) : b < w.heap.size := (Array.getElem?_eq_some_iff.1 h).1
theorem cell_at {w : World} {b : Nat} {C : List Value} {T : TypeId} {F : Nat × Nat} (h : w.heap[b]? = some (.cells C.toArray T F)) (i : Nat) : w.cell? ⟨b, i, none⟩ = C[i]? := by
  rw [cell_of_row w b i _ T F h]; simp
theorem frozen_at {w : World} {b : Nat} {C : Array Value} {T : TypeId} (h : w.heap[b]? = some (.cells C T (0, 0))) (i : Nat) : w.frozen? ⟨b, i, none⟩ = false := frozen_of_row w b i C T h
theorem at_setCell {w : World} {b i : Nat} {C : List Value} {T : TypeId} {F : Nat × Nat} (v : Value) (h : w.heap[b]? = some (.cells C.toArray T F)) :
    (w.setCell ⟨b, i, none⟩ v).heap[b]? = some (.cells (C.set i v).toArray T F) := by
  simp [World.setCell, Array.getElem?_modify, h, List.setIfInBounds_toArray]
theorem at_setCell_other {w : World} {b b' i : Nat} {o : Obj} (v : Value) (hne : b ≠ b') (h : w.heap[b]? = some o) : (w.setCell ⟨b', i, none⟩ v).heap[b]? = some o := by
  rw [Below.heap_setCell _ _ _ _ hne]; exact h
theorem at_alloc {w : World} {b : Nat} {o o' : Obj} (h : w.heap[b]? = some o) : (w.alloc o').heap[b]? = some o := by
  rw [Below.heap_alloc _ _ _ (lt_of_at h)]; exact h
theorem at_new (w : World) (o : Obj) : (w.alloc o).heap[w.heap.size]? = some o := heap_alloc_new w o

/-! ### One operation that is run as a whole -/
section
variable {P : Program} {ops : Array Oper} {Q : Exit → Act → World → Prop} {rest : List Oper} {a : Act} {w w' : World} {o : Oper}
theorem wpl_ok (v : Value) (hg : o.guard = none) (hr : (execOp a.eval o).run P w = .ok (.value v) w') (h : wpList P ops Q rest (a.put o.dst v) w') : wpList P ops Q (o :: rest) a w :=
  wpList_plain hg fun K hK => by unfold Oper.wp; rw [hr]; exact hK _ _ h
theorem wpl_skip (hg : o.guard = none) (hr : (execOp a.eval o).run P w = .ok .skip w') (h : wpList P ops Q rest (a.put o.dst undef) w') : wpList P ops Q (o :: rest) a w :=
  wpList_plain hg fun K hK => by unfold Oper.wp; rw [hr]; exact hK _ _ h
variable {d : Option Tmp} {ty t : TypeId} {ps : String} {ed : Array Edge}
theorem wpl_build (parts : Array (Nat × Operand)) (pv : Array (Nat × Value)) (V : Value) (hp : (parts.map fun (i, x) => (i, a.eval x)) = pv) (hr : (Instr.build t pv).run P w = .ok V w) (h : wpList P ops Q rest (a.put d V) w) :
    wpList P ops Q (⟨d, .build t parts, ty, ps, ed, none⟩ :: rest) a w :=
  wpl_ok V rfl (by unfold execOp; simp only [Sem.run_bind, hp, hr, Result.andThen_ok, Sem.run_pure]) h
theorem wpl_box (x : Operand) (C : Array Value) (hx : (a.eval x).cells = C) (h : wpList P ops Q rest (a.put d (.pointer (some ⟨w.heap.size, 0, none⟩))) (w.alloc (.cells C t))) :
    wpList P ops Q (⟨d, .box t x, ty, ps, ed, none⟩ :: rest) a w :=
  wpl_ok (.pointer (some ⟨w.heap.size, 0, none⟩)) rfl (by subst hx; rfl) h
theorem wpl_alloc (C : Array Value) (V : Value) (hz : (zeroValue t).run P w = .ok V w) (hx : V.cells = C) (h : wpList P ops Q rest (a.put d (.pointer (some ⟨w.heap.size, 0, none⟩))) (w.alloc (.cells C t))) :
    wpList P ops Q (⟨d, .alloc t, ty, ps, ed, none⟩ :: rest) a w :=
  wpl_ok (.pointer (some ⟨w.heap.size, 0, none⟩)) rfl (by subst hx; unfold execOp Instr.alloc; simp only [Sem.run_bind, hz, Result.andThen_ok, Sem.run_pure]; rfl) h
theorem wpl_loadv (x : Operand) (A : Addr) (V : Value) (hx : a.eval x = .pointer (some A)) (hr : (loadVar t A).run P w = .ok V w) (h : wpList P ops Q rest (a.put d V) w) :
    wpList P ops Q (⟨d, .load t x, ty, ps, ed, none⟩ :: rest) a w :=
  wpl_ok V rfl (by unfold execOp Instr.loadAt Instr.sureAddr; simp only [hx, Sem.run_bind, Sem.run_pure, hr, Result.andThen_ok]) h
theorem wpl_storev (x y : Operand) (A : Addr) (hx : a.eval x = .pointer (some A)) (hr : (storeVar t A (a.eval y)).run P w = .ok () w') (h : wpList P ops Q rest (a.put d undef) w') :
    wpList P ops Q (⟨d, .store t x y, ty, ps, ed, none⟩ :: rest) a w :=
  wpl_skip rfl (by unfold execOp Instr.storeAt Instr.sureAddr; simp only [hx, Sem.run_bind, Sem.run_pure, hr, Result.andThen_ok]) h
theorem wpl_index (x y : Operand) (V : Value) (hr : (Instr.index t (a.eval x) (a.eval y)).run P w = .ok V w) (h : wpList P ops Q rest (a.put d V) w) :
    wpList P ops Q (⟨d, .index t x y, ty, ps, ed, none⟩ :: rest) a w :=
  wpl_ok V rfl (by unfold execOp; simp only [Sem.run_bind, hr, Result.andThen_ok, Sem.run_pure]) h
end

theorem add_plain (b o j : Nat) : (⟨b, o, none⟩ : Addr).add j = ⟨b, o + j, none⟩ := by unfold Addr.add; split <;> simp_all

theorem run_loadMid {P : Program} {w : World} {b : Nat} {C : List Value} {T : TypeId} {F : Nat × Nat} (t o n : Nat) (d : TypeDesc)
    (hb : w.heap[b]? = some (.cells C.toArray T F)) (hin : (P.info? t).map (fun i => i.size) = some n) (hd : P.underlying t = some d) (hagg : (match d with | .struct _ | .array _ _ => true | _ => false) = true) (hle : o + n ≤ C.length) :
    (loadVar t ⟨b, o, none⟩).run P w = .ok (.agg ((C.drop o).take n).toArray) w := by
  obtain ⟨i, hi, hn⟩ : ∃ i, P.info? t = some i ∧ i.size = n := by
    cases h : P.info? t with
    | none => rw [h] at hin; cases hin
    | some i => rw [h] at hin; exact ⟨i, rfl, by simpa using hin⟩
  have h1 : (isAgg t).run P w = .ok true w := by
    unfold isAgg
    simp only [Sem.run_bind, run_underlying hd, Result.andThen_ok]
    cases d <;> simp_all
  have h2 := run_loadCells_list (P := P) (w := w) ⟨b, o, none⟩ ((C.drop o).take n) (fun j v hj => by
    rw [add_plain, cell_at hb]
    rw [List.getElem?_take] at hj
    split at hj
    · rw [List.getElem?_drop] at hj; exact hj
    · cases hj)
  have hl : ((C.drop o).take n).length = n := by simp; omega
  rw [hl] at h2
  unfold loadVar sizeOf typeInfo
  simp [h1, Sem.run_bind, program, Sem.run, hi, hn, h2]


theorem results_cell_tmp {P : Program} {fn : Func} {p t : Tmp} {ty : TypeId} {tmps : Array Value} {w : World} {A : Addr} {V : Value} (h : fn.results = #[.cell p ty, .tmp t]) (hp : tmps.getD p undef = .pointer (some A)) (hr : (loadVar ty A).run P w = .ok V w) :
    (results fn tmps).run P w = .ok (.tuple #[V, tmps.getD t undef]) w := by
  have hp' : tmps[p]?.getD undef = .pointer (some A) := by simpa using hp
  simp [results, h, hp', hr, asAddr, Sem.run_bind, Sem.run_pure]

/-! ### From well-formed to bounds -/
theorem of_wf_u8 {n : Int} (h : (Lit.int .u8 n).wf = true) : 0 ≤ n ∧ n ≤ 255 := by
  simp [Lit.wf, IntKind.min, IntKind.max, IntKind.signed, IntKind.bits] at h; omega
theorem of_wf_u32 {n : Int} (h : (Lit.int .u32 n).wf = true) : 0 ≤ n ∧ n ≤ 4294967295 := by
  simp [Lit.wf, IntKind.min, IntKind.max, IntKind.signed, IntKind.bits] at h; omega
theorem of_wf_int {n : Int} (h : (Lit.int .i64 n).wf = true) : -9223372036854775808 ≤ n ∧ n ≤ 9223372036854775807 := by
  simp [Lit.wf, IntKind.min, IntKind.max, IntKind.signed, IntKind.bits] at h; omega
end Go.Proofs.Ytehcfeibfpgamaa
