/- Maps keyed by int, told as functions from keys to values: look-up, store, delete, made anew. -/
import Derived.Test.YtehcfeibfpgamaaBas2
import Derived.Maps.OwnSet
set_option linter.unusedVariables false
set_option linter.unusedSimpArgs false
set_option maxRecDepth 100000
namespace Go.Proofs.Ytehcfeibfpgamaa
open Go.RowKit Go.MapKept

/-- Block b is a map that holds at key k just what f says. -/
def MapIs (w : World) (b : Nat) (f : Int → Option Value) : Prop :=
  ∃ es clock, w.heap[b]? = some (.map es clock) ∧ Stamped es clock ∧ (∀ x ∈ es.toList, IsKey (.int .i64) x.key) ∧ ∀ k v, f k = some v ↔ ∃ x ∈ es.toList, x.key = .int .i64 k ∧ x.val = v

theorem MapIs.lt {w : World} {b : Nat} {f : Int → Option Value} (h : MapIs w b f) : b < w.heap.size := by
  obtain ⟨es, clock, hb, _⟩ := h; exact lt_of_at hb
theorem MapIs.chg {S : Nat → Prop} {w w' : World} {b : Nat} {f : Int → Option Value} (h : MapIs w b f) (k : Chg S w w') (hs : ¬ S b) : MapIs w' b f := by
  obtain ⟨es, clock, hb, r⟩ := h; exact ⟨es, clock, k.at_ hb hs, r⟩
theorem MapIs.made (w : World) : MapIs (w.alloc (.map #[] 0)) w.heap.size (fun _ => none) :=
  ⟨#[], 0, at_new _ _, stamped_empty 0, by simp, by simp⟩
theorem MapIs.congr {w : World} {b : Nat} {f g : Int → Option Value} (h : MapIs w b f) (e : ∀ k, g k = f k) : MapIs w b g := by
  have : g = f := funext e
  rw [this]; exact h

theorem key_ext {v : Value} (h : IsKey (.int .i64) v) : ∃ k, v = .int .i64 k := by
  cases v <;> simp [IsKey] at h
  subst h; exact ⟨_, rfl⟩
section
variable {P : Program} {w : World} {b : Nat} {f : Int → Option Value} {t kt et : TypeId}
theorem MapIs.find (h : MapIs w b f) (k : Int) : ∃ es clock, w.heap[b]? = some (.map es clock) ∧
    ((f k = none ∧ Instr.findNow (.int .i64) (.int .i64 k) es.toList 0 = some none ∧ ∀ x ∈ es.toList, x.key ≠ .int .i64 k) ∨
      ∃ j e, f k = some e.val ∧ Instr.findNow (.int .i64) (.int .i64 k) es.toList 0 = some (some (j, e.val)) ∧ es.toList[j]? = some e ∧ e.key = .int .i64 k) := by
  obtain ⟨es, clock, hb, hs, hk, hf⟩ := h
  refine ⟨es, clock, hb, ?_⟩
  rcases findNow_spec (d := .int .i64) (k := .int .i64 k) rfl es.toList 0 hk with ⟨h1, h2⟩ | ⟨j, e, h1, h2, h3⟩
  · refine .inl ⟨?_, h1, h2⟩
    cases hv : f k with
    | none => rfl
    | some v => obtain ⟨x, hx, hxk, _⟩ := (hf k v).1 hv; exact absurd hxk (h2 x hx)
  · refine .inr ⟨j, e, (hf k e.val).2 ⟨e, List.mem_of_getElem? h2, h3, rfl⟩, by simpa using h1, h2, h3⟩

/-- 'm[k]', 'v, ok := m[k]'. -/
theorem MapIs.look (h : MapIs w b f) (ht : P.underlying t = some (.map kt et)) (hk : P.underlying kt = some (.int .i64)) {z : Value} (hz : (zeroValue et).run P w = .ok z w) (k : Int) (c : Bool) :
    (Instr.lookup t (.map (some b)) (.int .i64 k) c).run P w = .ok (if c then .tuple #[(f k).getD z, .bool (f k).isSome] else (f k).getD z) w := by
  obtain ⟨es, clock, hb, hor⟩ := h.find k
  rcases hor with ⟨h0, h1, _⟩ | ⟨j, e, h0, h1, _, _⟩
  · rw [h0]
    simp [Instr.lookup, run_underlying ht, MapKept.run_getObj_map hb, run_checkKey hk (show IsKey (.int .i64) (.int .i64 k) from rfl), run_findKey hk h1, hz, Result.andThen]
  · rw [h0]
    simp [Instr.lookup, run_underlying ht, MapKept.run_getObj_map hb, run_checkKey hk (show IsKey (.int .i64) (.int .i64 k) from rfl), run_findKey hk h1, hz, Result.andThen]

theorem chg_block {w : World} {b : Nat} {o o' : Obj} (hb : w.heap[b]? = some o) : Chg (fun x => x = b) w { w with heap := w.heap.setIfInBounds b o' } :=
  ⟨rfl, rfl, rfl, by simp, fun i _ hi => (heap_set hb).2 i hi⟩

/-- 'm[k] = v'. -/
theorem MapIs.store (h : MapIs w b f) (ht : P.underlying t = some (.map kt et)) (hk : P.underlying kt = some (.int .i64)) (k : Int) (v : Value) :
    ∃ w', (Instr.mapUpdate t (.map (some b)) (.int .i64 k) v).run P w = .ok () w' ∧ MapIs w' b (fun x => if x = k then some v else f x) ∧ Chg (fun x => x = b) w w' := by
  obtain ⟨es, clock, hb, hs, hks, hf⟩ := h
  have hik : IsKey (.int .i64) (.int .i64 k) := rfl
  rcases findNow_spec (d := .int .i64) (k := .int .i64 k) rfl es.toList 0 hks with ⟨h1, h2⟩ | ⟨j, e, h1, h2, h3⟩
  · refine ⟨_, by simp [Instr.mapUpdate, run_underlying ht, MapKept.run_getObj_map hb, run_checkKey hk hik, run_findKey hk h1, MapKept.run_setObj_map _ hb, Result.andThen]; rfl, ⟨_, _, (heap_set hb).1, stamped_push hs h2, ?_, ?_⟩, chg_block hb⟩
    · intro x hx
      simp only [Array.toList_push, List.mem_append, List.mem_singleton] at hx
      rcases hx with hx | rfl
      · exact hks x hx
      · exact hik
    · intro k' v'
      simp only [Array.toList_push, List.mem_append, List.mem_singleton]
      by_cases hkk : k' = k
      · subst hkk
        rw [if_pos rfl]
        constructor
        · intro q; cases q; exact ⟨_, .inr rfl, rfl, rfl⟩
        · rintro ⟨x, hx | rfl, q1, q2⟩
          · exact absurd q1 (h2 x hx)
          · exact congrArg some q2
      · rw [if_neg hkk, hf]
        constructor
        · rintro ⟨x, hx, q⟩; exact ⟨x, .inl hx, q⟩
        · rintro ⟨x, hx | rfl, q1, q2⟩
          · exact ⟨x, hx, q1, q2⟩
          · simp at q1; exact absurd q1.symm hkk
  · have hj : es[j]? = some e := by simpa using h2
    have hst : (Instr.keyThatStays (((es[j]?).map (·.key)).getD (.int .i64 k)) (.int .i64 k)).run P w = .ok (.int .i64 k) w := by
      rw [hj]; simp only [Option.map_some, Option.getD_some, h3]; exact run_keyThatStays hik
    have hget : ∀ i, (es.modify j fun e => { e with key := .int .i64 k, val := v })[i]? = if j = i then some { e with key := .int .i64 k, val := v } else es[i]? := by
      intro i
      rw [Array.getElem?_modify]
      split
      · rename_i hji; subst hji; rw [hj]; rfl
      · rfl
    have hmem : ∀ x, x ∈ (es.modify j fun e => { e with key := .int .i64 k, val := v }).toList ↔ x = { e with key := .int .i64 k, val := v } ∨ ∃ i, i ≠ j ∧ es[i]? = some x := by
      intro x
      rw [List.mem_iff_getElem?]
      constructor
      · rintro ⟨i, hi⟩
        rw [Array.getElem?_toList, hget] at hi
        split at hi
        · exact .inl (by simpa using hi.symm)
        · exact .inr ⟨i, fun q => by simp_all, hi⟩
      · rintro (rfl | ⟨i, hne, hi⟩)
        · exact ⟨j, by rw [Array.getElem?_toList, hget, if_pos rfl]⟩
        · exact ⟨i, by rw [Array.getElem?_toList, hget, if_neg (Ne.symm hne)]; exact hi⟩
    have huniq : ∀ i x, es[i]? = some x → x.key = .int .i64 k → i = j := by
      intro i x hi hx
      have hnd := hs.2.2
      have e1 : (es.toList.map (·.key))[i]? = some (.int .i64 k) := by rw [List.getElem?_map, Array.getElem?_toList, hi]; exact congrArg some hx
      have e2 : (es.toList.map (·.key))[j]? = some (.int .i64 k) := by rw [List.getElem?_map, h2]; exact congrArg some h3
      exact (List.getElem?_inj (List.getElem?_eq_some_iff.1 e1).1 hnd).1 (e1.trans e2.symm)
    refine ⟨_, by simp [Instr.mapUpdate, run_underlying ht, MapKept.run_getObj_map hb, run_checkKey hk hik, run_findKey hk h1, hst, MapKept.run_setObj_map _ hb, Result.andThen]; rfl, ⟨_, _, (heap_set hb).1, ?_, ?_, ?_⟩, chg_block hb⟩
    · exact stamped_modify hs j _ (fun _ _ => rfl) (fun x _ hx => by rw [hj] at hx; cases hx; exact h3.symm)
    · intro x hx
      rcases (hmem x).1 hx with rfl | ⟨i, _, hi⟩
      · exact hik
      · exact hks x (Array.mem_toList_iff.2 (Array.mem_of_getElem? hi))
    · intro k' v'
      dsimp only
      by_cases hkk : k' = k
      · subst hkk
        rw [if_pos rfl]
        constructor
        · intro q; cases q; exact ⟨_, (hmem _).2 (.inl rfl), rfl, rfl⟩
        · rintro ⟨x, hx, q1, q2⟩
          rcases (hmem x).1 hx with rfl | ⟨i, hne, hi⟩
          · exact congrArg some q2
          · exact absurd (huniq i x hi q1) hne
      · rw [if_neg hkk, hf]
        constructor
        · rintro ⟨x, hx, q1, q2⟩
          obtain ⟨i, hi⟩ := List.mem_iff_getElem?.1 hx
          rw [Array.getElem?_toList] at hi
          refine ⟨x, (hmem x).2 (.inr ⟨i, ?_, hi⟩), q1, q2⟩
          rintro rfl
          rw [hj] at hi
          cases hi
          rw [h3] at q1
          simp at q1
          exact hkk q1.symm
        · rintro ⟨x, hx, q1, q2⟩
          rcases (hmem x).1 hx with rfl | ⟨i, hne, hi⟩
          · simp at q1; exact absurd q1.symm hkk
          · exact ⟨x, Array.mem_toList_iff.2 (Array.mem_of_getElem? hi), q1, q2⟩

/-- 'delete(m, k)'. -/
theorem MapIs.drop (h : MapIs w b f) (ht : P.underlying t = some (.map kt et)) (hk : P.underlying kt = some (.int .i64)) (ty : TypeId) (k : Int) :
    ∃ w', (Builtin.delete_ #[t, kt] ty #[.map (some b), .int .i64 k]).run P w = .ok (.tuple #[]) w' ∧ MapIs w' b (fun x => if x = k then none else f x) ∧ Chg (fun x => x = b) w w' := by
  obtain ⟨es, clock, hb, hs, hks, hf⟩ := h
  have hik : IsKey (.int .i64) (.int .i64 k) := rfl
  rcases findNow_spec (d := .int .i64) (k := .int .i64 k) rfl es.toList 0 hks with ⟨h1, h2⟩ | ⟨j, e, h1, h2, h3⟩
  · refine ⟨_, by simp [Builtin.delete_, run_underlying ht, MapKept.run_getObj_map hb, run_checkKey hk hik, run_findKey hk h1, MapKept.run_setObj_map _ hb, Result.andThen], ⟨_, _, (heap_set hb).1, hs, hks, ?_⟩, chg_block hb⟩
    intro k' v'
    dsimp only
    by_cases hkk : k' = k
    · subst hkk
      rw [if_pos rfl]
      constructor
      · intro q; cases q
      · rintro ⟨x, hx, q1, _⟩; exact absurd q1 (h2 x hx)
    · rw [if_neg hkk, hf]
  · have hlt : j < es.size := by have := (List.getElem?_eq_some_iff.1 h2).1; simpa using this
    have hel : (es.eraseIdxIfInBounds j).toList = es.toList.eraseIdx j := by
      unfold Array.eraseIdxIfInBounds; rw [dif_pos hlt]; exact Array.toList_eraseIdx ..
    have huniq : ∀ i x, es.toList[i]? = some x → x.key = .int .i64 k → i = j := by
      intro i x hi hx
      have hnd := hs.2.2
      have e1 : (es.toList.map (·.key))[i]? = some (.int .i64 k) := by rw [List.getElem?_map, hi]; exact congrArg some hx
      have e2 : (es.toList.map (·.key))[j]? = some (.int .i64 k) := by rw [List.getElem?_map, h2]; exact congrArg some h3
      exact (List.getElem?_inj (List.getElem?_eq_some_iff.1 e1).1 hnd).1 (e1.trans e2.symm)
    refine ⟨_, by simp [Builtin.delete_, run_underlying ht, MapKept.run_getObj_map hb, run_checkKey hk hik, run_findKey hk h1, MapKept.run_setObj_map _ hb, Result.andThen], ⟨_, _, (heap_set hb).1, stamped_erase hs j, ?_, ?_⟩, chg_block hb⟩
    · intro x hx
      rw [hel] at hx
      exact hks x (List.mem_of_mem_eraseIdx hx)
    · intro k' v'
      rw [hel]
      dsimp only
      by_cases hkk : k' = k
      · subst hkk
        rw [if_pos rfl]
        constructor
        · intro q; cases q
        · rintro ⟨x, hx, q1, _⟩
          obtain ⟨i, hne, hi⟩ := List.mem_eraseIdx_iff_getElem?.1 hx
          exact absurd (huniq i x hi q1) hne
      · rw [if_neg hkk, hf]
        constructor
        · rintro ⟨x, hx, q1, q2⟩
          obtain ⟨i, hi⟩ := List.mem_iff_getElem?.1 hx
          refine ⟨x, List.mem_eraseIdx_iff_getElem?.2 ⟨i, ?_, hi⟩, q1, q2⟩
          rintro rfl
          rw [h2] at hi
          cases hi
          rw [h3] at q1
          simp at q1
          exact hkk q1.symm
        · rintro ⟨x, hx, q1, q2⟩
          exact ⟨x, List.mem_of_mem_eraseIdx hx, q1, q2⟩
end

theorem run_neq_map {P : Program} {t k e : TypeId} (ht : P.underlying t = some (.map k e)) (w : World) (a : Option Nat) : (binOp .neq t (.map a) (.map none)).run P w = .ok (.bool !a.isNone) w := by
  have h : ∀ d : Nat, (Op.equalIn (d + 1) t (.map a) (.map none)).run P w = .ok a.isNone w := fun d => by
    cases a <;> simp [Op.equalIn, run_underlying ht]
  simp only [binOp]
  simp [Op.equal, Op.maxDepth, h 9999]
/-! ### At the operation -/
section
variable {P : Program} {ops : Array Oper} {Q : Exit → Act → World → Prop} {rest : List Oper} {a : Act} {w : World} {d : Option Tmp} {ty t kt et : TypeId} {ps : String} {ed : Array Edge} {b : Nat} {f : Int → Option Value}
theorem wpl_lookup {c : Bool} (x y : Operand) (V : Value) (hr : (Instr.lookup t (a.eval x) (a.eval y) c).run P w = .ok V w) (h : wpList P ops Q rest (a.put d V) w) :
    wpList P ops Q (⟨d, .lookup t x y c, ty, ps, ed, none⟩ :: rest) a w :=
  wpl_ok V rfl (by unfold execOp; simp only [Sem.run_bind, hr, Result.andThen_ok, Sem.run_pure]) h
theorem wpl_mapStore (hm : MapIs w b f) (ht : P.underlying t = some (.map kt et)) (hk : P.underlying kt = some (.int .i64)) (x y z : Operand) (k : Int) (v : Value) (hx : a.eval x = .map (some b)) (hy : a.eval y = .int .i64 k) (hz : a.eval z = v)
    (h : ∀ w', MapIs w' b (fun x => if x = k then some v else f x) → Chg (fun x => x = b) w w' → wpList P ops Q rest (a.put d undef) w') :
    wpList P ops Q (⟨d, .mapUpdate t x y z, ty, ps, ed, none⟩ :: rest) a w := by
  obtain ⟨w', hr, h1, h2⟩ := hm.store ht hk k v
  exact wpl_skip rfl (by unfold execOp; simp only [hx, hy, hz, Sem.run_bind, hr, Result.andThen_ok, Sem.run_pure]) (h w' h1 h2)
theorem wpl_mapDrop (hm : MapIs w b f) (ht : P.underlying t = some (.map kt et)) (hk : P.underlying kt = some (.int .i64)) (x y : Operand) (k : Int) (hx : a.eval x = .map (some b)) (hy : a.eval y = .int .i64 k)
    (h : ∀ w', MapIs w' b (fun x => if x = k then none else f x) → Chg (fun x => x = b) w w' → wpList P ops Q rest (a.put d (.tuple #[])) w') :
    wpList P ops Q (⟨d, .call { callee := .builtin .delete, args := #[x, y], argTypes := #[t, kt] }, ty, ps, ed, none⟩ :: rest) a w := by
  obtain ⟨w', hr, h1, h2⟩ := hm.drop ht hk ty k
  exact wpl_ok _ rfl (by simp [execOp, resolve, invoke, builtin, hx, hy, hr, Result.andThen]) (h w' h1 h2)
end
end Go.Proofs.Ytehcfeibfpgamaa
