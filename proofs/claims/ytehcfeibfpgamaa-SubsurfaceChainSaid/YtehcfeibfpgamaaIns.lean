/- slices.Insert at []int, out of the library's contracts. -/
import Derived.Test.YtehcfeibfpgamaaBas2
import Derived.Shelf.Spec.SlicesInsertGrow
import Derived.Shelf.Lays2
set_option linter.unusedVariables false
set_option linter.unusedSimpArgs false
set_option maxRecDepth 100000
namespace Go.Proofs.Ytehcfeibfpgamaa
open Go.RowKit

def ren : Go.Shelf.Ren := { g := fun k => k, f := fun k => if k = 21 then 55 else if k = 27 then 67 else if k = 28 then 68 else if k = 35 then 70 else 71, t := fun k => if k = 0 then 0 else if k = 3 then 3 else if k = 4 then 4 else 29 }
theorem lays_insert : Go.Proofs.Lays2.n21 Try.prog ren := {
  mixed := by kernel_rfl
  f21 := by kernel_rfl
  f27 := by kernel_rfl
  f28 := by kernel_rfl
  f35 := by kernel_rfl
  f39 := by kernel_rfl
  t0 := by kernel_rfl
  a0 := fun _ => by kernel_rfl
  z0 := fun _ => by kernel_rfl
  v0 := fun _ => by kernel_rfl
  t3 := by kernel_rfl
  a3 := fun _ => by kernel_rfl
  z3 := fun _ => by kernel_rfl
  v3 := fun _ => by kernel_rfl
  t4 := by kernel_rfl
  a4 := fun _ => by kernel_rfl
  z4 := fun _ => by kernel_rfl
  v4 := fun _ => by kernel_rfl
  t22 := by kernel_rfl
  a22 := fun _ => by kernel_rfl
  z22 := fun _ => by kernel_rfl
  v22 := fun _ => by kernel_rfl
  i3 := by kernel_rfl }

theorem at_setCells {g : Nat} {T : TypeId} {F : Nat × Nat} : ∀ (vs : List Value) (o : Nat) (w : World) (C : List Value), w.heap[g]? = some (.cells C.toArray T F) → o + vs.length ≤ C.length → (w.setCells g o vs).heap[g]? = some (.cells (C.take o ++ vs ++ C.drop (o + vs.length)).toArray T F)
  | [], o, w, C, h, _ => by
    show w.heap[g]? = _
    rw [h, List.append_nil, List.length_nil, Nat.add_zero, List.take_append_drop]
  | v :: vs, o, w, C, h, hl => by
    simp only [List.length_cons] at hl
    have h1 := at_setCells vs (o + 1) (w.setCell ⟨g, o, none⟩ v) (C.set o v) (at_setCell v h) (by rw [List.length_set]; omega)
    show ((w.setCell ⟨g, o, none⟩ v).setCells g (o + 1) vs).heap[g]? = _
    rw [h1]
    congr 3
    have e1 : (C.set o v).take (o + 1) = C.take o ++ [v] := by
      rw [List.take_add_one, List.take_set_of_le (Nat.le_refl _), List.getElem?_set_self (by omega)]
      rfl
    have e2 : (C.set o v).drop (o + 1 + vs.length) = C.drop (o + (vs.length + 1)) := by
      rw [List.drop_set_of_lt (by omega), show o + 1 + vs.length = o + (vs.length + 1) by omega]
    rw [e1, e2, List.length_cons]
    simp only [List.append_assoc, List.singleton_append, List.cons_append, List.nil_append]
theorem chg_setCells (g : Nat) : ∀ (vs : List Value) (o : Nat) (w : World), Chg (fun x => x = g) w (w.setCells g o vs)
  | [], _, w => Chg.refl _ w
  | v :: vs, o, w => ((Chg.refl (fun x => x = g) w).setCell ⟨g, o, none⟩ v (fun _ => rfl)).trans (chg_setCells g vs (o + 1) _)

def ints (xs : List Int) : List Value := xs.map (Value.int .i64)
/-- What an insert at the head leaves. -/
def InsOut (base : Nat) (n : Nat) (ys : List Int) (w : World) (e : Ending) (w' : World) : Prop :=
  ∃ g cap, e = .returned (.slice (some ⟨g, 0, none⟩) n cap) ∧ w'.ownsRow base 3 1 (.slice (some ⟨g, 0, none⟩) n cap) n (ints ys) ∧ Chg (fun x => base ≤ x) w w'
theorem insert_ok (base g n cap : Nat) (xs : List Int) (x : Int) (w : World) (h : w.ownsRow base 3 1 (.slice (some ⟨g, 0, none⟩) n cap) n (ints xs)) (hn0 : 0 < n) (hn : n ≤ 100) (hb : base ≤ w.heap.size) :
    Calls Try.prog 55 #[.slice (some ⟨g, 0, none⟩) n cap, .int .i64 0, .slice (some ⟨w.heap.size, 0, none⟩) 1 1] (w.alloc (.cells #[.int .i64 x] 3)) (InsOut base (n + 1) (x :: xs) (w.alloc (.cells #[.int .i64 x] 3))) := by
  have hxl : xs.length = n := by have := h.1; simpa [ints] using this
  rcases h.2 with ⟨hc, _⟩ | ⟨g', cap', cur, hv, hg, hgg, hnc, hcm, hcs, ht⟩
  · cases hc
  simp only [Value.slice.injEq, Option.some.injEq, Addr.mk.injEq, and_true, true_and] at hv
  obtain ⟨rfl, rfl⟩ := hv
  have hgl := lt_of_at hgg
  have hW := at_alloc (o' := .cells #[.int .i64 x] 3) hgg
  have hx := at_new w (.cells #[.int .i64 x] 3)
  have hcur : w.heap[g]? = some (.cells cur.toList.toArray 3 (0, 0)) := by rw [hgg]
  have hW' : (w.alloc (.cells #[.int .i64 x] 3)).heap[g]? = some (.cells cur.toList.toArray 3 (0, 0)) := hW
  rw [Nat.mul_one] at hcs ht
  have hcells : ∀ j v, (ints xs)[j]? = some v → (w.alloc (.cells #[.int .i64 x] 3)).cell? ⟨g, 0 + j, none⟩ = some v := by
    intro j v hj
    rw [cell_at hW', Nat.zero_add]
    rw [← ht, List.getElem?_take] at hj
    split at hj
    · exact hj
    · cases hj
  have hxs : ∀ j v, ([Value.int .i64 x])[j]? = some v → (w.alloc (.cells #[.int .i64 x] 3)).cell? ⟨w.heap.size, 0 + j, none⟩ = some v := by
    intro j v hj
    rw [cell_of_row _ _ _ _ _ _ hx, Nat.zero_add]
    simpa using hj
  have h1 : ∀ v ∈ ints xs, v.oneCell' = true := by
    intro v hv
    unfold ints at hv
    rw [List.mem_map] at hv
    obtain ⟨_, _, rfl⟩ := hv
    rfl
  have h1x : ∀ v ∈ [Value.int .i64 x], v.oneCell' = true := by
    intro v hv
    rw [List.mem_singleton] at hv
    subst hv
    rfl
  have hil : (ints xs).length = n := by simp [ints, hxl]
  by_cases hroom : n + 1 ≤ cap
  · have hsp : ∀ j, j < n + 1 → ((w.alloc (.cells #[.int .i64 x] 3)).cell? ⟨g, 0 + j, none⟩).isSome = true := by
      intro j hj
      rw [cell_at hW', Nat.zero_add, List.getElem?_eq_getElem (by rw [Array.length_toList, hcs]; omega)]
      rfl
    refine (Any2.slices_Insert_int_shift lays_insert g 0 n cap 0 w.heap.size 0 1 1 (ints xs) [.int .i64 x] _ hn0 (by omega) hroom (by unfold maxLen at hcm; omega) (by omega) hil rfl hcells hsp (fun j _ => frozen_of_row _ _ _ _ _ hW) hxs h1 h1x 3 3 1 cur.size (by unfold World.shape?; rw [hx]; rfl) (by unfold World.shape?; rw [hW]) (by omega) (frozen_of_row _ _ _ _ _ hx) (frozen_of_row _ _ _ _ _ hx)).mono ?_
    rintro e w' ⟨rfl, rfl⟩
    have hlt : n + 1 ≤ cur.toList.length := by rw [Array.length_toList, hcs]; omega
    have b1 := at_setCells (ints xs) (0 + (0 + 1)) (w.alloc (.cells #[.int .i64 x] 3)).drew _ hW' (by rw [hil]; omega)
    have b2 := at_setCells [Value.int .i64 x] (0 + 0) _ _ b1 (by simp [hil]; omega)
    refine ⟨g, cap, rfl, ⟨by simp [ints, hxl], .inr ⟨g, cap, _, rfl, hg, b2, hroom, hcm, ?_, ?_⟩⟩, ?_⟩
    · simp [hil]; omega
    · simp only [Nat.zero_add, Nat.add_zero, List.take_zero, List.nil_append, List.length_singleton, Nat.mul_one]
      rw [List.append_assoc, List.drop_left' (by rw [List.length_take]; omega)]
      simp [ints, List.take_append_of_le_length, hxl]
    · exact ((Chg.refl _ _).drew.trans ((chg_setCells g _ _ _).mono (fun y _ e => by omega))).trans ((chg_setCells g _ _ _).mono (fun y _ e => by omega))
  · refine (Any2.slices_Insert_int_grow lays_insert g 0 n cap 0 w.heap.size 0 1 1 (ints xs) [.int .i64 x] _ hn0 (by omega) hnc (by omega) (by omega) hil rfl hcells hxs h1 h1x).mono ?_
    rintro e w' ⟨rfl, rfl⟩
    generalize hcg : grownCap (w.alloc (.cells #[.int .i64 x] 3)) (n + 1) cap (ren.t 3) = cg
    have hcg1 : n + 1 ≤ cg := by rw [← hcg]; exact grownCap_ge _ _ _ _
    have hcg2 : cg ≤ maxLen := by rw [← hcg]; exact grownCap_le_maxLen _ _ _ _ (by unfold maxLen; omega)
    generalize hW2 : w.alloc (.cells #[.int .i64 x] 3) = W2 at *
    have b0 := at_new W2 (.cells (((ints xs).take 0).toArray ++ Builtin.zeroCells (Value.int .i64 0).cells (n + 1 - 0) ++ Builtin.zeroCells (Value.int .i64 0).cells (cg - (n + 1))) (ren.t 3))
    obtain ⟨Z, hZ⟩ : ∃ Z : List Value, Z = (((ints xs).take 0).toArray ++ Builtin.zeroCells (Value.int .i64 0).cells (n + 1 - 0) ++ Builtin.zeroCells (Value.int .i64 0).cells (cg - (n + 1))).toList := ⟨_, rfl⟩
    have hZl : Z.length = cg := by
      rw [hZ]
      simp [size_zeroCells, Value.cells]
      omega
    have hZa : (((ints xs).take 0).toArray ++ Builtin.zeroCells (Value.int .i64 0).cells (n + 1 - 0) ++ Builtin.zeroCells (Value.int .i64 0).cells (cg - (n + 1))) = Z.toArray := by rw [hZ]
    rw [hZa] at b0 ⊢
    clear hZ hZa
    have b1 := at_setCells [Value.int .i64 x] 0 _ Z (show (W2.alloc (.cells Z.toArray (ren.t 3))).drew.heap[W2.heap.size]? = _ from b0) (by simp; omega)
    have b2 := at_setCells ((ints xs).drop 0) (0 + 1) _ _ (show (((W2.alloc (.cells Z.toArray (ren.t 3))).drew.setCells W2.heap.size 0 [Value.int .i64 x]).drew).heap[W2.heap.size]? = _ from b1) (by simp [hil, hZl]; omega)
    have hsz : w.heap.size ≤ W2.heap.size := by rw [← hW2]; simp
    refine ⟨W2.heap.size, cg, rfl, ⟨by simp [ints, hxl], .inr ⟨W2.heap.size, cg, _, rfl, by omega, b2, hcg1, hcg2, ?_, ?_⟩⟩, ?_⟩
    · simp [hil, hZl]; omega
    · simp only [Nat.zero_add, List.take_zero, List.nil_append, List.length_singleton, Nat.mul_one, List.drop_zero]
      rw [List.take_append_of_le_length (by simp [ints, hxl] <;> omega)]
      simp only [ints, List.take_succ_cons, List.map_cons, List.singleton_append]
      rw [List.take_of_length_le (by simp [hxl])]
      simp
    · exact ((((Chg.refl _ W2).alloc _).drew.trans ((chg_setCells _ _ _ _).mono (fun y _ e => by omega))).drew).trans ((chg_setCells _ _ _ _).mono (fun y _ e => by omega))
end Go.Proofs.Ytehcfeibfpgamaa
