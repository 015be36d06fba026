/- slices.Insert at []int with room, anywhere; Place. -/
import Derived.Test.YtehcfeibfpgamaaSubH
import Derived.Laws.OwnMore
import Derived.Deep.Cut
set_option linter.unusedVariables false
set_option linter.unusedSimpArgs false
set_option maxRecDepth 100000
namespace Go.Proofs.Ytehcfeibfpgamaa
open Go.RowKit

section
variable {w w' : World} {b bm : Nat} {nb : Int → Nat} {R R' Q : Nat → Prop} {S : Fo} {i p : Int} {n : Nd}
theorem mid_list {α : Type} (C L : List α) (n k : Nat) (v : α) (hk : k < n) (hL : L.length = n) (hC : n + 1 ≤ C.length) (ht : C.take n = L) :
    ((C.take (0 + (k + 1)) ++ L.drop k ++ C.drop (0 + (k + 1) + (L.drop k).length)).take (0 + k) ++ [v] ++ (C.take (0 + (k + 1)) ++ L.drop k ++ C.drop (0 + (k + 1) + (L.drop k).length)).drop (0 + k + [v].length)).take (n + 1) = L.take k ++ v :: L.drop k := by
  have hd : (L.drop k).length = n - k := by rw [List.length_drop, hL]
  simp only [Nat.zero_add, List.length_singleton, List.append_assoc]
  have e1 : (C.take (k + 1) ++ (L.drop k ++ C.drop (k + 1 + (L.drop k).length))).take k = L.take k := by
    rw [List.take_append_of_le_length (by rw [List.length_take]; omega), List.take_take, ← ht, List.take_take]
    congr 1
    omega
  have e2 : (C.take (k + 1) ++ (L.drop k ++ C.drop (k + 1 + (L.drop k).length))).drop (k + 1) = L.drop k ++ C.drop (k + 1 + (L.drop k).length) := List.drop_left' (by rw [List.length_take]; omega)
  rw [e1, e2]
  have e3 : L.take k ++ ([v] ++ (L.drop k ++ C.drop (k + 1 + (L.drop k).length))) = (L.take k ++ v :: L.drop k) ++ C.drop (k + 1 + (L.drop k).length) := by simp
  rw [e3]
  exact List.take_left' (by rw [List.length_append, List.length_take, List.length_cons, hd]; omega)
theorem end_list {α : Type} (C L : List α) (k : Nat) (v : α) (hL : L.length = k) (hC : k + 1 ≤ C.length) (ht : C.take k = L) :
    (C.take (0 + k) ++ [v] ++ C.drop (0 + k + [v].length)).take (k + 1) = L.take k ++ v :: L.drop k := by
  simp only [Nat.zero_add]
  rw [ht, List.take_of_length_le (show L.length ≤ k by omega), List.drop_of_length_le (show L.length ≤ k by omega)]
  exact List.take_left' (by rw [List.length_append, hL]; rfl)
theorem insert_room (base g n cap k : Nat) (xs : List Int) (x : Int) (w : World) (h : w.ownsRow base 3 1 (.slice (some ⟨g, 0, none⟩) n cap) n (ints xs)) (hk : k ≤ n) (hroom : n + 1 ≤ cap) :
    Calls Try.prog 55 #[.slice (some ⟨g, 0, none⟩) n cap, .int .i64 k, .slice (some ⟨w.heap.size, 0, none⟩) 1 1] (w.alloc (.cells #[.int .i64 x] 3)) fun e w' =>
      e = .returned (.slice (some ⟨g, 0, none⟩) (n + 1) cap) ∧ w'.ownsRow base 3 1 (.slice (some ⟨g, 0, none⟩) (n + 1) cap) (n + 1) (ints (xs.take k ++ x :: xs.drop k)) ∧ Chg (fun x => x = g) (w.alloc (.cells #[.int .i64 x] 3)) w' := by
  have hxl : xs.length = n := by have := h.1; simpa [ints] using this
  rcases h.2 with ⟨hc, _⟩ | ⟨g', cap', cur, hv, hg, hgg, hnc, hcm, hcs, ht⟩
  · cases hc
  simp only [Value.slice.injEq, Option.some.injEq, Addr.mk.injEq, and_true, true_and] at hv
  obtain ⟨rfl, rfl⟩ := hv
  have hgl := lt_of_at hgg
  have hx := at_new w (.cells #[.int .i64 x] 3)
  have hW' : (w.alloc (.cells #[.int .i64 x] 3)).heap[g]? = some (.cells cur.toList.toArray 3 (0, 0)) := at_alloc (o' := .cells #[.int .i64 x] 3) (by rw [hgg])
  have hW : (w.alloc (.cells #[.int .i64 x] 3)).heap[g]? = some (.cells cur 3 (0, 0)) := at_alloc (o' := .cells #[.int .i64 x] 3) hgg
  rw [Nat.mul_one] at hcs ht
  have hcells : ∀ j v, (ints xs)[j]? = some v → (w.alloc (.cells #[.int .i64 x] 3)).cell? ⟨g, 0 + j, none⟩ = some v := by
    intro j v hj
    rw [cell_at hW', Nat.zero_add]
    rw [← ht, List.getElem?_take] at hj
    split at hj
    · exact hj
    · cases hj
  have hxs : ∀ j v, ([Value.int .i64 x])[j]? = some v → (w.alloc (.cells #[.int .i64 x] 3)).cell? ⟨w.heap.size, 0 + j, none⟩ = some v := by
    intro j v hj
    rw [cell_of_row _ _ _ _ _ _ hx, Nat.zero_add]
    simpa using hj
  have h1 : ∀ v ∈ ints xs, v.oneCell' = true := by
    intro v hv
    unfold ints at hv
    rw [List.mem_map] at hv
    obtain ⟨_, _, rfl⟩ := hv
    rfl
  have h1x : ∀ v ∈ [Value.int .i64 x], v.oneCell' = true := by
    intro v hv
    rw [List.mem_singleton] at hv
    subst hv
    rfl
  have hil : (ints xs).length = n := by simp [ints, hxl]
  have hsp : ∀ j, j < n + 1 → ((w.alloc (.cells #[.int .i64 x] 3)).cell? ⟨g, 0 + j, none⟩).isSome = true := by
    intro j hj
    rw [cell_at hW', Nat.zero_add, List.getElem?_eq_getElem (by rw [Array.length_toList, hcs]; omega)]
    rfl
  have hlt : n + 1 ≤ cur.toList.length := by rw [Array.length_toList, hcs]; omega
  by_cases hkn : k < n
  · refine (Any2.slices_Insert_int_shift lays_insert g 0 n cap k w.heap.size 0 1 1 (ints xs) [.int .i64 x] _ hkn (by omega) hroom (by unfold maxLen at hcm; omega) (by omega) hil rfl hcells hsp (fun j _ => frozen_of_row _ _ _ _ _ hW) hxs h1 h1x 3 3 1 cur.size (by unfold World.shape?; rw [hx]; rfl) (by unfold World.shape?; rw [hW]) (by omega) (frozen_of_row _ _ _ _ _ hx) (frozen_of_row _ _ _ _ _ hx)).mono ?_
    rintro e w' ⟨rfl, rfl⟩
    have hdl : ((ints xs).drop k).length = n - k := by rw [List.length_drop, hil]
    have b1 := at_setCells ((ints xs).drop k) (0 + (k + 1)) (w.alloc (.cells #[.int .i64 x] 3)).drew _ hW' (by rw [hdl]; omega)
    have b2 := at_setCells [Value.int .i64 x] (0 + k) _ _ b1 (by simp [hil]; omega)
    refine ⟨rfl, ⟨by simp [ints, hxl]; omega, .inr ⟨g, cap, _, rfl, hg, b2, hroom, hcm, ?_, ?_⟩⟩, ?_⟩
    · simp [hil]; omega
    · rw [Nat.mul_one]
      have := mid_list cur.toList (ints xs) n k (.int .i64 x) hkn hil hlt ht
      rw [this]
      simp [ints]
    · exact ((Chg.refl _ _).drew.trans (chg_setCells g _ _ _)).trans (chg_setCells g _ _ _)
  · obtain rfl : k = n := by omega
    refine (Any2.slices_Insert_int_end_room lays_insert g 0 k cap w.heap.size 0 1 1 [.int .i64 x] _ (by omega) hroom (by unfold maxLen at hcm; omega) rfl (fun j hj => by have := hsp (k + j) (by omega); rwa [← Nat.add_assoc] at this) (fun j _ => frozen_of_row _ _ _ _ _ hW) hxs h1x).mono ?_
    rintro e w' ⟨rfl, rfl⟩
    have b2 := at_setCells [Value.int .i64 x] (0 + k) _ _ hW' (by simp at hlt ⊢; omega)
    refine ⟨rfl, ⟨by simp [ints, hxl], .inr ⟨g, cap, _, rfl, hg, b2, hroom, hcm, ?_, ?_⟩⟩, chg_setCells g _ _ _⟩
    · simp; omega
    · rw [Nat.mul_one]
      have := end_list cur.toList (ints xs) k (.int .i64 x) hil hlt ht
      rw [this]
      simp [ints]
end
end Go.Proofs.Ytehcfeibfpgamaa
