/- subsurface.without. -/
import Derived.Test.YtehcfeibfpgamaaSubF
set_option linter.unusedVariables false
set_option linter.unusedSimpArgs false
set_option maxRecDepth 100000
namespace Go.Proofs.Ytehcfeibfpgamaa
open Go.RowKit Go.Shelf Go.Lib Go.Sort

theorem mapBlock_at {w : World} {g : Nat} {f : Array Value → Array Value} {C : Array Value} {T : TypeId} {F : Nat × Nat} (h : w.heap[g]? = some (.cells C T F)) : (mapBlock w g f).heap[g]? = some (.cells (f C) T F) := by
  unfold mapBlock
  simp only [Array.getElem?_modify, if_true, h, Option.map_some, onCells]
theorem mapBlock_chg (w : World) (g : Nat) (f : Array Value → Array Value) : Chg (fun x => x = g) w (mapBlock w g f) := by
  refine ⟨rfl, rfl, rfl, by simp [mapBlock], fun k _ hk => ?_⟩
  unfold mapBlock
  simp only [Array.getElem?_modify]
  rw [if_neg (fun e => hk e.symm)]
theorem take_putCells (d : Array Int) (C : Array Value) (n : Nat) (hn : n ≤ d.size) (hC : d.size ≤ C.size) : (putCells (Value.int .i64) 0 d C).toList.take n = ints (d.toList.take n) := by
  apply List.ext_getElem?
  intro k
  unfold Go.Proofs.Ytehcfeibfpgamaa.ints
  rw [List.getElem?_take, List.getElem?_map, List.getElem?_take]
  by_cases hk : k < n
  · rw [if_pos hk, if_pos hk, Array.getElem?_toList, Array.getElem?_toList]
    unfold putCells
    rw [Array.getElem?_mapIdx, Array.getElem?_eq_getElem (show k < C.size by omega), Array.getElem?_eq_getElem (show k < d.size by omega)]
    simp only [Option.map_some]
    rw [if_pos ⟨by omega, by omega⟩, Nat.sub_zero, getElem!_pos d k (by omega)]
  · rw [if_neg hk, if_neg hk]; rfl
theorem ywithout1 (id x : Int) (B : Nat) (W : World) (hc : W.cell? ⟨B, 0, none⟩ = some (.int .i64 id)) :
    FnGives Try.prog 66 #[.pointer (some ⟨B, 0, none⟩)] #[.int .i64 x] (.bool (x == id)) W := by
  show Calls Try.prog 66 #[.int .i64 x, .pointer (some ⟨B, 0, none⟩)] W _
  go_enter Try.func66, Try.ntmps66
  go_wp2
  go_ret
  exact ⟨rfl, 0, rfl⟩
theorem ywith_pred (id : Int) (B : Nat) (w : World) (hB : B < w.heap.size) (hcell : w.cell? ⟨B, 0, none⟩ = some (.int .i64 id)) :
    PredAt Try.prog 66 #[.pointer (some ⟨B, 0, none⟩)] (Value.int .i64) (fun x => x == id) w :=
  fun W x hb => ywithout1 id x B W ((hb.cell (p := ⟨B, 0, none⟩) hB).trans hcell)
theorem ywith_over (id : Int) (B blk off size : Nat) (w : World) (hB : B < w.heap.size) (hne : B ≠ blk) (hcell : w.cell? ⟨B, 0, none⟩ = some (.int .i64 id)) :
    PredOver Try.prog 66 #[.pointer (some ⟨B, 0, none⟩)] (Value.int .i64) (fun x => x == id) blk off size w :=
  fun n os dk x _ => ywithout1 id x B _ (by
    unfold sortWorld
    rw [cell?_grow _ _ _ (by show B < (putRow _ _ _ _ _).heap.size; rw [size_putRow]; exact hB), cell?_putRow_other _ _ blk off _ _ (Or.inl hne)]
    exact hcell)
theorem rem_le (i : Int) (l : List Int) : (rem i l).length ≤ l.length := List.length_filter_le _ _
/-- A list without an element, in a block of the call's own with room for the whole list. -/
def Rest (w : World) (xs : List Int) (id : Int) (v : Value) (w' : World) : Prop :=
  ∃ g c, v = .slice (some ⟨g, 0, none⟩) (rem id xs).length c ∧ xs.length ≤ c ∧ w.heap.size ≤ g ∧ w'.ownsRow w.heap.size 3 1 v (rem id xs).length (ints (rem id xs)) ∧ Same w w'
section
variable {w w2 : World} {R : Nat → Prop} {v : Value} {xs : List Int}
theorem put_own (base base2 : Nat) (hb : base2 ≤ base) (g c : Nat) (q : Nat) (D : Array Int) (ys : List Int) (hD : D.size = xs.length) (hy : D.toList.take ys.length = ys) (hle : ys.length ≤ xs.length)
    (h : w2.ownsRow base 3 1 (.slice (some ⟨g, 0, none⟩) xs.length c) xs.length (ints xs)) :
    xs.length ≤ c ∧ (putRow (Value.int .i64) (Sort.ahead w2 q) g 0 D).ownsRow base2 3 1 (.slice (some ⟨g, 0, none⟩) ys.length c) ys.length (ints ys) := by
  rcases h.2 with ⟨hc, _⟩ | ⟨g', cap', cur, hv, hg, hgg, hnc, hcm, hcs, ht⟩
  · cases hc
  simp only [Value.slice.injEq, Option.some.injEq, Addr.mk.injEq, and_true, true_and] at hv
  obtain ⟨rfl, rfl⟩ := hv
  have h1 : (putRow (Value.int .i64) (Sort.ahead w2 q) g 0 D).heap[g]? = some (.cells (putCells (Value.int .i64) 0 D cur) 3 (0, 0)) := by
    unfold putRow
    exact mapBlock_at hgg
  generalize putRow (Value.int .i64) (Sort.ahead w2 q) g 0 D = W at h1 ⊢
  have h2 : (putCells (Value.int .i64) 0 D cur).size = c * 1 := by rw [← hcs]; simp [putCells]
  have h3 : (putCells (Value.int .i64) 0 D cur).toList.take ys.length = ints ys := by
    rw [take_putCells _ _ _ (by omega) (by omega), hy]
  generalize putCells (Value.int .i64) 0 D cur = C at h1 h2 h3
  exact ⟨hnc, by simp [Go.Proofs.Ytehcfeibfpgamaa.ints], .inr ⟨g, c, C, rfl, Nat.le_trans hb hg, h1, Nat.le_trans hle hnc, hcm, h2, by rw [Nat.mul_one]; exact h3⟩⟩
theorem rest_of (base base2 : Nat) (hb : base2 ≤ base) (g c : Nat) (id : Int) (q : Nat) (h : w2.ownsRow base 3 1 (.slice (some ⟨g, 0, none⟩) xs.length c) xs.length (ints xs)) :
    xs.length ≤ c ∧ (putRow (Value.int .i64) (Sort.ahead w2 q) g 0 (rem id xs ++ List.replicate (xs.length - (rem id xs).length) 0).toArray).ownsRow base2 3 1 (.slice (some ⟨g, 0, none⟩) (rem id xs).length c) (rem id xs).length (ints (rem id xs)) :=
  put_own base base2 hb g c q _ (rem id xs) (by have := rem_le id xs; simp; omega) (by simp) (rem_le id xs) h
theorem ywithout (h : SlAt w R v xs) (hn : xs.length ≤ 100000) (hlt : ∀ x, R x → x < w.heap.size) (id : Int) :
    Calls Try.prog 53 #[v, .int .i64 id] w fun e w' => ∃ v', e = .returned v' ∧ Rest w xs id v' w' := by
  have hs1 : Same w (w.alloc (.cells #[.int .i64 id] 3)) := (Chg.refl _ w).alloc _
  have hz : (w.alloc (.cells #[.int .i64 id] 3)).heap.size = w.heap.size + 1 := by simp
  have hb := at_new w (.cells #[.int .i64 id] 3)
  have HC := Lib.hid (yclone (h.chg hs1 (fun _ _ q => q)) hn)
  have HS := Lib.hid hs1
  have HB := Lib.hid hb
  have HZ := Lib.hid hz
  clear hs1 h hlt hb hz
  go_enter Try.func53, Try.ntmps53
  go_wp2_with fail
  refine HC.out.mono ?_
  rintro e w2 ⟨v', rfl, g, c, rfl, hg, ho, hs2⟩
  have hb2 := hs2.at_ HB.out (fun q => q)
  have hb3 : w2.heap[w.heap.size]? = some (.cells [Value.int .i64 id].toArray 3 (0, 0)) := hb2
  have hlt2 := lt_of_at hb2
  rw [HZ.out] at hg
  have hH : Holds (Value.int .i64) w2 g 0 xs.toArray := by
    rcases ho.2 with ⟨hc, _⟩ | ⟨g', cap', cur, hv, hg', hgg, hnc, hcm, hcs, ht⟩
    · cases hc
    simp only [Value.slice.injEq, Option.some.injEq, Addr.mk.injEq, and_true, true_and] at hv
    obtain ⟨rfl, rfl⟩ := hv
    have hgg' : w2.heap[g]? = some (.cells cur.toList.toArray 3 (0, 0)) := by rw [hgg]
    intro j hj
    refine ⟨?_, frozen_at hgg _⟩
    rw [cell_at hgg', Nat.zero_add, getElem!_pos _ j hj]
    have hjl : j < xs.length := by simpa using hj
    have h1 : (cur.toList.take (xs.length * 1))[j]? = (ints xs)[j]? := by rw [ht]
    rw [List.getElem?_take, if_pos (by omega)] at h1
    rw [h1]
    unfold Go.Proofs.Ytehcfeibfpgamaa.ints
    rw [List.getElem?_map, List.getElem?_eq_getElem hjl]
    simp
  have hcap : xs.length ≤ c := (rest_of (w2 := w2) _ _ (Nat.le_refl _) g c id 0 ho).1
  have hcon := AnyE.slices_DeleteFunc lays_delete (Value.int .i64) (fun _ => rfl) (fun x => x == id) 66 #[.pointer (some ⟨w.heap.size, 0, none⟩)] (enters_of Try.func66 (by kernel_rfl) rfl) 0 (fun _ => by kernel_rfl) g 0 c xs.toArray w2
    (ywith_pred id w.heap.size w2 hlt2 (cell_at hb3 0)) (ywith_over id w.heap.size g 0 _ w2 hlt2 (by omega) (cell_at hb3 0)) hH (by simp; omega) (by simpa using hcap)
  change Calls Try.prog 65 #[.slice (some ⟨g, 0, none⟩) xs.length c, .func (.func 66) #[] #[.pointer (some ⟨w.heap.size, 0, none⟩)]] w2 (fun e w' => e = .returned (.slice (some ⟨g, 0, none⟩) (rem id xs).length c) ∧ ∃ q, w' = putRow (Value.int .i64) (Sort.ahead w2 q) g 0 (rem id xs ++ List.replicate (xs.length - (rem id xs).length) 0).toArray) at hcon
  have HD := Lib.hid hcon
  have HO := Lib.hid ho
  have HS2 := Lib.hid hs2
  clear hcon ho hs2 hH hb2 hb3
  go_wp2_with fail
  refine HD.out.mono ?_
  rintro e w3 ⟨rfl, q, rfl⟩
  go_wp2
  go_ret
  have hr := rest_of (w2 := w2) _ w.heap.size (by rw [HZ.out]; omega) g c id q HO.out
  refine ⟨_, rfl, g, c, rfl, hr.1, by omega, hr.2, ?_⟩
  · have k := mapBlock_chg (Sort.ahead w2 q) g (putCells (Value.int .i64) 0 (rem id xs ++ List.replicate (xs.length - (rem id xs).length) 0).toArray)
    have k2 : Chg (fun x => x = g) w2 (putRow (Value.int .i64) (Sort.ahead w2 q) g 0 (rem id xs ++ List.replicate (xs.length - (rem id xs).length) 0).toArray) := ⟨k.os, k.tape, k.output, k.size, k.block⟩
    exact (HS.out.trans HS2.out).then_ k2 (fun x hx e => by omega)
end
end Go.Proofs.Ytehcfeibfpgamaa
