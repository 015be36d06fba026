/- Parts of the walk, packed: Ins, ContI, Act. -/
import Derived.Test.YteolilggeaffaaaPk00
import Derived.Shelf.Spec.SlicesInsertGrow
import Derived.Shelf.Lays2
import Derived.Deep.AppendLies
set_option linter.unusedVariables false
set_option linter.unusedSimpArgs false
set_option maxRecDepth 100000
namespace Go.Proofs.Yteolilggeaffaaa
open Go.RowKit

def ren : Go.Shelf.Ren := { g := fun k => k, f := fun k => if k = 21 then 68 else if k = 27 then 82 else if k = 28 then 83 else if k = 35 then 90 else 93, t := fun k => if k = 0 then 0 else if k = 3 then 3 else if k = 4 then 4 else 129 }
theorem lays_insert : Go.Proofs.Lays2.n21 Try.prog ren := {
  mixed := by kernel_rfl
  f21 := by kernel_rfl
  f27 := by kernel_rfl
  f28 := by kernel_rfl
  f35 := by kernel_rfl
  f39 := by kernel_rfl
  t0 := by kernel_rfl
  a0 := fun _ => by kernel_rfl
  z0 := fun _ => by kernel_rfl
  v0 := fun _ => by kernel_rfl
  t3 := by kernel_rfl
  a3 := fun _ => by kernel_rfl
  z3 := fun _ => by kernel_rfl
  v3 := fun _ => by kernel_rfl
  t4 := by kernel_rfl
  a4 := fun _ => by kernel_rfl
  z4 := fun _ => by kernel_rfl
  v4 := fun _ => by kernel_rfl
  t22 := by kernel_rfl
  a22 := fun _ => by kernel_rfl
  z22 := fun _ => by kernel_rfl
  v22 := fun _ => by kernel_rfl
  i3 := by kernel_rfl }

theorem at_setCells {g : Nat} {T : TypeId} {F : Nat × Nat} : ∀ (vs : List Value) (o : Nat) (w : World) (C : List Value), w.heap[g]? = some (.cells C.toArray T F) → o + vs.length ≤ C.length → (w.setCells g o vs).heap[g]? = some (.cells (C.take o ++ vs ++ C.drop (o + vs.length)).toArray T F)
  | [], o, w, C, h, _ => by
    show w.heap[g]? = _
    rw [h, List.append_nil, List.length_nil, Nat.add_zero, List.take_append_drop]
  | v :: vs, o, w, C, h, hl => by
    simp only [List.length_cons] at hl
    have h1 := at_setCells vs (o + 1) (w.setCell ⟨g, o, none⟩ v) (C.set o v) (at_setCell v h) (by rw [List.length_set]; omega)
    show ((w.setCell ⟨g, o, none⟩ v).setCells g (o + 1) vs).heap[g]? = _
    rw [h1]
    congr 3
    have e1 : (C.set o v).take (o + 1) = C.take o ++ [v] := by
      rw [List.take_add_one, List.take_set_of_le (Nat.le_refl _), List.getElem?_set_self (by omega)]
      rfl
    have e2 : (C.set o v).drop (o + 1 + vs.length) = C.drop (o + (vs.length + 1)) := by
      rw [List.drop_set_of_lt (by omega), show o + 1 + vs.length = o + (vs.length + 1) by omega]
    rw [e1, e2, List.length_cons]
    simp only [List.append_assoc, List.singleton_append, List.cons_append, List.nil_append]
theorem chg_setCells (g : Nat) : ∀ (vs : List Value) (o : Nat) (w : World), Chg (fun x => x = g) w (w.setCells g o vs)
  | [], _, w => Chg.refl _ w
  | v :: vs, o, w => ((Chg.refl (fun x => x = g) w).setCell ⟨g, o, none⟩ v (fun _ => rfl)).trans (chg_setCells g vs (o + 1) _)

def ints (xs : List Int) : List Value := xs.map (Value.int .i64)
/-- What an insert at the head leaves. -/
def InsOut (base : Nat) (n : Nat) (ys : List Int) (w : World) (e : Ending) (w' : World) : Prop :=
  ∃ g cap, e = .returned (.slice (some ⟨g, 0, none⟩) n cap) ∧ w'.ownsRow base 3 1 (.slice (some ⟨g, 0, none⟩) n cap) n (ints ys) ∧ Chg (fun x => base ≤ x) w w'
theorem insert_ok (base g n cap : Nat) (xs : List Int) (x : Int) (w : World) (h : w.ownsRow base 3 1 (.slice (some ⟨g, 0, none⟩) n cap) n (ints xs)) (hn0 : 0 < n) (hn : n ≤ 100) (hb : base ≤ w.heap.size) :
    Calls Try.prog 68 #[.slice (some ⟨g, 0, none⟩) n cap, .int .i64 0, .slice (some ⟨w.heap.size, 0, none⟩) 1 1] (w.alloc (.cells #[.int .i64 x] 3)) (InsOut base (n + 1) (x :: xs) (w.alloc (.cells #[.int .i64 x] 3))) := by
  have hxl : xs.length = n := by have := h.1; simpa [ints] using this
  rcases h.2 with ⟨hc, _⟩ | ⟨g', cap', cur, hv, hg, hgg, hnc, hcm, hcs, ht⟩
  · cases hc
  simp only [Value.slice.injEq, Option.some.injEq, Addr.mk.injEq, and_true, true_and] at hv
  obtain ⟨rfl, rfl⟩ := hv
  have hgl := lt_of_at hgg
  have hW := at_alloc (o' := .cells #[.int .i64 x] 3) hgg
  have hx := at_new w (.cells #[.int .i64 x] 3)
  have hcur : w.heap[g]? = some (.cells cur.toList.toArray 3 (0, 0)) := by rw [hgg]
  have hW' : (w.alloc (.cells #[.int .i64 x] 3)).heap[g]? = some (.cells cur.toList.toArray 3 (0, 0)) := hW
  rw [Nat.mul_one] at hcs ht
  have hcells : ∀ j v, (ints xs)[j]? = some v → (w.alloc (.cells #[.int .i64 x] 3)).cell? ⟨g, 0 + j, none⟩ = some v := by
    intro j v hj
    rw [cell_at hW', Nat.zero_add]
    rw [← ht, List.getElem?_take] at hj
    split at hj
    · exact hj
    · cases hj
  have hxs : ∀ j v, ([Value.int .i64 x])[j]? = some v → (w.alloc (.cells #[.int .i64 x] 3)).cell? ⟨w.heap.size, 0 + j, none⟩ = some v := by
    intro j v hj
    rw [cell_of_row _ _ _ _ _ _ hx, Nat.zero_add]
    simpa using hj
  have h1 : ∀ v ∈ ints xs, v.oneCell' = true := by
    intro v hv
    unfold ints at hv
    rw [List.mem_map] at hv
    obtain ⟨_, _, rfl⟩ := hv
    rfl
  have h1x : ∀ v ∈ [Value.int .i64 x], v.oneCell' = true := by
    intro v hv
    rw [List.mem_singleton] at hv
    subst hv
    rfl
  have hil : (ints xs).length = n := by simp [ints, hxl]
  by_cases hroom : n + 1 ≤ cap
  · have hsp : ∀ j, j < n + 1 → ((w.alloc (.cells #[.int .i64 x] 3)).cell? ⟨g, 0 + j, none⟩).isSome = true := by
      intro j hj
      rw [cell_at hW', Nat.zero_add, List.getElem?_eq_getElem (by rw [Array.length_toList, hcs]; omega)]
      rfl
    refine (Any2.slices_Insert_int_shift lays_insert g 0 n cap 0 w.heap.size 0 1 1 (ints xs) [.int .i64 x] _ hn0 (by omega) hroom (by unfold maxLen at hcm; omega) (by omega) hil rfl hcells hsp (fun j _ => frozen_of_row _ _ _ _ _ hW) hxs h1 h1x 3 3 1 cur.size (by unfold World.shape?; rw [hx]; rfl) (by unfold World.shape?; rw [hW]) (by omega) (frozen_of_row _ _ _ _ _ hx) (frozen_of_row _ _ _ _ _ hx)).mono ?_
    rintro e w' ⟨rfl, rfl⟩
    have hlt : n + 1 ≤ cur.toList.length := by rw [Array.length_toList, hcs]; omega
    have b1 := at_setCells (ints xs) (0 + (0 + 1)) (w.alloc (.cells #[.int .i64 x] 3)).drew _ hW' (by rw [hil]; omega)
    have b2 := at_setCells [Value.int .i64 x] (0 + 0) _ _ b1 (by simp [hil]; omega)
    refine ⟨g, cap, rfl, ⟨by simp [ints, hxl], .inr ⟨g, cap, _, rfl, hg, b2, hroom, hcm, ?_, ?_⟩⟩, ?_⟩
    · simp [hil]; omega
    · simp only [Nat.zero_add, Nat.add_zero, List.take_zero, List.nil_append, List.length_singleton, Nat.mul_one]
      rw [List.append_assoc, List.drop_left' (by rw [List.length_take]; omega)]
      simp [ints, List.take_append_of_le_length, hxl]
    · exact ((Chg.refl _ _).drew.trans ((chg_setCells g _ _ _).mono (fun y _ e => by omega))).trans ((chg_setCells g _ _ _).mono (fun y _ e => by omega))
  · refine (Any2.slices_Insert_int_grow lays_insert g 0 n cap 0 w.heap.size 0 1 1 (ints xs) [.int .i64 x] _ hn0 (by omega) hnc (by omega) (by omega) hil rfl hcells hxs h1 h1x).mono ?_
    rintro e w' ⟨rfl, rfl⟩
    generalize hcg : grownCap (w.alloc (.cells #[.int .i64 x] 3)) (n + 1) cap (ren.t 3) = cg
    have hcg1 : n + 1 ≤ cg := by rw [← hcg]; exact grownCap_ge _ _ _ _
    have hcg2 : cg ≤ maxLen := by rw [← hcg]; exact grownCap_le_maxLen _ _ _ _ (by unfold maxLen; omega)
    generalize hW2 : w.alloc (.cells #[.int .i64 x] 3) = W2 at *
    have b0 := at_new W2 (.cells (((ints xs).take 0).toArray ++ Builtin.zeroCells (Value.int .i64 0).cells (n + 1 - 0) ++ Builtin.zeroCells (Value.int .i64 0).cells (cg - (n + 1))) (ren.t 3))
    obtain ⟨Z, hZ⟩ : ∃ Z : List Value, Z = (((ints xs).take 0).toArray ++ Builtin.zeroCells (Value.int .i64 0).cells (n + 1 - 0) ++ Builtin.zeroCells (Value.int .i64 0).cells (cg - (n + 1))).toList := ⟨_, rfl⟩
    have hZl : Z.length = cg := by
      rw [hZ]
      simp [size_zeroCells, Value.cells]
      omega
    have hZa : (((ints xs).take 0).toArray ++ Builtin.zeroCells (Value.int .i64 0).cells (n + 1 - 0) ++ Builtin.zeroCells (Value.int .i64 0).cells (cg - (n + 1))) = Z.toArray := by rw [hZ]
    rw [hZa] at b0 ⊢
    clear hZ hZa
    have b1 := at_setCells [Value.int .i64 x] 0 _ Z (show (W2.alloc (.cells Z.toArray (ren.t 3))).drew.heap[W2.heap.size]? = _ from b0) (by simp; omega)
    have b2 := at_setCells ((ints xs).drop 0) (0 + 1) _ _ (show (((W2.alloc (.cells Z.toArray (ren.t 3))).drew.setCells W2.heap.size 0 [Value.int .i64 x]).drew).heap[W2.heap.size]? = _ from b1) (by simp [hil, hZl]; omega)
    have hsz : w.heap.size ≤ W2.heap.size := by rw [← hW2]; simp
    refine ⟨W2.heap.size, cg, rfl, ⟨by simp [ints, hxl], .inr ⟨W2.heap.size, cg, _, rfl, by omega, b2, hcg1, hcg2, ?_, ?_⟩⟩, ?_⟩
    · simp [hil, hZl]; omega
    · simp only [Nat.zero_add, List.take_zero, List.nil_append, List.length_singleton, Nat.mul_one, List.drop_zero]
      rw [List.take_append_of_le_length (by simp [ints, hxl] <;> omega)]
      simp only [ints, List.take_succ_cons, List.map_cons, List.singleton_append]
      rw [List.take_of_length_le (by simp [hxl])]
      simp
    · exact ((((Chg.refl _ W2).alloc _).drew.trans ((chg_setCells _ _ _ _).mono (fun y _ e => by omega))).drew).trans ((chg_setCells _ _ _ _).mono (fun y _ e => by omega))
end Go.Proofs.Yteolilggeaffaaa

namespace Go.Proofs.Yteolilggeaffaaa
open Go.RowKit

/-! ### at []int -/
/-- A slice of numbers that is read. -/
def IntsAt (w : World) (A : Option Addr) (n : Nat) (xs : List Int) : Prop := xs.length = n ∧ (0 < n → ∃ b o, A = some ⟨b, o, none⟩ ∧ ∀ j x, xs[j]? = some x → w.cell? ⟨b, o + j, none⟩ = some (.int .i64 x))
def idxInts (xs : List Int) (x : Int) : Int := match xs.findIdx? (fun a => x == a) with | some i => (i : Int) | none => -1
theorem idxInts_has (xs : List Int) (x : Int) : decide (0 ≤ idxInts xs x) = xs.contains x := by
  unfold idxInts
  cases h : xs.findIdx? (fun a => x == a) with
  | none =>
    rw [List.findIdx?_eq_none_iff] at h
    have : xs.contains x = false := by
      rw [List.contains_eq_any_beq, List.any_eq_false]
      intro a ha
      simpa using h a ha
    rw [this]
    decide
  | some i =>
    obtain ⟨hi, hb, _⟩ := List.findIdx?_eq_some_iff_getElem.1 h
    have : xs.contains x = true := by
      rw [List.contains_eq_any_beq, List.any_eq_true]
      exact ⟨xs[i], List.getElem_mem hi, hb⟩
    rw [this]
    simp only [decide_eq_true_eq]
    omega
/-- None of the first i is x. -/
def noneInts (xs : List Int) (x : Int) (i : Nat) : Prop := ∀ j (h : j < xs.length), j < i → (x == xs[j]) = false
theorem idxInts_at {xs : List Int} {x : Int} {i : Nat} (hi : i < xs.length) (h : noneInts xs x i) (he : (x == xs[i]) = true) : idxInts xs x = i := by
  unfold idxInts
  rw [show xs.findIdx? (fun a => x == a) = some i from List.findIdx?_eq_some_iff_getElem.2 ⟨hi, he, fun j hj => by simpa using h j (by omega) hj⟩]
theorem idxInts_none {xs : List Int} {x : Int} (h : noneInts xs x xs.length) : idxInts xs x = -1 := by
  unfold idxInts
  rw [show xs.findIdx? (fun a => x == a) = none from List.findIdx?_eq_none_iff.2 (fun a ha => by
    obtain ⟨j, hj, rfl⟩ := List.getElem_of_mem ha
    exact h j hj hj)]
theorem noneInts_succ {xs : List Int} {x : Int} {i : Nat} (h : noneInts xs x i) (hi : i < xs.length) (he : (x == xs[i]) = false) : noneInts xs x (i + 1) := by
  intro j hj hji
  by_cases e : j = i
  · subst e; exact he
  · exact h j hj (by omega)
theorem indexInts_ok (A : Option Addr) (n cap : Nat) (xs : List Int) (x : Int) (w : World) (h : IntsAt w A n xs) (hn : n ≤ 1000000) :
    Calls Try.prog 81 #[.slice A n cap, .int .i64 x] w fun e w' => e = .returned (.int .i64 (idxInts xs x)) ∧ w = w' := by
  have HA := Lib.hid h
  clear h
  go_enter Try.func81, Try.ntmps81
  go_wp2
  go_loop [8] (fun v8 => ∃ i : Nat, i ≤ n ∧ v8 = .int .i64 i ∧ noneInts xs x i) (fun v8 => n - (intOf v8).toNat)
  case atStart => exact ⟨0, by omega, rfl, fun j _ hj => by omega⟩
  case round =>
    obtain ⟨i, hi, rfl, hf⟩ := hrel
    have HF := Lib.hid hf
    clear hf
    by_cases hlt : i < n
    · have hil : i < xs.length := by rw [HA.out.1]; exact hlt
      obtain ⟨b, o, rfl, hc⟩ := HA.out.2 (by omega)
      obtain ⟨y, hy⟩ : ∃ y, y = xs[i] := ⟨_, rfl⟩
      have hcell := hc i y (by rw [hy]; exact List.getElem?_eq_getElem hil)
      have HY := Lib.hid hy
      have hii : (i : Int) < n := by omega
      have HIL := Lib.hid hil
      clear hc hy
      by_cases hb : (x == y) = true
      · have hxy : x = y := by simpa using hb
        subst hxy
        clear hb
        go_wp2
        go_ret
        exact ⟨by rw [idxInts_at HIL.out HF.out (by rw [← HY.out]; simp)]; rfl, rfl⟩
      · have hb' : (x == y) = false := by simpa using hb
        have hne : ¬ x = y := by simpa using hb
        have HB := Lib.hid hb'
        clear hb
        go_wp2
        go_round
        case rel => exact ⟨i + 1, by omega, by go_num, noneInts_succ HF.out HIL.out (by rw [← HY.out]; exact HB.out)⟩
        case measure => simp [intOf]; omega
    · have hie : i = n := by omega
      have hlt' : ¬ (i : Int) < n := by omega
      have HI := Lib.hid hie
      clear hie
      go_wp2
      go_ret
      refine ⟨?_, rfl⟩
      have := HF.out
      rw [HI.out, ← HA.out.1] at this
      rw [idxInts_none this]
      rfl
theorem containsInts_ok (A : Option Addr) (n cap : Nat) (xs : List Int) (x : Int) (w : World) (h : IntsAt w A n xs) (hn : n ≤ 1000000) :
    Calls Try.prog 67 #[.slice A n cap, .int .i64 x] w fun e w' => e = .returned (.bool (xs.contains x)) ∧ w = w' := by
  have HI := Lib.hid (indexInts_ok A n cap xs x w h hn)
  rw [← idxInts_has]
  clear h
  go_enter Try.func67, Try.ntmps67
  go_wp2_with fail
  refine HI.out.mono ?_
  rintro e w' ⟨rfl, rfl⟩
  go_wp2
  go_ret
  exact ⟨rfl, rfl⟩
end Go.Proofs.Yteolilggeaffaaa

namespace Go.Proofs.Yteolilggeaffaaa
open Go.RowKit

theorem IntsAt.of_own {w : World} {base n : Nat} {v : Value} {xs : List Int} (h : w.ownsRow base 3 1 v n (ints xs)) : ∃ A cap, v = .slice A n cap ∧ IntsAt w A n xs := by
  have hl : xs.length = n := by have := h.1; simpa [ints] using this
  rcases h.2 with ⟨rfl, rfl⟩ | ⟨g, cap, cur, rfl, hb, hg, hc, hm, hs, ht⟩
  · exact ⟨none, 0, rfl, hl, fun h => absurd h (by omega)⟩
  · refine ⟨_, cap, rfl, hl, fun _ => ⟨g, 0, rfl, fun j x hj => ?_⟩⟩
    have := h.cells (g := g) rfl j (.int .i64 x) (by unfold ints; rw [List.getElem?_map, hj]; rfl)
    rw [add_plain] at this
    exact this
theorem IntsAt.drew {w : World} {A : Option Addr} {n : Nat} {xs : List Int} (h : IntsAt w A n xs) : IntsAt w.drew A n xs := h

/-- The first of xs that has a bit with c in common. -/
def firstV (c : Int) (xs : List Int) : Int := ((xs.find? fun a => bits BinOp.and IntKind.i64 c a != 0).getD 0)
theorem firstV_nil (c : Int) : firstV c [] = 0 := rfl
theorem firstV_cons (c x : Int) (xs : List Int) : firstV c (x :: xs) = if bits BinOp.and IntKind.i64 c x != 0 then x else firstV c xs := by
  unfold firstV
  rw [List.find?_cons]
  split <;> simp_all

theorem first_ok (c : Int) (A : Option Addr) (n cap : Nat) (xs : List Int) (w : World) (h : IntsAt w A n xs) (hn : n ≤ 1000) :
    Calls Try.prog 69 #[.int .i64 c, .slice A n cap] w fun e w' => e = .returned (.int .i64 (firstV c xs)) ∧ w = w' := by
  have HA := Lib.hid h
  clear h
  go_enter Try.func69, Try.ntmps69
  go_wp2
  go_loop [9] (fun v9 => ∃ i : Nat, i ≤ n ∧ v9 = .int .i64 i ∧ firstV c xs = firstV c (xs.drop i)) (fun v9 => n - (intOf v9).toNat)
  case atStart => exact ⟨0, by omega, rfl, rfl⟩
  case round =>
    obtain ⟨i, hi, rfl, hf⟩ := hrel
    have HF := Lib.hid hf
    clear hf
    by_cases hlt : i < n
    · obtain ⟨b, o, rfl, hc⟩ := HA.out.2 (by omega)
      have hx : xs[i]? = some (xs[i]'(by rw [HA.out.1]; exact hlt)) := List.getElem?_eq_getElem (by rw [HA.out.1]; exact hlt)
      obtain ⟨x, hxe⟩ : ∃ x, x = xs[i]'(by rw [HA.out.1]; exact hlt) := ⟨_, rfl⟩
      rw [← hxe] at hx
      have hcell := hc i x hx
      have hd : xs.drop i = x :: xs.drop (i + 1) := by rw [List.drop_eq_getElem_cons (by rw [HA.out.1]; exact hlt), hxe]
      have HD := Lib.hid hd
      have hii : (i : Int) < n := by omega
      clear hx hxe hc hd
      by_cases hb : (bits BinOp.and IntKind.i64 c x != 0) = true
      · have HB := Lib.hid hb
        have hb2 : (bits BinOp.and IntKind.i64 c x == 0) = false := by simpa using hb
        go_wp2
        go_ret
        refine ⟨?_, rfl⟩
        rw [HF.out, HD.out, firstV_cons, if_pos HB.out]
        rfl
      · have hb' : (bits BinOp.and IntKind.i64 c x != 0) = false := by simpa using hb
        have hb2 : (bits BinOp.and IntKind.i64 c x == 0) = true := by simpa using hb
        have HB := Lib.hid hb
        clear hb
        go_wp2
        go_round
        case rel => exact ⟨i + 1, by omega, by go_num, by rw [HF.out, HD.out, firstV_cons, if_neg HB.out]⟩
        case measure => simp [intOf]; omega
    · have hie : i = n := by omega
      have hlt' : ¬ (i : Int) < n := by omega
      have HI := Lib.hid hie
      clear hie
      go_wp2
      go_ret
      refine ⟨?_, rfl⟩
      rw [HF.out, HI.out, ← HA.out.1, List.drop_length]
      rfl

/-! ### Action -/
/-- The order in which actions are tried. -/
def ordP (p : Int) : List Int := if ([1, 2, 4] : List Int).contains p then p :: [1, 2, 4] else [1, 2, 4]
def ordM (p m : Int) : List Int := if bits BinOp.and IntKind.i64 m 1 != 0 then 2 :: ordP p else ordP p
def ordC (p m : Int) : List Int := if bits BinOp.and IntKind.i64 m 4 != 0 then 1 :: ordM p m else ordM p m
def commonV (s t : Int) : Int := bits BinOp.and IntKind.i64 (bits BinOp.and IntKind.i64 s t) 7
def actionV (s t p m : Int) : Int := firstV (commonV s t) (ordC p m)

/-- The order's row, made by the call. -/
structure OwnI (base : Nat) (w : World) (g n cap : Nat) (xs : List Int) : Prop where
  own : w.ownsRow base 3 1 (.slice (some ⟨g, 0, none⟩) n cap) n (ints xs)
  le : base ≤ w.heap.size
  pos : 0 < n
  small : n ≤ 90
def InsV (base : Nat) (w : World) (n : Nat) (ys : List Int) (e : Ending) (w' : World) : Prop :=
  ∃ g cap, e = .returned (.slice (some ⟨g, 0, none⟩) n cap) ∧ OwnI base w' g n cap ys ∧ Chg (fun x => base ≤ x) w w'
theorem insert_v {base : Nat} {w : World} {g n cap : Nat} {xs : List Int} (h : OwnI base w g n cap xs) (n' : Nat) (hn : n' = n + 1) (hs : n' ≤ 90) (x : Int) (k : Nat) (hk : k = w.heap.size) :
    Calls Try.prog 68 #[.slice (some ⟨g, 0, none⟩) n cap, .int .i64 0, .slice (some ⟨k, 0, none⟩) 1 1] (w.alloc (.cells #[.int .i64 x] 3)) (InsV base w n' (x :: xs)) := by
  subst hn hk
  refine (insert_ok base g n cap xs x w h.own h.pos (by have := h.small; omega) h.le).mono ?_
  rintro e w' ⟨g', cap', rfl, ho, hc⟩
  have hc' : Chg (fun x => base ≤ x) w w' := ((Chg.refl _ _).alloc _).trans hc
  exact ⟨g', cap', rfl, ⟨ho, Nat.le_trans h.le hc'.size, by omega, hs⟩, hc'⟩
theorem OwnI.ints {base : Nat} {w : World} {g n cap : Nat} {xs : List Int} (h : OwnI base w g n cap xs) : IntsAt w (some ⟨g, 0, none⟩) n xs := by
  obtain ⟨A, c, hv, hi⟩ := IntsAt.of_own h.own
  cases hv
  exact hi
theorem ord_at (w : World) : OwnI w.heap.size (w.alloc (.cells #[.int .i64 1, .int .i64 2, .int .i64 4] 3)) w.heap.size 3 3 [1, 2, 4] :=
  ⟨⟨rfl, .inr ⟨w.heap.size, 3, _, rfl, Nat.le_refl _, at_new w _, by omega, by unfold maxLen; omega, rfl, rfl⟩⟩, by simp, by omega, by omega⟩

theorem beq_of_bne {x : Int} : ∀ b : Bool, (x != 0) = b → (x == 0) = !b := by
  intro b h
  rw [← h]
  simp [bne]

set_option maxRecDepth 100000 in
set_option maxHeartbeats 2000000 in
theorem action_ok (s t p m : Int) (w : World) : Calls Try.prog 43 #[.int .i64 s, .int .i64 t, .int .i64 p, .int .i64 m] w fun e w' => e = .returned (.int .i64 (actionV s t p m)) ∧ Same w w' := by
  have HO := Lib.hid (ord_at w)
  have HC := Lib.hid (containsInts_ok _ 3 3 [1, 2, 4] p _ (ord_at w).ints (by omega))
  cases hb : ([1, 2, 4] : List Int).contains p <;> cases h1 : (bits BinOp.and IntKind.i64 m 1 != 0) <;> cases h4 : (bits BinOp.and IntKind.i64 m 4 != 0)
  all_goals
    rw [hb] at HC
    have HV := Lib.hid (show actionV s t p m = firstV (commonV s t) (ordC p m) from rfl)
    unfold ordC ordM ordP at HV
    rw [hb, h1, h4] at HV
    simp only [Bool.false_eq_true, if_false, if_true] at HV
    have h1' := beq_of_bne _ h1
    have h4' := beq_of_bne _ h4
    simp only [Bool.not_true, Bool.not_false] at h1' h4'
    clear hb h1 h4
    go_enter Try.func43, Try.ntmps43
    go_wp2_with fail
    refine HC.out.mono ?_
    rintro e w' ⟨rfl, rfl⟩
    have hown := HO.out
    have hchg : Chg (fun x => w.heap.size ≤ x) w (w.alloc (.cells #[.int .i64 1, .int .i64 2, .int .i64 4] 3)) := (Chg.refl _ _).alloc _
    go_wp2_with (go_at_call 68; refine (insert_v hown _ rfl (by omega) _ _ (by simp)).mono ?_; rintro e w2 ⟨g2, cap2, rfl, ho2, hc2⟩; have hown2 := ho2; clear hown; have hown := hown2; clear hown2 ho2; have hchg2 := hchg.trans hc2; clear hchg hc2; have hchg := hchg2; clear hchg2)
    refine (first_ok _ _ _ _ _ _ hown.ints (by have := hown.small; omega)).mono ?_
    rintro e w3 ⟨rfl, rfl⟩
    go_wp2
    go_ret
    exact ⟨by rw [HV.out]; rfl, hchg.mono (fun _ h h2 => by omega)⟩
end Go.Proofs.Yteolilggeaffaaa
