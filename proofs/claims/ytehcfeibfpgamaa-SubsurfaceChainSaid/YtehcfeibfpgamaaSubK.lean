/- Trees of subsurfaces: check. -/
import Derived.Test.YtehcfeibfpgamaaSubX
set_option linter.unusedVariables false
set_option linter.unusedSimpArgs false
set_option maxRecDepth 100000
namespace Go.Proofs.Ytehcfeibfpgamaa
open Go.RowKit

/-- The error of a check of the surfaces xs. -/
def chkE (S : Fo) (xs : List Int) : Int := if xs.all (hasB S) = true then 0 else 8
theorem chkE_nil (S : Fo) : chkE S [] = 0 := rfl
theorem chkE_one (S : Fo) (i : Int) : chkE S [i] = if hasB S i = true then 0 else 8 := by simp [chkE]
theorem chkE_two (S : Fo) (i j : Int) : chkE S [i, j] = if hasB S i = true ∧ hasB S j = true then 0 else 8 := by simp [chkE]
section
variable {w : World} {b bm : Nat} {nb : Int → Nat} {R : Nat → Prop} {S : Fo}
theorem ycheck (h : TAt w b bm nb R S) (A : Option Addr) (n cap : Nat) (xs : List Int) (hI : IntsAt w A n xs) (hn : n ≤ 1000) :
    Calls Try.prog 29 #[.pointer (some ⟨b, 0, none⟩), .slice A n cap] w fun e w' => e = .returned (.int .i64 (chkE S xs)) ∧ w = w' := by
  have c0 := h.c0
  have c1 := h.c1
  have H := Lib.hid h
  have HI := Lib.hid hI
  clear h hI
  go_enter Try.func29, Try.ntmps29
  go_wp2
  go_loop [18] (fun v18 => ∃ i : Nat, i ≤ n ∧ v18 = .int .i64 i ∧ ∀ j x, j < i → xs[j]? = some x → hasB S x = true) (fun v18 => n - (intOf v18).toNat)
  case atStart => exact ⟨0, by omega, rfl, fun j _ hj => by omega⟩
  case round =>
    obtain ⟨i, hi, rfl, hf⟩ := hrel
    have HF := Lib.hid hf
    clear hf
    by_cases hlt : i < n
    · have hil : i < xs.length := by rw [HI.out.1]; exact hlt
      obtain ⟨bb, o, rfl, hc⟩ := HI.out.2 (by omega)
      obtain ⟨y, hy⟩ : ∃ y, y = xs[i] := ⟨_, rfl⟩
      have hxi : xs[i]? = some y := by rw [hy]; exact List.getElem?_eq_getElem hil
      have hcell := hc i y hxi
      have HX := Lib.hid hxi
      have hii : (i : Int) < n := by omega
      clear hc hy hxi
      cases hb : hasB S y with
      | false =>
        have hl := H.out.look0 hb
        have HB := Lib.hid hb
        clear hb
        go_wp2_with (refine wpl_lookup _ _ _ hl ?_)
        go_ret
        refine ⟨?_, rfl⟩
        have : ¬ xs.all (hasB S) = true := fun q => by
          have := List.all_eq_true.1 q y (List.mem_of_getElem? HX.out)
          rw [HB.out] at this; cases this
        unfold chkE
        rw [if_neg this]
        rfl
      | true =>
        have hl := H.out.look1 hb
        have HB := Lib.hid hb
        clear hb
        go_wp2_with (refine wpl_lookup _ _ _ hl ?_)
        go_round
        case rel =>
          refine ⟨i + 1, by omega, by go_num, fun j x hj hx => ?_⟩
          by_cases e : j = i
          · subst e
            rw [HX.out] at hx
            cases hx
            exact HB.out
          · exact HF.out j x (by omega) hx
        case measure => simp [intOf]; omega
    · have hie : i = n := by omega
      have hlt' : ¬ (i : Int) < n := by omega
      have HE := Lib.hid hie
      clear hie
      go_wp2
      go_ret
      refine ⟨?_, rfl⟩
      have : xs.all (hasB S) = true := List.all_eq_true.2 fun x hx => by
        obtain ⟨j, hj⟩ := List.mem_iff_getElem?.1 hx
        have hjl := (List.getElem?_eq_some_iff.1 hj).1
        exact HF.out j x (by rw [HE.out, ← HI.out.1]; exact hjl) hj
      unfold chkE
      rw [if_pos this]
      rfl
theorem ycheck0 (h : TAt w b bm nb R S) :
    Calls Try.prog 29 #[.pointer (some ⟨b, 0, none⟩), .slice none 0 0] w fun e w' => e = .returned (.int .i64 0) ∧ w = w' :=
  ycheck h none 0 0 [] ⟨rfl, fun q => absurd q (by omega)⟩ (by omega)
theorem ycheck1 (h : TAt w b bm nb R S) (i : Int) :
    Calls Try.prog 29 #[.pointer (some ⟨b, 0, none⟩), .slice (some ⟨w.heap.size, 0, none⟩) 1 1] (w.alloc (.cells #[.int .i64 i] 3)) fun e w' => e = .returned (.int .i64 (if hasB S i = true then 0 else 8)) ∧ w.alloc (.cells #[.int .i64 i] 3) = w' := by
  rw [← chkE_one]
  refine ycheck (h.same ((Chg.refl _ w).alloc _)) _ 1 1 [i] ⟨rfl, fun _ => ⟨_, 0, rfl, fun j x hj => ?_⟩⟩ (by omega)
  have e : (w.alloc (.cells #[.int .i64 i] 3)).heap[w.heap.size]? = some (.cells [Value.int .i64 i].toArray 3 (0, 0)) := at_new _ _
  rw [cell_at e]
  cases j with
  | zero => simp at hj; subst hj; rfl
  | succ j => simp at hj
theorem ycheck2 (h : TAt w b bm nb R S) (i k : Int) :
    Calls Try.prog 29 #[.pointer (some ⟨b, 0, none⟩), .slice (some ⟨w.heap.size, 0, none⟩) 2 2] (w.alloc (.cells #[.int .i64 i, .int .i64 k] 3)) fun e w' => e = .returned (.int .i64 (if hasB S i = true ∧ hasB S k = true then 0 else 8)) ∧ w.alloc (.cells #[.int .i64 i, .int .i64 k] 3) = w' := by
  rw [← chkE_two]
  refine ycheck (h.same ((Chg.refl _ w).alloc _)) _ 2 2 [i, k] ⟨rfl, fun _ => ⟨_, 0, rfl, fun j x hj => ?_⟩⟩ (by omega)
  have e : (w.alloc (.cells #[.int .i64 i, .int .i64 k] 3)).heap[w.heap.size]? = some (.cells [Value.int .i64 i, .int .i64 k].toArray 3 (0, 0)) := at_new _ _
  rw [cell_at e]
  match j, hj with
  | 0, hj => simp at hj; subst hj; rfl
  | 1, hj => simp at hj; subst hj; rfl
  | j + 2, hj => simp at hj
end
end Go.Proofs.Ytehcfeibfpgamaa
