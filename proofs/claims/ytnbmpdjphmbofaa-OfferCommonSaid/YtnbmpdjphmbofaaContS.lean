/- slices.Index and slices.Contains at []string. -/
import Derived.Test.YtnbmpdjphmbofaaBas2
set_option linter.unusedVariables false
set_option linter.unusedSimpArgs false
set_option maxRecDepth 100000
namespace Go.Proofs.Ytnbmpdjphmbofaa
open Go.RowKit

def hasS (xs : List ByteArray) (x : ByteArray) : Bool := xs.any fun a => decide (x = a)
theorem toList_ne {x y : ByteArray} (h : ¬ x = y) : (x.toList == y.toList) = false := by
  rw [beq_eq_false_iff_ne]
  intro e
  apply h
  rw [ByteArray.toList_eq, ByteArray.toList_eq] at e
  cases x
  cases y
  congr
  exact Array.toList_inj.1 e

/-! ### at []string -/
/-- A slice of strings that is read. -/
def StrsAt (w : World) (A : Option Addr) (n : Nat) (xs : List ByteArray) : Prop := xs.length = n ∧ (0 < n → ∃ b o, A = some ⟨b, o, none⟩ ∧ b < w.heap.size ∧ ∀ j x, xs[j]? = some x → w.cell? ⟨b, o + j, none⟩ = some (.string x))
def idxStrs (xs : List ByteArray) (x : ByteArray) : Int := match xs.findIdx? (fun a => decide (x = a)) with | some i => (i : Int) | none => -1
theorem idxStrs_has (xs : List ByteArray) (x : ByteArray) : decide (0 ≤ idxStrs xs x) = hasS xs x := by
  unfold idxStrs
  cases h : xs.findIdx? (fun a => decide (x = a)) with
  | none =>
    rw [List.findIdx?_eq_none_iff] at h
    have : hasS xs x = false := by
      unfold hasS
      rw [List.any_eq_false]
      intro a ha
      have := h a ha
      simpa using this
    rw [this]
    decide
  | some i =>
    obtain ⟨hi, hb, _⟩ := List.findIdx?_eq_some_iff_getElem.1 h
    have : hasS xs x = true := List.any_eq_true.2 ⟨xs[i], List.getElem_mem hi, hb⟩
    rw [this]
    simp only [decide_eq_true_eq]
    omega
/-- None of the first i is x. -/
def noneStrs (xs : List ByteArray) (x : ByteArray) (i : Nat) : Prop := ∀ j (h : j < xs.length), j < i → decide (x = xs[j]) = false
theorem idxStrs_at {xs : List ByteArray} {x : ByteArray} {i : Nat} (hi : i < xs.length) (h : noneStrs xs x i) (he : decide (x = xs[i]) = true) : idxStrs xs x = i := by
  unfold idxStrs
  rw [show xs.findIdx? (fun a => decide (x = a)) = some i from List.findIdx?_eq_some_iff_getElem.2 ⟨hi, he, fun j hj => by simpa using h j (by omega) hj⟩]
theorem idxStrs_none {xs : List ByteArray} {x : ByteArray} (h : noneStrs xs x xs.length) : idxStrs xs x = -1 := by
  unfold idxStrs
  rw [show xs.findIdx? (fun a => decide (x = a)) = none from List.findIdx?_eq_none_iff.2 (fun a ha => by
    obtain ⟨j, hj, rfl⟩ := List.getElem_of_mem ha
    exact h j hj hj)]
theorem noneStrs_succ {xs : List ByteArray} {x : ByteArray} {i : Nat} (h : noneStrs xs x i) (hi : i < xs.length) (he : decide (x = xs[i]) = false) : noneStrs xs x (i + 1) := by
  intro j hj hji
  by_cases e : j = i
  · subst e; exact he
  · exact h j hj (by omega)
theorem indexStrs_ok (A : Option Addr) (n cap : Nat) (xs : List ByteArray) (x : ByteArray) (w : World) (h : StrsAt w A n xs) (hn : n ≤ 1000000) :
    Calls Try.prog 33 #[.slice A n cap, .string x] w fun e w' => e = .returned (.int .i64 (idxStrs xs x)) ∧ w = w' := by
  have HA := Lib.hid h
  clear h
  go_enter Try.func33, Try.ntmps33
  go_wp2
  go_loop [8] (fun v8 => ∃ i : Nat, i ≤ n ∧ v8 = .int .i64 i ∧ noneStrs xs x i) (fun v8 => n - (intOf v8).toNat)
  case atStart => exact ⟨0, by omega, rfl, fun j _ hj => by omega⟩
  case round =>
    obtain ⟨i, hi, rfl, hf⟩ := hrel
    have HF := Lib.hid hf
    clear hf
    by_cases hlt : i < n
    · have hil : i < xs.length := by rw [HA.out.1]; exact hlt
      obtain ⟨b, o, rfl, hbl, hc⟩ := HA.out.2 (by omega)
      obtain ⟨y, hy⟩ : ∃ y, y = xs[i] := ⟨_, rfl⟩
      have hcell := hc i y (by rw [hy]; exact List.getElem?_eq_getElem hil)
      have HY := Lib.hid hy
      have hii : (i : Int) < n := by omega
      have HIL := Lib.hid hil
      clear hc hy
      by_cases hb : x = y
      · subst hb
        go_wp2
        go_ret
        exact ⟨by rw [idxStrs_at HIL.out HF.out (by rw [← HY.out]; exact decide_eq_true rfl)]; rfl, rfl⟩
      · have hb' : decide (x = y) = false := decide_eq_false hb
        have hne := toList_ne hb
        have HB := Lib.hid hb'
        clear hb
        go_wp2
        go_round
        case rel => exact ⟨i + 1, by omega, by go_num, noneStrs_succ HF.out HIL.out (by rw [← HY.out]; exact HB.out)⟩
        case measure => simp [intOf]; omega
    · have hie : i = n := by omega
      have hlt' : ¬ (i : Int) < n := by omega
      have HI := Lib.hid hie
      clear hie
      go_wp2
      go_ret
      refine ⟨?_, rfl⟩
      have := HF.out
      rw [HI.out, ← HA.out.1] at this
      rw [idxStrs_none this]
      rfl
theorem containsStrs_ok (A : Option Addr) (n cap : Nat) (xs : List ByteArray) (x : ByteArray) (w : World) (h : StrsAt w A n xs) (hn : n ≤ 1000000) :
    Calls Try.prog 26 #[.slice A n cap, .string x] w fun e w' => e = .returned (.bool (hasS xs x)) ∧ w = w' := by
  have HI := Lib.hid (indexStrs_ok A n cap xs x w h hn)
  rw [← idxStrs_has]
  clear h
  go_enter Try.func26, Try.ntmps26
  go_wp2_with fail
  refine HI.out.mono ?_
  rintro e w' ⟨rfl, rfl⟩
  go_wp2
  go_ret
  exact ⟨rfl, rfl⟩
end Go.Proofs.Ytnbmpdjphmbofaa
