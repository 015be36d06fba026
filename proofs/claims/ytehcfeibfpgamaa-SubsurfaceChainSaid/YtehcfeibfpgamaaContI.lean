/- slices.Index and slices.Contains at []int. -/
import Derived.Test.YtehcfeibfpgamaaBas2
set_option linter.unusedVariables false
set_option linter.unusedSimpArgs false
set_option maxRecDepth 100000
namespace Go.Proofs.Ytehcfeibfpgamaa
open Go.RowKit

/-! ### at []int -/
/-- A slice of numbers that is read. -/
def IntsAt (w : World) (A : Option Addr) (n : Nat) (xs : List Int) : Prop := xs.length = n ∧ (0 < n → ∃ b o, A = some ⟨b, o, none⟩ ∧ ∀ j x, xs[j]? = some x → w.cell? ⟨b, o + j, none⟩ = some (.int .i64 x))
def idxInts (xs : List Int) (x : Int) : Int := match xs.findIdx? (fun a => x == a) with | some i => (i : Int) | none => -1
theorem idxInts_has (xs : List Int) (x : Int) : decide (0 ≤ idxInts xs x) = xs.contains x := by
  unfold idxInts
  cases h : xs.findIdx? (fun a => x == a) with
  | none =>
    rw [List.findIdx?_eq_none_iff] at h
    have : xs.contains x = false := by
      rw [List.contains_eq_any_beq, List.any_eq_false]
      intro a ha
      simpa using h a ha
    rw [this]
    decide
  | some i =>
    obtain ⟨hi, hb, _⟩ := List.findIdx?_eq_some_iff_getElem.1 h
    have : xs.contains x = true := by
      rw [List.contains_eq_any_beq, List.any_eq_true]
      exact ⟨xs[i], List.getElem_mem hi, hb⟩
    rw [this]
    simp only [decide_eq_true_eq]
    omega
/-- None of the first i is x. -/
def noneInts (xs : List Int) (x : Int) (i : Nat) : Prop := ∀ j (h : j < xs.length), j < i → (x == xs[j]) = false
theorem idxInts_at {xs : List Int} {x : Int} {i : Nat} (hi : i < xs.length) (h : noneInts xs x i) (he : (x == xs[i]) = true) : idxInts xs x = i := by
  unfold idxInts
  rw [show xs.findIdx? (fun a => x == a) = some i from List.findIdx?_eq_some_iff_getElem.2 ⟨hi, he, fun j hj => by simpa using h j (by omega) hj⟩]
theorem idxInts_none {xs : List Int} {x : Int} (h : noneInts xs x xs.length) : idxInts xs x = -1 := by
  unfold idxInts
  rw [show xs.findIdx? (fun a => x == a) = none from List.findIdx?_eq_none_iff.2 (fun a ha => by
    obtain ⟨j, hj, rfl⟩ := List.getElem_of_mem ha
    exact h j hj hj)]
theorem noneInts_succ {xs : List Int} {x : Int} {i : Nat} (h : noneInts xs x i) (hi : i < xs.length) (he : (x == xs[i]) = false) : noneInts xs x (i + 1) := by
  intro j hj hji
  by_cases e : j = i
  · subst e; exact he
  · exact h j hj (by omega)
theorem indexInts_ok (A : Option Addr) (n cap : Nat) (xs : List Int) (x : Int) (w : World) (h : IntsAt w A n xs) (hn : n ≤ 1000000) :
    Calls Try.prog 54 #[.slice A n cap, .int .i64 x] w fun e w' => e = .returned (.int .i64 (idxInts xs x)) ∧ w = w' := by
  have HA := Lib.hid h
  clear h
  go_enter Try.func54, Try.ntmps54
  go_wp2
  go_loop [8] (fun v8 => ∃ i : Nat, i ≤ n ∧ v8 = .int .i64 i ∧ noneInts xs x i) (fun v8 => n - (intOf v8).toNat)
  case atStart => exact ⟨0, by omega, rfl, fun j _ hj => by omega⟩
  case round =>
    obtain ⟨i, hi, rfl, hf⟩ := hrel
    have HF := Lib.hid hf
    clear hf
    by_cases hlt : i < n
    · have hil : i < xs.length := by rw [HA.out.1]; exact hlt
      obtain ⟨b, o, rfl, hc⟩ := HA.out.2 (by omega)
      obtain ⟨y, hy⟩ : ∃ y, y = xs[i] := ⟨_, rfl⟩
      have hcell := hc i y (by rw [hy]; exact List.getElem?_eq_getElem hil)
      have HY := Lib.hid hy
      have hii : (i : Int) < n := by omega
      have HIL := Lib.hid hil
      clear hc hy
      by_cases hb : (x == y) = true
      · have hxy : x = y := by simpa using hb
        subst hxy
        clear hb
        go_wp2
        go_ret
        exact ⟨by rw [idxInts_at HIL.out HF.out (by rw [← HY.out]; simp)]; rfl, rfl⟩
      · have hb' : (x == y) = false := by simpa using hb
        have hne : ¬ x = y := by simpa using hb
        have HB := Lib.hid hb'
        clear hb
        go_wp2
        go_round
        case rel => exact ⟨i + 1, by omega, by go_num, noneInts_succ HF.out HIL.out (by rw [← HY.out]; exact HB.out)⟩
        case measure => simp [intOf]; omega
    · have hie : i = n := by omega
      have hlt' : ¬ (i : Int) < n := by omega
      have HI := Lib.hid hie
      clear hie
      go_wp2
      go_ret
      refine ⟨?_, rfl⟩
      have := HF.out
      rw [HI.out, ← HA.out.1] at this
      rw [idxInts_none this]
      rfl
end Go.Proofs.Ytehcfeibfpgamaa
