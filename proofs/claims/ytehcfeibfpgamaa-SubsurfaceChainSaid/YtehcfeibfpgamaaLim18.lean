/- SubsurfaceLimits, plain: the trees that it makes, reckoned. -/
import Derived.Test.YtehcfeibfpgamaaEx18
set_option linter.unusedVariables false
set_option linter.unusedSimpArgs false
set_option maxRecDepth 100000
namespace Go.Proofs.Ytehcfeibfpgamaa

def addsN : Nat → Fo
  | 0 => []
  | k + 1 => addS (addsN k) ((k : Int) + 1)
def attsN (S : Fo) : Nat → Fo
  | 0 => S
  | k + 1 => (attR (attsN S k) ((k : Int) + 2) 1).1
def attOk (S : Fo) : Nat → Nat → Bool
  | 0, _ => true
  | m + 1, k => ((attR S ((k : Int) + 2) 1).2 == (if k + 2 ≤ 17 then 0 else 5)) && attOk (attR S ((k : Int) + 2) 1).1 m (k + 1)
theorem attOk_at {S : Fo} : ∀ (m k : Nat), attOk (attsN S k) m k = true → ∀ j, k ≤ j → j < k + m → attR (attsN S j) ((j : Int) + 2) 1 = (attsN S (j + 1), if j + 2 ≤ 17 then 0 else 5)
  | 0, k, h, j, h1, h2 => by omega
  | m + 1, k, h, j, h1, h2 => by
    unfold attOk at h
    rw [Bool.and_eq_true, beq_iff_eq] at h
    by_cases e : j = k
    · subst e
      exact Prod.ext rfl h.1
    · exact attOk_at m (k + 1) h.2 j (by omega) (by omega)
theorem addsN_has : ∀ (k : Nat) (i : Int), hasB (addsN k) i = true ↔ 1 ≤ i ∧ i ≤ k
  | 0, i => by
    have : hasB (addsN 0) i = false := rfl
    rw [this]
    constructor
    · intro h; cases h
    · intro h; omega
  | k + 1, i => by
    rw [addsN, has_add, addsN_has k i]
    omega
theorem addsN_len : ∀ k, (addsN k).length = k
  | 0 => rfl
  | k + 1 => by rw [addsN, addS, List.length_append, addsN_len k]; rfl
theorem addsN_R (k : Nat) : addR (addsN k) ((k : Int) + 1) = (addsN (k + 1), 0) := by
  unfold addR
  rw [if_neg (by omega), if_neg (by rw [addsN_has]; omega)]
  rfl
theorem lim_all : ∀ n, 17 ≤ n → n ≤ 24 → attOk (attsN (addsN (n + 1)) 0) n 0 = true := by
  intro n h1 h2
  have : n = 17 ∨ n = 18 ∨ n = 19 ∨ n = 20 ∨ n = 21 ∨ n = 22 ∨ n = 23 ∨ n = 24 := by omega
  rcases this with rfl | rfl | rfl | rfl | rfl | rfl | rfl | rfl <;> decide +kernel
def upN : Nat → Fo
  | 0 => addsN 12
  | k + 1 => (attR (upN k) ((k : Int) + 2) ((k : Int) + 1)).1
theorem up_all : ∀ k, k < 9 → attR (upN k) ((k : Int) + 2) ((k : Int) + 1) = (upN (k + 1), if k + 2 ≤ 9 then 0 else 5) := by
  intro k hk
  have : k = 0 ∨ k = 1 ∨ k = 2 ∨ k = 3 ∨ k = 4 ∨ k = 5 ∨ k = 6 ∨ k = 7 ∨ k = 8 := by omega
  rcases this with rfl | rfl | rfl | rfl | rfl | rfl | rfl | rfl | rfl <;> decide +kernel
theorem up_end1 : attR (upN 9) 1 11 = (upN 9, 5) := by decide +kernel
theorem up_end2 : ∃ T, attR (upN 9) 11 8 = (T, 0) := ⟨(attR (upN 9) 11 8).1, Prod.ext rfl (by decide +kernel)⟩
end Go.Proofs.Ytehcfeibfpgamaa
