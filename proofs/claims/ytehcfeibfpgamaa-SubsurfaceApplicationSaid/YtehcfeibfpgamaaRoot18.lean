/- Roots, plain. -/
import Derived.Test.YtehcfeibfpgamaaSubS
set_option linter.unusedVariables false
set_option linter.unusedSimpArgs false
set_option maxRecDepth 100000
namespace Go.Proofs.Ytehcfeibfpgamaa

section
variable {S : Fo} {i j : Int}
theorem rootP_facts (h : S.ok) : ∀ (k : Nat) (i : Int), plen (parOf S) i ≤ k → hasB S i = true → hasB S (rootP (parOf S) i) = true ∧ parOf S (rootP (parOf S) i) = 0
  | 0, i, hk, hi => by have := h.deep.plen_up (h.has_ne hi); omega
  | k + 1, i, hk, hi => by
    by_cases h0 : parOf S i = 0
    · rw [h.deep.root0 h0]; exact ⟨hi, h0⟩
    · rw [h.deep.root_up h0]
      exact rootP_facts h k _ (by have := h.deep.plen_up (h.has_ne hi); omega) (h.par_has h0)
theorem rootOf_facts (h : S.ok) (hi : hasB S i = true) : rootOf S i = rootP (parOf S) i ∧ rootOf S i ≠ 0 ∧ parOf S (rootOf S i) = 0 ∧ rootOf S (rootOf S i) = rootOf S i := by
  have e : rootOf S i = rootP (parOf S) i := if_pos hi
  have h1 := rootP_facts h _ i (Nat.le_refl _) hi
  refine ⟨e, by rw [e]; exact h.has_ne h1.1, by rw [e]; exact h1.2, ?_⟩
  rw [e]
  unfold rootOf
  rw [if_pos h1.1, h.deep.root0 h1.2]
theorem rootOf_no (hi : hasB S i = false) : rootOf S i = 0 := if_neg (by rw [hi]; simp)
theorem rootOf_par (h : S.ok) (hi : parOf S i ≠ 0) : rootOf S (parOf S i) = rootOf S i := by
  unfold rootOf
  rw [if_pos (h.par_has hi), if_pos (h.has_of_par hi), h.deep.root_up hi]
theorem rootOf_in (h : S.ok) : ∀ (k : Nat) (x i : Int), plen (parOf S) x ≤ k → hasB S x = true → inP (parOf S) x i = true → rootOf S x = rootOf S i
  | 0, x, i, hk, hx, hin => by have := h.deep.plen_up (h.has_ne hx); omega
  | k + 1, x, i, hk, hx, hin => by
    rcases (in_plen h.deep (h.has_ne hx) hin).2.2 with q | q
    · rw [q]
    · rw [← rootOf_par h q.2.1]
      exact rootOf_in h k _ i (by have := h.deep.plen_up (h.has_ne hx); omega) (h.par_has q.2.1) q.2.2
theorem at_root (h : S.ok) (hi : hasB S i = true) (hr : i ≠ rootOf S i) : parOf S i ≠ 0 := fun e => hr (by unfold rootOf; rw [if_pos hi, h.deep.root0 e])
theorem att_up (h : S.ok) (hp : parOf S i ≠ 0) : attR S (parOf S i) i = (S, 16) := by
  have h1 := h.par_has hp
  have h2 := h.has_of_par hp
  unfold attR
  rw [if_pos ⟨h1, h2⟩, if_pos (.inr (in_child h.deep (h.has_ne h1) rfl))]
theorem has_pos (h : S.ok) (hi : hasB S i = true) : 1 ≤ i := by
  obtain ⟨n, hn⟩ := has_get hi
  have := h.pos n (get_some hn).1
  rwa [(get_some hn).2] at this
end
end Go.Proofs.Ytehcfeibfpgamaa
