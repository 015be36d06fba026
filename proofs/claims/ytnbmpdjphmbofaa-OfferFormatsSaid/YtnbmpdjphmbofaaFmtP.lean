/- The plain law of OfferFormats. -/
import Derived.Test.YtnbmpdjphmbofaaForm
set_option linter.unusedVariables false
set_option linter.unusedSimpArgs false
namespace Go.Proofs.Ytnbmpdjphmbofaa
open Go.RowKit

/-- The machine of ValidFormat: separator expected, length of the word, separators; none once it has failed. -/
def vfS : List Int → Int → Int → Int → Option (Int × Int × Int)
  | [], e, l, s => some (e, l, s)
  | c :: cs, e, l, s => if letterB c then vfS cs e (l + 1) s else if c != e || l == 0 then none else vfS cs (if e == 59 then 61 else 59) 0 (s + 1)
theorem vf_append (ys : List Int) : ∀ (xs : List Int) (e l s : Int), vfB (xs ++ ys) e l s = match vfS xs e l s with | none => false | some (e', l', s') => vfB ys e' l' s'
  | [], e, l, s => rfl
  | c :: cs, e, l, s => by
    rw [List.cons_append, vfB, vfS]
    split
    · exact vf_append ys cs _ _ _
    · split
      · rfl
      · exact vf_append ys cs _ _ _
theorem vf_state {xs : List Int} {e l s : Int} (h : vfB xs e l s = true) : ∃ l' s', vfS xs e l s = some (59, l', s') ∧ 0 < l' ∧ 0 < s' := by
  have h1 := vf_append [] xs e l s
  rw [List.append_nil, h] at h1
  split at h1
  · cases h1
  · rename_i e' l' s' he
    unfold vfB at h1
    have h2 : (decide (0 < s') && (e' == 59) && decide (0 < l')) = true := h1.symm
    simp only [Bool.and_eq_true, decide_eq_true_eq, beq_iff_eq] at h2
    obtain ⟨⟨h3, rfl⟩, h4⟩ := h2
    exact ⟨l', s', he, h4, h3⟩
theorem letter_ne {c : Int} (h : letterB c = true) : c ≠ 47 := by
  rintro rfl
  exact absurd h (by decide)
theorem no_slash : ∀ (xs : List Int) (e l s : Int), (e = 59 ∨ e = 61) → vfB xs e l s = true → xs.count 47 = 0
  | [], _, _, _, _, _ => rfl
  | c :: cs, e, l, s, he, h => by
    rw [vfB] at h
    by_cases hb : letterB c = true
    · rw [if_pos hb] at h
      rw [List.count_cons_of_ne (letter_ne hb)]
      exact no_slash cs e (l + 1) s he h
    · rw [if_neg hb] at h
      by_cases hg : (c != e || l == 0) = true
      · rw [if_pos hg] at h
        cases h
      · rw [if_neg hg] at h
        have hce : c = e := by
          cases hx : (c != e)
          · simpa using hx
          · rw [hx] at hg; exact absurd rfl hg
        rw [List.count_cons_of_ne (by rcases he with rfl | rfl <;> omega)]
        exact no_slash cs _ 0 (s + 1) (by split <;> simp) h
theorem one_slash : ∀ (xs : List Int) (l : Int), 0 ≤ l → vfB xs 47 l 0 = true → xs.count 47 = 1 ∧ (0 < l → 2 ≤ xs.length)
  | [], l, _, h => by exact absurd h (by unfold vfB; simp)
  | c :: cs, l, hl0, h => by
    rw [vfB] at h
    by_cases hb : letterB c = true
    · rw [if_pos hb] at h
      have ih := one_slash cs (l + 1) (by omega) h
      rw [List.count_cons_of_ne (letter_ne hb), List.length_cons]
      exact ⟨ih.1, fun _ => by have := ih.2 (by omega); omega⟩
    · rw [if_neg hb] at h
      by_cases hg : (c != 47 || l == 0) = true
      · rw [if_pos hg] at h
        cases h
      · rw [if_neg hg] at h
        have hce : c = 47 := by
          cases hx : (c != 47)
          · simpa using hx
          · rw [hx] at hg; exact absurd rfl hg
        subst hce
        have h0 := no_slash cs _ 0 _ (by decide) h
        rw [List.count_cons_self, h0, List.length_cons]
        have hl : 1 ≤ cs.length := by
          cases cs with
          | nil => exact absurd h (by unfold vfB; simp)
          | cons => simp
        exact ⟨rfl, fun _ => by omega⟩
theorem strB_append (s t : ByteArray) : strB (s ++ t) = strB s ++ strB t := by
  unfold strB
  rw [ByteArray.data_append, Array.toList_append, List.map_append]
theorem valid_split {s : ByteArray} (h : validB s = true) : s.size ≤ 64 ∧ vfB (strB s) 47 0 0 = true := by
  unfold validB at h
  rw [Bool.and_eq_true, decide_eq_true_eq] at h
  exact h
theorem valid_slash {s : ByteArray} (h : validB s = true) : (strB s).count 47 = 1 ∧ 3 ≤ s.size ∧ s.size ≤ 64 := by
  obtain ⟨h1, h2⟩ := valid_split h
  refine ⟨(one_slash _ 0 (by decide) h2).1, ?_, h1⟩
  rw [← strB_length]
  cases hs : strB s with
  | nil => rw [hs] at h2; exact absurd h2 (by decide)
  | cons c cs =>
    rw [hs, vfB] at h2
    by_cases hb : letterB c = true
    · rw [if_pos hb] at h2
      have := (one_slash cs _ (by decide) h2).2 (by decide)
      simp only [List.length_cons]
      omega
    · rw [if_neg hb] at h2
      exact absurd h2 (by simp)
theorem valid_ext {s t : ByteArray} (h : validB s = true) : ∃ l n : Int, 0 < l ∧ 0 < n ∧ validB (s ++ t) = (decide ((s ++ t).size ≤ 64) && vfB (strB t) 59 l n) := by
  obtain ⟨l, n, he, hl, hn⟩ := vf_state (valid_split h).2
  refine ⟨l, n, hl, hn, ?_⟩
  unfold validB
  rw [strB_append, vf_append, he]
theorem valid_more {s : ByteArray} (h : validB s = true) : validB (s ++ ⟨#[59, 97, 61, 49]⟩) = decide ((s ++ ⟨#[59, 97, 61, 49]⟩).size ≤ 64) := by
  obtain ⟨l, n, hl, hn, he⟩ := valid_ext (t := ⟨#[59, 97, 61, 49]⟩) h
  rw [he]
  have h1 : strB ⟨#[59, 97, 61, 49]⟩ = [59, 97, 61, 49] := by decide +kernel
  have hl0 : (l == 0) = false := by rw [beq_eq_false_iff_ne]; omega
  have : vfB [59, 97, 61, 49] 59 l n = true := by
    rw [vfB, show letterB 59 = false from by decide, if_neg (by decide), hl0, if_neg (by decide), if_pos (by decide)]
    rw [vfB, show letterB 97 = true from by decide, if_pos rfl, vfB, show letterB 61 = false from by decide, if_neg (by decide), if_neg (by decide), if_neg (by decide)]
    rw [vfB, show letterB 49 = true from by decide, if_pos rfl, vfB]
    simp
    omega
  rw [h1, this, Bool.and_true]
theorem valid_semi {s : ByteArray} (h : validB s = true) : validB (s ++ ⟨#[59]⟩) = false := by
  obtain ⟨l, n, hl, hn, he⟩ := valid_ext (t := ⟨#[59]⟩) h
  rw [he, show strB ⟨#[59]⟩ = [59] by decide +kernel]
  have hl0 : (l == 0) = false := by rw [beq_eq_false_iff_ne]; omega
  rw [vfB, show letterB 59 = false from by decide, if_neg (by decide), hl0, if_neg (by decide), if_pos (by decide), vfB]
  simp
theorem valid_again {s : ByteArray} (h : validB s = true) : validB (s ++ ⟨#[47, 97]⟩) = false := by
  obtain ⟨l, n, hl, hn, he⟩ := valid_ext (t := ⟨#[47, 97]⟩) h
  rw [he, show strB ⟨#[47, 97]⟩ = [47, 97] by decide +kernel]
  rw [vfB, show letterB 47 = false from by decide, if_neg (by decide), if_pos (by simp), Bool.and_false]
end Go.Proofs.Ytnbmpdjphmbofaa
