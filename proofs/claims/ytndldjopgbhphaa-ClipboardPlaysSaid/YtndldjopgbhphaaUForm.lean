/- compositorref40.letter, word, pair, ValidFormat: ValidFormat answers as offer.ValidFormat does. -/
import Derived.Test.YtndldjopgbhphaaForm
set_option linter.unusedVariables false
set_option linter.unusedSimpArgs false
set_option maxRecDepth 100000
namespace Go.Proofs.Ytndldjopgbhphaa
open Go.RowKit

set_option maxRecDepth 100000 in
theorem uletter_ok (c : Int) (w : World) : Calls Try.prog 104 #[.int .u8 c] w fun e w' => e = .returned (.bool (letterB c)) ∧ w = w' := by
  have fin : ∀ b : Bool, letterB c = b → Calls Try.prog 104 #[.int .u8 c] w (fun e w' => e = .returned (.bool b) ∧ w = w') → Calls Try.prog 104 #[.int .u8 c] w fun e w' => e = .returned (.bool (letterB c)) ∧ w = w' := by
    intro b hb h; rw [hb]; exact h
  have fact : ∀ b1 b2 b3 b4 b5 b6 b7 : Bool, decide (97 ≤ c) = b1 → decide (c ≤ 122) = b2 → decide (48 ≤ c) = b3 → decide (c ≤ 57) = b4 → (c == 43) = b5 → (c == 45) = b6 → (c == 46) = b7 → letterB c = (b1 && b2 || b3 && b4 || b5 || b6 || b7) := by
    rintro _ _ _ _ _ _ _ rfl rfl rfl rfl rfl rfl rfl
    unfold letterB
    simp [Bool.beq_eq_decide_eq]
  by_cases h1 : 97 ≤ c
  · by_cases h2 : c ≤ 122
    · refine fin true (by unfold letterB; simp; omega) ?_
      clear fin fact
      go_enter Try.func104, Try.ntmps104
      go_wp2
      go_ret
      exact ⟨rfl, rfl⟩
    · refine fin false (by unfold letterB; simp; omega) ?_
      clear fin fact
      have h3 : 48 ≤ c := by omega
      have h4 : ¬ c ≤ 57 := by omega
      have h5 : (c == 43) = false := by simp; omega
      have h6 : (c == 45) = false := by simp; omega
      have h7 : (c == 46) = false := by simp; omega
      go_enter Try.func104, Try.ntmps104
      go_wp2
      go_ret
      exact ⟨rfl, rfl⟩
  · by_cases h3 : 48 ≤ c
    · by_cases h4 : c ≤ 57
      · refine fin true (by unfold letterB; simp; omega) ?_
        clear fin fact
        go_enter Try.func104, Try.ntmps104
        go_wp2
        go_ret
        exact ⟨rfl, rfl⟩
      · refine fin false (by unfold letterB; simp; omega) ?_
        clear fin fact
        have h5 : (c == 43) = false := by simp; omega
        have h6 : (c == 45) = false := by simp; omega
        have h7 : (c == 46) = false := by simp; omega
        go_enter Try.func104, Try.ntmps104
        go_wp2
        go_ret
        exact ⟨rfl, rfl⟩
    · by_cases h5 : c = 43
      · subst h5
        refine fin true (by decide) ?_
        clear fin fact
        go_enter Try.func104, Try.ntmps104
        go_wp2
        go_ret
        exact ⟨rfl, rfl⟩
      by_cases h6 : c = 45
      · subst h6
        refine fin true (by decide) ?_
        clear fin fact
        go_enter Try.func104, Try.ntmps104
        go_wp2
        go_ret
        exact ⟨rfl, rfl⟩
      by_cases h7 : c = 46
      · subst h7
        refine fin true (by decide) ?_
        clear fin fact
        go_enter Try.func104, Try.ntmps104
        go_wp2
        go_ret
        exact ⟨rfl, rfl⟩
      refine fin false (by unfold letterB; simp; omega) ?_
      clear fin fact
      have h5' : (c == 43) = false := by simp; omega
      have h6' : (c == 45) = false := by simp; omega
      have h7' : (c == 46) = false := by simp; omega
      go_enter Try.func104, Try.ntmps104
      go_wp2
      go_ret
      exact ⟨rfl, rfl⟩

theorem uletter_v (c : Int) (b : Bool) (w : World) (h : letterB c = b) : Calls Try.prog 104 #[.int .u8 c] w fun e w' => e = .returned (.bool b) ∧ w = w' := by
  subst h
  exact uletter_ok c w

/-- A word from i to k. -/
structure WordR (bs : List Int) (i k : Nat) : Prop where
  le : i ≤ k
  len : k ≤ bs.length
  vf : ∀ e l sp, vfB (bs.drop i) e l sp = vfB (bs.drop k) e (l + ((k : Int) - i)) sp
  stop : ∀ x, bs[k]? = some x → letterB x = false

set_option maxRecDepth 100000 in
set_option maxHeartbeats 2000000 in
theorem word_ok (s : ByteArray) (i : Nat) (hi : i ≤ s.size) (hs : s.size ≤ 1000) (w : World) : Calls Try.prog 103 #[.string s, .int .i64 i] w fun e w' => (∃ k : Nat, e = .returned (.int .i64 k) ∧ WordR (strB s) i k) ∧ w = w' := by
  have HL := Lib.hid (strB_length s)
  go_enter Try.func103, Try.ntmps103
  go_wp2
  go_loop [1] (fun v1 => ∃ k : Nat, i ≤ k ∧ k ≤ s.size ∧ v1 = .int .i64 k ∧ ∀ e l sp, vfB ((strB s).drop i) e l sp = vfB ((strB s).drop k) e (l + ((k : Int) - i)) sp) (fun v1 => s.size - (intOf v1).toNat)
  case atStart => exact ⟨i, by omega, hi, rfl, fun e l sp => by rw [Int.sub_self, Int.add_zero]⟩
  case round =>
    obtain ⟨k, hk, hkn, rfl, hf⟩ := hrel
    have HF := Lib.hid hf
    clear hf
    by_cases hlt : k < s.size
    · have hii : (k : Int) < s.size := by omega
      have hx : (strB s)[k]? = some ((strB s)[k]'(by rw [HL.out]; exact hlt)) := List.getElem?_eq_getElem (by rw [HL.out]; exact hlt)
      have hd : (strB s).drop k = (strB s)[k]'(by rw [HL.out]; exact hlt) :: (strB s).drop (k + 1) := List.drop_eq_getElem_cons (by rw [HL.out]; exact hlt)
      generalize (strB s)[k]'(by rw [HL.out]; exact hlt) = x at hx hd
      have hrun := run_at hx w
      have HX := Lib.hid hx
      have HD := Lib.hid hd
      clear hx hd
      cases hb : letterB x
      · have HB := Lib.hid hb
        clear hb
        go_wp2_with (go_at_call 104; refine (uletter_v x _ _ HB.out).mono ?_; rintro e w' ⟨rfl, rfl⟩)
        go_ret
        refine ⟨⟨k, rfl, hk, by rw [HL.out]; omega, HF.out, fun y hy => ?_⟩, rfl⟩
        rw [HX.out] at hy
        cases hy
        exact HB.out
      · have HB := Lib.hid hb
        clear hb
        go_wp2_with (go_at_call 104; refine (uletter_v x _ _ HB.out).mono ?_; rintro e w' ⟨rfl, rfl⟩)
        go_round
        case rel =>
          refine ⟨k + 1, by omega, by omega, by go_num, fun e l sp => ?_⟩
          rw [HF.out, HD.out, vfB, if_pos HB.out]
          congr 1
          omega
        case measure => simp [intOf]; omega
    · have hlt' : ¬ (k : Int) < s.size := by omega
      have HX := Lib.hid (show ∀ y, (strB s)[k]? = some y → letterB y = false from fun y hy => by have := (List.getElem?_eq_some_iff.1 hy).1; rw [HL.out] at this; omega)
      go_wp2
      go_ret
      exact ⟨⟨k, rfl, hk, by rw [HL.out]; omega, HF.out, HX.out⟩, rfl⟩

/-- What pair answers. -/
def PairR (bs : List Int) (i : Nat) (sep r : Int) : Prop :=
  (r = -1 ∧ ∀ sp, vfB (bs.drop i) sep 0 sp = false) ∨
  (∃ j : Nat, ∃ L : Int, r = j ∧ i < j ∧ j ≤ bs.length ∧ 0 < L ∧ (∀ sp, vfB (bs.drop i) sep 0 sp = vfB (bs.drop j) 59 L (sp + 1)) ∧ ∀ x, bs[j]? = some x → letterB x = false)
theorem vf_none {bs : List Int} {k : Nat} (h : ∀ x, bs[k]? = some x → letterB x = false) (e sp : Int) : vfB (bs.drop k) e 0 sp = false := by
  by_cases hk : k < bs.length
  · rw [List.drop_eq_getElem_cons hk, vfB, if_neg (by rw [h _ (List.getElem?_eq_getElem hk)]; decide), if_pos (by simp)]
  · rw [List.drop_eq_nil_of_le (by omega), vfB]
    simp
theorem pair_a {bs : List Int} {i : Nat} {sep : Int} (h : WordR bs i i) : PairR bs i sep (-1) := .inl ⟨rfl, fun sp => vf_none h.stop sep sp⟩
theorem pair_b {bs : List Int} {i k : Nat} {sep : Int} (h : WordR bs i k) (hk : k = bs.length) (hs : sep = 47 ∨ sep = 61) : PairR bs i sep (-1) := .inl ⟨rfl, fun sp => by
  rw [h.vf, hk, List.drop_length, vfB]
  rcases hs with rfl | rfl <;> simp⟩
theorem pair_c {bs : List Int} {i k : Nat} {sep x : Int} (h : WordR bs i k) (hx : bs[k]? = some x) (hn : x ≠ sep) : PairR bs i sep (-1) := .inl ⟨rfl, fun sp => by
  obtain ⟨hk, rfl⟩ := List.getElem?_eq_some_iff.1 hx
  rw [h.vf, List.drop_eq_getElem_cons hk, vfB, if_neg (by rw [h.stop _ hx]; decide), if_pos (by simp [hn])]⟩
theorem pair_step {bs : List Int} {i k : Nat} {sep : Int} (h : WordR bs i k) (hik : i < k) (hx : bs[k]? = some sep) (hs : sep = 47 ∨ sep = 61) (sp : Int) : vfB (bs.drop i) sep 0 sp = vfB (bs.drop (k + 1)) 59 0 (sp + 1) := by
  obtain ⟨hk, he⟩ := List.getElem?_eq_some_iff.1 hx
  have h0 : ((0 : Int) + ((k : Int) - i) == 0) = false := by rw [beq_eq_false_iff_ne]; omega
  rw [h.vf, List.drop_eq_getElem_cons hk, he, vfB, if_neg (by rw [h.stop _ hx]; decide), h0, if_neg (by simp)]
  rcases hs with rfl | rfl <;> rfl
theorem pair_d {bs : List Int} {i k : Nat} {sep : Int} (h : WordR bs i k) (hik : i < k) (hx : bs[k]? = some sep) (hs : sep = 47 ∨ sep = 61) (h2 : WordR bs (k + 1) (k + 1)) : PairR bs i sep (-1) :=
  .inl ⟨rfl, fun sp => by rw [pair_step h hik hx hs, vf_none h2.stop]⟩
theorem pair_e {bs : List Int} {i k j : Nat} {sep : Int} (h : WordR bs i k) (hik : i < k) (hx : bs[k]? = some sep) (hs : sep = 47 ∨ sep = 61) (h2 : WordR bs (k + 1) j) (hj : k + 1 < j) : PairR bs i sep j :=
  .inr ⟨j, (0 : Int) + ((j : Int) - ((k + 1 : Nat) : Int)), rfl, by omega, h2.len, by omega, fun sp => by rw [pair_step h hik hx hs, h2.vf], h2.stop⟩

set_option maxRecDepth 100000 in
set_option maxHeartbeats 2000000 in
theorem pair_ok (s : ByteArray) (i : Nat) (sep : Int) (hsep : sep = 47 ∨ sep = 61) (hi : i ≤ s.size) (hs : s.size ≤ 1000) (w : World) : Calls Try.prog 98 #[.string s, .int .i64 i, .int .u8 sep] w fun e w' => (∃ r, e = .returned (.int .i64 r) ∧ PairR (strB s) i sep r) ∧ w = w' := by
  have HL := Lib.hid (strB_length s)
  go_enter Try.func98, Try.ntmps98
  go_wp2_with fail
  refine (word_ok s i hi hs _).mono ?_
  rintro e w' ⟨⟨k, rfl, hk⟩, rfl⟩
  have hkl := hk.len
  rw [HL.out] at hkl
  have hik := hk.le
  have HK := Lib.hid hk
  clear hk
  by_cases h1 : k = i
  · subst h1
    go_wp2
    go_ret
    exact ⟨⟨-1, rfl, pair_a HK.out⟩, rfl⟩
  have h1' : (k == i) = false := by rw [beq_eq_false_iff_ne]; exact h1
  have h1i : ((k : Int) == i) = false := by rw [beq_eq_false_iff_ne]; omega
  by_cases h2 : k = s.size
  · have HR := Lib.hid (pair_b HK.out (by rw [HL.out]; exact h2) hsep)
    have h2i : ((k : Int) == s.size) = true := by rw [beq_iff_eq]; omega
    go_wp2
    go_ret
    exact ⟨⟨-1, rfl, HR.out⟩, rfl⟩
  have h2' : (k == s.size) = false := by rw [beq_eq_false_iff_ne]; exact h2
  have h2i : ((k : Int) == s.size) = false := by rw [beq_eq_false_iff_ne]; omega
  have hks : k < s.size := by omega
  have hx : (strB s)[k]? = some ((strB s)[k]'(by rw [HL.out]; exact hks)) := List.getElem?_eq_getElem (by rw [HL.out]; exact hks)
  generalize (strB s)[k]'(by rw [HL.out]; exact hks) = x at hx
  have hrun := run_at hx w
  have HX := Lib.hid hx
  clear hx
  by_cases h3 : x = sep
  · subst h3
    go_wp2_with fail
    refine (word_ok s (k + 1) (by omega) hs _).mono ?_
    rintro e w' ⟨⟨j, rfl, hj⟩, rfl⟩
    have hjl := hj.len
    rw [HL.out] at hjl
    have hkj := hj.le
    have HJ := Lib.hid hj
    clear hj
    by_cases h4 : j = k + 1
    · subst h4
      have HR := Lib.hid (pair_d HK.out (by omega) HX.out hsep HJ.out)
      go_wp2
      go_ret
      exact ⟨⟨-1, rfl, HR.out⟩, rfl⟩
    · have h4i : ((j : Int) == (k : Int) + 1) = false := by rw [beq_eq_false_iff_ne]; omega
      have HR := Lib.hid (pair_e HK.out (by omega) HX.out hsep HJ.out (by omega))
      go_wp2
      go_ret
      exact ⟨⟨j, rfl, HR.out⟩, rfl⟩
  · have h3' : (x == sep) = false := by rw [beq_eq_false_iff_ne]; exact h3
    have h3n : (x != sep) = true := by simpa using h3
    have HR := Lib.hid (pair_c HK.out HX.out h3)
    clear h3
    go_wp2
    go_ret
    exact ⟨⟨-1, rfl, HR.out⟩, rfl⟩
end Go.Proofs.Ytndldjopgbhphaa
