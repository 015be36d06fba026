/- offer.letter and offer.ValidFormat: what they compute. -/
import Derived.Test.YtndldjopgbhphaaPk01
import Derived.WalkMore
import Derived.Deep.LoopGhost
set_option linter.unusedVariables false
set_option linter.unusedSimpArgs false
set_option maxRecDepth 100000
namespace Go.Proofs.Ytndldjopgbhphaa
open Go.RowKit

/-- The bytes of a string as numbers. -/
def strB (s : ByteArray) : List Int := s.data.toList.map fun b => (b.toNat : Int)
theorem strB_length (s : ByteArray) : (strB s).length = s.size := by simp [strB]
theorem run_at {s : ByteArray} {i : Nat} {x : Int} (h : (strB s)[i]? = some x) (w : World) : (Instr.index 9 (.string s) (.int .i64 i)).run Try.prog w = .ok (.int .u8 x) w := by
  have hi : i < s.size := by rw [← strB_length]; exact (List.getElem?_eq_some_iff.1 h).1
  rw [run_index_string w _ s .i64 i Try.underlying9, dif_pos ⟨by omega, by omega⟩]
  unfold strB at h
  rw [List.getElem?_map, List.getElem?_eq_getElem (by simpa using hi)] at h
  simp only [Option.map_some, Option.some.injEq] at h
  rw [← h]
  rfl

/-- offer.letter. -/
def letterB (c : Int) : Bool := decide (97 ≤ c ∧ c ≤ 122) || decide (48 ≤ c ∧ c ≤ 57) || decide (c = 43) || decide (c = 45) || decide (c = 46)
set_option maxRecDepth 100000 in
theorem letter_ok (c : Int) (w : World) : Calls Try.prog 97 #[.int .u8 c] w fun e w' => e = .returned (.bool (letterB c)) ∧ w = w' := by
  have fin : ∀ b : Bool, letterB c = b → Calls Try.prog 97 #[.int .u8 c] w (fun e w' => e = .returned (.bool b) ∧ w = w') → Calls Try.prog 97 #[.int .u8 c] w fun e w' => e = .returned (.bool (letterB c)) ∧ w = w' := by
    intro b hb h; rw [hb]; exact h
  have fact : ∀ b1 b2 b3 b4 b5 b6 b7 : Bool, decide (97 ≤ c) = b1 → decide (c ≤ 122) = b2 → decide (48 ≤ c) = b3 → decide (c ≤ 57) = b4 → (c == 43) = b5 → (c == 45) = b6 → (c == 46) = b7 → letterB c = (b1 && b2 || b3 && b4 || b5 || b6 || b7) := by
    rintro _ _ _ _ _ _ _ rfl rfl rfl rfl rfl rfl rfl
    unfold letterB
    simp [Bool.beq_eq_decide_eq]
  by_cases h1 : 97 ≤ c
  · by_cases h2 : c ≤ 122
    · refine fin true (by unfold letterB; simp; omega) ?_
      clear fin fact
      go_enter Try.func97, Try.ntmps97
      go_wp2
      go_ret
      exact ⟨rfl, rfl⟩
    · refine fin false (by unfold letterB; simp; omega) ?_
      clear fin fact
      have h3 : 48 ≤ c := by omega
      have h4 : ¬ c ≤ 57 := by omega
      have h5 : (c == 43) = false := by simp; omega
      have h6 : (c == 45) = false := by simp; omega
      have h7 : (c == 46) = false := by simp; omega
      go_enter Try.func97, Try.ntmps97
      go_wp2
      go_ret
      exact ⟨rfl, rfl⟩
  · by_cases h3 : 48 ≤ c
    · by_cases h4 : c ≤ 57
      · refine fin true (by unfold letterB; simp; omega) ?_
        clear fin fact
        go_enter Try.func97, Try.ntmps97
        go_wp2
        go_ret
        exact ⟨rfl, rfl⟩
      · refine fin false (by unfold letterB; simp; omega) ?_
        clear fin fact
        have h5 : (c == 43) = false := by simp; omega
        have h6 : (c == 45) = false := by simp; omega
        have h7 : (c == 46) = false := by simp; omega
        go_enter Try.func97, Try.ntmps97
        go_wp2
        go_ret
        exact ⟨rfl, rfl⟩
    · by_cases h5 : c = 43
      · subst h5
        refine fin true (by decide) ?_
        clear fin fact
        go_enter Try.func97, Try.ntmps97
        go_wp2
        go_ret
        exact ⟨rfl, rfl⟩
      by_cases h6 : c = 45
      · subst h6
        refine fin true (by decide) ?_
        clear fin fact
        go_enter Try.func97, Try.ntmps97
        go_wp2
        go_ret
        exact ⟨rfl, rfl⟩
      by_cases h7 : c = 46
      · subst h7
        refine fin true (by decide) ?_
        clear fin fact
        go_enter Try.func97, Try.ntmps97
        go_wp2
        go_ret
        exact ⟨rfl, rfl⟩
      refine fin false (by unfold letterB; simp; omega) ?_
      clear fin fact
      have h5' : (c == 43) = false := by simp; omega
      have h6' : (c == 45) = false := by simp; omega
      have h7' : (c == 46) = false := by simp; omega
      go_enter Try.func97, Try.ntmps97
      go_wp2
      go_ret
      exact ⟨rfl, rfl⟩

/-- offer.ValidFormat from a place on: the separator expected, the length of the word, the separators so far. -/
def vfB : List Int → Int → Int → Int → Bool
  | [], e, l, s => decide (0 < s) && (e == 59) && decide (0 < l)
  | c :: cs, e, l, s => if letterB c then vfB cs e (l + 1) s else if c != e || l == 0 then false else vfB cs (if e == 59 then 61 else 59) 0 (s + 1)
def validB (s : ByteArray) : Bool := decide (s.size ≤ 64) && vfB (strB s) 47 0 0

set_option maxRecDepth 100000 in
set_option maxHeartbeats 2000000 in
theorem valid_ok (s : ByteArray) (w : World) : Calls Try.prog 82 #[.string s] w fun e w' => e = .returned (.bool (validB s)) ∧ w = w' := by
  by_cases hs : s.size ≤ 64
  · have hv : validB s = vfB (strB s) 47 0 0 := by unfold validB; rw [decide_eq_true hs]; rfl
    have HV := Lib.hid hv
    have hs2 : ¬ (64 : Int) < s.size := by omega
    have HL := Lib.hid (strB_length s)
    clear hv
    go_enter Try.func82, Try.ntmps82
    go_wp2
    go_step3
    go_wp2
    go_step3
    go_wp2
    go_loop [3, 4, 5, 6, 12] (fun v3 v4 v5 v6 v12 => ∃ (i : Nat) (e l sp : Int), i ≤ s.size ∧ 0 ≤ e ∧ e ≤ 255 ∧ 0 ≤ l ∧ l ≤ i ∧ 0 ≤ sp ∧ sp ≤ i ∧ v3 = .int .u8 e ∧ v4 = .int .i64 l ∧ v5 = .int .i64 sp ∧ v12 = .int .i64 i ∧ vfB (strB s) 47 0 0 = vfB ((strB s).drop i) e l sp) (fun v3 v4 v5 v6 v12 => s.size - (intOf v12).toNat)
    case atStart => exact ⟨0, 47, 0, 0, by omega, by omega, by omega, by omega, by omega, by omega, by omega, rfl, rfl, rfl, rfl, rfl⟩
    case round =>
      obtain ⟨i, e, l, sp, hi, he0, he1, hl0, hl1, hp0, hp1, rfl, rfl, rfl, rfl, hf⟩ := hrel
      have HF := Lib.hid hf
      clear hf
      by_cases hlt : i < s.size
      · have hii : (i : Int) < s.size := by omega
        have hx : (strB s)[i]? = some ((strB s)[i]'(by rw [HL.out]; exact hlt)) := List.getElem?_eq_getElem (by rw [HL.out]; exact hlt)
        have hd : (strB s).drop i = (strB s)[i]'(by rw [HL.out]; exact hlt) :: (strB s).drop (i + 1) := List.drop_eq_getElem_cons (by rw [HL.out]; exact hlt)
        generalize (strB s)[i]'(by rw [HL.out]; exact hlt) = x at hx hd
        have hrun := run_at hx w
        have HD := Lib.hid hd
        clear hx hd
        cases hb : letterB x
        · have HB := Lib.hid hb
          by_cases hne : (x != e) = true
          · have HN := Lib.hid hne
            go_wp2_with (go_at_call 97; refine (letter_ok x _).mono ?_; rintro e w' ⟨rfl, rfl⟩; try rw [hb])
            try rw [Exit.noGoto_ret]
            go_ret
            refine ⟨?_, rfl⟩
            rw [HV.out, HF.out, HD.out]
            unfold vfB
            rw [HB.out, HN.out]
            rfl
          · have hxe : x = e := by simpa using hne
            subst hxe
            clear hne
            by_cases hlz : l = 0
            · subst hlz
              go_wp2_with (go_at_call 97; refine (letter_ok x _).mono ?_; rintro e w' ⟨rfl, rfl⟩; try rw [hb])
              try rw [Exit.noGoto_ret]
              go_ret
              refine ⟨?_, rfl⟩
              rw [HV.out, HF.out, HD.out]
              unfold vfB
              rw [HB.out]
              simp
            · have hlz' : (l == 0) = false := by simpa using hlz
              by_cases h59 : x = 59
              · subst h59
                go_wp2_with (go_at_call 97; refine (letter_ok 59 _).mono ?_; rintro e w' ⟨rfl, rfl⟩; try rw [hb])
                go_round
                case rel => exact ⟨i + 1, 61, 0, sp + 1, by omega, by omega, by omega, by omega, by omega, by omega, by omega, rfl, rfl, by go_num, by go_num, by rw [HF.out, HD.out, vfB, HB.out, hlz']; rfl⟩
                case measure => simp [intOf]; omega
              · have h59' : (x == 59) = false := by simpa using h59
                go_wp2_with (go_at_call 97; refine (letter_ok x _).mono ?_; rintro e w' ⟨rfl, rfl⟩; try rw [hb])
                go_round
                case rel => exact ⟨i + 1, 59, 0, sp + 1, by omega, by omega, by omega, by omega, by omega, by omega, by omega, rfl, rfl, by go_num, by go_num, by rw [HF.out, HD.out, vfB, HB.out, hlz']; simp [h59']⟩
                case measure => simp [intOf]; omega
        · have HB := Lib.hid hb
          go_wp2_with (go_at_call 97; refine (letter_ok x _).mono ?_; rintro e w' ⟨rfl, rfl⟩; try rw [hb])
          go_round
          case rel => exact ⟨i + 1, e, l + 1, sp, by omega, by omega, by omega, by omega, by omega, by omega, by omega, rfl, by go_num, rfl, by go_num, by rw [HF.out, HD.out, vfB, HB.out]; rfl⟩
          case measure => simp [intOf]; omega
      · have hie : i = s.size := by omega
        have hlt' : ¬ (i : Int) < s.size := by omega
        have HI := Lib.hid hie
        clear hie
        have HR := Lib.hid (show vfB (strB s) 47 0 0 = (decide (0 < sp) && (e == 59) && decide (0 < l)) by rw [HF.out, HI.out, ← HL.out, List.drop_length]; rfl)
        by_cases hp : 0 < sp
        · by_cases h59 : e = 59
          · subst h59
            go_wp2
            try rw [Exit.noGoto_ret]
            go_ret
            refine ⟨?_, rfl⟩
            rw [HV.out, HR.out, decide_eq_true hp]
            rfl
          · have h59' : (e == 59) = false := by simpa using h59
            go_wp2
            try rw [Exit.noGoto_ret]
            go_ret
            refine ⟨?_, rfl⟩
            rw [HV.out, HR.out, h59']
            simp
        · go_wp2
          try rw [Exit.noGoto_ret]
          go_ret
          refine ⟨?_, rfl⟩
          have e0 : decide (0 < sp) = false := decide_eq_false (by omega)
          rw [HV.out, HR.out, e0, Bool.false_and, Bool.false_and]
          rfl
  · have hv : validB s = false := by unfold validB; rw [decide_eq_false hs]; rfl
    have HV := Lib.hid hv
    have hs2 : (64 : Int) < s.size := by omega
    clear hv
    go_enter Try.func82, Try.ntmps82
    go_wp2
    go_step3
    go_wp2
    try rw [Exit.noGoto_ret]
    go_ret
    exact ⟨by rw [HV.out]; rfl, rfl⟩
end Go.Proofs.Ytndldjopgbhphaa
