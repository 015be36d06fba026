/- SubsurfaceLimits: the walk. -/
import Derived.Test.YtehcfeibfpgamaaLim18
import Derived.Test.YtehcfeibfpgamaaArg18
set_option linter.unusedVariables false
set_option linter.unusedSimpArgs false
set_option maxRecDepth 100000
namespace Go.Proofs.Ytehcfeibfpgamaa
open Go.RowKit

theorem lim_num (a : Int) (h : 0 ≤ a ∧ a ≤ 255) : ∃ N : Nat, 17 ≤ N ∧ N ≤ 24 ∧ (17 : Int) + a % 8 = N := by
  refine ⟨(17 + a % 8).toNat, ?_, ?_, ?_⟩ <;> omega
set_option maxHeartbeats 4000000 in
theorem SubsurfaceLimits_walk (a : Int) (w : World) (ha : 0 ≤ a ∧ a ≤ 255) :
    Calls Try.prog 4 #[.int .u8 a] w fun e w' => e = .returned (.bool true) ∧ Same w w' := by
  obtain ⟨N, hN1, hN2, hN⟩ := lim_num a ha
  have hlim := attOk_at N 0 (lim_all N hN1 hN2)
  have HLIM := Lib.hid hlim
  have e1 : IntKind.i64.wrap ((N : Int) + 1) = (N : Int) + 1 := IntWalk.i64_in _ (by omega)
  clear hlim
  go_enter Try.func4, Try.ntmps4
  go_wp2_with fail
  refine (ynew_v w).mono ?_
  rintro e w1 ⟨b, R1, rfl, h1⟩
  have H1 := Lib.hid h1
  clear h1
  go_wp2_with fail
  go_loopw [5] (fun v5 wr => ∃ (k : Nat) (R : Nat → Prop), v5 = .int .i64 ((k : Int) + 1) ∧ k ≤ N + 1 ∧ Yt w wr b R (addsN k)) (fun v5 wr => N + 2 - (intOf v5).toNat)
  case atStart => exact ⟨0, R1, rfl, by omega, H1.out⟩
  case round =>
    obtain ⟨k, R, rfl, hk, hy⟩ := hrel
    have HY := Lib.hid hy
    clear hy
    by_cases hlt : k < N + 1
    · have hz : (k : Int) + 1 ≤ (N : Int) + 1 := by omega
      go_wp2_with fail
      refine (yadd_v HY.out ((k : Int) + 1) (by rw [addsN_len]; omega) (addsN_R k)).mono ?_
      rintro e w2 ⟨rfl, R2, h2, _⟩
      have H2 := Lib.hid h2
      clear h2
      go_wp2
      go_roundw
      case rel => exact ⟨k + 1, R2, by go_num, by omega, H2.out⟩
      case measure => simp [intOf]; omega
    obtain rfl : k = N + 1 := by omega
    have hz : ¬ (((N + 1 : Nat) : Int) + 1 ≤ (N : Int) + 1) := by omega
    go_wp2_with fail
    go_loopw [6, 7] (fun v6 v7 wr => ∃ (k : Nat) (R : Nat → Prop), v6 = .int .i64 ((k : Int) + 2) ∧ k ≤ N ∧ Yt w wr b R (attsN (addsN (N + 1)) k)) (fun v6 v7 wr => N + 2 - (intOf v6).toNat)
    case atStart => exact ⟨0, R, rfl, by omega, HY.out⟩
    case round =>
      obtain ⟨k, R3, rfl, hk3, hy3⟩ := hrel
      have HY3 := Lib.hid hy3
      clear hy3
      by_cases hlt3 : k < N
      · have hz3 : (k : Int) + 2 ≤ (N : Int) + 1 := by omega
        have hat := HLIM.out k (by omega) (by omega)
        by_cases h17 : k + 2 ≤ 17
        · rw [if_pos h17] at hat
          have h17z : (k : Int) + 2 ≤ 17 := by omega
          have HAT := Lib.hid hat
          clear hat
          go_wp2_with fail
          refine (yattach_v HY3.out ((k : Int) + 2) 1 HAT.out).mono ?_
          rintro e w2 ⟨rfl, R2, h2, _⟩
          have H2 := Lib.hid h2
          clear h2
          go_wp2
          go_roundw
          case rel => exact ⟨k + 1, R2, by go_num, by omega, H2.out⟩
          case measure => simp [intOf]; omega
        · rw [if_neg h17] at hat
          have h17z : ¬ (k : Int) + 2 ≤ 17 := by omega
          have HAT := Lib.hid hat
          clear hat
          go_wp2_with fail
          refine (yattach_v HY3.out ((k : Int) + 2) 1 HAT.out).mono ?_
          rintro e w2 ⟨rfl, R2, h2, _⟩
          have H2 := Lib.hid h2
          clear h2
          go_wp2
          go_roundw
          case rel => exact ⟨k + 1, R2, by go_num, by omega, H2.out⟩
          case measure => simp [intOf]; omega
      obtain rfl : k = N := by omega
      have hz3 : ¬ ((k : Int) + 2 ≤ (k : Int) + 1) := by omega
      have HSR := Lib.hid HY3.out.s0
      go_wp2_with fail
      refine (ynew_v _).mono ?_
      rintro e w4 ⟨b2, R4, rfl, h4⟩
      have H4 := Lib.hid h4
      clear h4
      go_wp2_with fail
      go_loopw [9] (fun v9 wq => ∃ (m : Nat) (R : Nat → Prop), v9 = .int .i64 ((m : Int) + 1) ∧ m ≤ 12 ∧ Yt _ wq b2 R (addsN m)) (fun v9 wq => 13 - (intOf v9).toNat)
      case atStart => exact ⟨0, R4, rfl, by omega, H4.out⟩
      case round =>
        obtain ⟨m, R5, rfl, hm, hy5⟩ := hrel
        have HY5 := Lib.hid hy5
        clear hy5
        by_cases hlt5 : m < 12
        · have hz5 : (m : Int) + 1 ≤ 12 := by omega
          go_wp2_with fail
          refine (yadd_v HY5.out ((m : Int) + 1) (by rw [addsN_len]; omega) (addsN_R m)).mono ?_
          rintro e w2 ⟨rfl, R2, h2, _⟩
          have H2 := Lib.hid h2
          clear h2
          go_wp2
          go_roundw
          case rel => exact ⟨m + 1, R2, by go_num, by omega, H2.out⟩
          case measure => simp [intOf]; omega
        obtain rfl : m = 12 := by omega
        go_wp2_with fail
        go_loopw [10, 11] (fun v10 v11 wq => ∃ (m : Nat) (R : Nat → Prop), v10 = .int .i64 ((m : Int) + 2) ∧ m ≤ 9 ∧ Yt _ wq b2 R (upN m)) (fun v10 v11 wq => 12 - (intOf v10).toNat)
        case atStart => exact ⟨0, R5, rfl, by omega, HY5.out⟩
        case round =>
          obtain ⟨m, R6, rfl, hm6, hy6⟩ := hrel
          have HY6 := Lib.hid hy6
          clear hy6
          by_cases hlt6 : m < 9
          · have hz6 : (m : Int) + 2 ≤ 10 := by omega
            have hat := up_all m hlt6
            by_cases h9 : m + 2 ≤ 9
            · rw [if_pos h9] at hat
              have h9z : (m : Int) + 2 ≤ 9 := by omega
              have es : IntKind.i64.wrap ((m : Int) + 2 - 1) = (m : Int) + 1 := by rw [show (m : Int) + 2 - 1 = m + 1 by omega]; exact IntWalk.i64_in _ (by omega)
              have HAT := Lib.hid hat
              clear hat
              go_wp2_with fail
              refine (yattach_v HY6.out ((m : Int) + 2) ((m : Int) + 1) HAT.out).mono ?_
              rintro e w2 ⟨rfl, R2, h2, _⟩
              have H2 := Lib.hid h2
              clear h2
              go_wp2
              go_roundw
              case rel => (repeat apply Exists.intro); exact ⟨⟨m + 1, R2, by go_num, by omega, H2.out⟩, rfl⟩
              case measure => simp [intOf]; omega
            · rw [if_neg h9] at hat
              have h9z : ¬ (m : Int) + 2 ≤ 9 := by omega
              have es : IntKind.i64.wrap ((m : Int) + 2 - 1) = (m : Int) + 1 := by rw [show (m : Int) + 2 - 1 = m + 1 by omega]; exact IntWalk.i64_in _ (by omega)
              have HAT := Lib.hid hat
              clear hat
              go_wp2_with fail
              refine (yattach_v HY6.out ((m : Int) + 2) ((m : Int) + 1) HAT.out).mono ?_
              rintro e w2 ⟨rfl, R2, h2, _⟩
              have H2 := Lib.hid h2
              clear h2
              go_wp2
              go_roundw
              case rel => (repeat apply Exists.intro); exact ⟨⟨m + 1, R2, by go_num, by omega, H2.out⟩, rfl⟩
              case measure => simp [intOf]; omega
          obtain rfl : m = 9 := by omega
          obtain ⟨T2, hT2⟩ := up_end2
          have HT2 := Lib.hid hT2
          clear hT2
          go_wp2_with fail
          refine (yattach_v HY6.out 1 11 up_end1).mono ?_
          rintro e w7 ⟨rfl, R7, h7, _⟩
          have H7 := Lib.hid h7
          clear h7
          go_wp2_with fail
          refine (yattach_v H7.out 11 8 HT2.out).mono ?_
          rintro e w8 ⟨rfl, R8, h8, _⟩
          have H8 := Lib.hid h8
          clear h8
          go_wp2_with fail
          refine (example18_ok w8).mono ?_
          rintro e w9 ⟨rfl, hs9⟩
          have HS9 := Lib.hid ((HSR.out.trans H8.out.s0).trans hs9)
          clear hs9
          go_wp2
          go_ret
          exact ⟨rfl, HS9.out⟩
end Go.Proofs.Ytehcfeibfpgamaa
