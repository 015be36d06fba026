/- The walk of SerialNewer: for all numbers it returns true and leaves what was there as it was. -/
import Derived.Test.YtchodbcfncdmaaaEx31
namespace Go.Proofs.Ytchodbcfncdmaaa
open Go.RowKit

theorem newerB_eq (a b : Int) : newerB a b = (decide (1 ≤ (a - b) % 4294967296) && decide ((a - b) % 4294967296 < 2147483648)) := by
  unfold newerB wrap32
  rw [Bool.eq_iff_iff]
  simp only [Bool.and_eq_true, decide_eq_true_eq]
  omega
theorem refNewer_ok (a b : Int) (w : World) :
    Calls Try.prog 15 #[.int .u32 a, .int .u32 b] w fun e w' => e = .returned (.bool (newerB a b)) ∧ w = w' := by
  rw [newerB_eq]
  generalize hd : (a - b) % 4294967296 = d
  have HD := Lib.hid hd
  have h0 : 0 ≤ d ∧ d < 4294967296 := by omega
  by_cases h1 : 1 ≤ d
  · go_enter Try.func15, Try.ntmps15
    go_wp2
    go_ret
    exact ⟨by simp [h1], rfl⟩
  · go_enter Try.func15, Try.ntmps15
    go_wp2
    go_ret
    exact ⟨by simp; omega, rfl⟩

theorem newerB_self (a : Int) : newerB a a = false := by rw [newerB_eq]; simp
theorem newerB_swap (a b : Int) (h : (a - b) % 4294967296 ≠ 0) (h2 : (a - b) % 4294967296 ≠ 2147483648) : newerB b a = !newerB a b := by
  rw [newerB_eq, newerB_eq, Bool.eq_iff_iff]
  simp only [Bool.and_eq_true, decide_eq_true_eq, Bool.not_eq_true', Bool.and_eq_false_iff, decide_eq_false_iff_not]
  omega
theorem newerB_apart (a b : Int) (h2 : (a - b) % 4294967296 = 2147483648) : newerB a b = false ∧ newerB b a = false := by
  rw [newerB_eq, newerB_eq]
  constructor <;> (simp only [Bool.and_eq_false_iff, decide_eq_false_iff_not]; omega)
theorem newerB_shift (a b d : Int) : newerB ((a + d) % 4294967296) ((b + d) % 4294967296) = newerB a b := by
  rw [newerB_eq, newerB_eq]
  have : ((a + d) % 4294967296 - (b + d) % 4294967296) % 4294967296 = (a - b) % 4294967296 := by omega
  rw [this]

set_option maxRecDepth 100000 in
set_option maxHeartbeats 1000000 in
theorem SerialNewer_walk (a b d : Int) (w : World) (ha : 0 ≤ a ∧ a ≤ 4294967295) (hb : 0 ≤ b ∧ b ≤ 4294967295) :
    Calls Try.prog 4 #[.int .u32 a, .int .u32 b, .int .u32 d] w fun e w' => e = .returned (.bool true) ∧ Same w w' := by
  have hself := newerB_self a
  have hshift := newerB_shift a b d
  by_cases h1 : a = b
  · subst h1
    have hap : ((a - a) % 4294967296 == 2147483648) = false := by simp
    clear ha hb
    go_enter Try.func4, Try.ntmps4
    go_wp2_with (first | (go_at_call 14; refine (newer_ok _ _ _).mono ?_; rintro e w' ⟨rfl, rfl⟩) | (go_at_call 15; refine (refNewer_ok _ _ _).mono ?_; rintro e w' ⟨rfl, rfl⟩) | (go_at_call 10; refine (example31_ok _).mono ?_; rintro e w1 ⟨rfl, hs⟩; have HS := Lib.hid hs; clear hs))
    go_ret
    exact ⟨rfl, HS.out⟩
  · have hab : (a == b) = false := by simpa using h1
    by_cases h2 : (a - b) % 4294967296 = 2147483648
    · have hap : ((a - b) % 4294967296 == 2147483648) = true := by simpa using h2
      obtain ⟨n1, n2⟩ := newerB_apart a b h2
      clear ha hb h1 h2
      rw [n1] at hshift
      go_enter Try.func4, Try.ntmps4
      go_wp2_with (first | (go_at_call 14; refine (newer_ok _ _ _).mono ?_; rintro e w' ⟨rfl, rfl⟩) | (go_at_call 15; refine (refNewer_ok _ _ _).mono ?_; rintro e w' ⟨rfl, rfl⟩) | (go_at_call 10; refine (example31_ok _).mono ?_; rintro e w1 ⟨rfl, hs⟩; have HS := Lib.hid hs; clear hs))
      go_ret
      exact ⟨rfl, HS.out⟩
    · have hap : ((a - b) % 4294967296 == 2147483648) = false := by simpa using h2
      have hsw := newerB_swap a b (by omega) h2
      clear ha hb h1 h2
      go_enter Try.func4, Try.ntmps4
      go_wp2_with (first | (go_at_call 14; refine (newer_ok _ _ _).mono ?_; rintro e w' ⟨rfl, rfl⟩) | (go_at_call 15; refine (refNewer_ok _ _ _).mono ?_; rintro e w' ⟨rfl, rfl⟩) | (go_at_call 10; refine (example31_ok _).mono ?_; rintro e w1 ⟨rfl, hs⟩; have HS := Lib.hid hs; clear hs))
      go_ret
      exact ⟨rfl, HS.out⟩
end Go.Proofs.Ytchodbcfncdmaaa
