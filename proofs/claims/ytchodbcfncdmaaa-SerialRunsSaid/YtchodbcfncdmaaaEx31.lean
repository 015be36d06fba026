/- exampleHolds of compositorlaw31: it returns true and leaves what was there as it was. -/
import Derived.Test.YtchodbcfncdmaaaSerY
set_option linter.unusedVariables false
set_option linter.unusedSimpArgs false
namespace Go.Proofs.Ytchodbcfncdmaaa
open Go.RowKit

def exLog : Nat → SLog
  | 0 => SLog.new.issue 1 5 4
  | n + 1 => (exLog n).issue 2 0 0
theorem ex_n : SLog.new.issueN 1 5 4 = 1 := by decide +kernel
theorem ex_a : (exLog 0).check 1 1 16 = 0 := by decide +kernel
theorem ex_b : (exLog 0).check 1 2 16 = 13 := by decide +kernel
theorem ex_c : (exLog 0).check 1 1 512 = 13 := by decide +kernel
theorem ex_d : (exLog 256).check 1 1 16 = 13 := by decide +kernel
theorem ex_f : (exLog 256).find 2 = ⟨2, 2, 0, 0⟩ := by decide +kernel
theorem ex_g : newerB 1 4294967295 = true := by decide +kernel
theorem ex_h : newerB 0 2147483648 = false := by decide +kernel

def ExRel (w : World) (v : Value) (wr : World) : Prop :=
  ∃ i : Nat, i ≤ 256 ∧ v = .int .i64 i ∧ LogAt wr w.heap.size (exLog i) ∧ Same w wr

theorem Chg.new_at {w w1 w2 : World} {b : Nat} (h : Same w w1) (hb : w.heap.size ≤ b) (k : Chg (fun x => x = b) w1 w2) : Same w w2 :=
  h.then_ k (fun i hi q => by omega)

set_option maxRecDepth 100000 in
set_option maxHeartbeats 1000000 in
theorem example31_ok (w : World) : Calls Try.prog 10 #[] w fun e w' => e = .returned (.bool true) ∧ Same w w' := by
  go_enter Try.func10, Try.ntmps10
  go_wp2_with fail
  refine (new_ok _).mono ?_
  rintro e w1 ⟨rfl, hL1, hs1, hlt1⟩
  go_wp2_with fail
  refine (issue_ok _ _ _ 1 5 4 hL1 (by omega) (by omega)).mono ?_
  rintro e w2 ⟨rfl, hL2, hs2⟩
  rw [ex_n]
  have hL2' : LogAt w2 w.heap.size (exLog 0) := hL2
  have HS2 := Lib.hid (hs1.new_at (Nat.le_refl _) hs2)
  clear hL1 hL2 hs1 hs2
  go_wp2_with fail
  refine (check_ok _ _ 1 1 16 _ hL2').mono ?_
  rintro e w3 ⟨rfl, hs3⟩
  rw [ex_a]
  have hL3 := hL2'.chg hs3 (fun q => q)
  have HS3 := Lib.hid (HS2.out.trans hs3)
  clear hL2' HS2 hs3
  go_wp2_with fail
  refine (check_ok _ _ 1 2 16 _ hL3).mono ?_
  rintro e w4 ⟨rfl, hs4⟩
  rw [ex_b]
  have hL4 := hL3.chg hs4 (fun q => q)
  have HS4 := Lib.hid (HS3.out.trans hs4)
  clear hL3 HS3 hs4
  go_wp2_with fail
  refine (check_ok _ _ 1 1 512 _ hL4).mono ?_
  rintro e w5 ⟨rfl, hs5⟩
  rw [ex_c]
  have hL5 := hL4.chg hs5 (fun q => q)
  have HS5 := Lib.hid (HS4.out.trans hs5)
  clear hL4 HS4 hs5
  have HL5 := Lib.hid hL5
  clear hL5
  go_wp2_with fail
  go_loopw [6] (fun v wr => ExRel w v wr) (fun v _ => 256 - (intOf v).toNat)
  case atStart => exact ⟨0, by omega, rfl, HL5.out, HS5.out⟩
  case round =>
    obtain ⟨i, hi, rfl, hL, hs⟩ := hrel
    by_cases hlt2 : i < 256
    · have hb2 : (i : Int) < 256 := by omega
      have HS := Lib.hid hs
      have HL := Lib.hid hL
      clear hs hL
      go_wp2_with (go_at_call 12; refine (issue_ok _ _ _ 2 0 0 HL.out (by omega) (by omega)).mono ?_; rintro e w6 ⟨rfl, hL6, hs6⟩; have HL6 := Lib.hid hL6; have HS6 := Lib.hid (HS.out.new_at (Nat.le_refl _) hs6); clear hL6 hs6)
      go_roundw
      case rel => exact ⟨i + 1, by omega, by go_num, HL6.out, HS6.out⟩
      case measure => simp [intOf]; omega
    · have hb2 : ¬ (i : Int) < 256 := by omega
      have hi' : i = 256 := by omega
      have HS := Lib.hid hs
      have HL : Hid (LogAt wr w.heap.size (exLog 256)) := by rw [← hi']; exact hL
      clear hs hL hi' HL5 HS5
      go_wp2_with fail
      refine (find_ok _ _ 2 _ HL.out).mono ?_
      rintro e w6 ⟨rfl, hs6⟩
      rw [ex_f]
      simp only [entRes]
      have HL6 := Lib.hid (HL.out.chg hs6 (fun q => q))
      have HS6 := Lib.hid (HS.out.trans hs6)
      clear HL HS hs6
      go_wp2_with fail
      refine (check_ok _ _ 1 1 16 _ (HL6.out.chg ((Chg.refl (fun _ => False) _).alloc _) (fun q => q))).mono ?_
      rintro e w7 ⟨rfl, hs7⟩
      rw [ex_d]
      have cx := hs7.cell (b := w6.heap.size) (o := 1) (x := .int .i64 2) (by simp) (fun q => q)
      have HS7 := Lib.hid ((HS6.out.alloc _).trans hs7)
      clear HL6 HS6 hs7
      go_wp2_with fail
      refine (newer_ok 1 4294967295 _).mono ?_
      rintro e w8 ⟨rfl, rfl⟩
      rw [ex_g]
      go_wp2_with fail
      refine (newer_ok 0 2147483648 _).mono ?_
      rintro e w8 ⟨rfl, rfl⟩
      rw [ex_h]
      go_wp2
      go_ret
      exact ⟨rfl, HS7.out⟩
end Go.Proofs.Ytchodbcfncdmaaa
