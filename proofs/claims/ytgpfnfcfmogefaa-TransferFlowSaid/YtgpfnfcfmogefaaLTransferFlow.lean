/- The walk of TransferFlow: for all arguments it returns true and leaves what was there as it was. -/
import Derived.Test.YtgpfnfcfmogefaaEx41
set_option linter.unusedVariables false
set_option linter.unusedSimpArgs false
namespace Go.Proofs.Ytgpfnfcfmogefaa
open Go.RowKit

set_option maxRecDepth 100000 in
set_option maxHeartbeats 2000000 in
theorem flow_large (win n : Int) (A : Option Addr) (len cap : Nat) (w : World) (hl : 4000 < (len : Int)) (hcm : len ≤ 9223372036854775807) :
    Calls Try.prog 4 #[.int .i64 win, .int .i64 n, .slice A len cap] w fun e w' => e = .returned (.bool true) ∧ Same w w' := by
  go_enter Try.func4, Try.ntmps4
  go_wp2_with fail
  refine (example41_ok _).mono ?_
  rintro e w1 ⟨rfl, hs⟩
  have HS := Lib.hid hs
  clear hs
  go_wp2
  go_ret
  exact ⟨rfl, HS.out⟩
set_option maxRecDepth 100000 in
set_option maxHeartbeats 2000000 in
theorem flow_bad (win n : Int) (A : Option Addr) (len cap : Nat) (w : World) (hl : ¬ 4000 < (len : Int)) (h : win < 1 ∨ 65536 < win) :
    Calls Try.prog 4 #[.int .i64 win, .int .i64 n, .slice A len cap] w fun e w' => e = .returned (.bool true) ∧ Same w w' := by
  by_cases h0 : win < 1
  all_goals
    first
      | have h2 : ¬ 65536 < win := by omega
      | have h2 : 65536 < win := by omega
    have HN := Lib.hid (pnew_bad w win h)
    clear h
    go_enter Try.func4, Try.ntmps4
    go_wp2_with fail
    refine HN.out.mono ?_
    rintro e w' ⟨rfl, rfl⟩
    go_wp2_with (go_at_call 9; refine (example41_ok _).mono ?_; rintro e w1 ⟨rfl, hs⟩; have HS1 := Lib.hid hs; clear hs)
    go_ret
    exact ⟨rfl, HS1.out⟩

/-- What the three last grants come to. -/
structure FlowCr (win c m wc : Int) (ys : List Int) : Prop where
  e3 : (⟨win, c - m, ys, false, false⟩ : PSt).grE wc = 0
  q3 : (⟨win, c - m, ys, false, false⟩ : PSt).grant wc = ⟨win, win - m, ys, false, false⟩
  e4 : (⟨win, win - m, ys, false, false⟩ : PSt).grE 1 = 18
  q4 : (⟨win, win - m, ys, false, false⟩ : PSt).grant 1 = ⟨win, win - m, ys, false, false⟩
  e5 : (⟨win, win - m, ys, false, false⟩ : PSt).grE 0 = 0
  q5 : (⟨win, win - m, ys, false, false⟩ : PSt).grant 0 = ⟨win, win - m, ys, false, false⟩
theorem flow_cr (win c m wc : Int) (ys : List Int) (hwc : wc = win - c) (hl : (ys.length : Int) = m) (h0 : 0 ≤ m) (h1 : m ≤ c) (h2 : c ≤ win) (h3 : win ≤ 65536) : FlowCr win c m wc ys := by
  have e3 : (⟨win, c - m, ys, false, false⟩ : PSt).grE wc = 0 := by simp [PSt.grE, PSt.over]; omega
  have e4 : (⟨win, win - m, ys, false, false⟩ : PSt).grE 1 = 18 := by simp [PSt.grE, PSt.over]; omega
  have e5 : (⟨win, win - m, ys, false, false⟩ : PSt).grE 0 = 0 := by simp [PSt.grE, PSt.over]; omega
  refine ⟨e3, ?_, e4, ?_, e5, ?_⟩
  · unfold PSt.grant; rw [if_pos e3]; simp only [PSt.mk.injEq, and_true, true_and]; omega
  · unfold PSt.grant; rw [e4]; simp
  · unfold PSt.grant; rw [if_pos e5]; simp

set_option maxRecDepth 100000 in
set_option maxHeartbeats 4000000 in
theorem flow_okl (win n : Int) (A : Option Addr) (len cap : Nat) (xs : List Int) (w : World) (h : BytesAt w (fun _ => True) A len cap xs) (hl : ¬ 4000 < (len : Int)) (hw0 : 1 ≤ win) (hw1 : win ≤ 65536) (hnm : n ≤ 9223372036854775807) (hn : 0 ≤ n ∧ n ≤ win) (hle : (len : Int) ≤ n) :
    Calls Try.prog 4 #[.int .i64 win, .int .i64 n, .slice A len cap] w fun e w' => e = .returned (.bool true) ∧ Same w w' := by
  have HB := Lib.hid h
  have HL := Lib.hid h.1
  have hlc := h.2.1
  have hcm : cap ≤ 9223372036854775807 := by have := h.2.2.1; unfold maxLen at this; omega
  clear h
  obtain ⟨k, rfl⟩ : ∃ k : Nat, n = (k : Int) := ⟨n.toNat, by omega⟩
  have hn0 := hn.1
  have hn2 := hn.2
  clear hn
  have HE1 := Lib.hid (show (PSt.new win).grE ((k : Int)) = 0 by simp [PSt.grE, PSt.new, PSt.over] <;> omega)
  have HQ1 := Lib.hid (show (PSt.new win).grant ((k : Int)) = ⟨win, (k : Int), [], false, false⟩ by unfold PSt.grant; rw [HE1.out]; simp [PSt.new])
  have HN2 := Lib.hid (show ((⟨win, (k : Int), [], false, false⟩ : PSt).wrN xs.length : Int) = (len : Int) by unfold PSt.wrN; have h := HL.out; simp [PSt.over, h] <;> omega)
  have HX := Lib.hid (show ((⟨win, (k : Int), [], false, false⟩ : PSt).write xs) = ⟨win, (k : Int) - (len : Int), xs.take len, false, false⟩ by have h := HN2.out; unfold PSt.write; rw [h]; simp; try omega)
  have HXL : Hid (((xs.take len).length : Int) = (len : Int)) := Lib.hid (by have h := HL.out; first | (simp only [List.length_take, h]; done) | (simp only [List.length_take, h]; omega))
  go_enter Try.func4, Try.ntmps4
  go_wp2_with fail
  refine (pnew_v _ win hw0 hw1).mono ?_
  rintro e w1 ⟨b, R, rfl, hp, hc⟩
  have HP1 := Lib.hid hp
  have HC1 := Lib.hid hc
  clear hp hc
  go_wp2_with fail
  refine (pgrant_v _ (0) ((k : Int)) HP1.out (by omega) HE1.out HQ1.out).mono ?_
  rintro e w2 ⟨rfl, hp, hc⟩
  have HP2 := Lib.hid hp
  have HC2 := Lib.hid hc
  clear hp hc
  go_wp2_with fail
  refine (pwrite_v _ ((len : Int)) 0 A len cap xs HP2.out ((HB.out.chg HP2.out.same (fun _ _ q => q))) HN2.out (by rfl) HX.out).mono ?_
  rintro e w3 ⟨rfl, R3, hp, hR, hc⟩
  have HP3 := Lib.hid hp
  clear hp hR hc
  have HS3 := Lib.hid (flow_cr win ((k : Int)) ((len : Int)) (win - (k : Int)) _ (by omega) HXL.out (by omega) (by omega) (by omega) (by omega))
  go_wp2_with fail
  refine (pcredit_v ((k : Int) - len) HP3.out (by simp)).mono ?_
  rintro e w' ⟨rfl, rfl⟩
  go_wp2_with fail
  refine (pbuffered_v ((len : Int)) HP3.out HXL.out).mono ?_
  rintro e w' ⟨rfl, rfl⟩
  go_wp2_with fail
  refine (pgrant_v _ 0 (win - (k : Int)) HP3.out (by omega) HS3.out.e3 HS3.out.q3).mono ?_
  rintro e w4 ⟨rfl, hp, hc⟩
  have HP4 := Lib.hid hp
  clear hp hc
  go_wp2_with fail
  refine (pgrant_v _ 18 1 HP4.out (by omega) HS3.out.e4 HS3.out.q4).mono ?_
  rintro e w5 ⟨rfl, hp, hc⟩
  have HP5 := Lib.hid hp
  clear hp hc
  go_wp2_with fail
  refine (pgrant_v _ 0 0 HP5.out (by omega) HS3.out.e5 HS3.out.q5).mono ?_
  rintro e w6 ⟨rfl, hp, hc⟩
  have HP6 := Lib.hid hp
  clear hp hc
  go_wp2_with fail
  refine (example41_ok _).mono ?_
  rintro e w7 ⟨rfl, hs⟩
  have HS7 := Lib.hid hs
  clear hs
  go_wp2
  go_ret
  exact ⟨rfl, HP6.out.same.trans HS7.out⟩

set_option maxRecDepth 100000 in
set_option maxHeartbeats 4000000 in
theorem flow_okk (win n : Int) (A : Option Addr) (len cap : Nat) (xs : List Int) (w : World) (h : BytesAt w (fun _ => True) A len cap xs) (hl : ¬ 4000 < (len : Int)) (hw0 : 1 ≤ win) (hw1 : win ≤ 65536) (hnm : n ≤ 9223372036854775807) (hn : 0 ≤ n ∧ n ≤ win) (hle : n < (len : Int)) :
    Calls Try.prog 4 #[.int .i64 win, .int .i64 n, .slice A len cap] w fun e w' => e = .returned (.bool true) ∧ Same w w' := by
  have HB := Lib.hid h
  have HL := Lib.hid h.1
  have hlc := h.2.1
  have hcm : cap ≤ 9223372036854775807 := by have := h.2.2.1; unfold maxLen at this; omega
  clear h
  obtain ⟨k, rfl⟩ : ∃ k : Nat, n = (k : Int) := ⟨n.toNat, by omega⟩
  have hn0 := hn.1
  have hn2 := hn.2
  clear hn
  have HE1 := Lib.hid (show (PSt.new win).grE ((k : Int)) = 0 by simp [PSt.grE, PSt.new, PSt.over] <;> omega)
  have HQ1 := Lib.hid (show (PSt.new win).grant ((k : Int)) = ⟨win, (k : Int), [], false, false⟩ by unfold PSt.grant; rw [HE1.out]; simp [PSt.new])
  have HN2 := Lib.hid (show ((⟨win, (k : Int), [], false, false⟩ : PSt).wrN xs.length : Int) = (k : Int) by unfold PSt.wrN; have h := HL.out; simp [PSt.over, h] <;> omega)
  have HX := Lib.hid (show ((⟨win, (k : Int), [], false, false⟩ : PSt).write xs) = ⟨win, (k : Int) - (k : Int), xs.take k, false, false⟩ by have h := HN2.out; unfold PSt.write; rw [h]; simp; try omega)
  have HXL : Hid (((xs.take k).length : Int) = (k : Int)) := Lib.hid (by have h := HL.out; first | (simp only [List.length_take, h]; done) | (simp only [List.length_take, h]; omega))
  go_enter Try.func4, Try.ntmps4
  go_wp2_with fail
  refine (pnew_v _ win hw0 hw1).mono ?_
  rintro e w1 ⟨b, R, rfl, hp, hc⟩
  have HP1 := Lib.hid hp
  have HC1 := Lib.hid hc
  clear hp hc
  go_wp2_with fail
  refine (pgrant_v _ (0) ((k : Int)) HP1.out (by omega) HE1.out HQ1.out).mono ?_
  rintro e w2 ⟨rfl, hp, hc⟩
  have HP2 := Lib.hid hp
  have HC2 := Lib.hid hc
  clear hp hc
  go_wp2_with fail
  refine (pwrite_v _ ((k : Int)) 0 A len cap xs HP2.out ((HB.out.chg HP2.out.same (fun _ _ q => q))) HN2.out (by rfl) HX.out).mono ?_
  rintro e w3 ⟨rfl, R3, hp, hR, hc⟩
  have HP3 := Lib.hid hp
  clear hp hR hc
  have HS3 := Lib.hid (flow_cr win ((k : Int)) ((k : Int)) (win - (k : Int)) _ (by omega) HXL.out (by omega) (by omega) (by omega) (by omega))
  go_wp2_with fail
  refine (pcredit_v (0) HP3.out (by simp)).mono ?_
  rintro e w' ⟨rfl, rfl⟩
  go_wp2_with fail
  refine (pbuffered_v ((k : Int)) HP3.out HXL.out).mono ?_
  rintro e w' ⟨rfl, rfl⟩
  go_wp2_with fail
  refine (pgrant_v _ 0 (win - (k : Int)) HP3.out (by omega) HS3.out.e3 HS3.out.q3).mono ?_
  rintro e w4 ⟨rfl, hp, hc⟩
  have HP4 := Lib.hid hp
  clear hp hc
  go_wp2_with fail
  refine (pgrant_v _ 18 1 HP4.out (by omega) HS3.out.e4 HS3.out.q4).mono ?_
  rintro e w5 ⟨rfl, hp, hc⟩
  have HP5 := Lib.hid hp
  clear hp hc
  go_wp2_with fail
  refine (pgrant_v _ 0 0 HP5.out (by omega) HS3.out.e5 HS3.out.q5).mono ?_
  rintro e w6 ⟨rfl, hp, hc⟩
  have HP6 := Lib.hid hp
  clear hp hc
  go_wp2_with fail
  refine (example41_ok _).mono ?_
  rintro e w7 ⟨rfl, hs⟩
  have HS7 := Lib.hid hs
  clear hs
  go_wp2
  go_ret
  exact ⟨rfl, HP6.out.same.trans HS7.out⟩

set_option maxRecDepth 100000 in
set_option maxHeartbeats 4000000 in
theorem flow_neg0 (win n : Int) (A : Option Addr) (len cap : Nat) (xs : List Int) (w : World) (h : BytesAt w (fun _ => True) A len cap xs) (hl : ¬ 4000 < (len : Int)) (hw0 : 1 ≤ win) (hw1 : win ≤ 65536) (hnm : n ≤ 9223372036854775807) (hn : n < 0) (hle : len = 0) :
    Calls Try.prog 4 #[.int .i64 win, .int .i64 n, .slice A len cap] w fun e w' => e = .returned (.bool true) ∧ Same w w' := by
  have HB := Lib.hid h
  have HL := Lib.hid h.1
  have hlc := h.2.1
  have hcm : cap ≤ 9223372036854775807 := by have := h.2.2.1; unfold maxLen at this; omega
  clear h
  subst hle
  have HE1 := Lib.hid (show (PSt.new win).grE (n) = 6 by simp [PSt.grE, PSt.new, PSt.over] <;> omega)
  have HQ1 := Lib.hid (show (PSt.new win).grant (n) = ⟨win, (0 : Int), [], false, false⟩ by unfold PSt.grant; rw [HE1.out]; simp [PSt.new])
  have HN2 := Lib.hid (show ((⟨win, (0 : Int), [], false, false⟩ : PSt).wrN xs.length : Int) = (0 : Int) by unfold PSt.wrN; have h := HL.out; simp [PSt.over, h] <;> omega)
  have HX := Lib.hid (show ((⟨win, (0 : Int), [], false, false⟩ : PSt).write xs) = ⟨win, (0 : Int) - (0 : Int), xs.take 0, false, false⟩ by have h := HN2.out; unfold PSt.write; rw [h]; simp; try omega)
  have HXL : Hid (((xs.take 0).length : Int) = (0 : Int)) := Lib.hid (by have h := HL.out; first | (simp only [List.length_take, h]; done) | (simp only [List.length_take, h]; omega))
  go_enter Try.func4, Try.ntmps4
  go_wp2_with fail
  refine (pnew_v _ win hw0 hw1).mono ?_
  rintro e w1 ⟨b, R, rfl, hp, hc⟩
  have HP1 := Lib.hid hp
  have HC1 := Lib.hid hc
  clear hp hc
  go_wp2_with fail
  refine (pgrant_v _ (6) (n) HP1.out (by omega) HE1.out HQ1.out).mono ?_
  rintro e w2 ⟨rfl, hp, hc⟩
  have HP2 := Lib.hid hp
  have HC2 := Lib.hid hc
  clear hp hc
  go_wp2_with fail
  refine (pwrite_v _ ((0 : Int)) 0 A 0 cap xs HP2.out ((HB.out.chg HP2.out.same (fun _ _ q => q))) HN2.out (by rfl) HX.out).mono ?_
  rintro e w3 ⟨rfl, R3, hp, hR, hc⟩
  have HP3 := Lib.hid hp
  clear hp hR hc
  have HS3 := Lib.hid (flow_cr win ((0 : Int)) ((0 : Int)) (win) _ (by omega) HXL.out (by omega) (by omega) (by omega) (by omega))
  go_wp2_with fail
  refine (pcredit_v (0) HP3.out (by simp)).mono ?_
  rintro e w' ⟨rfl, rfl⟩
  go_wp2_with fail
  refine (pbuffered_v ((0 : Int)) HP3.out HXL.out).mono ?_
  rintro e w' ⟨rfl, rfl⟩
  go_wp2_with fail
  refine (pgrant_v _ 0 (win) HP3.out (by omega) HS3.out.e3 HS3.out.q3).mono ?_
  rintro e w4 ⟨rfl, hp, hc⟩
  have HP4 := Lib.hid hp
  clear hp hc
  go_wp2_with fail
  refine (pgrant_v _ 18 1 HP4.out (by omega) HS3.out.e4 HS3.out.q4).mono ?_
  rintro e w5 ⟨rfl, hp, hc⟩
  have HP5 := Lib.hid hp
  clear hp hc
  go_wp2_with fail
  refine (pgrant_v _ 0 0 HP5.out (by omega) HS3.out.e5 HS3.out.q5).mono ?_
  rintro e w6 ⟨rfl, hp, hc⟩
  have HP6 := Lib.hid hp
  clear hp hc
  go_wp2_with fail
  refine (example41_ok _).mono ?_
  rintro e w7 ⟨rfl, hs⟩
  have HS7 := Lib.hid hs
  clear hs
  go_wp2
  go_ret
  exact ⟨rfl, HP6.out.same.trans HS7.out⟩

set_option maxRecDepth 100000 in
set_option maxHeartbeats 4000000 in
theorem flow_neg1 (win n : Int) (A : Option Addr) (len cap : Nat) (xs : List Int) (w : World) (h : BytesAt w (fun _ => True) A len cap xs) (hl : ¬ 4000 < (len : Int)) (hw0 : 1 ≤ win) (hw1 : win ≤ 65536) (hnm : n ≤ 9223372036854775807) (hn : n < 0) (hle : 0 < len) :
    Calls Try.prog 4 #[.int .i64 win, .int .i64 n, .slice A len cap] w fun e w' => e = .returned (.bool true) ∧ Same w w' := by
  have HB := Lib.hid h
  have HL := Lib.hid h.1
  have hlc := h.2.1
  have hcm : cap ≤ 9223372036854775807 := by have := h.2.2.1; unfold maxLen at this; omega
  clear h
  have hle2 : ¬ (len : Int) ≤ 0 := by omega
  have HE1 := Lib.hid (show (PSt.new win).grE (n) = 6 by simp [PSt.grE, PSt.new, PSt.over] <;> omega)
  have HQ1 := Lib.hid (show (PSt.new win).grant (n) = ⟨win, (0 : Int), [], false, false⟩ by unfold PSt.grant; rw [HE1.out]; simp [PSt.new])
  have HN2 := Lib.hid (show ((⟨win, (0 : Int), [], false, false⟩ : PSt).wrN xs.length : Int) = (0 : Int) by unfold PSt.wrN; have h := HL.out; simp [PSt.over, h] <;> omega)
  have HX := Lib.hid (show ((⟨win, (0 : Int), [], false, false⟩ : PSt).write xs) = ⟨win, (0 : Int) - (0 : Int), xs.take 0, false, false⟩ by have h := HN2.out; unfold PSt.write; rw [h]; simp; try omega)
  have HXL : Hid (((xs.take 0).length : Int) = (0 : Int)) := Lib.hid (by have h := HL.out; first | (simp only [List.length_take, h]; done) | (simp only [List.length_take, h]; omega))
  go_enter Try.func4, Try.ntmps4
  go_wp2_with fail
  refine (pnew_v _ win hw0 hw1).mono ?_
  rintro e w1 ⟨b, R, rfl, hp, hc⟩
  have HP1 := Lib.hid hp
  have HC1 := Lib.hid hc
  clear hp hc
  go_wp2_with fail
  refine (pgrant_v _ (6) (n) HP1.out (by omega) HE1.out HQ1.out).mono ?_
  rintro e w2 ⟨rfl, hp, hc⟩
  have HP2 := Lib.hid hp
  have HC2 := Lib.hid hc
  clear hp hc
  go_wp2_with fail
  refine (pwrite_v _ ((0 : Int)) 0 A len cap xs HP2.out ((HB.out.chg HP2.out.same (fun _ _ q => q))) HN2.out (by rfl) HX.out).mono ?_
  rintro e w3 ⟨rfl, R3, hp, hR, hc⟩
  have HP3 := Lib.hid hp
  clear hp hR hc
  have HS3 := Lib.hid (flow_cr win ((0 : Int)) ((0 : Int)) (win) _ (by omega) HXL.out (by omega) (by omega) (by omega) (by omega))
  go_wp2_with fail
  refine (pcredit_v (0) HP3.out (by simp)).mono ?_
  rintro e w' ⟨rfl, rfl⟩
  go_wp2_with fail
  refine (pbuffered_v ((0 : Int)) HP3.out HXL.out).mono ?_
  rintro e w' ⟨rfl, rfl⟩
  go_wp2_with fail
  refine (pgrant_v _ 0 (win) HP3.out (by omega) HS3.out.e3 HS3.out.q3).mono ?_
  rintro e w4 ⟨rfl, hp, hc⟩
  have HP4 := Lib.hid hp
  clear hp hc
  go_wp2_with fail
  refine (pgrant_v _ 18 1 HP4.out (by omega) HS3.out.e4 HS3.out.q4).mono ?_
  rintro e w5 ⟨rfl, hp, hc⟩
  have HP5 := Lib.hid hp
  clear hp hc
  go_wp2_with fail
  refine (pgrant_v _ 0 0 HP5.out (by omega) HS3.out.e5 HS3.out.q5).mono ?_
  rintro e w6 ⟨rfl, hp, hc⟩
  have HP6 := Lib.hid hp
  clear hp hc
  go_wp2_with fail
  refine (example41_ok _).mono ?_
  rintro e w7 ⟨rfl, hs⟩
  have HS7 := Lib.hid hs
  clear hs
  go_wp2
  go_ret
  exact ⟨rfl, HP6.out.same.trans HS7.out⟩

set_option maxRecDepth 100000 in
set_option maxHeartbeats 4000000 in
theorem flow_flow0 (win n : Int) (A : Option Addr) (len cap : Nat) (xs : List Int) (w : World) (h : BytesAt w (fun _ => True) A len cap xs) (hl : ¬ 4000 < (len : Int)) (hw0 : 1 ≤ win) (hw1 : win ≤ 65536) (hnm : n ≤ 9223372036854775807) (hn : win < n) (hle : len = 0) :
    Calls Try.prog 4 #[.int .i64 win, .int .i64 n, .slice A len cap] w fun e w' => e = .returned (.bool true) ∧ Same w w' := by
  have HB := Lib.hid h
  have HL := Lib.hid h.1
  have hlc := h.2.1
  have hcm : cap ≤ 9223372036854775807 := by have := h.2.2.1; unfold maxLen at this; omega
  clear h
  subst hle
  have HE1 := Lib.hid (show (PSt.new win).grE (n) = 18 by simp [PSt.grE, PSt.new, PSt.over] <;> omega)
  have HQ1 := Lib.hid (show (PSt.new win).grant (n) = ⟨win, (0 : Int), [], false, false⟩ by unfold PSt.grant; rw [HE1.out]; simp [PSt.new])
  have HN2 := Lib.hid (show ((⟨win, (0 : Int), [], false, false⟩ : PSt).wrN xs.length : Int) = (0 : Int) by unfold PSt.wrN; have h := HL.out; simp [PSt.over, h] <;> omega)
  have HX := Lib.hid (show ((⟨win, (0 : Int), [], false, false⟩ : PSt).write xs) = ⟨win, (0 : Int) - (0 : Int), xs.take 0, false, false⟩ by have h := HN2.out; unfold PSt.write; rw [h]; simp; try omega)
  have HXL : Hid (((xs.take 0).length : Int) = (0 : Int)) := Lib.hid (by have h := HL.out; first | (simp only [List.length_take, h]; done) | (simp only [List.length_take, h]; omega))
  go_enter Try.func4, Try.ntmps4
  go_wp2_with fail
  refine (pnew_v _ win hw0 hw1).mono ?_
  rintro e w1 ⟨b, R, rfl, hp, hc⟩
  have HP1 := Lib.hid hp
  have HC1 := Lib.hid hc
  clear hp hc
  go_wp2_with fail
  refine (pgrant_v _ (18) (n) HP1.out (by omega) HE1.out HQ1.out).mono ?_
  rintro e w2 ⟨rfl, hp, hc⟩
  have HP2 := Lib.hid hp
  have HC2 := Lib.hid hc
  clear hp hc
  go_wp2_with fail
  refine (pwrite_v _ ((0 : Int)) 0 A 0 cap xs HP2.out ((HB.out.chg HP2.out.same (fun _ _ q => q))) HN2.out (by rfl) HX.out).mono ?_
  rintro e w3 ⟨rfl, R3, hp, hR, hc⟩
  have HP3 := Lib.hid hp
  clear hp hR hc
  have HS3 := Lib.hid (flow_cr win ((0 : Int)) ((0 : Int)) (win) _ (by omega) HXL.out (by omega) (by omega) (by omega) (by omega))
  go_wp2_with fail
  refine (pcredit_v (0) HP3.out (by simp)).mono ?_
  rintro e w' ⟨rfl, rfl⟩
  go_wp2_with fail
  refine (pbuffered_v ((0 : Int)) HP3.out HXL.out).mono ?_
  rintro e w' ⟨rfl, rfl⟩
  go_wp2_with fail
  refine (pgrant_v _ 0 (win) HP3.out (by omega) HS3.out.e3 HS3.out.q3).mono ?_
  rintro e w4 ⟨rfl, hp, hc⟩
  have HP4 := Lib.hid hp
  clear hp hc
  go_wp2_with fail
  refine (pgrant_v _ 18 1 HP4.out (by omega) HS3.out.e4 HS3.out.q4).mono ?_
  rintro e w5 ⟨rfl, hp, hc⟩
  have HP5 := Lib.hid hp
  clear hp hc
  go_wp2_with fail
  refine (pgrant_v _ 0 0 HP5.out (by omega) HS3.out.e5 HS3.out.q5).mono ?_
  rintro e w6 ⟨rfl, hp, hc⟩
  have HP6 := Lib.hid hp
  clear hp hc
  go_wp2_with fail
  refine (example41_ok _).mono ?_
  rintro e w7 ⟨rfl, hs⟩
  have HS7 := Lib.hid hs
  clear hs
  go_wp2
  go_ret
  exact ⟨rfl, HP6.out.same.trans HS7.out⟩

set_option maxRecDepth 100000 in
set_option maxHeartbeats 4000000 in
theorem flow_flow1 (win n : Int) (A : Option Addr) (len cap : Nat) (xs : List Int) (w : World) (h : BytesAt w (fun _ => True) A len cap xs) (hl : ¬ 4000 < (len : Int)) (hw0 : 1 ≤ win) (hw1 : win ≤ 65536) (hnm : n ≤ 9223372036854775807) (hn : win < n) (hle : 0 < len) :
    Calls Try.prog 4 #[.int .i64 win, .int .i64 n, .slice A len cap] w fun e w' => e = .returned (.bool true) ∧ Same w w' := by
  have HB := Lib.hid h
  have HL := Lib.hid h.1
  have hlc := h.2.1
  have hcm : cap ≤ 9223372036854775807 := by have := h.2.2.1; unfold maxLen at this; omega
  clear h
  have hle2 : ¬ (len : Int) ≤ 0 := by omega
  have HE1 := Lib.hid (show (PSt.new win).grE (n) = 18 by simp [PSt.grE, PSt.new, PSt.over] <;> omega)
  have HQ1 := Lib.hid (show (PSt.new win).grant (n) = ⟨win, (0 : Int), [], false, false⟩ by unfold PSt.grant; rw [HE1.out]; simp [PSt.new])
  have HN2 := Lib.hid (show ((⟨win, (0 : Int), [], false, false⟩ : PSt).wrN xs.length : Int) = (0 : Int) by unfold PSt.wrN; have h := HL.out; simp [PSt.over, h] <;> omega)
  have HX := Lib.hid (show ((⟨win, (0 : Int), [], false, false⟩ : PSt).write xs) = ⟨win, (0 : Int) - (0 : Int), xs.take 0, false, false⟩ by have h := HN2.out; unfold PSt.write; rw [h]; simp; try omega)
  have HXL : Hid (((xs.take 0).length : Int) = (0 : Int)) := Lib.hid (by have h := HL.out; first | (simp only [List.length_take, h]; done) | (simp only [List.length_take, h]; omega))
  go_enter Try.func4, Try.ntmps4
  go_wp2_with fail
  refine (pnew_v _ win hw0 hw1).mono ?_
  rintro e w1 ⟨b, R, rfl, hp, hc⟩
  have HP1 := Lib.hid hp
  have HC1 := Lib.hid hc
  clear hp hc
  go_wp2_with fail
  refine (pgrant_v _ (18) (n) HP1.out (by omega) HE1.out HQ1.out).mono ?_
  rintro e w2 ⟨rfl, hp, hc⟩
  have HP2 := Lib.hid hp
  have HC2 := Lib.hid hc
  clear hp hc
  go_wp2_with fail
  refine (pwrite_v _ ((0 : Int)) 0 A len cap xs HP2.out ((HB.out.chg HP2.out.same (fun _ _ q => q))) HN2.out (by rfl) HX.out).mono ?_
  rintro e w3 ⟨rfl, R3, hp, hR, hc⟩
  have HP3 := Lib.hid hp
  clear hp hR hc
  have HS3 := Lib.hid (flow_cr win ((0 : Int)) ((0 : Int)) (win) _ (by omega) HXL.out (by omega) (by omega) (by omega) (by omega))
  go_wp2_with fail
  refine (pcredit_v (0) HP3.out (by simp)).mono ?_
  rintro e w' ⟨rfl, rfl⟩
  go_wp2_with fail
  refine (pbuffered_v ((0 : Int)) HP3.out HXL.out).mono ?_
  rintro e w' ⟨rfl, rfl⟩
  go_wp2_with fail
  refine (pgrant_v _ 0 (win) HP3.out (by omega) HS3.out.e3 HS3.out.q3).mono ?_
  rintro e w4 ⟨rfl, hp, hc⟩
  have HP4 := Lib.hid hp
  clear hp hc
  go_wp2_with fail
  refine (pgrant_v _ 18 1 HP4.out (by omega) HS3.out.e4 HS3.out.q4).mono ?_
  rintro e w5 ⟨rfl, hp, hc⟩
  have HP5 := Lib.hid hp
  clear hp hc
  go_wp2_with fail
  refine (pgrant_v _ 0 0 HP5.out (by omega) HS3.out.e5 HS3.out.q5).mono ?_
  rintro e w6 ⟨rfl, hp, hc⟩
  have HP6 := Lib.hid hp
  clear hp hc
  go_wp2_with fail
  refine (example41_ok _).mono ?_
  rintro e w7 ⟨rfl, hs⟩
  have HS7 := Lib.hid hs
  clear hs
  go_wp2
  go_ret
  exact ⟨rfl, HP6.out.same.trans HS7.out⟩

theorem TransferFlow_walk (win n : Int) (A : Option Addr) (len cap : Nat) (xs : List Int) (w : World) (h : BytesAt w (fun _ => True) A len cap xs) (hn : n ≤ 9223372036854775807) :
    Calls Try.prog 4 #[.int .i64 win, .int .i64 n, .slice A len cap] w fun e w' => e = .returned (.bool true) ∧ Same w w' := by
  have hlc := h.2.1
  have hcm := h.2.2.1
  unfold maxLen at hcm
  by_cases hl : 4000 < (len : Int)
  · exact flow_large win n A len cap w hl (by omega)
  by_cases hw : win < 1 ∨ 65536 < win
  · exact flow_bad win n A len cap w hl hw
  by_cases h0 : n < 0
  · rcases Nat.eq_zero_or_pos len with e | e
    · exact flow_neg0 win n A len cap xs w h hl (by omega) (by omega) hn h0 e
    · exact flow_neg1 win n A len cap xs w h hl (by omega) (by omega) hn h0 e
  by_cases h1 : win < n
  · rcases Nat.eq_zero_or_pos len with e | e
    · exact flow_flow0 win n A len cap xs w h hl (by omega) (by omega) hn h1 e
    · exact flow_flow1 win n A len cap xs w h hl (by omega) (by omega) hn h1 e
  by_cases h2 : (len : Int) ≤ n
  · exact flow_okl win n A len cap xs w h hl (by omega) (by omega) hn ⟨by omega, by omega⟩ h2
  · exact flow_okk win n A len cap xs w h hl (by omega) (by omega) hn ⟨by omega, by omega⟩ (by omega)
end Go.Proofs.Ytgpfnfcfmogefaa
