/- The walk of TransferCancel: for all arguments it returns true and leaves what was there as it was. -/
import Derived.Test.YtgpfnfcfmogefaaEx41
set_option linter.unusedVariables false
set_option linter.unusedSimpArgs false
namespace Go.Proofs.Ytgpfnfcfmogefaa
open Go.RowKit

set_option maxRecDepth 100000 in
set_option maxHeartbeats 2000000 in
theorem cancel_large (n : Int) (cl : Bool) (A : Option Addr) (len cap : Nat) (w : World) (hl : 1000 < (len : Int)) (hcm : len ≤ 9223372036854775807) :
    Calls Try.prog 7 #[.slice A len cap, .bool cl, .int .i64 n] w fun e w' => e = .returned (.bool true) ∧ Same w w' := by
  go_enter Try.func7, Try.ntmps7
  go_wp2_with fail
  refine (example41_ok _).mono ?_
  rintro e w1 ⟨rfl, hs⟩
  have HS := Lib.hid hs
  clear hs
  go_wp2
  go_ret
  exact ⟨rfl, HS.out⟩
theorem cancel_wr (xs : List Int) (len : Nat) (hl : xs.length = len) (h : len ≤ 1000) : ((⟨2000, 1500, [], false, false⟩ : PSt).wrN xs.length : Int) = len ∧ (⟨2000, 1500, [], false, false⟩ : PSt).write xs = ⟨2000, 1500 - len, xs, false, false⟩ := by
  have e : (⟨2000, 1500, [], false, false⟩ : PSt).wrN xs.length = len := by unfold PSt.wrN; simp [PSt.over]; omega
  refine ⟨by rw [e], ?_⟩
  unfold PSt.write
  rw [e, List.take_of_length_le (by omega)]
  simp

set_option maxRecDepth 100000 in
set_option maxHeartbeats 4000000 in
theorem cancel_opy (n : Int) (A : Option Addr) (len cap : Nat) (xs : List Int) (w : World) (h : BytesAt w (fun _ => True) A len cap xs) (hl : len ≤ 1000) (hz : 0 < len) (hn : 0 ≤ n) (hnm : n ≤ 9223372036854775807) :
    Calls Try.prog 7 #[.slice A len cap, .bool false, .int .i64 n] w fun e w' => e = .returned (.bool true) ∧ Same w w' := by
  have HB := Lib.hid h
  have hxl := h.1
  have hlc := h.2.1
  have hcm : cap ≤ 9223372036854775807 := by have := h.2.2.1; unfold maxLen at this; omega
  clear h
  have HW := Lib.hid (cancel_wr xs len hxl hl)
  have hz1 : ((len : Int) == 0) = false := by rw [beq_eq_false_iff_ne]; omega
  have HXE := Lib.hid (show xs.isEmpty = false by cases xs; · simp at hxl; omega
                                                  · rfl)
  have HXL := Lib.hid hxl
  clear hxl
  go_enter Try.func7, Try.ntmps7
  go_wp2_with fail
  refine (pnew_v _ 2000 (by omega) (by omega)).mono ?_
  rintro e w1 ⟨b, R, rfl, hp, hc⟩
  have HP1 := Lib.hid hp
  clear hp hc
  go_wp2_with fail
  refine (pgrant_v ⟨2000, 1500, [], false, false⟩ 0 1500 HP1.out (by omega) (by rfl) (by rfl)).mono ?_
  rintro e w2 ⟨rfl, hp, hc⟩
  have HP2 := Lib.hid hp
  clear hp hc
  go_wp2_with fail
  refine (pwrite_v _ (len : Nat) 0 A len cap xs HP2.out ((HB.out.chg HP2.out.same (fun _ _ q => q))) HW.out.1 (by rfl) HW.out.2).mono ?_
  rintro e w3 ⟨rfl, R3, hp, hR, hc⟩
  have HP3 := Lib.hid hp
  clear hp hR hc
  go_wp2_with fail
  refine (pcancel_v ⟨2000, 0, [], false, true⟩ 0 HP3.out (by rfl) (by rfl)).mono ?_
  rintro e w5 ⟨rfl, hp, hc⟩
  have HP5 := Lib.hid hp
  clear hp hc
  go_wp2_with fail
  refine (pcredit_v 0 HP5.out (by rfl)).mono ?_
  rintro e w' ⟨rfl, rfl⟩
  go_wp2_with fail
  refine (pbuffered_v 0 HP5.out (by rfl)).mono ?_
  rintro e w' ⟨rfl, rfl⟩
  go_wp2_with fail
  refine (pdone_v false HP5.out (by rfl)).mono ?_
  rintro e w' ⟨rfl, rfl⟩
  go_wp2_with fail
  refine (pwrite_v ⟨2000, 0, [], false, true⟩ 0 20 A len cap xs HP5.out ((HB.out.chg HP5.out.same (fun _ _ q => q))) (by rfl) (by rfl) (by rfl)).mono ?_
  rintro e w6 ⟨rfl, R6, hp, hR, hc⟩
  have HP6 := Lib.hid hp
  clear hp hR hc
  have HR0 := Lib.hid (show (⟨2000, 0, [], false, true⟩ : PSt).rdE n = 20 by unfold PSt.rdE; simp; omega)
  have HR1 := Lib.hid (show (⟨2000, 0, [], false, true⟩ : PSt).grE n = 20 by unfold PSt.grE PSt.over; simp; omega)
  have HR2 := Lib.hid (show (⟨2000, 0, [], false, true⟩ : PSt).grant n = ⟨2000, 0, [], false, true⟩ by unfold PSt.grant; rw [HR1.out]; simp)
  go_wp2_with fail
  refine (pread_v ⟨2000, 0, [], false, true⟩ [] 20 n HP6.out (by unfold PSt.rd; simp) HR0.out (by unfold PSt.read; simp)).mono ?_
  rintro e w7 ⟨A7, c7, rfl, hb, hp, hc⟩
  have HP7 := Lib.hid hp
  clear hb hp hc
  go_wp2_with fail
  refine (pgrant_v ⟨2000, 0, [], false, true⟩ 20 n HP7.out hnm HR1.out HR2.out).mono ?_
  rintro e w8 ⟨rfl, hp, hc⟩
  have HP8 := Lib.hid hp
  clear hp hc
  go_wp2_with fail
  refine (pclose_v ⟨2000, 0, [], false, true⟩ 20 HP8.out (by rfl) (by rfl)).mono ?_
  rintro e w9 ⟨rfl, hp, hc⟩
  have HP9 := Lib.hid hp
  clear hp hc
  go_wp2_with fail
  refine (pcancel_v ⟨2000, 0, [], false, true⟩ 20 HP9.out (by rfl) (by rfl)).mono ?_
  rintro e w10 ⟨rfl, hp, hc⟩
  have HP10 := Lib.hid hp
  clear hp hc
  go_wp2_with fail
  refine (example41_ok _).mono ?_
  rintro e w11 ⟨rfl, hs⟩
  have HS := Lib.hid hs
  clear hs
  go_wp2
  go_ret
  exact ⟨rfl, HP10.out.same.trans HS.out⟩

set_option maxRecDepth 100000 in
set_option maxHeartbeats 4000000 in
theorem cancel_opn (n : Int) (A : Option Addr) (len cap : Nat) (xs : List Int) (w : World) (h : BytesAt w (fun _ => True) A len cap xs) (hl : len ≤ 1000) (hz : 0 < len) (hn : n < 0) (hnm : n ≤ 9223372036854775807) :
    Calls Try.prog 7 #[.slice A len cap, .bool false, .int .i64 n] w fun e w' => e = .returned (.bool true) ∧ Same w w' := by
  have HB := Lib.hid h
  have hxl := h.1
  have hlc := h.2.1
  have hcm : cap ≤ 9223372036854775807 := by have := h.2.2.1; unfold maxLen at this; omega
  clear h
  have HW := Lib.hid (cancel_wr xs len hxl hl)
  have hz1 : ((len : Int) == 0) = false := by rw [beq_eq_false_iff_ne]; omega
  have HXE := Lib.hid (show xs.isEmpty = false by cases xs; · simp at hxl; omega
                                                  · rfl)
  have HXL := Lib.hid hxl
  clear hxl
  go_enter Try.func7, Try.ntmps7
  go_wp2_with fail
  refine (pnew_v _ 2000 (by omega) (by omega)).mono ?_
  rintro e w1 ⟨b, R, rfl, hp, hc⟩
  have HP1 := Lib.hid hp
  clear hp hc
  go_wp2_with fail
  refine (pgrant_v ⟨2000, 1500, [], false, false⟩ 0 1500 HP1.out (by omega) (by rfl) (by rfl)).mono ?_
  rintro e w2 ⟨rfl, hp, hc⟩
  have HP2 := Lib.hid hp
  clear hp hc
  go_wp2_with fail
  refine (pwrite_v _ (len : Nat) 0 A len cap xs HP2.out ((HB.out.chg HP2.out.same (fun _ _ q => q))) HW.out.1 (by rfl) HW.out.2).mono ?_
  rintro e w3 ⟨rfl, R3, hp, hR, hc⟩
  have HP3 := Lib.hid hp
  clear hp hR hc
  go_wp2_with fail
  refine (pcancel_v ⟨2000, 0, [], false, true⟩ 0 HP3.out (by rfl) (by rfl)).mono ?_
  rintro e w5 ⟨rfl, hp, hc⟩
  have HP5 := Lib.hid hp
  clear hp hc
  go_wp2_with fail
  refine (pcredit_v 0 HP5.out (by rfl)).mono ?_
  rintro e w' ⟨rfl, rfl⟩
  go_wp2_with fail
  refine (pbuffered_v 0 HP5.out (by rfl)).mono ?_
  rintro e w' ⟨rfl, rfl⟩
  go_wp2_with fail
  refine (pdone_v false HP5.out (by rfl)).mono ?_
  rintro e w' ⟨rfl, rfl⟩
  go_wp2_with fail
  refine (pwrite_v ⟨2000, 0, [], false, true⟩ 0 20 A len cap xs HP5.out ((HB.out.chg HP5.out.same (fun _ _ q => q))) (by rfl) (by rfl) (by rfl)).mono ?_
  rintro e w6 ⟨rfl, R6, hp, hR, hc⟩
  have HP6 := Lib.hid hp
  clear hp hR hc
  have HR0 := Lib.hid (show (⟨2000, 0, [], false, true⟩ : PSt).rdE n = 6 by unfold PSt.rdE; simp; omega)
  have HR1 := Lib.hid (show (⟨2000, 0, [], false, true⟩ : PSt).grE n = 6 by unfold PSt.grE PSt.over; simp; omega)
  have HR2 := Lib.hid (show (⟨2000, 0, [], false, true⟩ : PSt).grant n = ⟨2000, 0, [], false, true⟩ by unfold PSt.grant; rw [HR1.out]; simp)
  go_wp2_with fail
  refine (pread_v ⟨2000, 0, [], false, true⟩ [] 6 n HP6.out (by unfold PSt.rd; simp) HR0.out (by unfold PSt.read; simp)).mono ?_
  rintro e w7 ⟨A7, c7, rfl, hb, hp, hc⟩
  have HP7 := Lib.hid hp
  clear hb hp hc
  go_wp2_with fail
  refine (pgrant_v ⟨2000, 0, [], false, true⟩ 6 n HP7.out hnm HR1.out HR2.out).mono ?_
  rintro e w8 ⟨rfl, hp, hc⟩
  have HP8 := Lib.hid hp
  clear hp hc
  go_wp2_with fail
  refine (pclose_v ⟨2000, 0, [], false, true⟩ 20 HP8.out (by rfl) (by rfl)).mono ?_
  rintro e w9 ⟨rfl, hp, hc⟩
  have HP9 := Lib.hid hp
  clear hp hc
  go_wp2_with fail
  refine (pcancel_v ⟨2000, 0, [], false, true⟩ 20 HP9.out (by rfl) (by rfl)).mono ?_
  rintro e w10 ⟨rfl, hp, hc⟩
  have HP10 := Lib.hid hp
  clear hp hc
  go_wp2_with fail
  refine (example41_ok _).mono ?_
  rintro e w11 ⟨rfl, hs⟩
  have HS := Lib.hid hs
  clear hs
  go_wp2
  go_ret
  exact ⟨rfl, HP10.out.same.trans HS.out⟩

set_option maxRecDepth 100000 in
set_option maxHeartbeats 4000000 in
theorem cancel_ozy (n : Int) (A : Option Addr) (len cap : Nat) (xs : List Int) (w : World) (h : BytesAt w (fun _ => True) A len cap xs) (hl : len ≤ 1000) (hz : len = 0) (hn : 0 ≤ n) (hnm : n ≤ 9223372036854775807) :
    Calls Try.prog 7 #[.slice A len cap, .bool false, .int .i64 n] w fun e w' => e = .returned (.bool true) ∧ Same w w' := by
  have HB := Lib.hid h
  have hxl := h.1
  have hlc := h.2.1
  have hcm : cap ≤ 9223372036854775807 := by have := h.2.2.1; unfold maxLen at this; omega
  clear h
  have HW := Lib.hid (cancel_wr xs len hxl hl)
  subst hz
  obtain rfl : xs = [] := List.length_eq_zero_iff.1 hxl
  clear hxl
  go_enter Try.func7, Try.ntmps7
  go_wp2_with fail
  refine (pnew_v _ 2000 (by omega) (by omega)).mono ?_
  rintro e w1 ⟨b, R, rfl, hp, hc⟩
  have HP1 := Lib.hid hp
  clear hp hc
  go_wp2_with fail
  refine (pgrant_v ⟨2000, 1500, [], false, false⟩ 0 1500 HP1.out (by omega) (by rfl) (by rfl)).mono ?_
  rintro e w2 ⟨rfl, hp, hc⟩
  have HP2 := Lib.hid hp
  clear hp hc
  go_wp2_with fail
  refine (pwrite_v _ (0 : Nat) 0 A 0 cap [] HP2.out ((HB.out.chg HP2.out.same (fun _ _ q => q))) HW.out.1 (by rfl) HW.out.2).mono ?_
  rintro e w3 ⟨rfl, R3, hp, hR, hc⟩
  have HP3 := Lib.hid hp
  clear hp hR hc
  go_wp2_with fail
  refine (pcancel_v ⟨2000, 0, [], false, true⟩ 0 HP3.out (by rfl) (by rfl)).mono ?_
  rintro e w5 ⟨rfl, hp, hc⟩
  have HP5 := Lib.hid hp
  clear hp hc
  go_wp2_with fail
  refine (pcredit_v 0 HP5.out (by rfl)).mono ?_
  rintro e w' ⟨rfl, rfl⟩
  go_wp2_with fail
  refine (pbuffered_v 0 HP5.out (by rfl)).mono ?_
  rintro e w' ⟨rfl, rfl⟩
  go_wp2_with fail
  refine (pdone_v false HP5.out (by rfl)).mono ?_
  rintro e w' ⟨rfl, rfl⟩
  go_wp2_with fail
  refine (pwrite_v ⟨2000, 0, [], false, true⟩ 0 20 A 0 cap [] HP5.out ((HB.out.chg HP5.out.same (fun _ _ q => q))) (by rfl) (by rfl) (by rfl)).mono ?_
  rintro e w6 ⟨rfl, R6, hp, hR, hc⟩
  have HP6 := Lib.hid hp
  clear hp hR hc
  have HR0 := Lib.hid (show (⟨2000, 0, [], false, true⟩ : PSt).rdE n = 20 by unfold PSt.rdE; simp; omega)
  have HR1 := Lib.hid (show (⟨2000, 0, [], false, true⟩ : PSt).grE n = 20 by unfold PSt.grE PSt.over; simp; omega)
  have HR2 := Lib.hid (show (⟨2000, 0, [], false, true⟩ : PSt).grant n = ⟨2000, 0, [], false, true⟩ by unfold PSt.grant; rw [HR1.out]; simp)
  go_wp2_with fail
  refine (pread_v ⟨2000, 0, [], false, true⟩ [] 20 n HP6.out (by unfold PSt.rd; simp) HR0.out (by unfold PSt.read; simp)).mono ?_
  rintro e w7 ⟨A7, c7, rfl, hb, hp, hc⟩
  have HP7 := Lib.hid hp
  clear hb hp hc
  go_wp2_with fail
  refine (pgrant_v ⟨2000, 0, [], false, true⟩ 20 n HP7.out hnm HR1.out HR2.out).mono ?_
  rintro e w8 ⟨rfl, hp, hc⟩
  have HP8 := Lib.hid hp
  clear hp hc
  go_wp2_with fail
  refine (pclose_v ⟨2000, 0, [], false, true⟩ 20 HP8.out (by rfl) (by rfl)).mono ?_
  rintro e w9 ⟨rfl, hp, hc⟩
  have HP9 := Lib.hid hp
  clear hp hc
  go_wp2_with fail
  refine (pcancel_v ⟨2000, 0, [], false, true⟩ 20 HP9.out (by rfl) (by rfl)).mono ?_
  rintro e w10 ⟨rfl, hp, hc⟩
  have HP10 := Lib.hid hp
  clear hp hc
  go_wp2_with fail
  refine (example41_ok _).mono ?_
  rintro e w11 ⟨rfl, hs⟩
  have HS := Lib.hid hs
  clear hs
  go_wp2
  go_ret
  exact ⟨rfl, HP10.out.same.trans HS.out⟩

set_option maxRecDepth 100000 in
set_option maxHeartbeats 4000000 in
theorem cancel_ozn (n : Int) (A : Option Addr) (len cap : Nat) (xs : List Int) (w : World) (h : BytesAt w (fun _ => True) A len cap xs) (hl : len ≤ 1000) (hz : len = 0) (hn : n < 0) (hnm : n ≤ 9223372036854775807) :
    Calls Try.prog 7 #[.slice A len cap, .bool false, .int .i64 n] w fun e w' => e = .returned (.bool true) ∧ Same w w' := by
  have HB := Lib.hid h
  have hxl := h.1
  have hlc := h.2.1
  have hcm : cap ≤ 9223372036854775807 := by have := h.2.2.1; unfold maxLen at this; omega
  clear h
  have HW := Lib.hid (cancel_wr xs len hxl hl)
  subst hz
  obtain rfl : xs = [] := List.length_eq_zero_iff.1 hxl
  clear hxl
  go_enter Try.func7, Try.ntmps7
  go_wp2_with fail
  refine (pnew_v _ 2000 (by omega) (by omega)).mono ?_
  rintro e w1 ⟨b, R, rfl, hp, hc⟩
  have HP1 := Lib.hid hp
  clear hp hc
  go_wp2_with fail
  refine (pgrant_v ⟨2000, 1500, [], false, false⟩ 0 1500 HP1.out (by omega) (by rfl) (by rfl)).mono ?_
  rintro e w2 ⟨rfl, hp, hc⟩
  have HP2 := Lib.hid hp
  clear hp hc
  go_wp2_with fail
  refine (pwrite_v _ (0 : Nat) 0 A 0 cap [] HP2.out ((HB.out.chg HP2.out.same (fun _ _ q => q))) HW.out.1 (by rfl) HW.out.2).mono ?_
  rintro e w3 ⟨rfl, R3, hp, hR, hc⟩
  have HP3 := Lib.hid hp
  clear hp hR hc
  go_wp2_with fail
  refine (pcancel_v ⟨2000, 0, [], false, true⟩ 0 HP3.out (by rfl) (by rfl)).mono ?_
  rintro e w5 ⟨rfl, hp, hc⟩
  have HP5 := Lib.hid hp
  clear hp hc
  go_wp2_with fail
  refine (pcredit_v 0 HP5.out (by rfl)).mono ?_
  rintro e w' ⟨rfl, rfl⟩
  go_wp2_with fail
  refine (pbuffered_v 0 HP5.out (by rfl)).mono ?_
  rintro e w' ⟨rfl, rfl⟩
  go_wp2_with fail
  refine (pdone_v false HP5.out (by rfl)).mono ?_
  rintro e w' ⟨rfl, rfl⟩
  go_wp2_with fail
  refine (pwrite_v ⟨2000, 0, [], false, true⟩ 0 20 A 0 cap [] HP5.out ((HB.out.chg HP5.out.same (fun _ _ q => q))) (by rfl) (by rfl) (by rfl)).mono ?_
  rintro e w6 ⟨rfl, R6, hp, hR, hc⟩
  have HP6 := Lib.hid hp
  clear hp hR hc
  have HR0 := Lib.hid (show (⟨2000, 0, [], false, true⟩ : PSt).rdE n = 6 by unfold PSt.rdE; simp; omega)
  have HR1 := Lib.hid (show (⟨2000, 0, [], false, true⟩ : PSt).grE n = 6 by unfold PSt.grE PSt.over; simp; omega)
  have HR2 := Lib.hid (show (⟨2000, 0, [], false, true⟩ : PSt).grant n = ⟨2000, 0, [], false, true⟩ by unfold PSt.grant; rw [HR1.out]; simp)
  go_wp2_with fail
  refine (pread_v ⟨2000, 0, [], false, true⟩ [] 6 n HP6.out (by unfold PSt.rd; simp) HR0.out (by unfold PSt.read; simp)).mono ?_
  rintro e w7 ⟨A7, c7, rfl, hb, hp, hc⟩
  have HP7 := Lib.hid hp
  clear hb hp hc
  go_wp2_with fail
  refine (pgrant_v ⟨2000, 0, [], false, true⟩ 6 n HP7.out hnm HR1.out HR2.out).mono ?_
  rintro e w8 ⟨rfl, hp, hc⟩
  have HP8 := Lib.hid hp
  clear hp hc
  go_wp2_with fail
  refine (pclose_v ⟨2000, 0, [], false, true⟩ 20 HP8.out (by rfl) (by rfl)).mono ?_
  rintro e w9 ⟨rfl, hp, hc⟩
  have HP9 := Lib.hid hp
  clear hp hc
  go_wp2_with fail
  refine (pcancel_v ⟨2000, 0, [], false, true⟩ 20 HP9.out (by rfl) (by rfl)).mono ?_
  rintro e w10 ⟨rfl, hp, hc⟩
  have HP10 := Lib.hid hp
  clear hp hc
  go_wp2_with fail
  refine (example41_ok _).mono ?_
  rintro e w11 ⟨rfl, hs⟩
  have HS := Lib.hid hs
  clear hs
  go_wp2
  go_ret
  exact ⟨rfl, HP10.out.same.trans HS.out⟩

set_option maxRecDepth 100000 in
set_option maxHeartbeats 4000000 in
theorem cancel_cpy (n : Int) (A : Option Addr) (len cap : Nat) (xs : List Int) (w : World) (h : BytesAt w (fun _ => True) A len cap xs) (hl : len ≤ 1000) (hz : 0 < len) (hn : 0 ≤ n) (hnm : n ≤ 9223372036854775807) :
    Calls Try.prog 7 #[.slice A len cap, .bool true, .int .i64 n] w fun e w' => e = .returned (.bool true) ∧ Same w w' := by
  have HB := Lib.hid h
  have hxl := h.1
  have hlc := h.2.1
  have hcm : cap ≤ 9223372036854775807 := by have := h.2.2.1; unfold maxLen at this; omega
  clear h
  have HW := Lib.hid (cancel_wr xs len hxl hl)
  have hz1 : ((len : Int) == 0) = false := by rw [beq_eq_false_iff_ne]; omega
  have HXE := Lib.hid (show xs.isEmpty = false by cases xs; · simp at hxl; omega
                                                  · rfl)
  have HXL := Lib.hid hxl
  clear hxl
  go_enter Try.func7, Try.ntmps7
  go_wp2_with fail
  refine (pnew_v _ 2000 (by omega) (by omega)).mono ?_
  rintro e w1 ⟨b, R, rfl, hp, hc⟩
  have HP1 := Lib.hid hp
  clear hp hc
  go_wp2_with fail
  refine (pgrant_v ⟨2000, 1500, [], false, false⟩ 0 1500 HP1.out (by omega) (by rfl) (by rfl)).mono ?_
  rintro e w2 ⟨rfl, hp, hc⟩
  have HP2 := Lib.hid hp
  clear hp hc
  go_wp2_with fail
  refine (pwrite_v _ (len : Nat) 0 A len cap xs HP2.out ((HB.out.chg HP2.out.same (fun _ _ q => q))) HW.out.1 (by rfl) HW.out.2).mono ?_
  rintro e w3 ⟨rfl, R3, hp, hR, hc⟩
  have HP3 := Lib.hid hp
  clear hp hR hc
  go_wp2_with fail
  refine (pclose_v ⟨2000, 0, xs, true, false⟩ 0 HP3.out (by rfl) (by rfl)).mono ?_
  rintro e w4 ⟨rfl, hp, hc⟩
  have HP4 := Lib.hid hp
  clear hp hc
  go_wp2_with fail
  refine (pcancel_v ⟨2000, 0, [], true, true⟩ 0 HP4.out (by unfold PSt.caE PSt.done; simp [HXE.out]) (by unfold PSt.cancel PSt.done; simp [HXE.out])).mono ?_
  rintro e w5 ⟨rfl, hp, hc⟩
  have HP5 := Lib.hid hp
  clear hp hc
  go_wp2_with fail
  refine (pcredit_v 0 HP5.out (by rfl)).mono ?_
  rintro e w' ⟨rfl, rfl⟩
  go_wp2_with fail
  refine (pbuffered_v 0 HP5.out (by rfl)).mono ?_
  rintro e w' ⟨rfl, rfl⟩
  go_wp2_with fail
  refine (pdone_v false HP5.out (by rfl)).mono ?_
  rintro e w' ⟨rfl, rfl⟩
  go_wp2_with fail
  refine (pwrite_v ⟨2000, 0, [], true, true⟩ 0 20 A len cap xs HP5.out ((HB.out.chg HP5.out.same (fun _ _ q => q))) (by rfl) (by rfl) (by rfl)).mono ?_
  rintro e w6 ⟨rfl, R6, hp, hR, hc⟩
  have HP6 := Lib.hid hp
  clear hp hR hc
  have HR0 := Lib.hid (show (⟨2000, 0, [], true, true⟩ : PSt).rdE n = 20 by unfold PSt.rdE; simp; omega)
  have HR1 := Lib.hid (show (⟨2000, 0, [], true, true⟩ : PSt).grE n = 20 by unfold PSt.grE PSt.over; simp; omega)
  have HR2 := Lib.hid (show (⟨2000, 0, [], true, true⟩ : PSt).grant n = ⟨2000, 0, [], true, true⟩ by unfold PSt.grant; rw [HR1.out]; simp)
  go_wp2_with fail
  refine (pread_v ⟨2000, 0, [], true, true⟩ [] 20 n HP6.out (by unfold PSt.rd; simp) HR0.out (by unfold PSt.read; simp)).mono ?_
  rintro e w7 ⟨A7, c7, rfl, hb, hp, hc⟩
  have HP7 := Lib.hid hp
  clear hb hp hc
  go_wp2_with fail
  refine (pgrant_v ⟨2000, 0, [], true, true⟩ 20 n HP7.out hnm HR1.out HR2.out).mono ?_
  rintro e w8 ⟨rfl, hp, hc⟩
  have HP8 := Lib.hid hp
  clear hp hc
  go_wp2_with fail
  refine (pclose_v ⟨2000, 0, [], true, true⟩ 20 HP8.out (by rfl) (by rfl)).mono ?_
  rintro e w9 ⟨rfl, hp, hc⟩
  have HP9 := Lib.hid hp
  clear hp hc
  go_wp2_with fail
  refine (pcancel_v ⟨2000, 0, [], true, true⟩ 20 HP9.out (by rfl) (by rfl)).mono ?_
  rintro e w10 ⟨rfl, hp, hc⟩
  have HP10 := Lib.hid hp
  clear hp hc
  go_wp2_with fail
  refine (example41_ok _).mono ?_
  rintro e w11 ⟨rfl, hs⟩
  have HS := Lib.hid hs
  clear hs
  go_wp2
  go_ret
  exact ⟨rfl, HP10.out.same.trans HS.out⟩

set_option maxRecDepth 100000 in
set_option maxHeartbeats 4000000 in
theorem cancel_cpn (n : Int) (A : Option Addr) (len cap : Nat) (xs : List Int) (w : World) (h : BytesAt w (fun _ => True) A len cap xs) (hl : len ≤ 1000) (hz : 0 < len) (hn : n < 0) (hnm : n ≤ 9223372036854775807) :
    Calls Try.prog 7 #[.slice A len cap, .bool true, .int .i64 n] w fun e w' => e = .returned (.bool true) ∧ Same w w' := by
  have HB := Lib.hid h
  have hxl := h.1
  have hlc := h.2.1
  have hcm : cap ≤ 9223372036854775807 := by have := h.2.2.1; unfold maxLen at this; omega
  clear h
  have HW := Lib.hid (cancel_wr xs len hxl hl)
  have hz1 : ((len : Int) == 0) = false := by rw [beq_eq_false_iff_ne]; omega
  have HXE := Lib.hid (show xs.isEmpty = false by cases xs; · simp at hxl; omega
                                                  · rfl)
  have HXL := Lib.hid hxl
  clear hxl
  go_enter Try.func7, Try.ntmps7
  go_wp2_with fail
  refine (pnew_v _ 2000 (by omega) (by omega)).mono ?_
  rintro e w1 ⟨b, R, rfl, hp, hc⟩
  have HP1 := Lib.hid hp
  clear hp hc
  go_wp2_with fail
  refine (pgrant_v ⟨2000, 1500, [], false, false⟩ 0 1500 HP1.out (by omega) (by rfl) (by rfl)).mono ?_
  rintro e w2 ⟨rfl, hp, hc⟩
  have HP2 := Lib.hid hp
  clear hp hc
  go_wp2_with fail
  refine (pwrite_v _ (len : Nat) 0 A len cap xs HP2.out ((HB.out.chg HP2.out.same (fun _ _ q => q))) HW.out.1 (by rfl) HW.out.2).mono ?_
  rintro e w3 ⟨rfl, R3, hp, hR, hc⟩
  have HP3 := Lib.hid hp
  clear hp hR hc
  go_wp2_with fail
  refine (pclose_v ⟨2000, 0, xs, true, false⟩ 0 HP3.out (by rfl) (by rfl)).mono ?_
  rintro e w4 ⟨rfl, hp, hc⟩
  have HP4 := Lib.hid hp
  clear hp hc
  go_wp2_with fail
  refine (pcancel_v ⟨2000, 0, [], true, true⟩ 0 HP4.out (by unfold PSt.caE PSt.done; simp [HXE.out]) (by unfold PSt.cancel PSt.done; simp [HXE.out])).mono ?_
  rintro e w5 ⟨rfl, hp, hc⟩
  have HP5 := Lib.hid hp
  clear hp hc
  go_wp2_with fail
  refine (pcredit_v 0 HP5.out (by rfl)).mono ?_
  rintro e w' ⟨rfl, rfl⟩
  go_wp2_with fail
  refine (pbuffered_v 0 HP5.out (by rfl)).mono ?_
  rintro e w' ⟨rfl, rfl⟩
  go_wp2_with fail
  refine (pdone_v false HP5.out (by rfl)).mono ?_
  rintro e w' ⟨rfl, rfl⟩
  go_wp2_with fail
  refine (pwrite_v ⟨2000, 0, [], true, true⟩ 0 20 A len cap xs HP5.out ((HB.out.chg HP5.out.same (fun _ _ q => q))) (by rfl) (by rfl) (by rfl)).mono ?_
  rintro e w6 ⟨rfl, R6, hp, hR, hc⟩
  have HP6 := Lib.hid hp
  clear hp hR hc
  have HR0 := Lib.hid (show (⟨2000, 0, [], true, true⟩ : PSt).rdE n = 6 by unfold PSt.rdE; simp; omega)
  have HR1 := Lib.hid (show (⟨2000, 0, [], true, true⟩ : PSt).grE n = 6 by unfold PSt.grE PSt.over; simp; omega)
  have HR2 := Lib.hid (show (⟨2000, 0, [], true, true⟩ : PSt).grant n = ⟨2000, 0, [], true, true⟩ by unfold PSt.grant; rw [HR1.out]; simp)
  go_wp2_with fail
  refine (pread_v ⟨2000, 0, [], true, true⟩ [] 6 n HP6.out (by unfold PSt.rd; simp) HR0.out (by unfold PSt.read; simp)).mono ?_
  rintro e w7 ⟨A7, c7, rfl, hb, hp, hc⟩
  have HP7 := Lib.hid hp
  clear hb hp hc
  go_wp2_with fail
  refine (pgrant_v ⟨2000, 0, [], true, true⟩ 6 n HP7.out hnm HR1.out HR2.out).mono ?_
  rintro e w8 ⟨rfl, hp, hc⟩
  have HP8 := Lib.hid hp
  clear hp hc
  go_wp2_with fail
  refine (pclose_v ⟨2000, 0, [], true, true⟩ 20 HP8.out (by rfl) (by rfl)).mono ?_
  rintro e w9 ⟨rfl, hp, hc⟩
  have HP9 := Lib.hid hp
  clear hp hc
  go_wp2_with fail
  refine (pcancel_v ⟨2000, 0, [], true, true⟩ 20 HP9.out (by rfl) (by rfl)).mono ?_
  rintro e w10 ⟨rfl, hp, hc⟩
  have HP10 := Lib.hid hp
  clear hp hc
  go_wp2_with fail
  refine (example41_ok _).mono ?_
  rintro e w11 ⟨rfl, hs⟩
  have HS := Lib.hid hs
  clear hs
  go_wp2
  go_ret
  exact ⟨rfl, HP10.out.same.trans HS.out⟩

set_option maxRecDepth 100000 in
set_option maxHeartbeats 4000000 in
theorem cancel_czy (n : Int) (A : Option Addr) (len cap : Nat) (xs : List Int) (w : World) (h : BytesAt w (fun _ => True) A len cap xs) (hl : len ≤ 1000) (hz : len = 0) (hn : 0 ≤ n) (hnm : n ≤ 9223372036854775807) :
    Calls Try.prog 7 #[.slice A len cap, .bool true, .int .i64 n] w fun e w' => e = .returned (.bool true) ∧ Same w w' := by
  have HB := Lib.hid h
  have hxl := h.1
  have hlc := h.2.1
  have hcm : cap ≤ 9223372036854775807 := by have := h.2.2.1; unfold maxLen at this; omega
  clear h
  have HW := Lib.hid (cancel_wr xs len hxl hl)
  subst hz
  obtain rfl : xs = [] := List.length_eq_zero_iff.1 hxl
  clear hxl
  go_enter Try.func7, Try.ntmps7
  go_wp2_with fail
  refine (pnew_v _ 2000 (by omega) (by omega)).mono ?_
  rintro e w1 ⟨b, R, rfl, hp, hc⟩
  have HP1 := Lib.hid hp
  clear hp hc
  go_wp2_with fail
  refine (pgrant_v ⟨2000, 1500, [], false, false⟩ 0 1500 HP1.out (by omega) (by rfl) (by rfl)).mono ?_
  rintro e w2 ⟨rfl, hp, hc⟩
  have HP2 := Lib.hid hp
  clear hp hc
  go_wp2_with fail
  refine (pwrite_v _ (0 : Nat) 0 A 0 cap [] HP2.out ((HB.out.chg HP2.out.same (fun _ _ q => q))) HW.out.1 (by rfl) HW.out.2).mono ?_
  rintro e w3 ⟨rfl, R3, hp, hR, hc⟩
  have HP3 := Lib.hid hp
  clear hp hR hc
  go_wp2_with fail
  refine (pclose_v ⟨2000, 0, [], true, false⟩ 0 HP3.out (by rfl) (by rfl)).mono ?_
  rintro e w4 ⟨rfl, hp, hc⟩
  have HP4 := Lib.hid hp
  clear hp hc
  go_wp2_with fail
  refine (pdone_v true HP4.out (by rfl)).mono ?_
  rintro e w' ⟨rfl, rfl⟩
  go_wp2_with fail
  refine (pcancel_v ⟨2000, 0, [], true, false⟩ 20 HP4.out (by rfl) (by rfl)).mono ?_
  rintro e w5 ⟨rfl, hp, hc⟩
  have HP5 := Lib.hid hp
  clear hp hc
  go_wp2_with fail
  refine (example41_ok _).mono ?_
  rintro e w11 ⟨rfl, hs⟩
  have HS := Lib.hid hs
  clear hs
  go_wp2
  go_ret
  exact ⟨rfl, HP5.out.same.trans HS.out⟩

set_option maxRecDepth 100000 in
set_option maxHeartbeats 4000000 in
theorem cancel_czn (n : Int) (A : Option Addr) (len cap : Nat) (xs : List Int) (w : World) (h : BytesAt w (fun _ => True) A len cap xs) (hl : len ≤ 1000) (hz : len = 0) (hn : n < 0) (hnm : n ≤ 9223372036854775807) :
    Calls Try.prog 7 #[.slice A len cap, .bool true, .int .i64 n] w fun e w' => e = .returned (.bool true) ∧ Same w w' := by
  have HB := Lib.hid h
  have hxl := h.1
  have hlc := h.2.1
  have hcm : cap ≤ 9223372036854775807 := by have := h.2.2.1; unfold maxLen at this; omega
  clear h
  have HW := Lib.hid (cancel_wr xs len hxl hl)
  subst hz
  obtain rfl : xs = [] := List.length_eq_zero_iff.1 hxl
  clear hxl
  go_enter Try.func7, Try.ntmps7
  go_wp2_with fail
  refine (pnew_v _ 2000 (by omega) (by omega)).mono ?_
  rintro e w1 ⟨b, R, rfl, hp, hc⟩
  have HP1 := Lib.hid hp
  clear hp hc
  go_wp2_with fail
  refine (pgrant_v ⟨2000, 1500, [], false, false⟩ 0 1500 HP1.out (by omega) (by rfl) (by rfl)).mono ?_
  rintro e w2 ⟨rfl, hp, hc⟩
  have HP2 := Lib.hid hp
  clear hp hc
  go_wp2_with fail
  refine (pwrite_v _ (0 : Nat) 0 A 0 cap [] HP2.out ((HB.out.chg HP2.out.same (fun _ _ q => q))) HW.out.1 (by rfl) HW.out.2).mono ?_
  rintro e w3 ⟨rfl, R3, hp, hR, hc⟩
  have HP3 := Lib.hid hp
  clear hp hR hc
  go_wp2_with fail
  refine (pclose_v ⟨2000, 0, [], true, false⟩ 0 HP3.out (by rfl) (by rfl)).mono ?_
  rintro e w4 ⟨rfl, hp, hc⟩
  have HP4 := Lib.hid hp
  clear hp hc
  go_wp2_with fail
  refine (pdone_v true HP4.out (by rfl)).mono ?_
  rintro e w' ⟨rfl, rfl⟩
  go_wp2_with fail
  refine (pcancel_v ⟨2000, 0, [], true, false⟩ 20 HP4.out (by rfl) (by rfl)).mono ?_
  rintro e w5 ⟨rfl, hp, hc⟩
  have HP5 := Lib.hid hp
  clear hp hc
  go_wp2_with fail
  refine (example41_ok _).mono ?_
  rintro e w11 ⟨rfl, hs⟩
  have HS := Lib.hid hs
  clear hs
  go_wp2
  go_ret
  exact ⟨rfl, HP5.out.same.trans HS.out⟩

theorem TransferCancel_walk (A : Option Addr) (len cap : Nat) (xs : List Int) (cl : Bool) (n : Int) (w : World) (h : BytesAt w (fun _ => True) A len cap xs) (hn : n ≤ 9223372036854775807) :
    Calls Try.prog 7 #[.slice A len cap, .bool cl, .int .i64 n] w fun e w' => e = .returned (.bool true) ∧ Same w w' := by
  have hlc := h.2.1
  have hcm := h.2.2.1
  unfold maxLen at hcm
  by_cases hl : 1000 < (len : Int)
  · exact cancel_large n cl A len cap w hl (by omega)
  have hl' : len ≤ 1000 := by omega
  cases cl <;> rcases Nat.eq_zero_or_pos len with e | e <;> by_cases h0 : n < 0
  · exact cancel_ozn n A len cap xs w h hl' e h0 hn
  · exact cancel_ozy n A len cap xs w h hl' e (by omega) hn
  · exact cancel_opn n A len cap xs w h hl' e h0 hn
  · exact cancel_opy n A len cap xs w h hl' e (by omega) hn
  · exact cancel_czn n A len cap xs w h hl' e h0 hn
  · exact cancel_czy n A len cap xs w h hl' e (by omega) hn
  · exact cancel_cpn n A len cap xs w h hl' e h0 hn
  · exact cancel_cpy n A len cap xs w h hl' e (by omega) hn
end Go.Proofs.Ytgpfnfcfmogefaa
