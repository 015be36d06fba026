/- The walk of TransferNil: for all arguments it returns true and leaves what was there as it was. -/
import Derived.Test.YtgpfnfcfmogefaaEx41
import Derived.Test.YtgpfnfcfmogefaaPipN
set_option linter.unusedVariables false
set_option linter.unusedSimpArgs false
namespace Go.Proofs.Ytgpfnfcfmogefaa
open Go.RowKit

set_option maxRecDepth 100000 in
set_option maxHeartbeats 2000000 in
theorem TransferNil_walk (A : Option Addr) (len cap : Nat) (xs : List Int) (n : Int) (w : World) (h : BytesAt w (fun _ => True) A len cap xs) :
    Calls Try.prog 8 #[.slice A len cap, .int .i64 n] w fun e w' => e = .returned (.bool true) ∧ Same w w' := by
  have hlc := h.2.1
  have hcm : cap ≤ 9223372036854775807 := by have := h.2.2.1; unfold maxLen at this; omega
  clear h
  by_cases hl : 1000 < (len : Int)
  · go_enter Try.func8, Try.ntmps8
    go_wp2_with fail
    refine (example41_ok _).mono ?_
    rintro e w1 ⟨rfl, hs⟩
    have HS := Lib.hid hs
    clear hs
    go_wp2
    go_ret
    exact ⟨rfl, HS.out⟩
  · have hz := at_new w (.cells #[.int .i64 0, .int .i64 0, .int .i64 0, .bool false, .bool false, .chan none, .slice none 0 0] 57)
    have hs := (Chg.refl (fun _ => False) w).alloc (.cells #[.int .i64 0, .int .i64 0, .int .i64 0, .bool false, .bool false, .chan none, .slice none 0 0] 57)
    have HN := Lib.hid (ZeroAt.no hz)
    have HS := Lib.hid hs
    clear hz hs
    go_enter Try.func8, Try.ntmps8
    go_wp2_with (first | (go_at_call 12; (first | (with_reducible refine (pnil_write _ _ _ (nil_no _)).mono ?_) | (with_reducible refine (pnil_write _ _ _ HN.out).mono ?_)); rintro e w' ⟨rfl, rfl⟩) | (go_at_call 13; (first | (with_reducible refine (pnil_read _ _ _ (nil_no _)).mono ?_) | (with_reducible refine (pnil_read _ _ _ HN.out).mono ?_)); rintro e w' ⟨rfl, rfl⟩) | (go_at_call 11; (first | (with_reducible refine (pnil_grant _ _ _ (nil_no _)).mono ?_) | (with_reducible refine (pnil_grant _ _ _ HN.out).mono ?_)); rintro e w' ⟨rfl, rfl⟩) | (go_at_call 14; (first | (with_reducible refine (pnil_close _ _ (nil_no _)).mono ?_) | (with_reducible refine (pnil_close _ _ HN.out).mono ?_)); rintro e w' ⟨rfl, rfl⟩) | (go_at_call 16; (first | (with_reducible refine (pnil_cancel _ _ (nil_no _)).mono ?_) | (with_reducible refine (pnil_cancel _ _ HN.out).mono ?_)); rintro e w' ⟨rfl, rfl⟩) | (go_at_call 17; (first | (with_reducible refine (pnil_credit _ _ (nil_no _)).mono ?_) | (with_reducible refine (pnil_credit _ _ HN.out).mono ?_)); rintro e w' ⟨rfl, rfl⟩) | (go_at_call 18; (first | (with_reducible refine (pnil_buffered _ _ (nil_no _)).mono ?_) | (with_reducible refine (pnil_buffered _ _ HN.out).mono ?_)); rintro e w' ⟨rfl, rfl⟩) | (go_at_call 15; (first | (with_reducible refine (pnil_done _ _ (nil_no _)).mono ?_) | (with_reducible refine (pnil_done _ _ HN.out).mono ?_)); rintro e w' ⟨rfl, rfl⟩) | (go_at_call 9; refine (example41_ok _).mono ?_; rintro e w1 ⟨rfl, hs⟩; have HS1 := Lib.hid hs; clear hs))
    go_ret
    exact ⟨rfl, HS.out.trans HS1.out⟩
end Go.Proofs.Ytgpfnfcfmogefaa
