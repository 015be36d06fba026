/- The walk of ClipboardNil: for all arguments it returns true and leaves what was there as it was. -/
import Derived.Test.YtndldjopgbhphaaEx42
set_option linter.unusedVariables false
set_option linter.unusedSimpArgs false
set_option maxRecDepth 100000
namespace Go.Proofs.Ytndldjopgbhphaa
open Go.RowKit

theorem cset_nil (client sn acts : Int) (A : Option Addr) (n cap : Nat) (w : World) : Calls Try.prog 15 #[.pointer none, .int .i64 client, .agg #[.slice A n cap, .int .i64 acts], .int .u32 sn] w fun e w' => e = .returned (.int .i64 1) ∧ Same w w' := by
  go_enter Try.func15, Try.ntmps15
  go_wp2_with fail
  refine (made_nil _).mono ?_
  rintro e w' ⟨rfl, rfl⟩
  go_wp2
  go_ret
  exact ⟨rfl, (Chg.refl _ _).alloc _⟩
set_option maxHeartbeats 2000000 in
theorem ClipboardNil_walk (client n : Int) (w : World) :
    Calls Try.prog 7 #[.int .i64 client, .int .u32 n] w fun e w' => e = .returned (.bool true) ∧ Same w w' := by
  go_enter Try.func7, Try.ntmps7
  go_wp2_with fail
  refine (cnew_nil _).mono ?_
  rintro e w' ⟨rfl, rfl⟩
  go_wp2_with fail
  refine (crcv_nil _ _ _ _).mono ?_
  rintro e w' ⟨rfl, rfl⟩
  go_wp2_with fail
  refine (cgone_nil _ _).mono ?_
  rintro e w' ⟨rfl, rfl⟩
  go_wp2_with fail
  refine (plain_ok _).mono ?_
  rintro e w1 ⟨g, rfl, _, _, hk⟩
  have HS := Lib.hid hk
  clear hk
  go_wp2_with fail
  refine (cset_nil _ _ _ _ _ _ _).mono ?_
  rintro e w2 ⟨rfl, hk⟩
  have HS := Lib.hid (HS.out.trans hk)
  clear hk
  go_wp2_with fail
  refine (cclear_nil _ _ _).mono ?_
  rintro e w' ⟨rfl, rfl⟩
  go_wp2_with fail
  refine (cfocus_nil _ _).mono ?_
  rintro e w' ⟨rfl, rfl⟩
  go_wp2_with fail
  refine (cowner_nil _).mono ?_
  rintro e w' ⟨rfl, rfl⟩
  go_wp2_with fail
  refine (cformats_nil _ _).mono ?_
  rintro e w' ⟨rfl, rfl⟩
  go_wp2_with fail
  refine (example42_ok _).mono ?_
  rintro e w3 ⟨rfl, hk⟩
  have HS := Lib.hid (HS.out.trans hk)
  clear hk
  go_wp2
  go_ret
  exact ⟨rfl, HS.out⟩
end Go.Proofs.Ytndldjopgbhphaa
