/- The calls on a drag that New did not return. -/
import Derived.Test.YteolilggeaffaaaDragR
set_option linter.unusedVariables false
set_option linter.unusedSimpArgs false
set_option maxRecDepth 100000
namespace Go.Proofs.Yteolilggeaffaaa
open Go.RowKit

theorem daccept_un (v : Value) (client : Int) (f : ByteArray) (w : World) (h : Calls Try.prog 42 #[v] w fun e w' => e = .returned (.bool false) ∧ w = w') : Calls Try.prog 13 #[v, .int .i64 client, .string f] w fun e w' => e = .returned (.int .i64 1) ∧ Same w w' := by
  have HM := Lib.hid (daccess_no v client 1 w h)
  clear h
  go_enter Try.func13, Try.ntmps13
  go_wp2_with fail
  refine HM.out.mono ?_
  rintro e w' ⟨rfl, rfl⟩
  go_wp2
  go_ret
  exact ⟨rfl, Chg.refl _ _⟩
theorem dsetact_un (v : Value) (client a p : Int) (w : World) (h : Calls Try.prog 42 #[v] w fun e w' => e = .returned (.bool false) ∧ w = w') : Calls Try.prog 14 #[v, .int .i64 client, .int .i64 a, .int .i64 p] w fun e w' => e = .returned (.int .i64 1) ∧ Same w w' := by
  have HM := Lib.hid (daccess_no v client 1 w h)
  clear h
  go_enter Try.func14, Try.ntmps14
  go_wp2_with fail
  refine HM.out.mono ?_
  rintro e w' ⟨rfl, rfl⟩
  go_wp2
  go_ret
  exact ⟨rfl, Chg.refl _ _⟩
theorem dfinish_un (v : Value) (client : Int) (w : World) (h : Calls Try.prog 42 #[v] w fun e w' => e = .returned (.bool false) ∧ w = w') : Calls Try.prog 18 #[v, .int .i64 client] w fun e w' => e = .returned (.int .i64 1) ∧ Same w w' := by
  have HM := Lib.hid (daccess_no v client 2 w h)
  clear h
  go_enter Try.func18, Try.ntmps18
  go_wp2_with fail
  refine HM.out.mono ?_
  rintro e w' ⟨rfl, rfl⟩
  go_wp2
  go_ret
  exact ⟨rfl, Chg.refl _ _⟩
theorem dreceive_un (v : Value) (client win : Int) (f : ByteArray) (w : World) (h : Calls Try.prog 42 #[v] w fun e w' => e = .returned (.bool false) ∧ w = w') : Calls Try.prog 17 #[v, .int .i64 client, .string f, .int .i64 win] w fun e w' => e = .returned (.tuple #[.pointer none, .int .i64 1]) ∧ Same w w' := by
  have HM := Lib.hid (daccess_no v client 2 w h)
  clear h
  go_enter Try.func17, Try.ntmps17
  go_wp2_with fail
  refine HM.out.mono ?_
  rintro e w' ⟨rfl, rfl⟩
  go_wp2
  go_ret2
  exact ⟨rfl, Chg.refl _ _⟩
theorem ddrop_un (v : Value) (w : World) (h : Calls Try.prog 42 #[v] w fun e w' => e = .returned (.bool false) ∧ w = w') : Calls Try.prog 16 #[v] w fun e w' => e = .returned (.tuple #[.slice none 0 0, .bool false]) ∧ Same w w' := by
  have HM := Lib.hid h
  clear h
  go_enter Try.func16, Try.ntmps16
  go_wp2_with fail
  refine HM.out.mono ?_
  rintro e w' ⟨rfl, rfl⟩
  go_wp2
  go_ret2
  exact ⟨rfl, Chg.refl _ _⟩
theorem dcancel_un (v : Value) (w : World) (h : Calls Try.prog 42 #[v] w fun e w' => e = .returned (.bool false) ∧ w = w') : Calls Try.prog 34 #[v] w fun e w' => e = .returned (.slice none 0 0) ∧ Same w w' := by
  have HM := Lib.hid h
  clear h
  go_enter Try.func34, Try.ntmps34
  go_wp2_with fail
  refine HM.out.mono ?_
  rintro e w' ⟨rfl, rfl⟩
  go_wp2
  go_ret
  exact ⟨rfl, Chg.refl _ _⟩
theorem dmove_un (v : Value) (client surface x y t : Int) (w : World) (h : Calls Try.prog 42 #[v] w fun e w' => e = .returned (.bool false) ∧ w = w') : Calls Try.prog 20 #[v, .int .i64 client, .int .i64 surface, .int .i64 x, .int .i64 y, .int .i64 t] w fun e w' => e = .returned (.slice none 0 0) ∧ Same w w' := by
  have HM := Lib.hid h
  clear h
  go_enter Try.func20, Try.ntmps20
  go_wp2_with fail
  refine HM.out.mono ?_
  rintro e w' ⟨rfl, rfl⟩
  go_wp2
  go_ret
  exact ⟨rfl, Chg.refl _ _⟩
end Go.Proofs.Yteolilggeaffaaa
