/- A pipe that New did not make: every method says so. -/
import Derived.Test.YtgpfnfcfmogefaaPipB
set_option linter.unusedVariables false
set_option linter.unusedSimpArgs false
namespace Go.Proofs.Ytgpfnfcfmogefaa
open Go.RowKit

def NotUsable (p : Value) (w : World) : Prop := Calls Try.prog 29 #[p] w fun e w' => e = .returned (.bool false) ∧ w = w'
theorem pnil_write (p v : Value) (w : World) (h : NotUsable p w) : Calls Try.prog 12 #[p, v] w fun e w' => e = .returned (.tuple #[.int .i64 0, .int .i64 1]) ∧ w = w' := by
  have HU := Lib.hid h
  unfold NotUsable at HU
  clear h
  go_enter Try.func12, Try.ntmps12
  go_wp2_with fail
  refine HU.out.mono ?_
  rintro e w' ⟨rfl, rfl⟩
  go_wp2
  go_ret2
  exact ⟨rfl, rfl⟩
theorem pnil_read (p v : Value) (w : World) (h : NotUsable p w) : Calls Try.prog 13 #[p, v] w fun e w' => e = .returned (.tuple #[.slice none 0 0, .int .i64 1]) ∧ w = w' := by
  have HU := Lib.hid h
  unfold NotUsable at HU
  clear h
  go_enter Try.func13, Try.ntmps13
  go_wp2_with fail
  refine HU.out.mono ?_
  rintro e w' ⟨rfl, rfl⟩
  go_wp2
  go_ret2
  exact ⟨rfl, rfl⟩
theorem pnil_grant (p v : Value) (w : World) (h : NotUsable p w) : Calls Try.prog 11 #[p, v] w fun e w' => e = .returned (.int .i64 1) ∧ w = w' := by
  have HU := Lib.hid h
  unfold NotUsable at HU
  clear h
  go_enter Try.func11, Try.ntmps11
  go_wp2_with fail
  refine HU.out.mono ?_
  rintro e w' ⟨rfl, rfl⟩
  go_wp2
  go_ret
  exact ⟨rfl, rfl⟩
theorem pnil_close (p : Value) (w : World) (h : NotUsable p w) : Calls Try.prog 14 #[p] w fun e w' => e = .returned (.int .i64 1) ∧ w = w' := by
  have HU := Lib.hid h
  unfold NotUsable at HU
  clear h
  go_enter Try.func14, Try.ntmps14
  go_wp2_with fail
  refine HU.out.mono ?_
  rintro e w' ⟨rfl, rfl⟩
  go_wp2
  go_ret
  exact ⟨rfl, rfl⟩
theorem pnil_cancel (p : Value) (w : World) (h : NotUsable p w) : Calls Try.prog 16 #[p] w fun e w' => e = .returned (.int .i64 1) ∧ w = w' := by
  have HU := Lib.hid h
  unfold NotUsable at HU
  clear h
  go_enter Try.func16, Try.ntmps16
  go_wp2_with fail
  refine HU.out.mono ?_
  rintro e w' ⟨rfl, rfl⟩
  go_wp2
  go_ret
  exact ⟨rfl, rfl⟩
theorem pnil_credit (p : Value) (w : World) (h : NotUsable p w) : Calls Try.prog 17 #[p] w fun e w' => e = .returned (.int .i64 0) ∧ w = w' := by
  have HU := Lib.hid h
  unfold NotUsable at HU
  clear h
  go_enter Try.func17, Try.ntmps17
  go_wp2_with fail
  refine HU.out.mono ?_
  rintro e w' ⟨rfl, rfl⟩
  go_wp2
  go_ret
  exact ⟨rfl, rfl⟩
theorem pnil_buffered (p : Value) (w : World) (h : NotUsable p w) : Calls Try.prog 18 #[p] w fun e w' => e = .returned (.int .i64 0) ∧ w = w' := by
  have HU := Lib.hid h
  unfold NotUsable at HU
  clear h
  go_enter Try.func18, Try.ntmps18
  go_wp2_with fail
  refine HU.out.mono ?_
  rintro e w' ⟨rfl, rfl⟩
  go_wp2
  go_ret
  exact ⟨rfl, rfl⟩
theorem pnil_done (p : Value) (w : World) (h : NotUsable p w) : Calls Try.prog 15 #[p] w fun e w' => e = .returned (.bool false) ∧ w = w' := by
  have HU := Lib.hid h
  unfold NotUsable at HU
  clear h
  go_enter Try.func15, Try.ntmps15
  go_wp2_with fail
  refine HU.out.mono ?_
  rintro e w' ⟨rfl, rfl⟩
  go_wp2
  go_ret
  exact ⟨rfl, rfl⟩

/-- A pipe of zeros. -/
def ZeroAt (w : World) (b : Nat) : Prop := w.heap[b]? = some (.cells #[.int .i64 0, .int .i64 0, .int .i64 0, .bool false, .bool false, .chan none, .slice none 0 0] 57 (0, 0))
theorem ZeroAt.no {w : World} {b : Nat} (h : ZeroAt w b) : NotUsable (.pointer (some ⟨b, 0, none⟩)) w := pusable_no b w (by rw [cell_of_row w b 0 _ _ _ h]; rfl)
theorem nil_no (w : World) : NotUsable (.pointer none) w := pusable_nil w
end Go.Proofs.Ytgpfnfcfmogefaa
