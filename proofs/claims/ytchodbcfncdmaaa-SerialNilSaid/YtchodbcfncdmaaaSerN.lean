/- The walks of package serial over a log that New did not return: nil, or the zero value. -/
import Derived.Test.YtchodbcfncdmaaaSerY
set_option linter.unusedVariables false
set_option linter.unusedSimpArgs false
namespace Go.Proofs.Ytchodbcfncdmaaa
open Go.RowKit

/-- A pointer to no usable log. -/
def Dead (w : World) (p : Option Addr) : Prop := p = none ∨ ∃ b, p = some ⟨b, 0, none⟩ ∧ w.cell? ⟨b, 0, none⟩ = some (.bool false)
theorem Dead.chg {S : Nat → Prop} {w w' : World} {p : Option Addr} (h : Dead w p) (k : Chg S w w') (hs : ∀ b, p = some ⟨b, 0, none⟩ → ¬ S b) : Dead w' p := by
  rcases h with rfl | ⟨b, rfl, hb⟩
  · exact .inl rfl
  · exact .inr ⟨b, rfl, k.cell hb (hs b rfl)⟩
theorem Dead.drew {w : World} {p : Option Addr} (h : Dead w p) : Dead w.drew p := h
theorem Dead.alloc {w : World} {p : Option Addr} (h : Dead w p) (o : Obj) : Dead (w.alloc o) p := h.chg (S := fun _ => False) ((Chg.refl _ w).alloc o) (fun _ _ q => q)
theorem usable_dead (p : Option Addr) (w : World) (h : Dead w p) : Calls Try.prog 22 #[.pointer p] w fun e w' => e = .returned (.bool false) ∧ w = w' := by
  rcases h with rfl | ⟨b, rfl, hb⟩
  · exact usable_nil w
  · exact usable_no b w hb
theorem issue_dead (p : Option Addr) (w : World) (c f k : Int) (h : Dead w p) :
    Calls Try.prog 12 #[.pointer p, .int .i64 c, .int .i64 f, .int .i64 k] w fun e w' => e = .returned (.int .u32 0) ∧ w = w' := by
  have H := Lib.hid h
  clear h
  go_enter Try.func12, Try.ntmps12
  go_wp2_with (go_at_call 22; refine (usable_dead _ _ H.out).mono ?_; rintro e w' ⟨rfl, rfl⟩)
  go_ret
  exact ⟨rfl, rfl⟩
theorem forget_dead (p : Option Addr) (w : World) (c : Int) (h : Dead w p) :
    Calls Try.prog 17 #[.pointer p, .int .i64 c] w fun e w' => e = .returned (.tuple #[]) ∧ w = w' := by
  have H := Lib.hid h
  clear h
  go_enter Try.func17, Try.ntmps17
  go_wp2_with (go_at_call 22; refine (usable_dead _ _ H.out).mono ?_; rintro e w' ⟨rfl, rfl⟩)
  refine bodyPost_ret (results_none rfl _ _ _) rfl ⟨rfl, rfl⟩
theorem latest_dead (p : Option Addr) (w : World) (c k : Int) (h : Dead w p) :
    Calls Try.prog 18 #[.pointer p, .int .i64 c, .int .i64 k] w fun e w' => e = .returned (.int .u32 0) ∧ w = w' := by
  have H := Lib.hid h
  clear h
  go_enter Try.func18, Try.ntmps18
  go_wp2_with (go_at_call 22; refine (usable_dead _ _ H.out).mono ?_; rintro e w' ⟨rfl, rfl⟩)
  go_ret
  exact ⟨rfl, rfl⟩
theorem check_dead (p : Option Addr) (w : World) (n c k : Int) (h : Dead w p) :
    Calls Try.prog 13 #[.pointer p, .int .u32 n, .int .i64 c, .int .i64 k] w fun e w' => e = .returned (.int .i64 1) ∧ w = w' := by
  have H := Lib.hid h
  clear h
  go_enter Try.func13, Try.ntmps13
  go_wp2_with (go_at_call 22; refine (usable_dead _ _ H.out).mono ?_; rintro e w' ⟨rfl, rfl⟩)
  go_ret
  exact ⟨rfl, rfl⟩
theorem find_dead (p : Option Addr) (w : World) (n : Int) (h : Dead w p) :
    Calls Try.prog 21 #[.pointer p, .int .u32 n] w fun e w' => e = .returned (.tuple #[.agg #[.int .u32 0, .int .i64 0, .int .i64 0, .int .i64 0], .bool false]) ∧ Same w w' := by
  have h1 : ∀ o, Dead (w.alloc o) p := fun o => h.chg (S := fun _ => False) ((Chg.refl _ w).alloc o) (fun _ _ q => q)
  have H := Lib.hid h1
  clear h h1
  go_enter Try.func21, Try.ntmps21
  go_wp2
  go_step3
  go_wp2_with (go_at_call 22; refine (usable_dead _ _ (H.out _)).mono ?_; rintro e w' ⟨rfl, rfl⟩)
  rw [Exit.noGoto_ret]
  exact bodyPost_ret (v := .tuple #[.agg #[.int .u32 0, .int .i64 0, .int .i64 0, .int .i64 0], .bool false]) (by simp [results, Try.results21, go_sem]) rfl ⟨rfl, (Chg.refl _ w).alloc _⟩
end Go.Proofs.Ytchodbcfncdmaaa
