/- The walks of package transfer: New, Credit, Buffered, Done, Grant, Close, Cancel. -/
import Derived.Test.YtndldjopgbhphaaPipM
set_option linter.unusedVariables false
set_option linter.unusedSimpArgs false
set_option maxRecDepth 100000
namespace Go.Proofs.Ytndldjopgbhphaa
open Go.RowKit

/-! ### usable -/
theorem pusable_ok (b : Nat) (w : World) (n : Int) (h : w.cell? ⟨b, 0, none⟩ = some (.int .i64 n)) (hn : 1 ≤ n) :
    Calls Try.prog 69 #[.pointer (some ⟨b, 0, none⟩)] w fun e w' => e = .returned (.bool true) ∧ w = w' := by
  have h1 : 0 < n := by omega
  go_enter Try.func69, Try.ntmps69
  go_wp2
  go_ret
  exact ⟨rfl, rfl⟩
theorem pusable_no (b : Nat) (w : World) (h : w.cell? ⟨b, 0, none⟩ = some (.int .i64 0)) :
    Calls Try.prog 69 #[.pointer (some ⟨b, 0, none⟩)] w fun e w' => e = .returned (.bool false) ∧ w = w' := by
  go_enter Try.func69, Try.ntmps69
  go_wp2
  go_ret
  exact ⟨rfl, rfl⟩
theorem pusable_nil (w : World) :
    Calls Try.prog 69 #[.pointer none] w fun e w' => e = .returned (.bool false) ∧ w = w' := by
  go_enter Try.func69, Try.ntmps69
  go_wp2
  go_ret
  exact ⟨rfl, rfl⟩
theorem pusable_at {b : Nat} {w : World} {R : Nat → Prop} {q : PSt} (h : PipeAt w b R q) :
    Calls Try.prog 69 #[.pointer (some ⟨b, 0, none⟩)] w fun e w' => e = .returned (.bool true) ∧ w = w' :=
  pusable_ok b w _ h.c0 h.ok.w0

/-! ### Credit, Buffered, Done -/
theorem pcredit_ok (b : Nat) (w : World) (R : Nat → Prop) (q : PSt) (h : PipeAt w b R q) :
    Calls Try.prog 46 #[.pointer (some ⟨b, 0, none⟩)] w fun e w' => e = .returned (.int .i64 q.cr) ∧ w = w' := by
  have hu := pusable_at h
  have c1 := h.c1
  have HU := Lib.hid hu
  clear h hu
  go_enter Try.func46, Try.ntmps46
  go_wp2_with fail
  refine HU.out.mono ?_
  rintro e w' ⟨rfl, rfl⟩
  go_wp2
  go_ret
  exact ⟨rfl, rfl⟩
theorem pbuffered_ok (b : Nat) (w : World) (R : Nat → Prop) (q : PSt) (h : PipeAt w b R q) :
    Calls Try.prog 44 #[.pointer (some ⟨b, 0, none⟩)] w fun e w' => e = .returned (.int .i64 q.bs.length) ∧ w = w' := by
  have hu := pusable_at h
  have c1 := h.c2
  have HU := Lib.hid hu
  clear h hu
  go_enter Try.func44, Try.ntmps44
  go_wp2_with fail
  refine HU.out.mono ?_
  rintro e w' ⟨rfl, rfl⟩
  go_wp2
  go_ret
  exact ⟨rfl, rfl⟩
theorem pdone_ok (b : Nat) (w : World) (R : Nat → Prop) (q : PSt) (h : PipeAt w b R q) :
    Calls Try.prog 54 #[.pointer (some ⟨b, 0, none⟩)] w fun e w' => e = .returned (.bool q.done) ∧ w = w' := by
  have hu := pusable_at h
  have c2 := h.c2
  have c3 := h.c3
  have c4 := h.c4
  have HU := Lib.hid hu
  have hov : (q.bs.length : Int) ≤ 65536 := by have := h.ok.sum; have := h.ok.w1; have := h.ok.c0; omega
  clear h hu
  obtain ⟨win, cr, bs, cl, cn⟩ := q
  simp only at c2 c3 c4 hov ⊢
  by_cases hb : bs = []
  · subst hb
    cases cl <;> cases cn
    all_goals
      go_enter Try.func54, Try.ntmps54
      go_wp2_with fail
      refine HU.out.mono ?_
      rintro e w' ⟨rfl, rfl⟩
      go_wp2
      go_ret
      exact ⟨rfl, rfl⟩
  · have hl : 0 < bs.length := List.length_pos_iff.2 hb
    have he : bs.isEmpty = false := by simpa using hb
    have hd : ∀ cl cn, PSt.done ⟨win, cr, bs, cl, cn⟩ = false := by intro cl cn; unfold PSt.done; simp only [he]; simp
    rw [hd]
    clear hd he
    have hl1 : ¬ (bs.length : Int) = 0 := by omega
    generalize (bs.length : Int) = n at *
    clear hb hl
    cases cl <;> cases cn
    all_goals
      go_enter Try.func54, Try.ntmps54
      go_wp2_with fail
      refine HU.out.mono ?_
      rintro e w' ⟨rfl, rfl⟩
      go_wp2
      go_ret
      exact ⟨rfl, rfl⟩
end Go.Proofs.Ytndldjopgbhphaa
