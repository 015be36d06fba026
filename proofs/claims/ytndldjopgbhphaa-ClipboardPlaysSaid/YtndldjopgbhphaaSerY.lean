/- The walks of package serial, the end: Check. -/
import Derived.Test.YtndldjopgbhphaaSerX
set_option linter.unusedVariables false
set_option linter.unusedSimpArgs false
set_option maxRecDepth 100000
namespace Go.Proofs.Ytndldjopgbhphaa
open Go.RowKit

theorem entRes_zero : entRes Ent.zero = .tuple #[.agg #[.int .u32 0, .int .i64 0, .int .i64 0, .int .i64 0], .bool false] := rfl
theorem find_ok (b : Nat) (w : World) (n : Int) (L : SLog) (h : LogAt w b L) :
    Calls Try.prog 122 #[.pointer (some ⟨b, 0, none⟩), .int .u32 n] w fun e w' => e = .returned (entRes (L.find n)) ∧ Same w w' := by
  by_cases hn : n = 0
  · have : L.find n = Ent.zero := by unfold SLog.find; rw [if_pos hn]
    rw [this, entRes_zero]
    exact find_none b w n h.c0 (by simpa using hn)
  · exact find_some b w n L h (by simpa using hn)

set_option maxRecDepth 100000 in
theorem check_ok (b : Nat) (w : World) (n client kinds : Int) (L : SLog) (h : LogAt w b L) :
    Calls Try.prog 120 #[.pointer (some ⟨b, 0, none⟩), .int .u32 n, .int .i64 client, .int .i64 kinds] w fun e w' => e = .returned (.int .i64 (L.check n client kinds)) ∧ Same w w' := by
  have hbd := (SLog.find_ok h.2 n).bounds
  have hf := find_ok b w n L h
  have h0 := h.c0
  clear h
  have hck : L.check n client kinds = if (L.find n).c = 0 then 13 else if fitB (L.find n).c (L.find n).k client kinds then 0 else 13 := rfl
  rw [hck]
  clear hck
  generalize L.find n = x at *
  obtain ⟨s, c, f, k⟩ := x
  simp only [entRes] at hf
  obtain ⟨_, _, _, _, _, _, hk0, hk1⟩ := hbd
  simp only at hk0 hk1 ⊢
  have HF := Lib.hid hf
  clear hf
  by_cases hc : c = 0
  · have hc' : (c != 0) = false := by simp [hc]
    rw [if_pos hc]
    rw [hc'] at HF
    clear hc hc'
    go_enter Try.func120, Try.ntmps120
    go_wp2_with (first | (go_at_call 55; refine (usable_ok _ _ (by assumption)).mono ?_; rintro e w' ⟨rfl, rfl⟩) | (go_at_call 122; refine HF.out.mono ?_; rintro e w1 ⟨rfl, hs1⟩; have HS := Lib.hid hs1; clear hs1))
    go_ret
    refine ⟨rfl, ?_⟩
    repeat (first | (with_reducible refine Chg.drew ?_) | (with_reducible refine Chg.drewN ?_ _) | (with_reducible refine Chg.alloc ?_ _) | (with_reducible refine Chg.setCell ?_ _ _ ?_; rotate_left 1; · (intro q; first | (simp; done) | (exfalso; revert q; simp; done) | (exfalso; revert q; simp; omega) | (simp; omega))))
    exact HS.out
  · have hc' : (c != 0) = true := by simp [hc]
    rw [if_neg hc]
    rw [hc'] at HF
    have hm := fun w => matches_ok s c f k client kinds w hk0 hk1
    have HM := Lib.hid hm
    clear hm hc hc'
    cases hfit : fitB c k client kinds with
    | true =>
      rw [hfit] at HM
      rw [if_pos rfl]
      clear hfit
      go_enter Try.func120, Try.ntmps120
      go_wp2_with (first | (go_at_call 55; refine (usable_ok _ _ (by assumption)).mono ?_; rintro e w' ⟨rfl, rfl⟩) | (go_at_call 122; refine HF.out.mono ?_; rintro e w1 ⟨rfl, hs1⟩; have HS := Lib.hid hs1; clear hs1) | (go_at_call 123; refine (HM.out _).mono ?_; rintro e w2 ⟨rfl, hs2⟩; have HS2 := Lib.hid hs2; clear hs2))
      go_ret
      refine ⟨rfl, Chg.trans ?_ HS2.out⟩
      repeat (first | (with_reducible refine Chg.drew ?_) | (with_reducible refine Chg.drewN ?_ _) | (with_reducible refine Chg.alloc ?_ _) | (with_reducible refine Chg.setCell ?_ _ _ ?_; rotate_left 1; · (intro q; first | (simp; done) | (exfalso; revert q; simp; done) | (exfalso; revert q; simp; omega) | (simp; omega))))
      exact HS.out
    | false =>
      rw [hfit] at HM
      rw [if_neg (by decide)]
      clear hfit
      go_enter Try.func120, Try.ntmps120
      go_wp2_with (first | (go_at_call 55; refine (usable_ok _ _ (by assumption)).mono ?_; rintro e w' ⟨rfl, rfl⟩) | (go_at_call 122; refine HF.out.mono ?_; rintro e w1 ⟨rfl, hs1⟩; have HS := Lib.hid hs1; clear hs1) | (go_at_call 123; refine (HM.out _).mono ?_; rintro e w2 ⟨rfl, hs2⟩; have HS2 := Lib.hid hs2; clear hs2))
      go_ret
      refine ⟨rfl, Chg.trans ?_ HS2.out⟩
      repeat (first | (with_reducible refine Chg.drew ?_) | (with_reducible refine Chg.drewN ?_ _) | (with_reducible refine Chg.alloc ?_ _) | (with_reducible refine Chg.setCell ?_ _ _ ?_; rotate_left 1; · (intro q; first | (simp; done) | (exfalso; revert q; simp; done) | (exfalso; revert q; simp; omega) | (simp; omega))))
      exact HS.out
end Go.Proofs.Ytndldjopgbhphaa
