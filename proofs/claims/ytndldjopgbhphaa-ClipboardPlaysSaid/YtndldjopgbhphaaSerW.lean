/- The walks of package serial: what each of its functions does to the log's block. -/
import Derived.Test.YtndldjopgbhphaaSerM
set_option linter.unusedVariables false
set_option linter.unusedSimpArgs false
set_option maxRecDepth 100000
namespace Go.Proofs.Ytndldjopgbhphaa
open Go.RowKit

/-- Block b holds the log L. -/
def LogAt (w : World) (b : Nat) (L : SLog) : Prop := w.heap[b]? = some (.cells L.cells.toArray 116 (0, 0)) ∧ L.ok
theorem LogAt.chg {S : Nat → Prop} {w w' : World} {b : Nat} {L : SLog} (h : LogAt w b L) (k : Chg S w w') (hs : ¬ S b) : LogAt w' b L := ⟨k.at_ h.1 hs, h.2⟩
theorem LogAt.c0 {w : World} {b : Nat} {L : SLog} (h : LogAt w b L) : w.cell? ⟨b, 0, none⟩ = some (.bool true) := by rw [cell_at h.1]; rfl
theorem LogAt.c1 {w : World} {b : Nat} {L : SLog} (h : LogAt w b L) : w.cell? ⟨b, 1, none⟩ = some (.int .u32 L.last) := by rw [cell_at h.1]; rfl
theorem LogAt.c2 {w : World} {b : Nat} {L : SLog} (h : LogAt w b L) : w.cell? ⟨b, 2, none⟩ = some (.int .i64 L.at_) := by rw [cell_at h.1]; rfl
theorem LogAt.fr {w : World} {b : Nat} {L : SLog} (h : LogAt w b L) (i : Nat) : w.frozen? ⟨b, i, none⟩ = false := frozen_at h.1 i
theorem LogAt.e0 {w : World} {b : Nat} {L : SLog} (h : LogAt w b L) {i : Nat} (hi : i < 256) : w.cell? ⟨b, 3 + i * 4, none⟩ = some (.int .u32 (EntsAt L i).s) := by
  rw [cell_at h.1]; exact SLog.cell_ent (j := 0) h.2 hi (by omega)
theorem LogAt.e1 {w : World} {b : Nat} {L : SLog} (h : LogAt w b L) {i : Nat} (hi : i < 256) : w.cell? ⟨b, 3 + i * 4 + 1, none⟩ = some (.int .i64 (EntsAt L i).c) := by
  rw [cell_at h.1]; exact SLog.cell_ent (j := 1) h.2 hi (by omega)
theorem LogAt.e2 {w : World} {b : Nat} {L : SLog} (h : LogAt w b L) {i : Nat} (hi : i < 256) : w.cell? ⟨b, 3 + i * 4 + 2, none⟩ = some (.int .i64 (EntsAt L i).f) := by
  rw [cell_at h.1]; exact SLog.cell_ent (j := 2) h.2 hi (by omega)
theorem LogAt.e3 {w : World} {b : Nat} {L : SLog} (h : LogAt w b L) {i : Nat} (hi : i < 256) : w.cell? ⟨b, 3 + i * 4 + 3, none⟩ = some (.int .i64 (EntsAt L i).k) := by
  rw [cell_at h.1]; exact SLog.cell_ent (j := 3) h.2 hi (by omega)

/-! ### usable -/
theorem usable_ok (b : Nat) (w : World) (h : w.cell? ⟨b, 0, none⟩ = some (.bool true)) :
    Calls Try.prog 55 #[.pointer (some ⟨b, 0, none⟩)] w fun e w' => e = .returned (.bool true) ∧ w = w' := by
  go_enter Try.func55, Try.ntmps55
  go_wp2
  go_ret
  exact ⟨rfl, rfl⟩
theorem usable_no (b : Nat) (w : World) (h : w.cell? ⟨b, 0, none⟩ = some (.bool false)) :
    Calls Try.prog 55 #[.pointer (some ⟨b, 0, none⟩)] w fun e w' => e = .returned (.bool false) ∧ w = w' := by
  go_enter Try.func55, Try.ntmps55
  go_wp2
  go_ret
  exact ⟨rfl, rfl⟩
theorem usable_nil (w : World) :
    Calls Try.prog 55 #[.pointer none] w fun e w' => e = .returned (.bool false) ∧ w = w' := by
  go_enter Try.func55, Try.ntmps55
  go_wp2
  go_ret
  exact ⟨rfl, rfl⟩

/-! ### New -/
def newCells : Array Value := SLog.new.cells.toArray
def newVal : Value := .agg newCells
theorem run_build_log (w : World) : (Instr.build 116 #[(0, .bool true)]).run Try.prog w = .ok newVal w := by kernel_rfl
theorem newCells_at (w : World) : LogAt (w.alloc (.cells newCells 116)) w.heap.size SLog.new := ⟨at_new _ _, SLog.new_ok⟩
theorem new_ok (w : World) : Calls Try.prog 12 #[] w fun e w' => e = .returned (.pointer (some ⟨w.heap.size, 0, none⟩)) ∧ LogAt w' w.heap.size SLog.new ∧ Same w w' ∧ w.heap.size < w'.heap.size := by
  go_enter Try.func12, Try.ntmps12
  go_wp2_with (first | (refine wpl_build (t := 116) _ #[(0, .bool true)] newVal ?_ (run_build_log _) ?_; · simp [Act.eval]) | (refine wpl_box (t := 116) _ newCells rfl ?_))
  go_ret
  exact ⟨rfl, newCells_at w, (Chg.refl _ w).alloc _, by simp⟩

/-! ### Issue -/
theorem u32_add1 {l : Int} (h0 : 0 ≤ l) (h1 : l ≤ 4294967295) (h : l ≠ 4294967295) : (l + 1) % 4294967296 = l + 1 := by omega

theorem LogAt.issued {w w' : World} {b : Nat} {L : SLog} (h : LogAt w b L) {c f k : Int} (hc : 1 ≤ c) (hc2 : c ≤ 9223372036854775807) (hf : 0 ≤ f) (hf2 : f ≤ 9223372036854775807) (hk : 0 ≤ k) (hk2 : k ≤ 62)
    (hw : w'.heap[b]? = some (.cells ((((((L.cells.set 1 (.int .u32 (nxt L.last))).set (3 + L.at_ * 4) (.int .u32 (nxt L.last))).set (3 + L.at_ * 4 + 1) (.int .i64 c)).set (3 + L.at_ * 4 + 2) (.int .i64 f)).set (3 + L.at_ * 4 + 3) (.int .i64 k)).set 2 (.int .i64 ((L.at_ + 1) % 256 : Nat))).toArray 116 (0, 0))) :
    LogAt w' b (L.issued c f k) := by
  rw [SLog.cells_issued L h.2 c f k _ rfl] at hw
  exact ⟨hw, SLog.issued_ok h.2 hc hc2 hf hf2 hk hk2⟩

theorem issue_bad (b : Nat) (w : World) (c f k : Int) (h0 : w.cell? ⟨b, 0, none⟩ = some (.bool true)) (hbad : c < 1 ∨ f < 0 ∨ k < 0 ∨ 62 < k) :
    Calls Try.prog 14 #[.pointer (some ⟨b, 0, none⟩), .int .i64 c, .int .i64 f, .int .i64 k] w fun e w' => e = .returned (.int .u32 0) ∧ w = w' := by
  by_cases q1 : c < 1
  · go_enter Try.func14, Try.ntmps14
    go_wp2_with (go_at_call 55; refine (usable_ok _ _ (by assumption)).mono ?_; rintro e w' ⟨rfl, rfl⟩)
    go_ret
    exact ⟨rfl, rfl⟩
  by_cases q2 : f < 0
  · clear hbad
    go_enter Try.func14, Try.ntmps14
    go_wp2_with (go_at_call 55; refine (usable_ok _ _ (by assumption)).mono ?_; rintro e w' ⟨rfl, rfl⟩)
    go_ret
    exact ⟨rfl, rfl⟩
  by_cases q3 : k < 0
  · clear hbad
    go_enter Try.func14, Try.ntmps14
    go_wp2_with (go_at_call 55; refine (usable_ok _ _ (by assumption)).mono ?_; rintro e w' ⟨rfl, rfl⟩)
    go_ret
    exact ⟨rfl, rfl⟩
  have q4 : 62 < k := by omega
  clear hbad
  go_enter Try.func14, Try.ntmps14
  go_wp2_with (go_at_call 55; refine (usable_ok _ _ (by assumption)).mono ?_; rintro e w' ⟨rfl, rfl⟩)
  go_ret
  exact ⟨rfl, rfl⟩

set_option maxRecDepth 100000 in
theorem issue_good (b : Nat) (w : World) (last : Int) (at_ : Nat) (c f k : Int) (h0 : w.cell? ⟨b, 0, none⟩ = some (.bool true)) (h1 : w.cell? ⟨b, 1, none⟩ = some (.int .u32 last))
    (h2 : w.cell? ⟨b, 2, none⟩ = some (.int .i64 at_)) (ha : at_ < 256) (hl : 0 ≤ last ∧ last < 4294967295) (hc : 1 ≤ c) (hf : 0 ≤ f) (hk : 0 ≤ k) (hk2 : k ≤ 62)
    (hfr : ∀ o, w.frozen? ⟨b, o, none⟩ = false) (v0 v1 v2 v3 : Value) (e0 : w.cell? ⟨b, 3 + at_ * 4, none⟩ = some v0) (e1 : w.cell? ⟨b, 3 + at_ * 4 + 1, none⟩ = some v1)
    (e2 : w.cell? ⟨b, 3 + at_ * 4 + 2, none⟩ = some v2) (e3 : w.cell? ⟨b, 3 + at_ * 4 + 3, none⟩ = some v3) :
    Calls Try.prog 14 #[.pointer (some ⟨b, 0, none⟩), .int .i64 c, .int .i64 f, .int .i64 k] w fun e w' => e = .returned (.int .u32 (last + 1)) ∧
      ((((((w.setCell ⟨b, 1, none⟩ (.int .u32 (last + 1))).setCell ⟨b, 3 + at_ * 4, none⟩ (.int .u32 (last + 1))).setCell ⟨b, 3 + at_ * 4 + 1, none⟩ (.int .i64 c)).setCell ⟨b, 3 + at_ * 4 + 2, none⟩ (.int .i64 f)).setCell ⟨b, 3 + at_ * 4 + 3, none⟩ (.int .i64 k)).setCell ⟨b, 2, none⟩ (.int .i64 (((at_ : Int) + 1) % 256))).drew = w' := by
  have ha' : (at_ : Int) < 256 := by omega
  go_enter Try.func14, Try.ntmps14
  go_wp2_with (go_at_call 55; refine (usable_ok _ _ (by assumption)).mono ?_; rintro e w' ⟨rfl, rfl⟩)
  refine wp_tail 16 (by kernel_rfl) (by kernel_rfl) ?_
  simp only [List.take_succ_cons, List.take_zero, List.drop_succ_cons, List.drop_zero]
  repeat still_step
  try refine wpStill_nil ?_
  go_wp2
  go_ret
  exact ⟨rfl, rfl⟩

set_option maxRecDepth 100000 in
theorem issue_wrap (b : Nat) (w : World) (at_ : Nat) (c f k : Int) (h0 : w.cell? ⟨b, 0, none⟩ = some (.bool true)) (h1 : w.cell? ⟨b, 1, none⟩ = some (.int .u32 4294967295))
    (h2 : w.cell? ⟨b, 2, none⟩ = some (.int .i64 at_)) (ha : at_ < 256) (hc : 1 ≤ c) (hf : 0 ≤ f) (hk : 0 ≤ k) (hk2 : k ≤ 62)
    (hfr : ∀ o, w.frozen? ⟨b, o, none⟩ = false) (v0 v1 v2 v3 : Value) (e0 : w.cell? ⟨b, 3 + at_ * 4, none⟩ = some v0) (e1 : w.cell? ⟨b, 3 + at_ * 4 + 1, none⟩ = some v1)
    (e2 : w.cell? ⟨b, 3 + at_ * 4 + 2, none⟩ = some v2) (e3 : w.cell? ⟨b, 3 + at_ * 4 + 3, none⟩ = some v3) :
    Calls Try.prog 14 #[.pointer (some ⟨b, 0, none⟩), .int .i64 c, .int .i64 f, .int .i64 k] w fun e w' => e = .returned (.int .u32 1) ∧
      (((((((w.setCell ⟨b, 1, none⟩ (.int .u32 0)).setCell ⟨b, 1, none⟩ (.int .u32 1)).setCell ⟨b, 3 + at_ * 4, none⟩ (.int .u32 1)).setCell ⟨b, 3 + at_ * 4 + 1, none⟩ (.int .i64 c)).setCell ⟨b, 3 + at_ * 4 + 2, none⟩ (.int .i64 f)).setCell ⟨b, 3 + at_ * 4 + 3, none⟩ (.int .i64 k)).setCell ⟨b, 2, none⟩ (.int .i64 (((at_ : Int) + 1) % 256))).drew = w' := by
  have ha' : (at_ : Int) < 256 := by omega
  go_enter Try.func14, Try.ntmps14
  go_wp2_with (go_at_call 55; refine (usable_ok _ _ (by assumption)).mono ?_; rintro e w' ⟨rfl, rfl⟩)
  refine wp_tail 16 (by kernel_rfl) (by kernel_rfl) ?_
  simp only [List.take_succ_cons, List.take_zero, List.drop_succ_cons, List.drop_zero]
  repeat still_step
  try refine wpStill_nil ?_
  go_wp2
  go_ret
  exact ⟨rfl, rfl⟩

theorem issue_ok (b : Nat) (w : World) (L : SLog) (c f k : Int) (h : LogAt w b L) (hc2 : c ≤ 9223372036854775807) (hf2 : f ≤ 9223372036854775807) :
    Calls Try.prog 14 #[.pointer (some ⟨b, 0, none⟩), .int .i64 c, .int .i64 f, .int .i64 k] w fun e w' => e = .returned (.int .u32 (L.issueN c f k)) ∧ LogAt w' b (L.issue c f k) ∧ Chg (fun x => x = b) w w' := by
  by_cases hg : good c f k = true
  · have hg' := hg
    simp only [good, Bool.and_eq_true, decide_eq_true_eq] at hg'
    obtain ⟨⟨⟨g1, g2⟩, g3⟩, g4⟩ := hg'
    have ha := h.2.at_lt
    have e1 : L.issueN c f k = nxt L.last := by unfold SLog.issueN; rw [if_pos hg]
    have e2 : L.issue c f k = L.issued c f k := by unfold SLog.issue; rw [if_pos hg]
    have em : (((L.at_ : Int) + 1) % 256) = (((L.at_ + 1) % 256 : Nat) : Int) := by omega
    rw [e1, e2]
    by_cases hl : L.last = 4294967295
    · have en : nxt L.last = 1 := by unfold nxt; rw [if_pos hl]
      have hc1 := h.c1
      rw [hl] at hc1
      refine (issue_wrap b w L.at_ c f k h.c0 hc1 h.c2 ha g1 g2 g3 g4 h.fr _ _ _ _ (h.e0 ha) (h.e1 ha) (h.e2 ha) (h.e3 ha)).mono ?_
      rintro e w' ⟨rfl, rfl⟩
      rw [em]
      refine ⟨by rw [en], h.issued g1 hc2 g2 hf2 g3 g4 ?_, ?_⟩
      · rw [en, heap_drew]
        rw [show (L.cells.set 1 (.int .u32 1)) = (L.cells.set 1 (.int .u32 0)).set 1 (.int .u32 1) by rw [List.set_set]]
        repeat refine at_setCell _ ?_
        exact h.1
      · refine Chg.drew ?_
        repeat refine Chg.setCell ?_ _ _ (fun _ => rfl)
        exact Chg.refl _ _
    · have en : nxt L.last = L.last + 1 := by unfold nxt; rw [if_neg hl]
      have hb0 := h.2.last0
      have hb1 := h.2.last1
      refine (issue_good b w L.last L.at_ c f k h.c0 h.c1 h.c2 ha ⟨hb0, by omega⟩ g1 g2 g3 g4 h.fr _ _ _ _ (h.e0 ha) (h.e1 ha) (h.e2 ha) (h.e3 ha)).mono ?_
      rintro e w' ⟨rfl, rfl⟩
      rw [em]
      refine ⟨by rw [en], h.issued g1 hc2 g2 hf2 g3 g4 ?_, ?_⟩
      · rw [en, heap_drew]
        repeat refine at_setCell _ ?_
        exact h.1
      · refine Chg.drew ?_
        repeat refine Chg.setCell ?_ _ _ (fun _ => rfl)
        exact Chg.refl _ _
  · have hbad : c < 1 ∨ f < 0 ∨ k < 0 ∨ 62 < k := by
      simp [good] at hg
      omega
    have e1 : L.issueN c f k = 0 := by unfold SLog.issueN; rw [if_neg hg]
    have e2 : L.issue c f k = L := by unfold SLog.issue; rw [if_neg hg]
    rw [e1, e2]
    refine (issue_bad b w c f k h.c0 hbad).mono ?_
    rintro e w' ⟨rfl, rfl⟩
    exact ⟨rfl, h, Chg.refl _ _⟩
end Go.Proofs.Ytndldjopgbhphaa
