/- What the laws of drags say, in plain Lean. -/
import Derived.Test.YteolilggeaffaaaPk21
set_option linter.unusedVariables false
set_option linter.unusedSimpArgs false
set_option maxRecDepth 100000
namespace Go.Proofs.Yteolilggeaffaaa
open Go.RowKit

theorem check_acts {fs : List ByteArray} {acts : Int} (h : checkV fs acts = 0) : 0 ≤ acts ∧ acts ≤ 7 := by
  unfold checkV at h
  split at h
  · cases h
  · split at h
    · cases h
    · split at h
      · cases h
      · split at h
        · cases h
        · omega
theorem check_valid {fs : List ByteArray} {acts : Int} (h : checkV fs acts = 0) : ∀ f ∈ fs, validB f = true := by
  intro f hf
  unfold checkV at h
  split at h
  · cases h
  · split at h
    · cases h
    · rename_i h2
      cases hv : validB f
      · exact absurd (List.any_eq_true.2 ⟨f, hf, by rw [hv]; rfl⟩) h2
      · rfl
theorem valid_ne {f : ByteArray} (h : validB f = true) : f ≠ ByteArray.empty := by
  rintro rfl
  have e : validB ByteArray.empty = false := by decide +kernel
  rw [e] at h
  cases h
theorem has_mem {fs : List ByteArray} {f : ByteArray} (h : f ∈ fs) : hasS fs f = true := by
  unfold hasS
  first
    | exact List.contains_iff_mem.2 h
    | (rw [List.any_eq_true]; exact ⟨f, h, by simp⟩)
    | simp [h]
theorem drag_acc_no {fs : List ByteArray} {acts client : Int} (h : client ≠ 2) : (dragD fs acts).acc client 1 = 17 := by
  unfold DSt.acc
  rw [if_neg (by show ¬ ((1 : Int) ≠ 1); omega), if_pos (.inr (by show (2 : Int) ≠ client; omega))]
theorem act_zero (s p m : Int) : actionV s 0 p m = 0 := by
  rw [action_eq]
  have e : commonV s 0 = 0 := by
    unfold commonV bits
    simp
    rfl
  rw [e]
  rfl
theorem act_seven {acts : Int} (h : 1 ≤ acts) (h2 : acts ≤ 7) : actionV acts 7 0 0 ≠ 0 := by
  have : acts = 1 ∨ acts = 2 ∨ acts = 3 ∨ acts = 4 ∨ acts = 5 ∨ acts = 6 ∨ acts = 7 := by omega
  rcases this with rfl | rfl | rfl | rfl | rfl | rfl | rfl <;> decide +kernel
/-! ### the drag of 'dragging' -/
section
variable {fs : List ByteArray} {acts client : Int} {f : ByteArray}
theorem dg_accept_no (h : client ≠ 2) : (dragD fs acts).acceptE client f = 17 ∧ (dragD fs acts).accept client f = dragD fs acts := by
  have e : (dragD fs acts).acceptE client f = 17 := by unfold DSt.acceptE; rw [drag_acc_no h]; rfl
  exact ⟨e, by unfold DSt.accept; rw [if_neg (by rw [e]; decide)]⟩
theorem dg_setact_no (a p : Int) (h : client ≠ 2) : (dragD fs acts).setActE client a p = 17 ∧ (dragD fs acts).setAct client a p = dragD fs acts := by
  have e : (dragD fs acts).setActE client a p = 17 := by unfold DSt.setActE; rw [drag_acc_no h]; rfl
  exact ⟨e, by unfold DSt.setAct; rw [if_neg (by rw [e]; decide)]⟩
theorem dg_act : (dragD fs acts).act = 0 := by
  unfold DSt.act
  rw [if_neg (by show ¬ ((1 : Int) = 0 ∨ (7 : Int) = 0); omega)]
  exact act_zero acts 0 0
theorem dg_acc : (dragD fs acts).acc 2 1 = 0 := rfl
/-- The drag with an accepted format and actions of the target. -/
def dragE (fs : List ByteArray) (acts : Int) (f : ByteArray) (a p : Int) : DSt := ⟨1, fs, acts, 2, 7, f, a, p, 1, true, 0, [], 0⟩
theorem dg_accept (a p : Int) (hf : f ∈ fs) : (dragE fs acts ByteArray.empty a p).acceptE 2 f = 0 ∧ (dragE fs acts ByteArray.empty a p).accept 2 f = dragE fs acts f a p := by
  have e : (dragE fs acts ByteArray.empty a p).acceptE 2 f = 0 := by
    unfold DSt.acceptE
    rw [show (dragE fs acts ByteArray.empty a p).acc 2 1 = 0 from rfl, if_neg (by decide), if_neg (fun q => by rw [show hasS (dragE fs acts ByteArray.empty a p).fmts f = true from has_mem hf] at q; cases q.2)]
  exact ⟨e, by unfold DSt.accept; rw [if_pos e]; rfl⟩
theorem dg_setact (g : ByteArray) (a p : Int) : (dragE fs acts g 0 0).setActE 2 a p = (if setActOk a p = true then 0 else 2) ∧ (dragE fs acts g 0 0).setAct 2 a p = (if setActOk a p = true then dragE fs acts g a p else dragE fs acts g 0 0) := by
  have e0 : (dragE fs acts g 0 0).acc 2 1 = 0 := rfl
  by_cases h : setActOk a p = true
  · rw [if_pos h, if_pos h]
    exact ⟨(setAct_good e0 h).1, (setAct_good e0 h).2⟩
  · have h' : setActOk a p = false := by simpa using h
    rw [if_neg h, if_neg h]
    exact ⟨(setAct_bad e0 h').1, (setAct_bad e0 h').2⟩
theorem dg_act2 (g : ByteArray) (a p : Int) : (dragE fs acts g a p).act = actionV acts a p 0 := by
  unfold DSt.act
  rw [if_neg (by show ¬ ((1 : Int) = 0 ∨ (7 : Int) = 0); omega)]
  rfl
def dragF (fs : List ByteArray) (acts : Int) (f : ByteArray) (fl : List DFlow) : DSt := ⟨2, fs, acts, 2, 7, f, 7, 0, 1, true, 0, fl, 0⟩
theorem dg_drop (h : 1 ≤ acts) (h2 : acts ≤ 7) (hf : f ≠ ByteArray.empty) : (dragE fs acts f 7 0).dropB = true ∧ (dragE fs acts f 7 0).dropS = dragF fs acts f [] ∧ (dragE fs acts f 7 0).dropO = [delivC 2 7 17 0 0 0 0 0 0] := by
  have e : (dragE fs acts f 7 0).dropB = true := by
    unfold DSt.dropB
    rw [dg_act2, decide_eq_true (show (dragE fs acts f 7 0).state = 1 from rfl), decide_eq_false (act_seven h h2), decide_eq_false (show ¬ (dragE fs acts f 7 0).tf = ByteArray.empty from hf)]
    rfl
  exact ⟨e, (drop_yes rfl e).1, (drop_yes rfl e).2⟩
theorem dg_drop_no : (dragE fs acts ByteArray.empty 7 0).dropB = false ∧ (dragE fs acts ByteArray.empty 7 0).dropS = DSt.endS (dragE fs acts ByteArray.empty 7 0) ∧ (dragE fs acts ByteArray.empty 7 0).dropO = [delivC 2 7 16 0 0 0 0 0 0] := by
  have e : (dragE fs acts ByteArray.empty 7 0).dropB = false := by
    unfold DSt.dropB
    rw [decide_eq_true (show (dragE fs acts ByteArray.empty 7 0).state = 1 from rfl), decide_eq_true (show (dragE fs acts ByteArray.empty 7 0).tf = ByteArray.empty from rfl)]
    rfl
  have h := drop_un (d := dragE fs acts ByteArray.empty 7 0) rfl e
  exact ⟨e, h.1, h.2⟩
theorem dg_acc2 (fl : List DFlow) (h : client ≠ 2) : (dragF fs acts f fl).acc client 2 = 17 := by
  unfold DSt.acc
  rw [if_neg (by show ¬ ((2 : Int) ≠ 2); omega), if_pos (.inr (by show (2 : Int) ≠ client; omega))]
theorem dg_rcv_no (fl : List DFlow) (win : Int) (h : client ≠ 2) : (dragF fs acts f fl).rcvE client f win = 17 := by
  unfold DSt.rcvE
  rw [dg_acc2 fl h]
  rfl
theorem dg_rcv (fl : List DFlow) (hf : f ∈ fs) : (dragF fs acts f fl).rcvE 2 f 10 = 0 := by
  unfold DSt.rcvE
  rw [show (dragF fs acts f fl).acc 2 2 = 0 from rfl, if_neg (by decide), if_neg (fun q => by rw [show hasS (dragF fs acts f fl).fmts f = true from has_mem hf] at q; cases q)]
  rfl
theorem dg_fin_no (fl : List DFlow) (h : client ≠ 2) : (dragF fs acts f fl).finE client = 17 ∧ (dragF fs acts f fl).fin client = dragF fs acts f fl := by
  have e : (dragF fs acts f fl).finE client = 17 := by
    unfold DSt.finE
    rw [dg_acc2 fl h]
    rfl
  exact ⟨e, by unfold DSt.fin; rw [if_neg (by rw [e]; decide)]⟩
theorem dg_fin (x : DFlow) : (dragF fs acts f [x]).finE 2 = 0 ∧ (dragF fs acts f [x]).fin 2 = (dragF fs acts f [x]).endS := by
  have e : (dragF fs acts f [x]).finE 2 = 0 := rfl
  exact ⟨e, by unfold DSt.fin; rw [if_pos e]⟩
theorem dg_fin0 : (dragF fs acts f []).finE 2 = 14 ∧ (dragF fs acts f []).fin 2 = dragF fs acts f [] := by
  have e : (dragF fs acts f []).finE 2 = 14 := rfl
  exact ⟨e, by unfold DSt.fin; rw [if_neg (by rw [e]; decide)]⟩
end
end Go.Proofs.Yteolilggeaffaaa
