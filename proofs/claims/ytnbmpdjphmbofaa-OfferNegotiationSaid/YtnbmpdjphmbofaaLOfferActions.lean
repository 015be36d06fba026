/- The walk of OfferActions: for all arguments it returns true and leaves what was there as it was. -/
import Derived.Test.YtnbmpdjphmbofaaEx40
import Derived.Test.YtnbmpdjphmbofaaUActW
import Derived.Test.YtnbmpdjphmbofaaArg40
import Derived.Test.YtnbmpdjphmbofaaPath
set_option linter.unusedVariables false
set_option linter.unusedSimpArgs false
namespace Go.Proofs.Ytnbmpdjphmbofaa
open Go.RowKit

theorem uaction_v (v s t p m : Int) (w : World) (h : actionV s t p m = v) : Calls Try.prog 18 #[.int .i64 s, .int .i64 t, .int .i64 p, .int .i64 m] w fun e w' => e = .returned (.int .i64 v) ∧ w = w' := by
  subst h
  exact uaction_ok s t p m w
def askBox (s t p m : Int) : Obj := .cells #[.int .i64 s, .int .i64 t, .int .i64 p, .int .i64 m] 35
theorem ask_cells {w w' : World} {s t p m : Int} (h : Same (w.alloc (askBox s t p m)) w') : w'.cell? ⟨w.heap.size, 0, none⟩ = some (.int .i64 s) ∧ w'.cell? ⟨w.heap.size, 1, none⟩ = some (.int .i64 t) ∧ w'.cell? ⟨w.heap.size, 2, none⟩ = some (.int .i64 p) ∧ w'.cell? ⟨w.heap.size, 3, none⟩ = some (.int .i64 m) := by
  have h0 := h.at_ (at_new w (.cells #[.int .i64 s, .int .i64 t, .int .i64 p, .int .i64 m] 35)) (fun q => q)
  refine ⟨?_, ?_, ?_, ?_⟩
  · rw [cell_of_row w' _ 0 _ _ _ h0]; rfl
  · rw [cell_of_row w' _ 1 _ _ _ h0]; rfl
  · rw [cell_of_row w' _ 2 _ _ _ h0]; rfl
  · rw [cell_of_row w' _ 3 _ _ _ h0]; rfl

set_option maxRecDepth 100000 in
set_option maxHeartbeats 4000000 in
theorem OfferActions_walk (x : AskArg) (w : World) : Calls Try.prog 4 #[.agg x.cells.toArray] w fun e w' => e = .returned (.bool true) ∧ Same w w' := by
  obtain ⟨s, t, p, m⟩ := x
  obtain ⟨v, hv⟩ : ∃ v, actionV s t p m = v := ⟨_, rfl⟩
  have HV := Lib.hid hv
  clear hv
  have HC := Lib.hid (fun (w' : World) (h : Same (w.alloc (askBox s t p m)) w') => ask_cells h)
  unfold AskArg.cells
  go_enter Try.func4, Try.ntmps4
  go_wp2_with fail
  refine region_path (S := (fun w' => w'.cell? ⟨w.heap.size, 0, none⟩ = some (.int .i64 s) ∧ w'.cell? ⟨w.heap.size, 1, none⟩ = some (.int .i64 t) ∧ w'.cell? ⟨w.heap.size, 2, none⟩ = some (.int .i64 p) ∧ w'.cell? ⟨w.heap.size, 3, none⟩ = some (.int .i64 m))) 99 [(0, true), (1, true), (2, true), (3, true), (4, true), (5, true), (6, true), (7, true), (9, true), (10, true), (11, true), (12, true), (13, true), (14, true), (15, true), (16, true), (8, false), (17, false), (18, true), (19, true), (20, false), (21, true), (22, true)] (by kernel_rfl) (by kernel_rfl) (by kernel_rfl) (HC.out _ (Chg.refl _ _).drew) ?_
  refine path_read (i := 0) (v := ?v1_0) rfl (by rfl) (fun _ _ _ h => h) ?hy1_0 ?_
  case hy1_0 => ((intro w hSw; (try dsimp only at hSw); go_simp) <;> (try with_reducible rfl))
  try simp only [Act.put, List.setIfInBounds_toArray, List.set_cons_zero, List.set_cons_succ]
  refine path_read (i := 1) (v := ?v1_1) rfl (by rfl) (fun _ _ _ h => h) ?hy1_1 ?_
  case hy1_1 => ((intro w hSw; (try dsimp only at hSw); go_simp) <;> (try with_reducible rfl))
  try simp only [Act.put, List.setIfInBounds_toArray, List.set_cons_zero, List.set_cons_succ]
  refine path_read (i := 2) (v := ?v1_2) rfl (by rfl) (fun _ _ _ h => h) ?hy1_2 ?_
  case hy1_2 => ((intro w hSw; (try dsimp only at hSw); go_simp) <;> (try with_reducible rfl))
  try simp only [Act.put, List.setIfInBounds_toArray, List.set_cons_zero, List.set_cons_succ]
  refine path_read (i := 3) (v := ?v1_3) rfl (by rfl) (fun _ _ _ h => h) ?hy1_3 ?_
  case hy1_3 => ((intro w hSw; (try dsimp only at hSw); go_simp) <;> (try with_reducible rfl))
  try simp only [Act.put, List.setIfInBounds_toArray, List.set_cons_zero, List.set_cons_succ]
  refine path_read (i := 4) (v := ?v1_4) rfl (by rfl) (fun _ _ _ h => h) ?hy1_4 ?_
  case hy1_4 => ((intro w hSw; (try dsimp only at hSw); go_simp) <;> (try with_reducible rfl))
  try simp only [Act.put, List.setIfInBounds_toArray, List.set_cons_zero, List.set_cons_succ]
  refine path_read (i := 5) (v := ?v1_5) rfl (by rfl) (fun _ _ _ h => h) ?hy1_5 ?_
  case hy1_5 => ((intro w hSw; (try dsimp only at hSw); go_simp) <;> (try with_reducible rfl))
  try simp only [Act.put, List.setIfInBounds_toArray, List.set_cons_zero, List.set_cons_succ]
  refine path_read (i := 6) (v := ?v1_6) rfl (by rfl) (fun _ _ _ h => h) ?hy1_6 ?_
  case hy1_6 => ((intro w hSw; (try dsimp only at hSw); go_simp) <;> (try with_reducible rfl))
  try simp only [Act.put, List.setIfInBounds_toArray, List.set_cons_zero, List.set_cons_succ]
  refine path_read (i := 7) (v := ?v1_7) rfl (by rfl) (fun _ _ _ h => h) ?hy1_7 ?_
  case hy1_7 => ((intro w hSw; (try dsimp only at hSw); go_simp) <;> (try with_reducible rfl))
  try simp only [Act.put, List.setIfInBounds_toArray, List.set_cons_zero, List.set_cons_succ]
  refine path_read (i := 9) (v := ?v1_9) rfl (by rfl) (fun _ _ _ h => h) ?hy1_9 ?_
  case hy1_9 => ((intro w hSw; (try dsimp only at hSw); go_simp) <;> (try with_reducible rfl))
  try simp only [Act.put, List.setIfInBounds_toArray, List.set_cons_zero, List.set_cons_succ]
  refine path_read (i := 10) (v := ?v1_10) rfl (by rfl) (fun _ _ _ h => h) ?hy1_10 ?_
  case hy1_10 => ((intro w hSw; (try dsimp only at hSw); go_simp) <;> (try with_reducible rfl))
  try simp only [Act.put, List.setIfInBounds_toArray, List.set_cons_zero, List.set_cons_succ]
  refine path_read (i := 11) (v := ?v1_11) rfl (by rfl) (fun _ _ _ h => h) ?hy1_11 ?_
  case hy1_11 => ((intro w hSw; (try dsimp only at hSw); go_simp) <;> (try with_reducible rfl))
  try simp only [Act.put, List.setIfInBounds_toArray, List.set_cons_zero, List.set_cons_succ]
  refine path_read (i := 12) (v := ?v1_12) rfl (by rfl) (fun _ _ _ h => h) ?hy1_12 ?_
  case hy1_12 => ((intro w hSw; (try dsimp only at hSw); go_simp) <;> (try with_reducible rfl))
  try simp only [Act.put, List.setIfInBounds_toArray, List.set_cons_zero, List.set_cons_succ]
  refine path_read (i := 13) (v := ?v1_13) rfl (by rfl) (fun _ _ _ h => h) ?hy1_13 ?_
  case hy1_13 => ((intro w hSw; (try dsimp only at hSw); go_simp) <;> (try with_reducible rfl))
  try simp only [Act.put, List.setIfInBounds_toArray, List.set_cons_zero, List.set_cons_succ]
  refine path_read (i := 14) (v := ?v1_14) rfl (by rfl) (fun _ _ _ h => h) ?hy1_14 ?_
  case hy1_14 => ((intro w hSw; (try dsimp only at hSw); go_simp) <;> (try with_reducible rfl))
  try simp only [Act.put, List.setIfInBounds_toArray, List.set_cons_zero, List.set_cons_succ]
  refine path_read (i := 15) (v := ?v1_15) rfl (by rfl) (fun _ _ _ h => h) ?hy1_15 ?_
  case hy1_15 => ((intro w hSw; (try dsimp only at hSw); go_simp) <;> (try with_reducible rfl))
  try simp only [Act.put, List.setIfInBounds_toArray, List.set_cons_zero, List.set_cons_succ]
  refine path_read (i := 16) (v := ?v1_16) rfl (by rfl) (fun _ _ _ h => h) ?hy1_16 ?_
  case hy1_16 => ((intro w hSw; (try dsimp only at hSw); go_simp) <;> (try with_reducible rfl))
  try simp only [Act.put, List.setIfInBounds_toArray, List.set_cons_zero, List.set_cons_succ]
  refine path_do (i := 8) rfl ?_
  go_wp2_with ((first | (go_at_call 17; refine (action_v v s t p m _ HV.out).mono ?_; rintro e w1 ⟨rfl, hs1⟩; have HS : Hid (Same (w.alloc (askBox s t p m)) w1) := Lib.hid (((Chg.refl (fun _ => False) (w.alloc (askBox s t p m))).drew).trans hs1)) | (go_at_call 18; refine (uaction_v v s t p m _ HV.out).mono ?_; rintro e wq ⟨rfl, rfl⟩) | (go_at_call 11; refine (example40_ok _).mono ?_; rintro e w2 ⟨rfl, hs2⟩; have HS := Lib.hid (HS.out.trans hs2))))
  refine ⟨.inr ?keep1_8, ?_⟩
  case keep1_8 => ((exact HC.out _ HS.out))
  try simp only [Act.put, List.setIfInBounds_toArray, List.set_cons_zero, List.set_cons_succ]
  refine path_do (i := 17) rfl ?_
  go_wp2_with ((first | (go_at_call 17; refine (action_v v s t p m _ HV.out).mono ?_; rintro e w1 ⟨rfl, hs1⟩; have HS : Hid (Same (w.alloc (askBox s t p m)) w1) := Lib.hid (((Chg.refl (fun _ => False) (w.alloc (askBox s t p m))).drew).trans hs1)) | (go_at_call 18; refine (uaction_v v s t p m _ HV.out).mono ?_; rintro e wq ⟨rfl, rfl⟩) | (go_at_call 11; refine (example40_ok _).mono ?_; rintro e w2 ⟨rfl, hs2⟩; have HS := Lib.hid (HS.out.trans hs2))))
  refine ⟨.inr ?keep1_17, ?_⟩
  case keep1_17 => ((exact HC.out _ HS.out))
  try simp only [Act.put, List.setIfInBounds_toArray, List.set_cons_zero, List.set_cons_succ]
  refine path_read (i := 18) (v := ?v1_18) rfl (by rfl) (fun _ _ _ h => h) ?hy1_18 ?_
  case hy1_18 => ((intro w hSw; (try dsimp only at hSw); go_simp) <;> (try with_reducible rfl))
  try simp only [Act.put, List.setIfInBounds_toArray, List.set_cons_zero, List.set_cons_succ]
  refine path_read (i := 19) (v := ?v1_19) rfl (by rfl) (fun _ _ _ h => h) ?hy1_19 ?_
  case hy1_19 => ((intro w hSw; (try dsimp only at hSw); go_simp) <;> (try with_reducible rfl))
  try simp only [Act.put, List.setIfInBounds_toArray, List.set_cons_zero, List.set_cons_succ]
  refine path_do (i := 20) rfl ?_
  go_wp2_with ((first | (go_at_call 17; refine (action_v v s t p m _ HV.out).mono ?_; rintro e w1 ⟨rfl, hs1⟩; have HS : Hid (Same (w.alloc (askBox s t p m)) w1) := Lib.hid (((Chg.refl (fun _ => False) (w.alloc (askBox s t p m))).drew).trans hs1)) | (go_at_call 18; refine (uaction_v v s t p m _ HV.out).mono ?_; rintro e wq ⟨rfl, rfl⟩) | (go_at_call 11; refine (example40_ok _).mono ?_; rintro e w2 ⟨rfl, hs2⟩; have HS := Lib.hid (HS.out.trans hs2))))
  refine ⟨.inr ?keep1_20, ?_⟩
  case keep1_20 => ((exact HC.out _ HS.out))
  try simp only [Act.put, List.setIfInBounds_toArray, List.set_cons_zero, List.set_cons_succ]
  refine path_read (i := 21) (v := ?v1_21) rfl (by rfl) (fun _ _ _ h => h) ?hy1_21 ?_
  case hy1_21 => ((intro w hSw; (try dsimp only at hSw); go_simp) <;> (try with_reducible rfl))
  try simp only [Act.put, List.setIfInBounds_toArray, List.set_cons_zero, List.set_cons_succ]
  refine path_read (i := 22) (v := ?v1_22) rfl (by rfl) (fun _ _ _ h => h) ?hy1_22 ?_
  case hy1_22 => ((intro w hSw; (try dsimp only at hSw); go_simp) <;> (try with_reducible rfl))
  try simp only [Act.put, List.setIfInBounds_toArray, List.set_cons_zero, List.set_cons_succ]
  refine path_end ?_
  go_wp2
  go_ret
  exact ⟨rfl, ((Chg.refl (fun _ => False) w).alloc _).trans HS.out⟩
end Go.Proofs.Ytnbmpdjphmbofaa
