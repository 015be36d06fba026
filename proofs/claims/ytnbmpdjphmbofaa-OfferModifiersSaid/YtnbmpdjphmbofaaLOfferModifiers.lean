/- The walk of OfferModifiers: for all arguments it returns true and leaves what was there as it was. -/
import Derived.Test.YtnbmpdjphmbofaaLOfferActions
set_option linter.unusedVariables false
set_option linter.unusedSimpArgs false
namespace Go.Proofs.Ytnbmpdjphmbofaa
open Go.RowKit

theorem and3 (a b : Bool) : a = false ∨ (a = true ∧ b = false) ∨ (a = true ∧ b = true) := by cases a <;> cases b <;> simp
theorem mods1 {s t p m : Int} (h4 : (bits BinOp.and IntKind.i64 m 4 != 0) = true) (h1 : (bits BinOp.and IntKind.i64 (commonV s t) 1 != 0) = true) : actionV s t p m = 1 := by
  rw [action_eq]
  have hr := common8 s t
  generalize commonV s t = c at hr h1
  unfold uactionV
  have hc : (c == 0) = false := by
    rw [beq_eq_false_iff_ne]
    rintro rfl
    exact absurd h1 (by decide)
  rw [h4, h1, hc]
  rfl
theorem mods2 {s t p m : Int} (h4 : ((bits BinOp.and IntKind.i64 m 4 != 0) && (bits BinOp.and IntKind.i64 (commonV s t) 1 != 0)) = false) (h1 : (bits BinOp.and IntKind.i64 m 1 != 0) = true) (h2 : (bits BinOp.and IntKind.i64 (commonV s t) 2 != 0) = true) : actionV s t p m = 2 := by
  rw [action_eq]
  have hr := common8 s t
  generalize commonV s t = c at hr h2 h4
  unfold uactionV
  have hc : (c == 0) = false := by
    rw [beq_eq_false_iff_ne]
    rintro rfl
    exact absurd h2 (by decide)
  rw [h4, h1, h2, hc]
  rfl
theorem mods3 {s t p m : Int} (h4 : ((bits BinOp.and IntKind.i64 m 4 != 0) && (bits BinOp.and IntKind.i64 (commonV s t) 1 != 0)) = false) (h1 : ((bits BinOp.and IntKind.i64 m 1 != 0) && (bits BinOp.and IntKind.i64 (commonV s t) 2 != 0)) = false)
    (hs : singleV p = true) (hp : (bits BinOp.and IntKind.i64 (commonV s t) p != 0) = true) : actionV s t p m = p := by
  rw [action_eq]
  have hr := common8 s t
  generalize commonV s t = c at hr h1 h4 hp
  unfold uactionV
  have hc : (c == 0) = false := by
    rw [beq_eq_false_iff_ne]
    rintro rfl
    rcases single_iff hs with rfl | rfl | rfl <;> exact absurd hp (by decide)
  rw [h4, h1, hs, hp, hc]
  rfl
theorem mods4 {s t p m : Int} (h4 : ((bits BinOp.and IntKind.i64 m 4 != 0) && (bits BinOp.and IntKind.i64 (commonV s t) 1 != 0)) = false) (h1 : ((bits BinOp.and IntKind.i64 m 1 != 0) && (bits BinOp.and IntKind.i64 (commonV s t) 2 != 0)) = false)
    (hs : (singleV p && (bits BinOp.and IntKind.i64 (commonV s t) p != 0)) = false) : actionV s t p m = actionV (commonV s t) 7 0 0 := by
  rw [action_eq, action_eq (commonV s t) 7 0 0]
  have hr := common8 s t
  generalize commonV s t = c at hr h1 h4 hs
  unfold uactionV
  rw [h4, h1, hs]
  rcases range8 hr with rfl | rfl | rfl | rfl | rfl | rfl | rfl | rfl <;> rfl

set_option maxRecDepth 100000 in
set_option maxHeartbeats 8000000 in
theorem modw1 (s t p m : Int) (w : World) (h4 : (bits BinOp.and IntKind.i64 m 4 != 0) = true) (h1 : (bits BinOp.and IntKind.i64 (bits BinOp.and IntKind.i64 (bits BinOp.and IntKind.i64 s t) 7) 1 != 0) = true) :
    Calls Try.prog 6 #[.agg #[.int .i64 s, .int .i64 t, .int .i64 p, .int .i64 m]] w fun e w' => e = .returned (.bool true) ∧ Same w w' := by
  have HV := Lib.hid (mods1 (s := s) (t := t) (p := p) h4 h1)
  go_enter Try.func6, Try.ntmps6
  go_wp2_with fail
  refine (action_v 1 s t p m _ HV.out).mono ?_
  rintro e w1 ⟨rfl, hs1⟩
  have HS1 := Lib.hid (((Chg.refl (fun _ => False) w).alloc (askBox s t p m)).trans hs1)
  have q3 := (ask_cells hs1).2.2.2
  have q2 := (ask_cells hs1).2.2.1
  have q0 := (ask_cells hs1).1
  have q1 := (ask_cells hs1).2.1
  clear hs1
  go_wp2_with fail
  refine (example40_ok _).mono ?_
  rintro e w2 ⟨rfl, hs2⟩
  have HS2 := Lib.hid (HS1.out.trans hs2)
  clear hs2
  go_wp2
  go_ret
  exact ⟨rfl, HS2.out⟩
theorem and_of {a b : Bool} (h : a = false ∨ a = true ∧ b = false) : (a && b) = false := by
  rcases h with h | ⟨h, k⟩
  · rw [h]; rfl
  · rw [h, k]; rfl
set_option maxRecDepth 100000 in
set_option maxHeartbeats 8000000 in
theorem modw2 (s t p m : Int) (w : World) (h4 : (bits BinOp.and IntKind.i64 m 4 != 0) = false ∨ (bits BinOp.and IntKind.i64 m 4 != 0) = true ∧ (bits BinOp.and IntKind.i64 (bits BinOp.and IntKind.i64 (bits BinOp.and IntKind.i64 s t) 7) 1 != 0) = false) (h5 : (bits BinOp.and IntKind.i64 m 1 != 0) = true) (h2 : (bits BinOp.and IntKind.i64 (bits BinOp.and IntKind.i64 (bits BinOp.and IntKind.i64 s t) 7) 2 != 0) = true) :
    Calls Try.prog 6 #[.agg #[.int .i64 s, .int .i64 t, .int .i64 p, .int .i64 m]] w fun e w' => e = .returned (.bool true) ∧ Same w w' := by
  have HV := Lib.hid (mods2 (s := s) (t := t) (p := p) (and_of h4) h5 h2)
  rcases h4 with h4 | ⟨h4, h1⟩
  all_goals
    go_enter Try.func6, Try.ntmps6
    go_wp2_with fail
    refine (action_v 2 s t p m _ HV.out).mono ?_
    rintro e w1 ⟨rfl, hs1⟩
    have HS1 := Lib.hid (((Chg.refl (fun _ => False) w).alloc (askBox s t p m)).trans hs1)
    have q3 := (ask_cells hs1).2.2.2
    have q2 := (ask_cells hs1).2.2.1
    have q0 := (ask_cells hs1).1
    have q1 := (ask_cells hs1).2.1
    clear hs1
    go_wp2_with fail
    refine (example40_ok _).mono ?_
    rintro e w2 ⟨rfl, hs2⟩
    have HS2 := Lib.hid (HS1.out.trans hs2)
    clear hs2
    go_wp2
    go_ret
    exact ⟨rfl, HS2.out⟩
set_option maxRecDepth 100000 in
set_option maxHeartbeats 8000000 in
theorem modw3_1 (s t m : Int) (w : World) (h4 : (bits BinOp.and IntKind.i64 m 4 != 0) = false ∨ (bits BinOp.and IntKind.i64 m 4 != 0) = true ∧ (bits BinOp.and IntKind.i64 (bits BinOp.and IntKind.i64 (bits BinOp.and IntKind.i64 s t) 7) 1 != 0) = false) (h5 : (bits BinOp.and IntKind.i64 m 1 != 0) = false ∨ (bits BinOp.and IntKind.i64 m 1 != 0) = true ∧ (bits BinOp.and IntKind.i64 (bits BinOp.and IntKind.i64 (bits BinOp.and IntKind.i64 s t) 7) 2 != 0) = false) (hp : (bits BinOp.and IntKind.i64 (bits BinOp.and IntKind.i64 (bits BinOp.and IntKind.i64 s t) 7) 1 != 0) = true) :
    Calls Try.prog 6 #[.agg #[.int .i64 s, .int .i64 t, .int .i64 1, .int .i64 m]] w fun e w' => e = .returned (.bool true) ∧ Same w w' := by
  have HV := Lib.hid (mods3 (s := s) (t := t) (p := 1) (and_of h4) (and_of h5) rfl hp)
  rcases h4 with h4 | ⟨h4, h1⟩ <;> rcases h5 with h5 | ⟨h5, h2⟩
  all_goals
    try (have := hp.symm.trans h1; contradiction)
    try (have := hp.symm.trans h2; contradiction)
  all_goals
    go_enter Try.func6, Try.ntmps6
    go_wp2_with fail
    refine (action_v _ s t 1 m _ HV.out).mono ?_
    rintro e w1 ⟨rfl, hs1⟩
    have HS1 := Lib.hid (((Chg.refl (fun _ => False) w).alloc (askBox s t 1 m)).trans hs1)
    have q3 := (ask_cells hs1).2.2.2
    have q2 := (ask_cells hs1).2.2.1
    have q0 := (ask_cells hs1).1
    have q1 := (ask_cells hs1).2.1
    clear hs1
    go_wp2_with fail
    refine (example40_ok _).mono ?_
    rintro e w2 ⟨rfl, hs2⟩
    have HS2 := Lib.hid (HS1.out.trans hs2)
    clear hs2
    go_wp2
    go_ret
    exact ⟨rfl, HS2.out⟩
set_option maxRecDepth 100000 in
set_option maxHeartbeats 8000000 in
theorem modw4_1 (s t m : Int) (w : World) (h4 : (bits BinOp.and IntKind.i64 m 4 != 0) = false ∨ (bits BinOp.and IntKind.i64 m 4 != 0) = true ∧ (bits BinOp.and IntKind.i64 (bits BinOp.and IntKind.i64 (bits BinOp.and IntKind.i64 s t) 7) 1 != 0) = false) (h5 : (bits BinOp.and IntKind.i64 m 1 != 0) = false ∨ (bits BinOp.and IntKind.i64 m 1 != 0) = true ∧ (bits BinOp.and IntKind.i64 (bits BinOp.and IntKind.i64 (bits BinOp.and IntKind.i64 s t) 7) 2 != 0) = false) (hp : (bits BinOp.and IntKind.i64 (bits BinOp.and IntKind.i64 (bits BinOp.and IntKind.i64 s t) 7) 1 != 0) = false) :
    Calls Try.prog 6 #[.agg #[.int .i64 s, .int .i64 t, .int .i64 1, .int .i64 m]] w fun e w' => e = .returned (.bool true) ∧ Same w w' := by
  obtain ⟨v, hv⟩ : ∃ v, actionV s t 1 m = v := ⟨_, rfl⟩
  have HV := Lib.hid hv
  have HV4 : Hid (actionV (bits BinOp.and IntKind.i64 (bits BinOp.and IntKind.i64 s t) 7) 7 0 0 = v) := Lib.hid ((mods4 (s := s) (t := t) (p := 1) (and_of h4) (and_of h5) hp).symm.trans hv)
  clear hv
  rcases h4 with h4 | ⟨h4, h1⟩ <;> rcases h5 with h5 | ⟨h5, h2⟩
  all_goals
    go_enter Try.func6, Try.ntmps6
    go_wp2_with fail
    refine (action_v v s t 1 m _ HV.out).mono ?_
    rintro e w1 ⟨rfl, hs1⟩
    have HS1 := Lib.hid (((Chg.refl (fun _ => False) w).alloc (askBox s t 1 m)).trans hs1)
    have q3 := (ask_cells hs1).2.2.2
    have q2 := (ask_cells hs1).2.2.1
    have q0 := (ask_cells hs1).1
    have q1 := (ask_cells hs1).2.1
    clear hs1
    go_wp2_with fail
    refine (action_v v _ 7 0 0 _ HV4.out).mono ?_
    rintro e w2 ⟨rfl, hs2⟩
    have HS2 := Lib.hid (HS1.out.trans hs2)
    clear hs2
    go_wp2_with fail
    refine (example40_ok _).mono ?_
    rintro e w3 ⟨rfl, hs3⟩
    have HS3 := Lib.hid (HS2.out.trans hs3)
    clear hs3
    go_wp2
    go_ret
    exact ⟨rfl, HS3.out⟩
set_option maxRecDepth 100000 in
set_option maxHeartbeats 8000000 in
theorem modw3_2 (s t m : Int) (w : World) (h4 : (bits BinOp.and IntKind.i64 m 4 != 0) = false ∨ (bits BinOp.and IntKind.i64 m 4 != 0) = true ∧ (bits BinOp.and IntKind.i64 (bits BinOp.and IntKind.i64 (bits BinOp.and IntKind.i64 s t) 7) 1 != 0) = false) (h5 : (bits BinOp.and IntKind.i64 m 1 != 0) = false ∨ (bits BinOp.and IntKind.i64 m 1 != 0) = true ∧ (bits BinOp.and IntKind.i64 (bits BinOp.and IntKind.i64 (bits BinOp.and IntKind.i64 s t) 7) 2 != 0) = false) (hp : (bits BinOp.and IntKind.i64 (bits BinOp.and IntKind.i64 (bits BinOp.and IntKind.i64 s t) 7) 2 != 0) = true) :
    Calls Try.prog 6 #[.agg #[.int .i64 s, .int .i64 t, .int .i64 2, .int .i64 m]] w fun e w' => e = .returned (.bool true) ∧ Same w w' := by
  have HV := Lib.hid (mods3 (s := s) (t := t) (p := 2) (and_of h4) (and_of h5) rfl hp)
  rcases h4 with h4 | ⟨h4, h1⟩ <;> rcases h5 with h5 | ⟨h5, h2⟩
  all_goals
    try (have := hp.symm.trans h1; contradiction)
    try (have := hp.symm.trans h2; contradiction)
  all_goals
    go_enter Try.func6, Try.ntmps6
    go_wp2_with fail
    refine (action_v _ s t 2 m _ HV.out).mono ?_
    rintro e w1 ⟨rfl, hs1⟩
    have HS1 := Lib.hid (((Chg.refl (fun _ => False) w).alloc (askBox s t 2 m)).trans hs1)
    have q3 := (ask_cells hs1).2.2.2
    have q2 := (ask_cells hs1).2.2.1
    have q0 := (ask_cells hs1).1
    have q1 := (ask_cells hs1).2.1
    clear hs1
    go_wp2_with fail
    refine (example40_ok _).mono ?_
    rintro e w2 ⟨rfl, hs2⟩
    have HS2 := Lib.hid (HS1.out.trans hs2)
    clear hs2
    go_wp2
    go_ret
    exact ⟨rfl, HS2.out⟩
set_option maxRecDepth 100000 in
set_option maxHeartbeats 8000000 in
theorem modw4_2 (s t m : Int) (w : World) (h4 : (bits BinOp.and IntKind.i64 m 4 != 0) = false ∨ (bits BinOp.and IntKind.i64 m 4 != 0) = true ∧ (bits BinOp.and IntKind.i64 (bits BinOp.and IntKind.i64 (bits BinOp.and IntKind.i64 s t) 7) 1 != 0) = false) (h5 : (bits BinOp.and IntKind.i64 m 1 != 0) = false ∨ (bits BinOp.and IntKind.i64 m 1 != 0) = true ∧ (bits BinOp.and IntKind.i64 (bits BinOp.and IntKind.i64 (bits BinOp.and IntKind.i64 s t) 7) 2 != 0) = false) (hp : (bits BinOp.and IntKind.i64 (bits BinOp.and IntKind.i64 (bits BinOp.and IntKind.i64 s t) 7) 2 != 0) = false) :
    Calls Try.prog 6 #[.agg #[.int .i64 s, .int .i64 t, .int .i64 2, .int .i64 m]] w fun e w' => e = .returned (.bool true) ∧ Same w w' := by
  obtain ⟨v, hv⟩ : ∃ v, actionV s t 2 m = v := ⟨_, rfl⟩
  have HV := Lib.hid hv
  have HV4 : Hid (actionV (bits BinOp.and IntKind.i64 (bits BinOp.and IntKind.i64 s t) 7) 7 0 0 = v) := Lib.hid ((mods4 (s := s) (t := t) (p := 2) (and_of h4) (and_of h5) hp).symm.trans hv)
  clear hv
  rcases h4 with h4 | ⟨h4, h1⟩ <;> rcases h5 with h5 | ⟨h5, h2⟩
  all_goals
    go_enter Try.func6, Try.ntmps6
    go_wp2_with fail
    refine (action_v v s t 2 m _ HV.out).mono ?_
    rintro e w1 ⟨rfl, hs1⟩
    have HS1 := Lib.hid (((Chg.refl (fun _ => False) w).alloc (askBox s t 2 m)).trans hs1)
    have q3 := (ask_cells hs1).2.2.2
    have q2 := (ask_cells hs1).2.2.1
    have q0 := (ask_cells hs1).1
    have q1 := (ask_cells hs1).2.1
    clear hs1
    go_wp2_with fail
    refine (action_v v _ 7 0 0 _ HV4.out).mono ?_
    rintro e w2 ⟨rfl, hs2⟩
    have HS2 := Lib.hid (HS1.out.trans hs2)
    clear hs2
    go_wp2_with fail
    refine (example40_ok _).mono ?_
    rintro e w3 ⟨rfl, hs3⟩
    have HS3 := Lib.hid (HS2.out.trans hs3)
    clear hs3
    go_wp2
    go_ret
    exact ⟨rfl, HS3.out⟩
set_option maxRecDepth 100000 in
set_option maxHeartbeats 8000000 in
theorem modw3_4 (s t m : Int) (w : World) (h4 : (bits BinOp.and IntKind.i64 m 4 != 0) = false ∨ (bits BinOp.and IntKind.i64 m 4 != 0) = true ∧ (bits BinOp.and IntKind.i64 (bits BinOp.and IntKind.i64 (bits BinOp.and IntKind.i64 s t) 7) 1 != 0) = false) (h5 : (bits BinOp.and IntKind.i64 m 1 != 0) = false ∨ (bits BinOp.and IntKind.i64 m 1 != 0) = true ∧ (bits BinOp.and IntKind.i64 (bits BinOp.and IntKind.i64 (bits BinOp.and IntKind.i64 s t) 7) 2 != 0) = false) (hp : (bits BinOp.and IntKind.i64 (bits BinOp.and IntKind.i64 (bits BinOp.and IntKind.i64 s t) 7) 4 != 0) = true) :
    Calls Try.prog 6 #[.agg #[.int .i64 s, .int .i64 t, .int .i64 4, .int .i64 m]] w fun e w' => e = .returned (.bool true) ∧ Same w w' := by
  have HV := Lib.hid (mods3 (s := s) (t := t) (p := 4) (and_of h4) (and_of h5) rfl hp)
  rcases h4 with h4 | ⟨h4, h1⟩ <;> rcases h5 with h5 | ⟨h5, h2⟩
  all_goals
    try (have := hp.symm.trans h1; contradiction)
    try (have := hp.symm.trans h2; contradiction)
  all_goals
    go_enter Try.func6, Try.ntmps6
    go_wp2_with fail
    refine (action_v _ s t 4 m _ HV.out).mono ?_
    rintro e w1 ⟨rfl, hs1⟩
    have HS1 := Lib.hid (((Chg.refl (fun _ => False) w).alloc (askBox s t 4 m)).trans hs1)
    have q3 := (ask_cells hs1).2.2.2
    have q2 := (ask_cells hs1).2.2.1
    have q0 := (ask_cells hs1).1
    have q1 := (ask_cells hs1).2.1
    clear hs1
    go_wp2_with fail
    refine (example40_ok _).mono ?_
    rintro e w2 ⟨rfl, hs2⟩
    have HS2 := Lib.hid (HS1.out.trans hs2)
    clear hs2
    go_wp2
    go_ret
    exact ⟨rfl, HS2.out⟩
set_option maxRecDepth 100000 in
set_option maxHeartbeats 8000000 in
theorem modw4_4 (s t m : Int) (w : World) (h4 : (bits BinOp.and IntKind.i64 m 4 != 0) = false ∨ (bits BinOp.and IntKind.i64 m 4 != 0) = true ∧ (bits BinOp.and IntKind.i64 (bits BinOp.and IntKind.i64 (bits BinOp.and IntKind.i64 s t) 7) 1 != 0) = false) (h5 : (bits BinOp.and IntKind.i64 m 1 != 0) = false ∨ (bits BinOp.and IntKind.i64 m 1 != 0) = true ∧ (bits BinOp.and IntKind.i64 (bits BinOp.and IntKind.i64 (bits BinOp.and IntKind.i64 s t) 7) 2 != 0) = false) (hp : (bits BinOp.and IntKind.i64 (bits BinOp.and IntKind.i64 (bits BinOp.and IntKind.i64 s t) 7) 4 != 0) = false) :
    Calls Try.prog 6 #[.agg #[.int .i64 s, .int .i64 t, .int .i64 4, .int .i64 m]] w fun e w' => e = .returned (.bool true) ∧ Same w w' := by
  obtain ⟨v, hv⟩ : ∃ v, actionV s t 4 m = v := ⟨_, rfl⟩
  have HV := Lib.hid hv
  have HV4 : Hid (actionV (bits BinOp.and IntKind.i64 (bits BinOp.and IntKind.i64 s t) 7) 7 0 0 = v) := Lib.hid ((mods4 (s := s) (t := t) (p := 4) (and_of h4) (and_of h5) hp).symm.trans hv)
  clear hv
  rcases h4 with h4 | ⟨h4, h1⟩ <;> rcases h5 with h5 | ⟨h5, h2⟩
  all_goals
    go_enter Try.func6, Try.ntmps6
    go_wp2_with fail
    refine (action_v v s t 4 m _ HV.out).mono ?_
    rintro e w1 ⟨rfl, hs1⟩
    have HS1 := Lib.hid (((Chg.refl (fun _ => False) w).alloc (askBox s t 4 m)).trans hs1)
    have q3 := (ask_cells hs1).2.2.2
    have q2 := (ask_cells hs1).2.2.1
    have q0 := (ask_cells hs1).1
    have q1 := (ask_cells hs1).2.1
    clear hs1
    go_wp2_with fail
    refine (action_v v _ 7 0 0 _ HV4.out).mono ?_
    rintro e w2 ⟨rfl, hs2⟩
    have HS2 := Lib.hid (HS1.out.trans hs2)
    clear hs2
    go_wp2_with fail
    refine (example40_ok _).mono ?_
    rintro e w3 ⟨rfl, hs3⟩
    have HS3 := Lib.hid (HS2.out.trans hs3)
    clear hs3
    go_wp2
    go_ret
    exact ⟨rfl, HS3.out⟩
set_option maxRecDepth 100000 in
set_option maxHeartbeats 8000000 in
theorem modw5 (s t p m : Int) (w : World) (h4 : (bits BinOp.and IntKind.i64 m 4 != 0) = false ∨ (bits BinOp.and IntKind.i64 m 4 != 0) = true ∧ (bits BinOp.and IntKind.i64 (bits BinOp.and IntKind.i64 (bits BinOp.and IntKind.i64 s t) 7) 1 != 0) = false) (h5 : (bits BinOp.and IntKind.i64 m 1 != 0) = false ∨ (bits BinOp.and IntKind.i64 m 1 != 0) = true ∧ (bits BinOp.and IntKind.i64 (bits BinOp.and IntKind.i64 (bits BinOp.and IntKind.i64 s t) 7) 2 != 0) = false) (hs : singleV p = false) :
    Calls Try.prog 6 #[.agg #[.int .i64 s, .int .i64 t, .int .i64 p, .int .i64 m]] w fun e w' => e = .returned (.bool true) ∧ Same w w' := by
  obtain ⟨v, hv⟩ : ∃ v, actionV s t p m = v := ⟨_, rfl⟩
  have HV := Lib.hid hv
  have HV4 : Hid (actionV (bits BinOp.and IntKind.i64 (bits BinOp.and IntKind.i64 s t) 7) 7 0 0 = v) := Lib.hid ((mods4 (s := s) (t := t) (p := p) (and_of h4) (and_of h5) (by rw [hs]; rfl)).symm.trans hv)
  have hn : ((p == 1) = false ∧ (p == 2) = false) ∧ (p == 4) = false := by
    unfold singleV at hs
    simpa only [Bool.or_eq_false_iff] using hs
  obtain ⟨⟨n1, n2⟩, n4⟩ := hn
  clear hv hs
  rcases h4 with h4 | ⟨h4, h1⟩ <;> rcases h5 with h5 | ⟨h5, h2⟩
  all_goals
    go_enter Try.func6, Try.ntmps6
    go_wp2_with fail
    refine (action_v v s t p m _ HV.out).mono ?_
    rintro e w1 ⟨rfl, hs1⟩
    have HS1 := Lib.hid (((Chg.refl (fun _ => False) w).alloc (askBox s t p m)).trans hs1)
    have q3 := (ask_cells hs1).2.2.2
    have q2 := (ask_cells hs1).2.2.1
    have q0 := (ask_cells hs1).1
    have q1 := (ask_cells hs1).2.1
    clear hs1
    go_wp2_with fail
    refine (action_v v _ 7 0 0 _ HV4.out).mono ?_
    rintro e w2 ⟨rfl, hs2⟩
    have HS2 := Lib.hid (HS1.out.trans hs2)
    clear hs2
    go_wp2_with fail
    refine (example40_ok _).mono ?_
    rintro e w3 ⟨rfl, hs3⟩
    have HS3 := Lib.hid (HS2.out.trans hs3)
    clear hs3
    go_wp2
    go_ret
    exact ⟨rfl, HS3.out⟩

theorem OfferModifiers_walk (x : AskArg) (w : World) : Calls Try.prog 6 #[.agg x.cells.toArray] w fun e w' => e = .returned (.bool true) ∧ Same w w' := by
  obtain ⟨s, t, p, m⟩ := x
  have h4 := and3 (bits BinOp.and IntKind.i64 m 4 != 0) (bits BinOp.and IntKind.i64 (bits BinOp.and IntKind.i64 (bits BinOp.and IntKind.i64 s t) 7) 1 != 0)
  have h5 := and3 (bits BinOp.and IntKind.i64 m 1 != 0) (bits BinOp.and IntKind.i64 (bits BinOp.and IntKind.i64 (bits BinOp.and IntKind.i64 s t) 7) 2 != 0)
  by_cases d4 : (bits BinOp.and IntKind.i64 m 4 != 0) = true ∧ (bits BinOp.and IntKind.i64 (bits BinOp.and IntKind.i64 (bits BinOp.and IntKind.i64 s t) 7) 1 != 0) = true
  · exact modw1 s t p m w d4.1 d4.2
  have h4' := h4.imp id (fun h => h.resolve_right d4)
  by_cases d5 : (bits BinOp.and IntKind.i64 m 1 != 0) = true ∧ (bits BinOp.and IntKind.i64 (bits BinOp.and IntKind.i64 (bits BinOp.and IntKind.i64 s t) 7) 2 != 0) = true
  · exact modw2 s t p m w h4' d5.1 d5.2
  have h5' := h5.imp id (fun h => h.resolve_right d5)
  cases hs : singleV p
  · exact modw5 s t p m w h4' h5' hs
  · cases hp : (bits BinOp.and IntKind.i64 (bits BinOp.and IntKind.i64 (bits BinOp.and IntKind.i64 s t) 7) p != 0)
    · rcases single_iff hs with rfl | rfl | rfl
      · exact modw4_1 s t m w h4' h5' hp
      · exact modw4_2 s t m w h4' h5' hp
      · exact modw4_4 s t m w h4' h5' hp
    · rcases single_iff hs with rfl | rfl | rfl
      · exact modw3_1 s t m w h4' h5' hp
      · exact modw3_2 s t m w h4' h5' hp
      · exact modw3_4 s t m w h4' h5' hp
end Go.Proofs.Ytnbmpdjphmbofaa
