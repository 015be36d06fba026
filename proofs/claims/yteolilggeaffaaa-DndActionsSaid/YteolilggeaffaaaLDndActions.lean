/- The walk of DndActions: for all arguments it returns true and leaves what was there as it was. -/
import Derived.Test.YteolilggeaffaaaLaws43
set_option linter.unusedVariables false
set_option linter.unusedSimpArgs false
set_option maxRecDepth 100000
namespace Go.Proofs.Yteolilggeaffaaa
open Go.RowKit

def dragM (fs : List ByteArray) (acts : Int) : DSt := ⟨1, fs, acts, 2, 8, ByteArray.empty, 0, 0, 2, true, 0, [], 0⟩
theorem dg_mv (fs : List ByteArray) (acts a p : Int) : DSt.mv (dragE fs acts ByteArray.empty a p) 2 8 0 = dragM fs acts := by rfl
theorem dg_actM (fs : List ByteArray) (acts : Int) : (dragM fs acts).act = 0 := by
  unfold DSt.act
  rw [if_neg (by show ¬ ((1 : Int) = 0 ∨ (8 : Int) = 0); omega)]
  exact act_zero acts 0 0
theorem setOk_eq (a p : Int) : setActOk a p = (decide (0 ≤ a ∧ a ≤ 7) && (decide (p = 0) || (singleV p && decide (bits .and .i64 a p ≠ 0)))) := by
  rfl
set_option maxHeartbeats 8000000 in
theorem DndActions_walk (x : OArg) (a p : Int) (w : World) (h : x.ok w) :
    Calls Try.prog 4 #[.agg x.cells.toArray, .int .i64 a, .int .i64 p] w fun e w' => e = .returned (.bool true) ∧ Same w w' := by
  obtain ⟨A, n, cap, fs, acts⟩ := x
  have HX := Lib.hid h
  have HW := Lib.hid ((Chg.refl (fun _ => False) w).alloc (.cells #[.slice A n cap, .int .i64 acts] 24))
  have hnl : n ≤ 9223372036854775807 := by
    have h1 : n ≤ cap ∧ cap ≤ maxLen := h.1.2
    unfold maxLen at h1
    omega
  clear h
  show Calls Try.prog 4 #[.agg #[.slice A n cap, .int .i64 acts], .int .i64 a, .int .i64 p] w _
  go_enter Try.func4, Try.ntmps4
  go_wp2_with fail
  refine (small_ok ⟨A, n, cap, fs, acts⟩ _ (HX.out.same HW.out)).mono ?_
  rintro e w1 ⟨v, rfl, hs, hsm⟩
  have HS1 := Lib.hid hs
  have HBOX := Lib.hid (hs.at_ (at_new w (.cells #[.slice A n cap, .int .i64 acts] 24)) (fun q => q))
  obtain ⟨k0, k1⟩ := box_cells HBOX.out
  have kl := lt_of_at HBOX.out
  clear hs
  cases v
  · clear hsm
    go_wp2_with fail
    refine (example43_ok _).mono ?_
    rintro e w9 ⟨rfl, hs⟩
    have HS9 := Lib.hid hs
    clear hs
    go_wp2
    go_ret
    exact ⟨rfl, (HW.out.trans HS1.out).trans HS9.out⟩
  have HSM := Lib.hid (hsm rfl)
  clear hsm
  go_wp2_with fail
  refine (ls_dragging ⟨A, n, cap, fs, acts⟩ _ (HX.out.same (HW.out.trans HS1.out)) HSM.out.1).mono ?_
  rintro e w2 ⟨sb, lb, b, R, rfl, hl⟩
  have HL := Lib.hid hl
  have hl0 := HL.out.at_.lt
  clear hl
  have KEEP := Lib.hid (fun (w' : World) (h1 : SessAt w' sb lb b 0 none 0 0) (h2 : Same w1 w') => And.intro h1.cells.2.1 (And.intro (h2.cell k0 (fun q => q)) (h2.cell k1 (fun q => q))))
  clear k0 k1 kl
  go_upto_region 6 with (fail)
  go_cut [9] from 23 to 33 (fun v9 wx => v9 = .bool (singleV p) ∧ wx = w2)
  case first =>
    by_cases h1 : p = 1
    · subst h1
      go_wp2_with fail
      go_meet
      case rel => exact ⟨rfl, rfl⟩
    · by_cases h2 : p = 2
      · subst h2
        go_wp2_with fail
        go_meet
        case rel => exact ⟨rfl, rfl⟩
      · by_cases h4 : p = 4
        · subst h4
          go_wp2_with fail
          go_meet
          case rel => exact ⟨rfl, rfl⟩
        · have hs : singleV p = false := by unfold singleV; simp [h1, h2, h4]
          have e1 : (p == 1) = false := by simp [h1]
          have e2 : (p == 2) = false := by simp [h2]
          have e4 : (p == 4) = false := by simp [h4]
          have HSI := Lib.hid hs
          clear h1 h2 h4 hs
          go_wp2_with fail
          go_meet
          case rel => rw [HSI.out]; exact ⟨rfl, rfl⟩
  case rest =>
    obtain ⟨rfl, e⟩ := hcut
    have e := e.symm
    subst e
    go_upto_region 7 with (fail)
    go_cut [9, 10] from 33 to 52 (fun v9 v10 wx => v10 = .bool (setActOk a p) ∧ wx = w2)
    case first =>
      have HSE := Lib.hid (setOk_eq a p)
      by_cases h0 : 0 ≤ a
      · by_cases h7 : a ≤ 7
        · by_cases hp : p = 0
          · subst hp
            have HQ : Hid (setActOk a 0 = true) := Lib.hid (by rw [HSE.out, decide_eq_true (And.intro h0 h7)]; rfl)
            go_wp2_with fail
            go_meet
            case rel => rw [HQ.out]; exact ⟨rfl, rfl⟩
          · have hpb : (p == 0) = false := by simp [hp]
            cases hs : singleV p
            · have HQ : Hid (setActOk a p = false) := Lib.hid (by rw [HSE.out, hs, decide_eq_false hp]; simp)
              clear hs hp
              go_wp2_with fail
              go_meet
              case rel => rw [HQ.out]; exact ⟨rfl, rfl⟩
            · by_cases hb : bits .and .i64 a p = 0
              · have HQ : Hid (setActOk a p = false) := Lib.hid (by rw [HSE.out, hs, decide_eq_false hp, decide_eq_false (show ¬ (bits .and .i64 a p ≠ 0) from fun q => q hb)]; simp)
                have hbb : (bits .and .i64 a p != 0) = false := by simp [hb]
                have hbc : (bits .and .i64 a p == 0) = true := by simp [hb]
                clear hs hp hb
                go_wp2_with fail
                go_meet
                case rel => rw [HQ.out]; exact ⟨rfl, rfl⟩
              · have HQ : Hid (setActOk a p = true) := Lib.hid (by rw [HSE.out, hs, decide_eq_false hp, decide_eq_true (show bits .and .i64 a p ≠ 0 from hb), decide_eq_true (And.intro h0 h7)]; rfl)
                have hbb : (bits .and .i64 a p != 0) = true := by simp [hb]
                have hbc : (bits .and .i64 a p == 0) = false := by simp [hb]
                clear hs hp hb
                go_wp2_with fail
                go_meet
                case rel => rw [HQ.out]; exact ⟨rfl, rfl⟩
        · have HQ : Hid (setActOk a p = false) := Lib.hid (by rw [HSE.out, decide_eq_false (fun q => h7 q.2)]; rfl)
          go_wp2_with fail
          go_meet
          case rel => rw [HQ.out]; exact ⟨rfl, rfl⟩
      · have HQ : Hid (setActOk a p = false) := Lib.hid (by rw [HSE.out, decide_eq_false (fun q => h0 q.1)]; rfl)
        go_wp2_with fail
        go_meet
        case rel => rw [HQ.out]; exact ⟨rfl, rfl⟩
    case rest =>
      obtain ⟨rfl, e⟩ := hcut
      have e := e.symm
      subst e
      cases hok : setActOk a p
      · have HOK := Lib.hid (show setActOk a p = false from hok)
        clear hok
        have hc1 := HL.out.at_.cells.2.1
        have hl1 := HL.out.at_.lt
        go_wp2_with fail
        refine (ls_setact (dragE fs acts ByteArray.empty 0 0) 2 2 a p HL.out ((dg_setact ByteArray.empty a p).1.trans (by rw [HOK.out]; rfl)) ((dg_setact ByteArray.empty a p).2.trans (by rw [HOK.out]; rfl))).mono ?_
        rintro e w2 ⟨rfl, hl, _⟩
        have HL := Lib.hid hl; clear hl
        clear hc1 hl1
        have hc1 := HL.out.at_.cells.2.1
        have hl1 := HL.out.at_.lt
        go_wp2_with fail
        refine (ls_action 0 HL.out dg_act).mono ?_
        rintro e w2 ⟨rfl, hl, _⟩
        have HL := Lib.hid hl; clear hl
        clear hc1 hl1
        go_wp2_with fail
        have HL := Lib.hid (HL.out.keep ((Chg.refl (fun _ => False) _).drew))
        have hcel := KEEP.out _ HL.out.at_ HL.out.same
        refine region_path (S := (fun w' => w'.cell? ⟨sb, 1, none⟩ = some (.pointer (some ⟨b, 0, none⟩)) ∧ w'.cell? ⟨w.heap.size, 0, none⟩ = some (.slice A n cap) ∧ w'.cell? ⟨w.heap.size, 1, none⟩ = some (.int .i64 acts))) 99 [(0, true), (1, true), (2, true), (3, true), (4, true), (5, true), (7, true), (8, true), (9, true), (10, true), (6, false), (11, false), (12, true), (13, true)] (by kernel_rfl) (by kernel_rfl) (by kernel_rfl) hcel ?_
        refine path_read (i := 0) (v := ?v1_0) rfl (by rfl) (fun _ _ _ h => h) ?hy1_0 ?_
        case hy1_0 => ((intro w hSw; (try dsimp only at hSw); go_simp) <;> (try with_reducible rfl))
        try simp only [Act.put, List.setIfInBounds_toArray, List.set_cons_zero, List.set_cons_succ]
        refine path_read (i := 1) (v := ?v1_1) rfl (by rfl) (fun _ _ _ h => h) ?hy1_1 ?_
        case hy1_1 => ((intro w hSw; (try dsimp only at hSw); go_simp) <;> (try with_reducible rfl))
        try simp only [Act.put, List.setIfInBounds_toArray, List.set_cons_zero, List.set_cons_succ]
        refine path_pass (i := 2) rfl (by rfl) (fun _ _ _ h => h) ?_
        try simp only [Act.put, List.setIfInBounds_toArray, List.set_cons_zero, List.set_cons_succ]
        refine path_pass (i := 3) rfl (by rfl) (fun _ _ _ h => h) ?_
        try simp only [Act.put, List.setIfInBounds_toArray, List.set_cons_zero, List.set_cons_succ]
        refine path_pass (i := 4) rfl (by rfl) (fun _ _ _ h => h) ?_
        try simp only [Act.put, List.setIfInBounds_toArray, List.set_cons_zero, List.set_cons_succ]
        refine path_pass (i := 5) rfl (by rfl) (fun _ _ _ h => h) ?_
        try simp only [Act.put, List.setIfInBounds_toArray, List.set_cons_zero, List.set_cons_succ]
        refine path_pass (i := 7) rfl (by rfl) (fun _ _ _ h => h) ?_
        try simp only [Act.put, List.setIfInBounds_toArray, List.set_cons_zero, List.set_cons_succ]
        refine path_pass (i := 8) rfl (by rfl) (fun _ _ _ h => h) ?_
        try simp only [Act.put, List.setIfInBounds_toArray, List.set_cons_zero, List.set_cons_succ]
        refine path_pass (i := 9) rfl (by rfl) (fun _ _ _ h => h) ?_
        try simp only [Act.put, List.setIfInBounds_toArray, List.set_cons_zero, List.set_cons_succ]
        refine path_pass (i := 10) rfl (by rfl) (fun _ _ _ h => h) ?_
        try simp only [Act.put, List.setIfInBounds_toArray, List.set_cons_zero, List.set_cons_succ]
        refine path_do (i := 6) rfl ?_
        go_wp2_with ((first | (go_at_call 15; go_loud (refine (ls_action (actionV acts a p 0) HL.out (dg_act2 ByteArray.empty a p)).mono ?_; rintro e w2 ⟨rfl, hl, _⟩; have HL := Lib.hid hl; clear hl)) | (go_at_call 19; go_loud (refine (uaction_ok acts a p 0 _).mono ?_; rintro e w2 ⟨rfl, rfl⟩; skip))))
        (first | refine ⟨.inr ?keep1_6, ?_⟩ | refine ⟨?keep1_6, ?_⟩)
        case keep1_6 => (exact KEEP.out _ HL.out.at_ HL.out.same)
        try simp only [Act.put, List.setIfInBounds_toArray, List.set_cons_zero, List.set_cons_succ]
        refine path_do (i := 11) rfl ?_
        go_wp2_with ((first | (go_at_call 15; go_loud (refine (ls_action (actionV acts a p 0) HL.out (dg_act2 ByteArray.empty a p)).mono ?_; rintro e w2 ⟨rfl, hl, _⟩; have HL := Lib.hid hl; clear hl)) | (go_at_call 19; go_loud (refine (uaction_ok acts a p 0 _).mono ?_; rintro e w2 ⟨rfl, rfl⟩; skip))))
        (first | refine ⟨.inr ?keep1_11, ?_⟩ | refine ⟨?keep1_11, ?_⟩)
        case keep1_11 => (exact KEEP.out _ HL.out.at_ HL.out.same)
        try simp only [Act.put, List.setIfInBounds_toArray, List.set_cons_zero, List.set_cons_succ]
        refine path_pass (i := 12) rfl (by rfl) (fun _ _ _ h => h) ?_
        try simp only [Act.put, List.setIfInBounds_toArray, List.set_cons_zero, List.set_cons_succ]
        refine path_read (i := 13) (v := ?v1_13) rfl (by rfl) (fun _ _ _ h => h) ?hy1_13 ?_
        case hy1_13 => ((intro w hSw; (try dsimp only at hSw); go_simp) <;> (try with_reducible rfl))
        try simp only [Act.put, List.setIfInBounds_toArray, List.set_cons_zero, List.set_cons_succ]
        refine path_end ?_
        clear hcel
        have hc1 := HL.out.at_.cells.2.1
        have hl1 := HL.out.at_.lt
        go_wp2_with fail
        refine (ls_move (dragM fs acts) _ _ 2 8 0 0 0 HL.out (by show 1 < 1000000; omega) (by omega) (by omega) (dg_mv fs acts 0 0) rfl rfl).mono ?_
        rintro e w2 ⟨v, rfl, _, hl, _⟩
        have HL := Lib.hid hl; clear hl
        clear hc1 hl1
        have hc1 := HL.out.at_.cells.2.1
        have hl1 := HL.out.at_.lt
        go_wp2_with fail
        refine (ls_action 0 HL.out (dg_actM fs acts)).mono ?_
        rintro e w2 ⟨rfl, hl, _⟩
        have HL := Lib.hid hl; clear hl
        clear hc1 hl1
        have hc1 := HL.out.at_.cells.2.1
        have hl1 := HL.out.at_.lt
        go_wp2_with fail
        refine (ls_state 1 HL.out rfl).mono ?_
        rintro e w2 ⟨rfl, rfl⟩
        clear hc1 hl1
        go_wp2_with fail
        refine (example43_ok _).mono ?_
        rintro e w9 ⟨rfl, hs⟩
        have HS9 := Lib.hid hs
        clear hs
        go_wp2
        go_ret
        exact ⟨rfl, (HW.out.trans HS1.out).trans (HL.out.same.trans HS9.out)⟩
      · have HOK := Lib.hid (show setActOk a p = true from hok)
        clear hok
        have hc1 := HL.out.at_.cells.2.1
        have hl1 := HL.out.at_.lt
        go_wp2_with fail
        refine (ls_setact (dragE fs acts ByteArray.empty a p) 0 2 a p HL.out ((dg_setact ByteArray.empty a p).1.trans (by rw [HOK.out]; rfl)) ((dg_setact ByteArray.empty a p).2.trans (by rw [HOK.out]; rfl))).mono ?_
        rintro e w2 ⟨rfl, hl, _⟩
        have HL := Lib.hid hl; clear hl
        clear hc1 hl1
        go_wp2_with fail
        have HL := Lib.hid (HL.out.keep ((Chg.refl (fun _ => False) _).drew))
        have hcel := KEEP.out _ HL.out.at_ HL.out.same
        refine region_path (S := (fun w' => w'.cell? ⟨sb, 1, none⟩ = some (.pointer (some ⟨b, 0, none⟩)) ∧ w'.cell? ⟨w.heap.size, 0, none⟩ = some (.slice A n cap) ∧ w'.cell? ⟨w.heap.size, 1, none⟩ = some (.int .i64 acts))) 99 [(0, true), (1, true), (2, true), (3, true), (4, true), (5, true), (7, true), (8, true), (9, true), (10, true), (6, false), (11, false), (12, true), (13, true)] (by kernel_rfl) (by kernel_rfl) (by kernel_rfl) hcel ?_
        refine path_read (i := 0) (v := ?v2_0) rfl (by rfl) (fun _ _ _ h => h) ?hy2_0 ?_
        case hy2_0 => ((intro w hSw; (try dsimp only at hSw); go_simp) <;> (try with_reducible rfl))
        try simp only [Act.put, List.setIfInBounds_toArray, List.set_cons_zero, List.set_cons_succ]
        refine path_read (i := 1) (v := ?v2_1) rfl (by rfl) (fun _ _ _ h => h) ?hy2_1 ?_
        case hy2_1 => ((intro w hSw; (try dsimp only at hSw); go_simp) <;> (try with_reducible rfl))
        try simp only [Act.put, List.setIfInBounds_toArray, List.set_cons_zero, List.set_cons_succ]
        refine path_read (i := 2) (v := ?v2_2) rfl (by rfl) (fun _ _ _ h => h) ?hy2_2 ?_
        case hy2_2 => ((intro w hSw; (try dsimp only at hSw); go_simp) <;> (try with_reducible rfl))
        try simp only [Act.put, List.setIfInBounds_toArray, List.set_cons_zero, List.set_cons_succ]
        refine path_read (i := 3) (v := ?v2_3) rfl (by rfl) (fun _ _ _ h => h) ?hy2_3 ?_
        case hy2_3 => ((intro w hSw; (try dsimp only at hSw); go_simp) <;> (try with_reducible rfl))
        try simp only [Act.put, List.setIfInBounds_toArray, List.set_cons_zero, List.set_cons_succ]
        refine path_read (i := 4) (v := ?v2_4) rfl (by rfl) (fun _ _ _ h => h) ?hy2_4 ?_
        case hy2_4 => ((intro w hSw; (try dsimp only at hSw); go_simp) <;> (try with_reducible rfl))
        try simp only [Act.put, List.setIfInBounds_toArray, List.set_cons_zero, List.set_cons_succ]
        refine path_read (i := 5) (v := ?v2_5) rfl (by rfl) (fun _ _ _ h => h) ?hy2_5 ?_
        case hy2_5 => ((intro w hSw; (try dsimp only at hSw); go_simp) <;> (try with_reducible rfl))
        try simp only [Act.put, List.setIfInBounds_toArray, List.set_cons_zero, List.set_cons_succ]
        refine path_read (i := 7) (v := ?v2_7) rfl (by rfl) (fun _ _ _ h => h) ?hy2_7 ?_
        case hy2_7 => ((intro w hSw; (try dsimp only at hSw); go_simp) <;> (try with_reducible rfl))
        try simp only [Act.put, List.setIfInBounds_toArray, List.set_cons_zero, List.set_cons_succ]
        refine path_read (i := 8) (v := ?v2_8) rfl (by rfl) (fun _ _ _ h => h) ?hy2_8 ?_
        case hy2_8 => ((intro w hSw; (try dsimp only at hSw); go_simp) <;> (try with_reducible rfl))
        try simp only [Act.put, List.setIfInBounds_toArray, List.set_cons_zero, List.set_cons_succ]
        refine path_read (i := 9) (v := ?v2_9) rfl (by rfl) (fun _ _ _ h => h) ?hy2_9 ?_
        case hy2_9 => ((intro w hSw; (try dsimp only at hSw); go_simp) <;> (try with_reducible rfl))
        try simp only [Act.put, List.setIfInBounds_toArray, List.set_cons_zero, List.set_cons_succ]
        refine path_read (i := 10) (v := ?v2_10) rfl (by rfl) (fun _ _ _ h => h) ?hy2_10 ?_
        case hy2_10 => ((intro w hSw; (try dsimp only at hSw); go_simp) <;> (try with_reducible rfl))
        try simp only [Act.put, List.setIfInBounds_toArray, List.set_cons_zero, List.set_cons_succ]
        refine path_do (i := 6) rfl ?_
        go_wp2_with ((first | (go_at_call 15; go_loud (refine (ls_action (actionV acts a p 0) HL.out (dg_act2 ByteArray.empty a p)).mono ?_; rintro e w2 ⟨rfl, hl, _⟩; have HL := Lib.hid hl; clear hl)) | (go_at_call 19; go_loud (refine (uaction_ok acts a p 0 _).mono ?_; rintro e w2 ⟨rfl, rfl⟩; skip))))
        (first | refine ⟨.inr ?keep2_6, ?_⟩ | refine ⟨?keep2_6, ?_⟩)
        case keep2_6 => (exact KEEP.out _ HL.out.at_ HL.out.same)
        try simp only [Act.put, List.setIfInBounds_toArray, List.set_cons_zero, List.set_cons_succ]
        refine path_do (i := 11) rfl ?_
        go_wp2_with ((first | (go_at_call 15; go_loud (refine (ls_action (actionV acts a p 0) HL.out (dg_act2 ByteArray.empty a p)).mono ?_; rintro e w2 ⟨rfl, hl, _⟩; have HL := Lib.hid hl; clear hl)) | (go_at_call 19; go_loud (refine (uaction_ok acts a p 0 _).mono ?_; rintro e w2 ⟨rfl, rfl⟩; skip))))
        (first | refine ⟨.inr ?keep2_11, ?_⟩ | refine ⟨?keep2_11, ?_⟩)
        case keep2_11 => (exact KEEP.out _ HL.out.at_ HL.out.same)
        try simp only [Act.put, List.setIfInBounds_toArray, List.set_cons_zero, List.set_cons_succ]
        refine path_read (i := 12) (v := ?v2_12) rfl (by rfl) (fun _ _ _ h => h) ?hy2_12 ?_
        case hy2_12 => ((intro w hSw; (try dsimp only at hSw); go_simp) <;> (try with_reducible rfl))
        try simp only [Act.put, List.setIfInBounds_toArray, List.set_cons_zero, List.set_cons_succ]
        refine path_read (i := 13) (v := ?v2_13) rfl (by rfl) (fun _ _ _ h => h) ?hy2_13 ?_
        case hy2_13 => ((intro w hSw; (try dsimp only at hSw); go_simp) <;> (try with_reducible rfl))
        try simp only [Act.put, List.setIfInBounds_toArray, List.set_cons_zero, List.set_cons_succ]
        refine path_end ?_
        clear hcel
        have hc1 := HL.out.at_.cells.2.1
        have hl1 := HL.out.at_.lt
        go_wp2_with fail
        refine (ls_move (dragM fs acts) _ _ 2 8 0 0 0 HL.out (by show 1 < 1000000; omega) (by omega) (by omega) (dg_mv fs acts a p) rfl rfl).mono ?_
        rintro e w2 ⟨v, rfl, _, hl, _⟩
        have HL := Lib.hid hl; clear hl
        clear hc1 hl1
        have hc1 := HL.out.at_.cells.2.1
        have hl1 := HL.out.at_.lt
        go_wp2_with fail
        refine (ls_action 0 HL.out (dg_actM fs acts)).mono ?_
        rintro e w2 ⟨rfl, hl, _⟩
        have HL := Lib.hid hl; clear hl
        clear hc1 hl1
        have hc1 := HL.out.at_.cells.2.1
        have hl1 := HL.out.at_.lt
        go_wp2_with fail
        refine (ls_state 1 HL.out rfl).mono ?_
        rintro e w2 ⟨rfl, rfl⟩
        clear hc1 hl1
        go_wp2_with fail
        refine (example43_ok _).mono ?_
        rintro e w9 ⟨rfl, hs⟩
        have HS9 := Lib.hid hs
        clear hs
        go_wp2
        go_ret
        exact ⟨rfl, (HW.out.trans HS1.out).trans (HL.out.same.trans HS9.out)⟩
end Go.Proofs.Yteolilggeaffaaa
