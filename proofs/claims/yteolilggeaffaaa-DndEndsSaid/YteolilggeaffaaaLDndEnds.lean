/- The walk of DndEnds: for all arguments it returns true and leaves what was there as it was. -/
import Derived.Test.YteolilggeaffaaaLaws43
set_option linter.unusedVariables false
set_option linter.unusedSimpArgs false
set_option maxRecDepth 100000
namespace Go.Proofs.Yteolilggeaffaaa
open Go.RowKit

set_option maxHeartbeats 16000000 in
theorem DndEnds_walk (x : OArg) (steps : Int) (w : World) (h : x.ok w) :
    Calls Try.prog 8 #[.agg x.cells.toArray, .int .i64 steps] w fun e w' => e = .returned (.bool true) ∧ Same w w' := by
  obtain ⟨A, n, cap, fs, acts⟩ := x
  have HX := Lib.hid h
  have HW := Lib.hid ((Chg.refl (fun _ => False) w).alloc (.cells #[.slice A n cap, .int .i64 acts] 24))
  have hnl : n ≤ 9223372036854775807 := by
    have h1 : n ≤ cap ∧ cap ≤ maxLen := h.1.2
    unfold maxLen at h1
    omega
  clear h
  show Calls Try.prog 8 #[.agg #[.slice A n cap, .int .i64 acts], .int .i64 steps] w _
  go_enter Try.func8, Try.ntmps8
  go_wp2_with fail
  refine (small_ok ⟨A, n, cap, fs, acts⟩ _ (HX.out.same HW.out)).mono ?_
  rintro e w1 ⟨v, rfl, hs, hsm⟩
  have HS1 := Lib.hid hs
  have HBOX := Lib.hid (hs.at_ (at_new w (.cells #[.slice A n cap, .int .i64 acts] 24)) (fun q => q))
  obtain ⟨k0, k1⟩ := box_cells HBOX.out
  have kl := lt_of_at HBOX.out
  clear hs
  cases v
  · clear hsm
    go_wp2_with fail
    refine (example43_ok _).mono ?_
    rintro e w9 ⟨rfl, hs⟩
    have HS9 := Lib.hid hs
    clear hs
    go_wp2
    go_ret
    exact ⟨rfl, (HW.out.trans HS1.out).trans HS9.out⟩
  have HSM := Lib.hid (hsm rfl)
  clear hsm
  by_cases hn : n = 0
  · subst hn
    go_wp2_with fail
    refine (example43_ok _).mono ?_
    rintro e w9 ⟨rfl, hs⟩
    have HS9 := Lib.hid hs
    clear hs
    go_wp2
    go_ret
    exact ⟨rfl, (HW.out.trans HS1.out).trans HS9.out⟩
  have hnb : ((n : Int) == 0) = false := by simp [hn]
  by_cases ha : acts = 0
  · subst ha
    go_wp2_with fail
    refine (example43_ok _).mono ?_
    rintro e w9 ⟨rfl, hs⟩
    have HS9 := Lib.hid hs
    clear hs
    go_wp2
    go_ret
    exact ⟨rfl, (HW.out.trans HS1.out).trans HS9.out⟩
  have hab : (acts == 0) = false := by simp [ha]
  obtain ⟨g, o, rfl, hgl, hcells⟩ := HX.out.1.1.2 (show 0 < n by omega)
  have hn0 : 0 < fs.length := by have h7 : fs.length = n := HX.out.1.1.1; omega
  obtain ⟨f, hf⟩ : ∃ f, fs[0]? = some f := ⟨_, List.getElem?_eq_getElem hn0⟩
  have HF := Lib.hid (List.mem_of_getElem? hf)
  have HNE := Lib.hid (valid_ne (check_valid HSM.out.1 f (List.mem_of_getElem? hf)))
  have HAC := Lib.hid (show 1 ≤ acts ∧ acts ≤ 7 from by have h7 : 0 ≤ acts ∧ acts ≤ 7 := check_acts HSM.out.1; omega)
  have hc0 : w.cell? ⟨g, o, none⟩ = some (.string f) := hcells 0 f hf
  have HCF := Lib.hid ((HW.out.trans HS1.out).cell hc0 (fun q => q))
  have hlen : 0 < n := by omega
  clear hf hcells hn0 hc0 hn ha
  go_wp2_with fail
  refine (ls_dragging ⟨some ⟨g, o, none⟩, n, cap, fs, acts⟩ _ (HX.out.same (HW.out.trans HS1.out)) HSM.out.1).mono ?_
  rintro e w2 ⟨sb, lb, b, R, rfl, hl⟩
  have HL := Lib.hid hl
  have hl0 := HL.out.at_.lt
  clear hl
  have KEEP := Lib.hid (fun (w' : World) (h1 : SessAt w' sb lb b 0 none 0 0) (h2 : Same w1 w') => And.intro h1.cells.2.1 (And.intro (h2.cell k0 (fun q => q)) (And.intro (h2.cell k1 (fun q => q)) (h2.cell HCF.out (fun q => q)))))
  clear k0 k1 kl
  have hc1 := HL.out.at_.cells.2.1
  have hl1 := HL.out.at_.lt
  go_wp2_with fail
  refine (ls_setact (dragE fs acts ByteArray.empty 7 0) 0 2 7 0 HL.out (dg_setact ByteArray.empty 7 0).1 (dg_setact ByteArray.empty 7 0).2).mono ?_
  rintro e w2 ⟨rfl, hl, _⟩
  have HL := Lib.hid hl; clear hl
  clear hc1 hl1
  cases hac : (bits BinOp.and IntKind.i64 steps 1 != 0)
  · have HAK := Lib.hid hac
    go_wp2_with fail
    have HL := Lib.hid (HL.out.keep ((Chg.refl (fun _ => False) _).drew))
    have hcel := KEEP.out _ HL.out.at_ HL.out.same
    refine region_path (S := (fun w' => w'.cell? ⟨sb, 1, none⟩ = some (.pointer (some ⟨b, 0, none⟩)) ∧ w'.cell? ⟨w.heap.size, 0, none⟩ = some (.slice (some ⟨g, o, none⟩) n cap) ∧ w'.cell? ⟨w.heap.size, 1, none⟩ = some (.int .i64 acts) ∧ w'.cell? ⟨g, o, none⟩ = some (.string f))) 99 [(0, true), (1, true), (2, true), (3, true), (4, true), (5, true), (6, true), (7, true), (8, true), (9, true), (10, false), (11, true), (12, true)] (by kernel_rfl) (by kernel_rfl) (by kernel_rfl) hcel ?_
    refine path_read (i := 0) (v := ?v1_0) rfl (by rfl) (fun _ _ _ h => h) ?hy1_0 ?_
    case hy1_0 => ((intro w hSw; (try dsimp only at hSw); go_simp) <;> (try with_reducible rfl))
    try simp only [Act.put, List.setIfInBounds_toArray, List.set_cons_zero, List.set_cons_succ]
    refine path_read (i := 1) (v := ?v1_1) rfl (by rfl) (fun _ _ _ h => h) ?hy1_1 ?_
    case hy1_1 => ((intro w hSw; (try dsimp only at hSw); go_simp) <;> (try with_reducible rfl))
    try simp only [Act.put, List.setIfInBounds_toArray, List.set_cons_zero, List.set_cons_succ]
    refine path_pass (i := 2) rfl (by rfl) (fun _ _ _ h => h) ?_
    try simp only [Act.put, List.setIfInBounds_toArray, List.set_cons_zero, List.set_cons_succ]
    refine path_pass (i := 3) rfl (by rfl) (fun _ _ _ h => h) ?_
    try simp only [Act.put, List.setIfInBounds_toArray, List.set_cons_zero, List.set_cons_succ]
    refine path_pass (i := 4) rfl (by rfl) (fun _ _ _ h => h) ?_
    try simp only [Act.put, List.setIfInBounds_toArray, List.set_cons_zero, List.set_cons_succ]
    refine path_pass (i := 5) rfl (by rfl) (fun _ _ _ h => h) ?_
    try simp only [Act.put, List.setIfInBounds_toArray, List.set_cons_zero, List.set_cons_succ]
    refine path_pass (i := 6) rfl (by rfl) (fun _ _ _ h => h) ?_
    try simp only [Act.put, List.setIfInBounds_toArray, List.set_cons_zero, List.set_cons_succ]
    refine path_pass (i := 7) rfl (by rfl) (fun _ _ _ h => h) ?_
    try simp only [Act.put, List.setIfInBounds_toArray, List.set_cons_zero, List.set_cons_succ]
    refine path_pass (i := 8) rfl (by rfl) (fun _ _ _ h => h) ?_
    try simp only [Act.put, List.setIfInBounds_toArray, List.set_cons_zero, List.set_cons_succ]
    refine path_pass (i := 9) rfl (by rfl) (fun _ _ _ h => h) ?_
    try simp only [Act.put, List.setIfInBounds_toArray, List.set_cons_zero, List.set_cons_succ]
    refine path_do (i := 10) rfl ?_
    go_wp2_with ((first | fail))
    (first | refine ⟨.inr ?keep1_10, ?_⟩ | refine ⟨?keep1_10, ?_⟩)
    case keep1_10 => (exact KEEP.out _ HL.out.at_ HL.out.same)
    try simp only [Act.put, List.setIfInBounds_toArray, List.set_cons_zero, List.set_cons_succ]
    refine path_pass (i := 11) rfl (by rfl) (fun _ _ _ h => h) ?_
    try simp only [Act.put, List.setIfInBounds_toArray, List.set_cons_zero, List.set_cons_succ]
    refine path_read (i := 12) (v := ?v1_12) rfl (by rfl) (fun _ _ _ h => h) ?hy1_12 ?_
    case hy1_12 => ((intro w hSw; (try dsimp only at hSw); go_simp) <;> (try with_reducible rfl))
    try simp only [Act.put, List.setIfInBounds_toArray, List.set_cons_zero, List.set_cons_succ]
    refine path_end ?_
    clear hcel
    have hc1 := HL.out.at_.cells.2.1
    have hl1 := HL.out.at_.lt
    go_wp2_with fail
    refine (ls_drop (dragE fs acts ByteArray.empty 7 0).endS _ false HL.out dg_drop_no.2.1 dg_drop_no.2.2 dg_drop_no.1).mono ?_
    rintro e w2 ⟨v, rfl, hout, hl, _⟩
    obtain ⟨gb, capb, rfl, _, hgb, hcb, hone⟩ := hout.one
    have HL := Lib.hid hl
    have r2 := hone.cells.2.2.1
    clear hl hout hone
    clear hc1 hl1
    have hc1 := HL.out.at_.cells.2.1
    have hl1 := HL.out.at_.lt
    go_wp2_with fail
    refine (ls_state 0 HL.out rfl).mono ?_
    rintro e w2 ⟨rfl, rfl⟩
    clear hc1 hl1
    clear r2
    have hc1 := HL.out.at_.cells.2.1
    have hl1 := HL.out.at_.lt
    go_wp2_with fail
    refine (ls_finish (dragE fs acts ByteArray.empty 7 0).endS 14 2 HL.out rfl rfl).mono ?_
    rintro e w2 ⟨rfl, hl, _⟩
    have HL := Lib.hid hl; clear hl
    clear hc1 hl1
    go_wp2_with fail
    refine (example43_ok _).mono ?_
    rintro e w9 ⟨rfl, hs⟩
    have HS9 := Lib.hid hs
    clear hs
    go_wp2
    go_ret
    exact ⟨rfl, (HW.out.trans HS1.out).trans (HL.out.same.trans HS9.out)⟩
  · have HAK := Lib.hid hac
    go_wp2_with fail
    have HL := Lib.hid (HL.out.keep ((Chg.refl (fun _ => False) _).drew))
    have hcel := KEEP.out _ HL.out.at_ HL.out.same
    refine region_path (S := (fun w' => w'.cell? ⟨sb, 1, none⟩ = some (.pointer (some ⟨b, 0, none⟩)) ∧ w'.cell? ⟨w.heap.size, 0, none⟩ = some (.slice (some ⟨g, o, none⟩) n cap) ∧ w'.cell? ⟨w.heap.size, 1, none⟩ = some (.int .i64 acts) ∧ w'.cell? ⟨g, o, none⟩ = some (.string f))) 99 [(0, true), (1, true), (2, true), (3, true), (4, true), (5, true), (6, true), (7, true), (8, true), (9, true), (10, false), (11, true), (12, true)] (by kernel_rfl) (by kernel_rfl) (by kernel_rfl) hcel ?_
    refine path_read (i := 0) (v := ?v2_0) rfl (by rfl) (fun _ _ _ h => h) ?hy2_0 ?_
    case hy2_0 => ((intro w hSw; (try dsimp only at hSw); go_simp) <;> (try with_reducible rfl))
    try simp only [Act.put, List.setIfInBounds_toArray, List.set_cons_zero, List.set_cons_succ]
    refine path_read (i := 1) (v := ?v2_1) rfl (by rfl) (fun _ _ _ h => h) ?hy2_1 ?_
    case hy2_1 => ((intro w hSw; (try dsimp only at hSw); go_simp) <;> (try with_reducible rfl))
    try simp only [Act.put, List.setIfInBounds_toArray, List.set_cons_zero, List.set_cons_succ]
    refine path_read (i := 2) (v := ?v2_2) rfl (by rfl) (fun _ _ _ h => h) ?hy2_2 ?_
    case hy2_2 => ((intro w hSw; (try dsimp only at hSw); go_simp) <;> (try with_reducible rfl))
    try simp only [Act.put, List.setIfInBounds_toArray, List.set_cons_zero, List.set_cons_succ]
    refine path_read (i := 3) (v := ?v2_3) rfl (by rfl) (fun _ _ _ h => h) ?hy2_3 ?_
    case hy2_3 => ((intro w hSw; (try dsimp only at hSw); go_simp) <;> (try with_reducible rfl))
    try simp only [Act.put, List.setIfInBounds_toArray, List.set_cons_zero, List.set_cons_succ]
    refine path_read (i := 4) (v := ?v2_4) rfl (by rfl) (fun _ _ _ h => h) ?hy2_4 ?_
    case hy2_4 => ((intro w hSw; (try dsimp only at hSw); go_simp) <;> (try with_reducible rfl))
    try simp only [Act.put, List.setIfInBounds_toArray, List.set_cons_zero, List.set_cons_succ]
    refine path_read (i := 5) (v := ?v2_5) rfl (by rfl) (fun _ _ _ h => h) ?hy2_5 ?_
    case hy2_5 => ((intro w hSw; (try dsimp only at hSw); go_simp) <;> (try with_reducible rfl))
    try simp only [Act.put, List.setIfInBounds_toArray, List.set_cons_zero, List.set_cons_succ]
    refine path_read (i := 6) (v := ?v2_6) rfl (by rfl) (fun _ _ _ h => h) ?hy2_6 ?_
    case hy2_6 => ((intro w hSw; (try dsimp only at hSw); go_simp) <;> (try with_reducible rfl))
    try simp only [Act.put, List.setIfInBounds_toArray, List.set_cons_zero, List.set_cons_succ]
    refine path_read (i := 7) (v := ?v2_7) rfl (by rfl) (fun _ _ _ h => h) ?hy2_7 ?_
    case hy2_7 => ((intro w hSw; (try dsimp only at hSw); go_simp) <;> (try with_reducible rfl))
    try simp only [Act.put, List.setIfInBounds_toArray, List.set_cons_zero, List.set_cons_succ]
    refine path_read (i := 8) (v := ?v2_8) rfl (by rfl) (fun _ _ _ h => h) ?hy2_8 ?_
    case hy2_8 => ((intro w hSw; (try dsimp only at hSw); go_simp) <;> (try with_reducible rfl))
    try simp only [Act.put, List.setIfInBounds_toArray, List.set_cons_zero, List.set_cons_succ]
    refine path_read (i := 9) (v := ?v2_9) rfl (by rfl) (fun _ _ _ h => h) ?hy2_9 ?_
    case hy2_9 => ((intro w hSw; (try dsimp only at hSw); go_simp) <;> (try with_reducible rfl))
    try simp only [Act.put, List.setIfInBounds_toArray, List.set_cons_zero, List.set_cons_succ]
    refine path_do (i := 10) rfl ?_
    go_wp2_with ((first | (go_at_call 13; go_loud (refine (ls_accept (dragE fs acts f 7 0) 0 2 f HL.out (dg_accept 7 0 HF.out).1 (dg_accept 7 0 HF.out).2).mono ?_; rintro e w2 ⟨rfl, hl, _⟩; have HL := Lib.hid hl; clear hl))))
    (first | refine ⟨.inr ?keep2_10, ?_⟩ | refine ⟨?keep2_10, ?_⟩)
    case keep2_10 => (exact KEEP.out _ HL.out.at_ HL.out.same)
    try simp only [Act.put, List.setIfInBounds_toArray, List.set_cons_zero, List.set_cons_succ]
    refine path_read (i := 11) (v := ?v2_11) rfl (by rfl) (fun _ _ _ h => h) ?hy2_11 ?_
    case hy2_11 => ((intro w hSw; (try dsimp only at hSw); go_simp) <;> (try with_reducible rfl))
    try simp only [Act.put, List.setIfInBounds_toArray, List.set_cons_zero, List.set_cons_succ]
    refine path_read (i := 12) (v := ?v2_12) rfl (by rfl) (fun _ _ _ h => h) ?hy2_12 ?_
    case hy2_12 => ((intro w hSw; (try dsimp only at hSw); go_simp) <;> (try with_reducible rfl))
    try simp only [Act.put, List.setIfInBounds_toArray, List.set_cons_zero, List.set_cons_succ]
    refine path_end ?_
    clear hcel
    have hc1 := HL.out.at_.cells.2.1
    have hl1 := HL.out.at_.lt
    go_wp2_with fail
    refine (ls_drop (dragF fs acts f []) _ true HL.out (dg_drop HAC.out.1 HAC.out.2 HNE.out).2.1 (dg_drop HAC.out.1 HAC.out.2 HNE.out).2.2 (dg_drop HAC.out.1 HAC.out.2 HNE.out).1).mono ?_
    rintro e w2 ⟨v, rfl, hout, hl, _⟩
    obtain ⟨gb, capb, rfl, _, _, _, _⟩ := hout.one
    have HL := Lib.hid hl; clear hl
    clear hout
    clear hc1 hl1
    cases hrc : (bits BinOp.and IntKind.i64 steps 2 != 0)
    · have hc1 := HL.out.at_.cells.2.1
      have hl1 := HL.out.at_.lt
      go_wp2_with fail
      refine (ls_finish (dragF fs acts f []) 14 2 HL.out dg_fin0.1 dg_fin0.2).mono ?_
      rintro e w2 ⟨rfl, hl, _⟩
      have HL := Lib.hid hl; clear hl
      clear hc1 hl1
      have hc1 := HL.out.at_.cells.2.1
      have hl1 := HL.out.at_.lt
      go_wp2_with fail
      refine (ls_state 2 HL.out rfl).mono ?_
      rintro e w2 ⟨rfl, rfl⟩
      clear hc1 hl1
      have hc1 := HL.out.at_.cells.2.1
      have hl1 := HL.out.at_.lt
      go_wp2_with fail
      refine (ls_cancel (dragF fs acts f []).endS [] HL.out rfl rfl).mono ?_
      rintro e w2 ⟨v, rfl, hout, hl, _⟩
      obtain ⟨A0, cap0, rfl⟩ := hout.none
      have HL := Lib.hid hl
      clear hl hout
      clear hc1 hl1
      have hc1 := HL.out.at_.cells.2.1
      have hl1 := HL.out.at_.lt
      go_wp2_with fail
      refine (ls_state 0 HL.out rfl).mono ?_
      rintro e w2 ⟨rfl, rfl⟩
      clear hc1 hl1
      go_wp2_with fail
      refine (example43_ok _).mono ?_
      rintro e w9 ⟨rfl, hs⟩
      have HS9 := Lib.hid hs
      clear hs
      go_wp2
      go_ret
      exact ⟨rfl, (HW.out.trans HS1.out).trans (HL.out.same.trans HS9.out)⟩
    · go_wp2_with fail
      have HL := Lib.hid (HL.out.keep ((Chg.refl (fun _ => False) _).drew))
      have hcel := KEEP.out _ HL.out.at_ HL.out.same
      refine region_path (S := (fun w' => w'.cell? ⟨sb, 1, none⟩ = some (.pointer (some ⟨b, 0, none⟩)) ∧ w'.cell? ⟨w.heap.size, 0, none⟩ = some (.slice (some ⟨g, o, none⟩) n cap) ∧ w'.cell? ⟨w.heap.size, 1, none⟩ = some (.int .i64 acts) ∧ w'.cell? ⟨g, o, none⟩ = some (.string f))) 99 [(0, true), (1, true), (2, true), (3, true), (4, true), (5, true), (6, true), (7, true), (8, false), (9, true), (10, true), (11, true), (12, true), (13, true)] (by kernel_rfl) (by kernel_rfl) (by kernel_rfl) hcel ?_
      refine path_read (i := 0) (v := ?v3_0) rfl (by rfl) (fun _ _ _ h => h) ?hy3_0 ?_
      case hy3_0 => ((intro w hSw; (try dsimp only at hSw); go_simp) <;> (try with_reducible rfl))
      try simp only [Act.put, List.setIfInBounds_toArray, List.set_cons_zero, List.set_cons_succ]
      refine path_read (i := 1) (v := ?v3_1) rfl (by rfl) (fun _ _ _ h => h) ?hy3_1 ?_
      case hy3_1 => ((intro w hSw; (try dsimp only at hSw); go_simp) <;> (try with_reducible rfl))
      try simp only [Act.put, List.setIfInBounds_toArray, List.set_cons_zero, List.set_cons_succ]
      refine path_read (i := 2) (v := ?v3_2) rfl (by rfl) (fun _ _ _ h => h) ?hy3_2 ?_
      case hy3_2 => ((intro w hSw; (try dsimp only at hSw); go_simp) <;> (try with_reducible rfl))
      try simp only [Act.put, List.setIfInBounds_toArray, List.set_cons_zero, List.set_cons_succ]
      refine path_read (i := 3) (v := ?v3_3) rfl (by rfl) (fun _ _ _ h => h) ?hy3_3 ?_
      case hy3_3 => ((intro w hSw; (try dsimp only at hSw); go_simp) <;> (try with_reducible rfl))
      try simp only [Act.put, List.setIfInBounds_toArray, List.set_cons_zero, List.set_cons_succ]
      refine path_read (i := 4) (v := ?v3_4) rfl (by rfl) (fun _ _ _ h => h) ?hy3_4 ?_
      case hy3_4 => ((intro w hSw; (try dsimp only at hSw); go_simp) <;> (try with_reducible rfl))
      try simp only [Act.put, List.setIfInBounds_toArray, List.set_cons_zero, List.set_cons_succ]
      refine path_read (i := 5) (v := ?v3_5) rfl (by rfl) (fun _ _ _ h => h) ?hy3_5 ?_
      case hy3_5 => ((intro w hSw; (try dsimp only at hSw); go_simp) <;> (try with_reducible rfl))
      try simp only [Act.put, List.setIfInBounds_toArray, List.set_cons_zero, List.set_cons_succ]
      refine path_read (i := 6) (v := ?v3_6) rfl (by rfl) (fun _ _ _ h => h) ?hy3_6 ?_
      case hy3_6 => ((intro w hSw; (try dsimp only at hSw); go_simp) <;> (try with_reducible rfl))
      try simp only [Act.put, List.setIfInBounds_toArray, List.set_cons_zero, List.set_cons_succ]
      refine path_read (i := 7) (v := ?v3_7) rfl (by rfl) (fun _ _ _ h => h) ?hy3_7 ?_
      case hy3_7 => ((intro w hSw; (try dsimp only at hSw); go_simp) <;> (try with_reducible rfl))
      try simp only [Act.put, List.setIfInBounds_toArray, List.set_cons_zero, List.set_cons_succ]
      refine path_do (i := 8) rfl ?_
      go_wp2_with ((first | (go_at_call 17; go_loud (refine (ls_rcv 2 10 f HL.out (dg_rcv [] HF.out) (by show 0 < 1000; omega)).mono ?_; rintro e w2 ⟨R2, pb, Rp, rfl, hl, _⟩; have HL := Lib.hid hl; clear hl))))
      (first | refine ⟨.inr ?keep3_8, ?_⟩ | refine ⟨?keep3_8, ?_⟩)
      case keep3_8 => (exact KEEP.out _ HL.out.at_ HL.out.same)
      try simp only [Act.put, List.setIfInBounds_toArray, List.set_cons_zero, List.set_cons_succ]
      refine path_read (i := 9) (v := ?v3_9) rfl (by rfl) (fun _ _ _ h => h) ?hy3_9 ?_
      case hy3_9 => ((intro w hSw; (try dsimp only at hSw); go_simp) <;> (try with_reducible rfl))
      try simp only [Act.put, List.setIfInBounds_toArray, List.set_cons_zero, List.set_cons_succ]
      refine path_read (i := 10) (v := ?v3_10) rfl (by rfl) (fun _ _ _ h => h) ?hy3_10 ?_
      case hy3_10 => ((intro w hSw; (try dsimp only at hSw); go_simp) <;> (try with_reducible rfl))
      try simp only [Act.put, List.setIfInBounds_toArray, List.set_cons_zero, List.set_cons_succ]
      refine path_read (i := 11) (v := ?v3_11) rfl (by rfl) (fun _ _ _ h => h) ?hy3_11 ?_
      case hy3_11 => ((intro w hSw; (try dsimp only at hSw); go_simp) <;> (try with_reducible rfl))
      try simp only [Act.put, List.setIfInBounds_toArray, List.set_cons_zero, List.set_cons_succ]
      refine path_read (i := 12) (v := ?v3_12) rfl (by rfl) (fun _ _ _ h => h) ?hy3_12 ?_
      case hy3_12 => ((intro w hSw; (try dsimp only at hSw); go_simp) <;> (try with_reducible rfl))
      try simp only [Act.put, List.setIfInBounds_toArray, List.set_cons_zero, List.set_cons_succ]
      refine path_read (i := 13) (v := ?v3_13) rfl (by rfl) (fun _ _ _ h => h) ?hy3_13 ?_
      case hy3_13 => ((intro w hSw; (try dsimp only at hSw); go_simp) <;> (try with_reducible rfl))
      try simp only [Act.put, List.setIfInBounds_toArray, List.set_cons_zero, List.set_cons_succ]
      refine path_end ?_
      clear hcel
      cases hca : (bits BinOp.and IntKind.i64 steps 4 != 0)
      · have hc1 := HL.out.at_.cells.2.1
        have hl1 := HL.out.at_.lt
        go_wp2_with fail
        refine (ls_finish (dragF fs acts f [⟨pb, Rp, PSt.new 10⟩]).endS 0 2 HL.out (dg_fin _).1 (dg_fin _).2).mono ?_
        rintro e w2 ⟨rfl, hl, _⟩
        have HL := Lib.hid hl; clear hl
        clear hc1 hl1
        have hc1 := HL.out.at_.cells.2.1
        have hl1 := HL.out.at_.lt
        go_wp2_with fail
        refine (ls_state 0 HL.out rfl).mono ?_
        rintro e w2 ⟨rfl, rfl⟩
        clear hc1 hl1
        have hc1 := HL.out.at_.cells.2.1
        have hl1 := HL.out.at_.lt
        go_wp2_with fail
        refine (ls_cancel (dragF fs acts f [⟨pb, Rp, PSt.new 10⟩]).endS [] HL.out rfl rfl).mono ?_
        rintro e w2 ⟨v, rfl, hout, hl, _⟩
        obtain ⟨A0, cap0, rfl⟩ := hout.none
        have HL := Lib.hid hl
        clear hl hout
        clear hc1 hl1
        have hc1 := HL.out.at_.cells.2.1
        have hl1 := HL.out.at_.lt
        go_wp2_with fail
        refine (ls_grant (i := 0) (x := ⟨pb, Rp, PSt.new 10⟩) _ 0 1 HL.out rfl (by omega) (show (PSt.new 10).grE 1 = 0 by decide +kernel) rfl).mono ?_
        rintro e w2 ⟨rfl, hl, _⟩
        have HL := Lib.hid hl; clear hl
        clear hc1 hl1
        go_wp2_with fail
        refine (example43_ok _).mono ?_
        rintro e w9 ⟨rfl, hs⟩
        have HS9 := Lib.hid hs
        clear hs
        go_wp2
        go_ret
        exact ⟨rfl, (HW.out.trans HS1.out).trans (HL.out.same.trans HS9.out)⟩
      · have hc1 := HL.out.at_.cells.2.1
        have hl1 := HL.out.at_.lt
        go_wp2_with fail
        refine (ls_cancel (dragF fs acts f [DFlow.canc ⟨pb, Rp, PSt.new 10⟩]).endS [] HL.out rfl rfl).mono ?_
        rintro e w2 ⟨v, rfl, hout, hl, _⟩
        obtain ⟨A0, cap0, rfl⟩ := hout.none
        have HL := Lib.hid hl
        clear hl hout
        clear hc1 hl1
        have hc1 := HL.out.at_.cells.2.1
        have hl1 := HL.out.at_.lt
        go_wp2_with fail
        refine (ls_grant (i := 0) (x := DFlow.canc ⟨pb, Rp, PSt.new 10⟩) _ 20 1 HL.out rfl (by omega) (show (PSt.new 10).cancel.grE 1 = 20 by decide +kernel) rfl).mono ?_
        rintro e w2 ⟨rfl, hl, _⟩
        have HL := Lib.hid hl; clear hl
        clear hc1 hl1
        have hc1 := HL.out.at_.cells.2.1
        have hl1 := HL.out.at_.lt
        go_wp2_with fail
        refine (ls_state 0 HL.out rfl).mono ?_
        rintro e w2 ⟨rfl, rfl⟩
        clear hc1 hl1
        go_wp2_with fail
        refine (example43_ok _).mono ?_
        rintro e w9 ⟨rfl, hs⟩
        have HS9 := Lib.hid hs
        clear hs
        go_wp2
        go_ret
        exact ⟨rfl, (HW.out.trans HS1.out).trans (HL.out.same.trans HS9.out)⟩
end Go.Proofs.Yteolilggeaffaaa
