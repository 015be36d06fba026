/- agree of compositorlaw31, the end: Latest and Find. -/
import Derived.Test.YtchodbcfncdmaaaAgree31c
set_option linter.unusedVariables false
set_option linter.unusedSimpArgs false
namespace Go.Proofs.Ytchodbcfncdmaaa
open Go.RowKit

set_option maxRecDepth 100000 in
set_option maxHeartbeats 8000000 in
theorem agree_latest (A : Option Addr) (B N n cap base : Nat) (L : SLog) (l : List Ent) (x : LOp) (w : World) (hr : RelR L N l) (hL : LogAt w B L) (h : SlotsAt w base A n l) (hBb : B < base) (hb : base ≤ w.heap.size) (hx : x.ok) (hN : N ≤ 700) (hk : x.kind ≠ 0 ∧ x.kind ≠ 1 ∧ x.kind ≠ 2 ∧ x.kind ≠ 3) :
    Calls Try.prog 20 #[.pointer (some ⟨B, 0, none⟩), .agg #[.int .i64 N, .slice A n cap], .int .u32 N, .agg x.cells.toArray] w fun e w' => AgreeRet B base N w e w' := by
  obtain ⟨k, m, c, s, e, ms, bk⟩ := x
  obtain ⟨_, _, hc2, hs2, he2, hms2, hbk⟩ := hx
  simp only [i64ok] at hc2 hs2 he2 hms2 hbk
  simp only at hk
  have k0 : (k == 0) = false := by simpa using hk.1
  have k1 : (k == 1) = false := by simpa using hk.2.1
  have k2 : (k == 2) = false := by simpa using hk.2.2.1
  have k3 : (k == 3) = false := by simpa using hk.2.2.2
  clear hk
  have hBw : B < w.heap.size := lt_of_at hL.1
  have hn1 : n ≤ 1000 := by have := hr.len; have := h.1; omega
  have HR := Lib.hid hr
  have HL := Lib.hid hL
  have HA := Lib.hid h
  have HKK := Lib.hid (fun (e : Ent) (he : e ∈ l) => (show 0 ≤ e.k ∧ e.k ≤ 62 by have := hr.mem e he; omega))
  clear hr hL h
  simp only [LOp.cells]
  go_enter Try.func20, Try.ntmps20
  go_wp2_with fail
  have hs0 : Same w (((w.alloc (.cells #[.int .i64 N, .slice A n cap] 42)).alloc (.cells #[.int .i64 k, .int .i64 m, .int .i64 c, .int .i64 s, .int .i64 e, .int .i64 ms, .int .u32 bk] 25)).alloc (.cells #[.int .i64 0, .slice none 0 0] 42)) := (((Chg.refl (fun _ => False) w).alloc _).alloc _).alloc _
  have hP0 : (((w.alloc (.cells #[.int .i64 N, .slice A n cap] 42)).alloc (.cells #[.int .i64 k, .int .i64 m, .int .i64 c, .int .i64 s, .int .i64 e, .int .i64 ms, .int .u32 bk] 25)).alloc (.cells #[.int .i64 0, .slice none 0 0] 42)).heap[w.heap.size]? = some (.cells #[.int .i64 N, .slice A n cap] 42 (0, 0)) := at_alloc (at_alloc (at_new _ _))
  have hO0 : (((w.alloc (.cells #[.int .i64 N, .slice A n cap] 42)).alloc (.cells #[.int .i64 k, .int .i64 m, .int .i64 c, .int .i64 s, .int .i64 e, .int .i64 ms, .int .u32 bk] 25)).alloc (.cells #[.int .i64 0, .slice none 0 0] 42)).heap[w.heap.size + 1]? = some (.cells #[.int .i64 k, .int .i64 m, .int .i64 c, .int .i64 s, .int .i64 e, .int .i64 ms, .int .u32 bk] 25 (0, 0)) := at_alloc (heap_alloc2_new w _ _)
  have hR0 : (((w.alloc (.cells #[.int .i64 N, .slice A n cap] 42)).alloc (.cells #[.int .i64 k, .int .i64 m, .int .i64 c, .int .i64 s, .int .i64 e, .int .i64 ms, .int .u32 bk] 25)).alloc (.cells #[.int .i64 0, .slice none 0 0] 42)).heap[w.heap.size + 1 + 1]? = some (.cells #[.int .i64 0, .slice none 0 0] 42 (0, 0)) := heap_alloc3_new w _ _ _
  have hsz0 : w.heap.size + 3 = (((w.alloc (.cells #[.int .i64 N, .slice A n cap] 42)).alloc (.cells #[.int .i64 k, .int .i64 m, .int .i64 c, .int .i64 s, .int .i64 e, .int .i64 ms, .int .u32 bk] 25)).alloc (.cells #[.int .i64 0, .slice none 0 0] 42)).heap.size := by simp
  generalize (((w.alloc (.cells #[.int .i64 N, .slice A n cap] 42)).alloc (.cells #[.int .i64 k, .int .i64 m, .int .i64 c, .int .i64 s, .int .i64 e, .int .i64 ms, .int .u32 bk] 25)).alloc (.cells #[.int .i64 0, .slice none 0 0] 42)) = wr at *
  have q0 := cell_at (C := [.int .i64 N, .slice A n cap]) hP0 0
  have q1 := cell_at (C := [.int .i64 N, .slice A n cap]) hP0 1
  have o2 := cell_at (C := [.int .i64 k, .int .i64 m, .int .i64 c, .int .i64 s, .int .i64 e, .int .i64 ms, .int .u32 bk]) hO0 2
  have o5 := cell_at (C := [.int .i64 k, .int .i64 m, .int .i64 c, .int .i64 s, .int .i64 e, .int .i64 ms, .int .u32 bk]) hO0 5
  have r0 := cell_at (C := [.int .i64 0, .slice none 0 0]) hR0 0
  have r1 := cell_at (C := [.int .i64 0, .slice none 0 0]) hR0 1
  simp only [List.getElem?_cons_zero, List.getElem?_cons_succ] at q0 q1 o2 o5 r0 r1
  have HS0 := Lib.hid hs0
  have HR0 := Lib.hid hR0
  have HL0 := Lib.hid (HL.out.chg hs0 (fun q => q))
  have HA0 := Lib.hid (HA.out.chg hs0 (fun _ _ _ _ q => q))
  clear hs0 hP0 hO0 hR0
  have HCK := Lib.hid (HR.out.latest c ms)
  refine region_path (S := (fun w' => w'.cell? ⟨w.heap.size, 0, none⟩ = some (.int .i64 N) ∧ w'.cell? ⟨w.heap.size, 1, none⟩ = some (.slice A n cap) ∧ w'.cell? ⟨w.heap.size + 1, 2, none⟩ = some (.int .i64 c) ∧ w'.cell? ⟨w.heap.size + 1, 5, none⟩ = some (.int .i64 ms))) 99 [(0, true), (1, true), (2, true), (3, true), (4, true), (5, true), (6, true), (8, true), (9, true), (10, true), (11, true), (12, true), (7, false), (13, false), (14, true), (15, false), (16, true), (17, true)] (by kernel_rfl) (by kernel_rfl) (by kernel_rfl) ⟨q0, q1, o2, o5⟩ ?_
  refine path_read (i := 0) (v := ?v1_0) rfl (by rfl) (fun _ _ _ h => h) ?hy1_0 ?_
  case hy1_0 => ((intro w hSw; (try dsimp only at hSw); go_simp) <;> (try with_reducible rfl))
  try simp only [Act.put, List.setIfInBounds_toArray, List.set_cons_zero, List.set_cons_succ]
  refine path_read (i := 1) (v := ?v1_1) rfl (by rfl) (fun _ _ _ h => h) ?hy1_1 ?_
  case hy1_1 => ((intro w hSw; (try dsimp only at hSw); go_simp) <;> (try with_reducible rfl))
  try simp only [Act.put, List.setIfInBounds_toArray, List.set_cons_zero, List.set_cons_succ]
  refine path_read (i := 2) (v := ?v1_2) rfl (by rfl) (fun _ _ _ h => h) ?hy1_2 ?_
  case hy1_2 => ((intro w hSw; (try dsimp only at hSw); go_simp) <;> (try with_reducible rfl))
  try simp only [Act.put, List.setIfInBounds_toArray, List.set_cons_zero, List.set_cons_succ]
  refine path_read (i := 3) (v := ?v1_3) rfl (by rfl) (fun _ _ _ h => h) ?hy1_3 ?_
  case hy1_3 => ((intro w hSw; (try dsimp only at hSw); go_simp) <;> (try with_reducible rfl))
  try simp only [Act.put, List.setIfInBounds_toArray, List.set_cons_zero, List.set_cons_succ]
  refine path_read (i := 4) (v := ?v1_4) rfl (by rfl) (fun _ _ _ h => h) ?hy1_4 ?_
  case hy1_4 => ((intro w hSw; (try dsimp only at hSw); go_simp) <;> (try with_reducible rfl))
  try simp only [Act.put, List.setIfInBounds_toArray, List.set_cons_zero, List.set_cons_succ]
  refine path_read (i := 5) (v := ?v1_5) rfl (by rfl) (fun _ _ _ h => h) ?hy1_5 ?_
  case hy1_5 => ((intro w hSw; (try dsimp only at hSw); go_simp) <;> (try with_reducible rfl))
  try simp only [Act.put, List.setIfInBounds_toArray, List.set_cons_zero, List.set_cons_succ]
  refine path_read (i := 6) (v := ?v1_6) rfl (by rfl) (fun _ _ _ h => h) ?hy1_6 ?_
  case hy1_6 => ((intro w hSw; (try dsimp only at hSw); go_simp) <;> (try with_reducible rfl))
  try simp only [Act.put, List.setIfInBounds_toArray, List.set_cons_zero, List.set_cons_succ]
  refine path_read (i := 8) (v := ?v1_8) rfl (by rfl) (fun _ _ _ h => h) ?hy1_8 ?_
  case hy1_8 => ((intro w hSw; (try dsimp only at hSw); go_simp) <;> (try with_reducible rfl))
  try simp only [Act.put, List.setIfInBounds_toArray, List.set_cons_zero, List.set_cons_succ]
  refine path_read (i := 9) (v := ?v1_9) rfl (by rfl) (fun _ _ _ h => h) ?hy1_9 ?_
  case hy1_9 => ((intro w hSw; (try dsimp only at hSw); go_simp) <;> (try with_reducible rfl))
  try simp only [Act.put, List.setIfInBounds_toArray, List.set_cons_zero, List.set_cons_succ]
  refine path_read (i := 10) (v := ?v1_10) rfl (by rfl) (fun _ _ _ h => h) ?hy1_10 ?_
  case hy1_10 => ((intro w hSw; (try dsimp only at hSw); go_simp) <;> (try with_reducible rfl))
  try simp only [Act.put, List.setIfInBounds_toArray, List.set_cons_zero, List.set_cons_succ]
  refine path_read (i := 11) (v := ?v1_11) rfl (by rfl) (fun _ _ _ h => h) ?hy1_11 ?_
  case hy1_11 => ((intro w hSw; (try dsimp only at hSw); go_simp) <;> (try with_reducible rfl))
  try simp only [Act.put, List.setIfInBounds_toArray, List.set_cons_zero, List.set_cons_succ]
  refine path_read (i := 12) (v := ?v1_12) rfl (by rfl) (fun _ _ _ h => h) ?hy1_12 ?_
  case hy1_12 => ((intro w hSw; (try dsimp only at hSw); go_simp) <;> (try with_reducible rfl))
  try simp only [Act.put, List.setIfInBounds_toArray, List.set_cons_zero, List.set_cons_succ]
  refine path_do (i := 7) rfl ?_
  go_wp2_with ((first | (go_at_call 18; refine (latest_ok _ _ _ _ L (HL0.out.chg (Chg.refl (fun _ => False) wr).drew (fun q => q))).mono ?_; rintro e1 w1 ⟨rfl, hs1⟩; have HS1 : Hid (Same wr w1) := Lib.hid ((Chg.refl (fun _ => False) wr).drew.trans hs1)) | (go_at_call 29; refine (rLatest_ok A N n cap base l _ _ _ (HA0.out.chg HS1.out (fun _ _ _ _ q => q)) hn1 HKK.out).mono ?_; rintro e2 w2 ⟨rfl, hs2'⟩; have HS2 : Hid (Same wr w2) := Lib.hid (HS1.out.trans hs2'); have r02 := HS2.out.cell r0 (fun q => q); have r12 := HS2.out.cell r1 (fun q => q); have fR2 := frozen_at (HS2.out.at_ HR0.out (fun q => q)))))
  refine ⟨.inr ?keep1_7, ?_⟩
  case keep1_7 => ((first | (exact ⟨(chg_set2 _ _ HS2.out).cell q0 (by omega), (chg_set2 _ _ HS2.out).cell q1 (by omega), (chg_set2 _ _ HS2.out).cell o2 (by omega), (chg_set2 _ _ HS2.out).cell o5 (by omega)⟩) | (exact ⟨HS2.out.cell q0 (fun q => q), HS2.out.cell q1 (fun q => q), HS2.out.cell o2 (fun q => q), HS2.out.cell o5 (fun q => q)⟩) | (exact ⟨HS1.out.cell q0 (fun q => q), HS1.out.cell q1 (fun q => q), HS1.out.cell o2 (fun q => q), HS1.out.cell o5 (fun q => q)⟩) | go_keep))
  try simp only [Act.put, List.setIfInBounds_toArray, List.set_cons_zero, List.set_cons_succ]
  refine path_do (i := 13) rfl ?_
  go_wp2_with ((first | (go_at_call 18; refine (latest_ok _ _ _ _ L (HL0.out.chg (Chg.refl (fun _ => False) wr).drew (fun q => q))).mono ?_; rintro e1 w1 ⟨rfl, hs1⟩; have HS1 : Hid (Same wr w1) := Lib.hid ((Chg.refl (fun _ => False) wr).drew.trans hs1)) | (go_at_call 29; refine (rLatest_ok A N n cap base l _ _ _ (HA0.out.chg HS1.out (fun _ _ _ _ q => q)) hn1 HKK.out).mono ?_; rintro e2 w2 ⟨rfl, hs2'⟩; have HS2 : Hid (Same wr w2) := Lib.hid (HS1.out.trans hs2'); have r02 := HS2.out.cell r0 (fun q => q); have r12 := HS2.out.cell r1 (fun q => q); have fR2 := frozen_at (HS2.out.at_ HR0.out (fun q => q)))))
  refine ⟨.inr ?keep1_13, ?_⟩
  case keep1_13 => ((first | (exact ⟨(chg_set2 _ _ HS2.out).cell q0 (by omega), (chg_set2 _ _ HS2.out).cell q1 (by omega), (chg_set2 _ _ HS2.out).cell o2 (by omega), (chg_set2 _ _ HS2.out).cell o5 (by omega)⟩) | (exact ⟨HS2.out.cell q0 (fun q => q), HS2.out.cell q1 (fun q => q), HS2.out.cell o2 (fun q => q), HS2.out.cell o5 (fun q => q)⟩) | (exact ⟨HS1.out.cell q0 (fun q => q), HS1.out.cell q1 (fun q => q), HS1.out.cell o2 (fun q => q), HS1.out.cell o5 (fun q => q)⟩) | go_keep))
  try simp only [Act.put, List.setIfInBounds_toArray, List.set_cons_zero, List.set_cons_succ]
  refine path_read (i := 14) (v := ?v1_14) rfl (by rfl) (fun _ _ _ h => h) ?hy1_14 ?_
  case hy1_14 => ((intro w hSw; (try dsimp only at hSw); go_simp) <;> (try with_reducible rfl))
  try simp only [Act.put, List.setIfInBounds_toArray, List.set_cons_zero, List.set_cons_succ]
  refine path_do (i := 15) rfl ?_
  go_wp2_with ((first | (go_at_call 18; refine (latest_ok _ _ _ _ L (HL0.out.chg (Chg.refl (fun _ => False) wr).drew (fun q => q))).mono ?_; rintro e1 w1 ⟨rfl, hs1⟩; have HS1 : Hid (Same wr w1) := Lib.hid ((Chg.refl (fun _ => False) wr).drew.trans hs1)) | (go_at_call 29; refine (rLatest_ok A N n cap base l _ _ _ (HA0.out.chg HS1.out (fun _ _ _ _ q => q)) hn1 HKK.out).mono ?_; rintro e2 w2 ⟨rfl, hs2'⟩; have HS2 : Hid (Same wr w2) := Lib.hid (HS1.out.trans hs2'); have r02 := HS2.out.cell r0 (fun q => q); have r12 := HS2.out.cell r1 (fun q => q); have fR2 := frozen_at (HS2.out.at_ HR0.out (fun q => q)))))
  refine ⟨.inr ?keep1_15, ?_⟩
  case keep1_15 => ((first | (exact ⟨(chg_set2 _ _ HS2.out).cell q0 (by omega), (chg_set2 _ _ HS2.out).cell q1 (by omega), (chg_set2 _ _ HS2.out).cell o2 (by omega), (chg_set2 _ _ HS2.out).cell o5 (by omega)⟩) | (exact ⟨HS2.out.cell q0 (fun q => q), HS2.out.cell q1 (fun q => q), HS2.out.cell o2 (fun q => q), HS2.out.cell o5 (fun q => q)⟩) | (exact ⟨HS1.out.cell q0 (fun q => q), HS1.out.cell q1 (fun q => q), HS1.out.cell o2 (fun q => q), HS1.out.cell o5 (fun q => q)⟩) | go_keep))
  try simp only [Act.put, List.setIfInBounds_toArray, List.set_cons_zero, List.set_cons_succ]
  refine path_read (i := 16) (v := ?v1_16) rfl (by rfl) (fun _ _ _ h => h) ?hy1_16 ?_
  case hy1_16 => ((intro w hSw; (try dsimp only at hSw); go_simp) <;> (try with_reducible rfl))
  try simp only [Act.put, List.setIfInBounds_toArray, List.set_cons_zero, List.set_cons_succ]
  refine path_read (i := 17) (v := ?v1_17) rfl (by rfl) (fun _ _ _ h => h) ?hy1_17 ?_
  case hy1_17 => ((intro w hSw; (try dsimp only at hSw); go_simp) <;> (try with_reducible rfl))
  try simp only [Act.put, List.setIfInBounds_toArray, List.set_cons_zero, List.set_cons_succ]
  refine path_end ?_
  go_wp2
  refine bodyPost_ret (results_cell_tmp2 Try.results20 rfl (run_load_rlog (a := .int .i64 N) (c := .slice A n cap) ?_)) rfl ⟨L, N, l, A, n, cap, by rw [HCK.out]; simp [go_sem], HR.out, Nat.le_refl _, ?_, ?_, ?_⟩
  · refine at_setCell (C := [.int .i64 N, .slice none 0 0]) _ ?_
    refine at_setCell (C := [.int .i64 0, .slice none 0 0]) _ ?_
    exact HS2.out.at_ HR0.out (fun q => q)
  · exact (HL0.out.chg HS2.out (fun q => q)).chg (chg_set2 _ _ (Chg.refl _ _)) (by omega)
  · exact (HA0.out.chg HS2.out (fun _ _ _ _ q => q)).chg (chg_set2 _ _ (Chg.refl _ _)) (fun b _ _ ⟨cur, fr, ht⟩ => ne_of_type ht (HS2.out.at_ HR0.out (fun q => q)) (by decide))
  · refine Chg.setCell (Chg.setCell ?_ _ _ (fun q => by simp at q; omega)) _ _ (fun q => by simp at q; omega)
    exact Chg.of_same (HS0.out.trans HS2.out)

set_option maxRecDepth 100000 in
set_option maxHeartbeats 8000000 in
theorem agree_find (A : Option Addr) (B N n cap base : Nat) (L : SLog) (l : List Ent) (x : LOp) (w : World) (hr : RelR L N l) (hL : LogAt w B L) (h : SlotsAt w base A n l) (hBb : B < base) (hb : base ≤ w.heap.size) (hx : x.ok) (hN : N ≤ 700) (hk : x.kind = 3) :
    Calls Try.prog 20 #[.pointer (some ⟨B, 0, none⟩), .agg #[.int .i64 N, .slice A n cap], .int .u32 N, .agg x.cells.toArray] w fun e w' => AgreeRet B base N w e w' := by
  obtain ⟨k, m, c, s, e, ms, bk⟩ := x
  obtain ⟨_, _, hc2, hs2, he2, hms2, hbk⟩ := hx
  simp only [i64ok] at hc2 hs2 he2 hms2 hbk
  simp only at hk
  subst hk
  have hBw : B < w.heap.size := lt_of_at hL.1
  have hn1 : n ≤ 1000 := by have := hr.len; have := h.1; omega
  have HR := Lib.hid hr
  have HL := Lib.hid hL
  have HA := Lib.hid h
  have HKK := Lib.hid (fun (e : Ent) (he : e ∈ l) => (show 0 ≤ e.k ∧ e.k ≤ 62 by have := hr.mem e he; omega))
  clear hr hL h
  simp only [LOp.cells]
  go_enter Try.func20, Try.ntmps20
  go_wp2_with fail
  have hs0 : Same w (((w.alloc (.cells #[.int .i64 N, .slice A n cap] 42)).alloc (.cells #[.int .i64 3, .int .i64 m, .int .i64 c, .int .i64 s, .int .i64 e, .int .i64 ms, .int .u32 bk] 25)).alloc (.cells #[.int .i64 0, .slice none 0 0] 42)) := (((Chg.refl (fun _ => False) w).alloc _).alloc _).alloc _
  have hP0 : (((w.alloc (.cells #[.int .i64 N, .slice A n cap] 42)).alloc (.cells #[.int .i64 3, .int .i64 m, .int .i64 c, .int .i64 s, .int .i64 e, .int .i64 ms, .int .u32 bk] 25)).alloc (.cells #[.int .i64 0, .slice none 0 0] 42)).heap[w.heap.size]? = some (.cells #[.int .i64 N, .slice A n cap] 42 (0, 0)) := at_alloc (at_alloc (at_new _ _))
  have hO0 : (((w.alloc (.cells #[.int .i64 N, .slice A n cap] 42)).alloc (.cells #[.int .i64 3, .int .i64 m, .int .i64 c, .int .i64 s, .int .i64 e, .int .i64 ms, .int .u32 bk] 25)).alloc (.cells #[.int .i64 0, .slice none 0 0] 42)).heap[w.heap.size + 1]? = some (.cells #[.int .i64 3, .int .i64 m, .int .i64 c, .int .i64 s, .int .i64 e, .int .i64 ms, .int .u32 bk] 25 (0, 0)) := at_alloc (heap_alloc2_new w _ _)
  have hR0 : (((w.alloc (.cells #[.int .i64 N, .slice A n cap] 42)).alloc (.cells #[.int .i64 3, .int .i64 m, .int .i64 c, .int .i64 s, .int .i64 e, .int .i64 ms, .int .u32 bk] 25)).alloc (.cells #[.int .i64 0, .slice none 0 0] 42)).heap[w.heap.size + 1 + 1]? = some (.cells #[.int .i64 0, .slice none 0 0] 42 (0, 0)) := heap_alloc3_new w _ _ _
  have hsz0 : w.heap.size + 3 = (((w.alloc (.cells #[.int .i64 N, .slice A n cap] 42)).alloc (.cells #[.int .i64 3, .int .i64 m, .int .i64 c, .int .i64 s, .int .i64 e, .int .i64 ms, .int .u32 bk] 25)).alloc (.cells #[.int .i64 0, .slice none 0 0] 42)).heap.size := by simp
  generalize (((w.alloc (.cells #[.int .i64 N, .slice A n cap] 42)).alloc (.cells #[.int .i64 3, .int .i64 m, .int .i64 c, .int .i64 s, .int .i64 e, .int .i64 ms, .int .u32 bk] 25)).alloc (.cells #[.int .i64 0, .slice none 0 0] 42)) = wr at *
  have q0 := cell_at (C := [.int .i64 N, .slice A n cap]) hP0 0
  have q1 := cell_at (C := [.int .i64 N, .slice A n cap]) hP0 1
  have o2 := cell_at (C := [.int .i64 3, .int .i64 m, .int .i64 c, .int .i64 s, .int .i64 e, .int .i64 ms, .int .u32 bk]) hO0 2
  have o5 := cell_at (C := [.int .i64 3, .int .i64 m, .int .i64 c, .int .i64 s, .int .i64 e, .int .i64 ms, .int .u32 bk]) hO0 5
  have r0 := cell_at (C := [.int .i64 0, .slice none 0 0]) hR0 0
  have r1 := cell_at (C := [.int .i64 0, .slice none 0 0]) hR0 1
  simp only [List.getElem?_cons_zero, List.getElem?_cons_succ] at q0 q1 o2 o5 r0 r1
  have HS0 := Lib.hid hs0
  have HR0 := Lib.hid hR0
  have HL0 := Lib.hid (HL.out.chg hs0 (fun q => q))
  have HA0 := Lib.hid (HA.out.chg hs0 (fun _ _ _ _ q => q))
  clear hs0 hP0 hO0 hR0
  have hfp := fun (w : World) (hw : LogAt w B L) => find_ok B w (((N : Int) - bk) % 4294967296) L hw
  have hfr := fun (w : World) (hw : SlotsAt w base A n l) => rFind_ok A N n cap base l (((N : Int) - bk) % 4294967296) w hw hn1
  have hbeq : ((L.find (((N : Int) - bk) % 4294967296)).c != 0) = (rFind l (((N : Int) - bk) % 4294967296)).isSome := by
    rw [HR.out.find]
    cases hf : rFind l (((N : Int) - bk) % 4294967296) with
    | none => rfl
    | some e =>
      have := HR.out.mem e (List.mem_of_find?_eq_some hf)
      simp
      omega
  unfold entRes at hfp
  rw [hbeq] at hfp
  rw [HR.out.find] at hfp
  unfold rFindV at hfr
  obtain ⟨v, hv⟩ : ∃ v, (rFind l (((N : Int) - bk) % 4294967296)).getD Ent.zero = v := ⟨_, rfl⟩
  obtain ⟨fl, hfl⟩ : ∃ fl, (rFind l (((N : Int) - bk) % 4294967296)).isSome = fl := ⟨_, rfl⟩
  rw [hv, hfl] at hfp hfr
  clear hbeq hv hfl
  obtain ⟨es, ec, ef, ek⟩ := v
  simp only at hfp hfr
  have hsm := fun w => same31_ok es ec ef ek es ec ef ek w
  simp only [beq_self_eq_true, Bool.and_self] at hsm
  have HFP := Lib.hid hfp
  have HFR := Lib.hid hfr
  have HSM := Lib.hid hsm
  clear hfp hfr hsm
  cases fl with
  | false =>
    go_wp2_with fail
    refine (HFP.out wr HL0.out).mono ?_
    rintro e1 w1 ⟨rfl, hs1⟩
    have q0' := hs1.cell q0 (fun q => q)
    have q1' := hs1.cell q1 (fun q => q)
    have hsz1 : wr.heap.size ≤ w1.heap.size := hs1.size
    have hl0 : w.heap.size < w1.heap.size := by omega
    have HS1 := Lib.hid hs1
    clear hs1
    go_wp2_with fail
    have hs1b : Same wr (w1.alloc (.cells #[.int .u32 es, .int .i64 ec, .int .i64 ef, .int .i64 ek] 47)) := HS1.out.alloc _
    refine (HFR.out _ (HA0.out.chg hs1b (fun _ _ _ _ q => q))).mono ?_
    rintro e2 w2 ⟨rfl, hs2⟩
    have q0'' := hs2.cell (x := .int .i64 N) (b := w.heap.size) (o := 0) (by rw [World.cell?_alloc_past _ _ _ hl0]; exact q0') (fun q => q)
    have q1'' := hs2.cell (x := .slice A n cap) (b := w.heap.size) (o := 1) (by rw [World.cell?_alloc_past _ _ _ hl0]; exact q1') (fun q => q)
    have hE1 : w2.heap[w1.heap.size]? = some (.cells #[.int .u32 es, .int .i64 ec, .int .i64 ef, .int .i64 ek] 47 (0, 0)) := hs2.at_ (at_new _ _) (fun q => q)
    have hl2 : w1.heap.size < w2.heap.size := lt_of_at hE1
    have hl3 : w.heap.size < w2.heap.size := by omega
    have HE1 := Lib.hid hE1
    have HS2 := Lib.hid (hs1b.trans hs2)
    clear hs2 hE1 hs1b
    go_wp2_with fail
    have hsq : Same wr (w2.alloc (.cells #[.int .u32 es, .int .i64 ec, .int .i64 ef, .int .i64 ek] 61)) := HS2.out.alloc _
    have hE1q := at_alloc (o' := .cells #[.int .u32 es, .int .i64 ec, .int .i64 ef, .int .i64 ek] 61) HE1.out
    have hE2q : (w2.alloc (.cells #[.int .u32 es, .int .i64 ec, .int .i64 ef, .int .i64 ek] 61)).heap[w2.heap.size]? = some (.cells #[.int .u32 es, .int .i64 ec, .int .i64 ef, .int .i64 ek] 61 (0, 0)) := at_new _ _
    have hszq : (w2.alloc (.cells #[.int .u32 es, .int .i64 ec, .int .i64 ef, .int .i64 ek] 61)).heap.size = w2.heap.size + 1 := by simp
    generalize w2.alloc (.cells #[.int .u32 es, .int .i64 ec, .int .i64 ef, .int .i64 ek] 61) = wq at *
    have q0w := hsq.cell q0 (fun q => q)
    have q1w := hsq.cell q1 (fun q => q)
    have d0 := cell_at (C := [.int .u32 es, .int .i64 ec, .int .i64 ef, .int .i64 ek]) hE1q 0
    have d1 := cell_at (C := [.int .u32 es, .int .i64 ec, .int .i64 ef, .int .i64 ek]) hE1q 1
    have d2 := cell_at (C := [.int .u32 es, .int .i64 ec, .int .i64 ef, .int .i64 ek]) hE1q 2
    have d3 := cell_at (C := [.int .u32 es, .int .i64 ec, .int .i64 ef, .int .i64 ek]) hE1q 3
    have g0 := cell_at (C := [.int .u32 es, .int .i64 ec, .int .i64 ef, .int .i64 ek]) hE2q 0
    have g1 := cell_at (C := [.int .u32 es, .int .i64 ec, .int .i64 ef, .int .i64 ek]) hE2q 1
    have g2 := cell_at (C := [.int .u32 es, .int .i64 ec, .int .i64 ef, .int .i64 ek]) hE2q 2
    have g3 := cell_at (C := [.int .u32 es, .int .i64 ec, .int .i64 ef, .int .i64 ek]) hE2q 3
    simp only [List.getElem?_cons_zero, List.getElem?_cons_succ] at d0 d1 d2 d3 g0 g1 g2 g3
    have r0w := hsq.cell r0 (fun q => q)
    have r1w := hsq.cell r1 (fun q => q)
    have HRw := Lib.hid (hsq.at_ HR0.out (fun q => q))
    have HSQ := Lib.hid hsq
    clear hsq hE1q hE2q
    refine region_path (S := (fun w' => w'.cell? ⟨w.heap.size, 0, none⟩ = some (.int .i64 N) ∧ w'.cell? ⟨w.heap.size, 1, none⟩ = some (.slice A n cap) ∧ w'.cell? ⟨w1.heap.size, 0, none⟩ = some (.int .u32 es) ∧ w'.cell? ⟨w1.heap.size, 1, none⟩ = some (.int .i64 ec) ∧ w'.cell? ⟨w1.heap.size, 2, none⟩ = some (.int .i64 ef) ∧ w'.cell? ⟨w1.heap.size, 3, none⟩ = some (.int .i64 ek) ∧ w'.cell? ⟨w2.heap.size, 0, none⟩ = some (.int .u32 es) ∧ w'.cell? ⟨w2.heap.size, 1, none⟩ = some (.int .i64 ec) ∧ w'.cell? ⟨w2.heap.size, 2, none⟩ = some (.int .i64 ef) ∧ w'.cell? ⟨w2.heap.size, 3, none⟩ = some (.int .i64 ek))) 99 [(0, true), (1, true), (2, true), (3, true), (4, true), (5, true), (6, true), (7, true), (8, false), (9, true), (10, false), (11, true), (12, true)] (by kernel_rfl) (by kernel_rfl) (by kernel_rfl) ⟨q0w, q1w, d0, d1, d2, d3, g0, g1, g2, g3⟩ ?_
    refine path_read (i := 0) (v := ?v2_0) rfl (by rfl) (fun _ _ _ h => h) ?hy2_0 ?_
    case hy2_0 => ((intro w hSw; (try dsimp only at hSw); go_simp) <;> (try with_reducible rfl))
    try simp only [Act.put, List.setIfInBounds_toArray, List.set_cons_zero, List.set_cons_succ]
    refine path_read (i := 1) (v := ?v2_1) rfl (by rfl) (fun _ _ _ h => h) ?hy2_1 ?_
    case hy2_1 => ((intro w hSw; (try dsimp only at hSw); go_simp) <;> (try with_reducible rfl))
    try simp only [Act.put, List.setIfInBounds_toArray, List.set_cons_zero, List.set_cons_succ]
    refine path_read (i := 2) (v := ?v2_2) rfl (by rfl) (fun _ _ _ h => h) ?hy2_2 ?_
    case hy2_2 => ((intro w hSw; (try dsimp only at hSw); go_simp) <;> (try with_reducible rfl))
    try simp only [Act.put, List.setIfInBounds_toArray, List.set_cons_zero, List.set_cons_succ]
    refine path_read (i := 3) (v := ?v2_3) rfl (by rfl) (fun _ _ _ h => h) ?hy2_3 ?_
    case hy2_3 => ((intro w hSw; (try dsimp only at hSw); go_simp) <;> (try with_reducible rfl))
    try simp only [Act.put, List.setIfInBounds_toArray, List.set_cons_zero, List.set_cons_succ]
    refine path_read (i := 4) (v := ?v2_4) rfl (by rfl) (fun _ _ _ h => h) ?hy2_4 ?_
    case hy2_4 => ((intro w hSw; (try dsimp only at hSw); go_simp) <;> (try with_reducible rfl))
    try simp only [Act.put, List.setIfInBounds_toArray, List.set_cons_zero, List.set_cons_succ]
    refine path_read (i := 5) (v := ?v2_5) rfl (by rfl) (fun _ _ _ h => h) ?hy2_5 ?_
    case hy2_5 => ((intro w hSw; (try dsimp only at hSw); go_simp) <;> (try with_reducible rfl))
    try simp only [Act.put, List.setIfInBounds_toArray, List.set_cons_zero, List.set_cons_succ]
    refine path_read (i := 6) (v := ?v2_6) rfl (by rfl) (fun _ _ _ h => h) ?hy2_6 ?_
    case hy2_6 => ((intro w hSw; (try dsimp only at hSw); go_simp) <;> (try with_reducible rfl))
    try simp only [Act.put, List.setIfInBounds_toArray, List.set_cons_zero, List.set_cons_succ]
    refine path_read (i := 7) (v := ?v2_7) rfl (by rfl) (fun _ _ _ h => h) ?hy2_7 ?_
    case hy2_7 => ((intro w hSw; (try dsimp only at hSw); go_simp) <;> (try with_reducible rfl))
    try simp only [Act.put, List.setIfInBounds_toArray, List.set_cons_zero, List.set_cons_succ]
    refine path_do (i := 8) rfl ?_
    go_wp2_with ((go_at_call 28; refine (HSM.out _).mono ?_; rintro e3 w3 ⟨rfl, hs3'⟩; have HS3 : Hid (Same wq w3) := Lib.hid ((Chg.refl (fun _ => False) wq).drew.trans hs3'); have r03 := HS3.out.cell r0w (fun q => q); have r13 := HS3.out.cell r1w (fun q => q); have fR3 := frozen_at (HS3.out.at_ HRw.out (fun q => q))))
    refine ⟨.inr ?keep2_8, ?_⟩
    case keep2_8 => ((first | (exact ⟨(chg_set2 _ _ HS3.out).cell q0w (by omega), (chg_set2 _ _ HS3.out).cell q1w (by omega), (chg_set2 _ _ HS3.out).cell d0 (by omega), (chg_set2 _ _ HS3.out).cell d1 (by omega), (chg_set2 _ _ HS3.out).cell d2 (by omega), (chg_set2 _ _ HS3.out).cell d3 (by omega), (chg_set2 _ _ HS3.out).cell g0 (by omega), (chg_set2 _ _ HS3.out).cell g1 (by omega), (chg_set2 _ _ HS3.out).cell g2 (by omega), (chg_set2 _ _ HS3.out).cell g3 (by omega)⟩) | (exact ⟨HS3.out.cell q0w (fun q => q), HS3.out.cell q1w (fun q => q), HS3.out.cell d0 (fun q => q), HS3.out.cell d1 (fun q => q), HS3.out.cell d2 (fun q => q), HS3.out.cell d3 (fun q => q), HS3.out.cell g0 (fun q => q), HS3.out.cell g1 (fun q => q), HS3.out.cell g2 (fun q => q), HS3.out.cell g3 (fun q => q)⟩) | go_keep))
    try simp only [Act.put, List.setIfInBounds_toArray, List.set_cons_zero, List.set_cons_succ]
    refine path_read (i := 9) (v := ?v2_9) rfl (by rfl) (fun _ _ _ h => h) ?hy2_9 ?_
    case hy2_9 => ((intro w hSw; (try dsimp only at hSw); go_simp) <;> (try with_reducible rfl))
    try simp only [Act.put, List.setIfInBounds_toArray, List.set_cons_zero, List.set_cons_succ]
    refine path_do (i := 10) rfl ?_
    go_wp2_with ((go_at_call 28; refine (HSM.out _).mono ?_; rintro e3 w3 ⟨rfl, hs3'⟩; have HS3 : Hid (Same wq w3) := Lib.hid ((Chg.refl (fun _ => False) wq).drew.trans hs3'); have r03 := HS3.out.cell r0w (fun q => q); have r13 := HS3.out.cell r1w (fun q => q); have fR3 := frozen_at (HS3.out.at_ HRw.out (fun q => q))))
    refine ⟨.inr ?keep2_10, ?_⟩
    case keep2_10 => ((first | (exact ⟨(chg_set2 _ _ HS3.out).cell q0w (by omega), (chg_set2 _ _ HS3.out).cell q1w (by omega), (chg_set2 _ _ HS3.out).cell d0 (by omega), (chg_set2 _ _ HS3.out).cell d1 (by omega), (chg_set2 _ _ HS3.out).cell d2 (by omega), (chg_set2 _ _ HS3.out).cell d3 (by omega), (chg_set2 _ _ HS3.out).cell g0 (by omega), (chg_set2 _ _ HS3.out).cell g1 (by omega), (chg_set2 _ _ HS3.out).cell g2 (by omega), (chg_set2 _ _ HS3.out).cell g3 (by omega)⟩) | (exact ⟨HS3.out.cell q0w (fun q => q), HS3.out.cell q1w (fun q => q), HS3.out.cell d0 (fun q => q), HS3.out.cell d1 (fun q => q), HS3.out.cell d2 (fun q => q), HS3.out.cell d3 (fun q => q), HS3.out.cell g0 (fun q => q), HS3.out.cell g1 (fun q => q), HS3.out.cell g2 (fun q => q), HS3.out.cell g3 (fun q => q)⟩) | go_keep))
    try simp only [Act.put, List.setIfInBounds_toArray, List.set_cons_zero, List.set_cons_succ]
    refine path_read (i := 11) (v := ?v2_11) rfl (by rfl) (fun _ _ _ h => h) ?hy2_11 ?_
    case hy2_11 => ((intro w hSw; (try dsimp only at hSw); go_simp) <;> (try with_reducible rfl))
    try simp only [Act.put, List.setIfInBounds_toArray, List.set_cons_zero, List.set_cons_succ]
    refine path_read (i := 12) (v := ?v2_12) rfl (by rfl) (fun _ _ _ h => h) ?hy2_12 ?_
    case hy2_12 => ((intro w hSw; (try dsimp only at hSw); go_simp) <;> (try with_reducible rfl))
    try simp only [Act.put, List.setIfInBounds_toArray, List.set_cons_zero, List.set_cons_succ]
    refine path_end ?_
    go_wp2
    refine bodyPost_ret (results_cell_tmp2 Try.results20 rfl (run_load_rlog (a := .int .i64 N) (c := .slice A n cap) ?_)) rfl ⟨L, N, l, A, n, cap, rfl, HR.out, Nat.le_refl _, ?_, ?_, ?_⟩
    · refine at_setCell (C := [.int .i64 N, .slice none 0 0]) _ ?_
      refine at_setCell (C := [.int .i64 0, .slice none 0 0]) _ ?_
      exact HS3.out.at_ HRw.out (fun q => q)
    · exact (HL0.out.chg (HSQ.out.trans HS3.out) (fun q => q)).chg (chg_set2 _ _ (Chg.refl _ _)) (by omega)
    · exact (HA0.out.chg (HSQ.out.trans HS3.out) (fun _ _ _ _ q => q)).chg (chg_set2 _ _ (Chg.refl _ _)) (fun b _ _ ⟨cur, fr, ht⟩ => ne_of_type ht (HS3.out.at_ HRw.out (fun q => q)) (by decide))
    · refine Chg.setCell (Chg.setCell ?_ _ _ (fun q => by simp at q; omega)) _ _ (fun q => by simp at q; omega)
      exact Chg.of_same (HS0.out.trans (HSQ.out.trans HS3.out))
  | true =>
    go_wp2_with fail
    refine (HFP.out wr HL0.out).mono ?_
    rintro e1 w1 ⟨rfl, hs1⟩
    have q0' := hs1.cell q0 (fun q => q)
    have q1' := hs1.cell q1 (fun q => q)
    have hsz1 : wr.heap.size ≤ w1.heap.size := hs1.size
    have hl0 : w.heap.size < w1.heap.size := by omega
    have HS1 := Lib.hid hs1
    clear hs1
    go_wp2_with fail
    have hs1b : Same wr (w1.alloc (.cells #[.int .u32 es, .int .i64 ec, .int .i64 ef, .int .i64 ek] 47)) := HS1.out.alloc _
    refine (HFR.out _ (HA0.out.chg hs1b (fun _ _ _ _ q => q))).mono ?_
    rintro e2 w2 ⟨rfl, hs2⟩
    have q0'' := hs2.cell (x := .int .i64 N) (b := w.heap.size) (o := 0) (by rw [World.cell?_alloc_past _ _ _ hl0]; exact q0') (fun q => q)
    have q1'' := hs2.cell (x := .slice A n cap) (b := w.heap.size) (o := 1) (by rw [World.cell?_alloc_past _ _ _ hl0]; exact q1') (fun q => q)
    have hE1 : w2.heap[w1.heap.size]? = some (.cells #[.int .u32 es, .int .i64 ec, .int .i64 ef, .int .i64 ek] 47 (0, 0)) := hs2.at_ (at_new _ _) (fun q => q)
    have hl2 : w1.heap.size < w2.heap.size := lt_of_at hE1
    have hl3 : w.heap.size < w2.heap.size := by omega
    have HE1 := Lib.hid hE1
    have HS2 := Lib.hid (hs1b.trans hs2)
    clear hs2 hE1 hs1b
    go_wp2_with fail
    have hsq : Same wr (w2.alloc (.cells #[.int .u32 es, .int .i64 ec, .int .i64 ef, .int .i64 ek] 61)) := HS2.out.alloc _
    have hE1q := at_alloc (o' := .cells #[.int .u32 es, .int .i64 ec, .int .i64 ef, .int .i64 ek] 61) HE1.out
    have hE2q : (w2.alloc (.cells #[.int .u32 es, .int .i64 ec, .int .i64 ef, .int .i64 ek] 61)).heap[w2.heap.size]? = some (.cells #[.int .u32 es, .int .i64 ec, .int .i64 ef, .int .i64 ek] 61 (0, 0)) := at_new _ _
    have hszq : (w2.alloc (.cells #[.int .u32 es, .int .i64 ec, .int .i64 ef, .int .i64 ek] 61)).heap.size = w2.heap.size + 1 := by simp
    generalize w2.alloc (.cells #[.int .u32 es, .int .i64 ec, .int .i64 ef, .int .i64 ek] 61) = wq at *
    have q0w := hsq.cell q0 (fun q => q)
    have q1w := hsq.cell q1 (fun q => q)
    have d0 := cell_at (C := [.int .u32 es, .int .i64 ec, .int .i64 ef, .int .i64 ek]) hE1q 0
    have d1 := cell_at (C := [.int .u32 es, .int .i64 ec, .int .i64 ef, .int .i64 ek]) hE1q 1
    have d2 := cell_at (C := [.int .u32 es, .int .i64 ec, .int .i64 ef, .int .i64 ek]) hE1q 2
    have d3 := cell_at (C := [.int .u32 es, .int .i64 ec, .int .i64 ef, .int .i64 ek]) hE1q 3
    have g0 := cell_at (C := [.int .u32 es, .int .i64 ec, .int .i64 ef, .int .i64 ek]) hE2q 0
    have g1 := cell_at (C := [.int .u32 es, .int .i64 ec, .int .i64 ef, .int .i64 ek]) hE2q 1
    have g2 := cell_at (C := [.int .u32 es, .int .i64 ec, .int .i64 ef, .int .i64 ek]) hE2q 2
    have g3 := cell_at (C := [.int .u32 es, .int .i64 ec, .int .i64 ef, .int .i64 ek]) hE2q 3
    simp only [List.getElem?_cons_zero, List.getElem?_cons_succ] at d0 d1 d2 d3 g0 g1 g2 g3
    have r0w := hsq.cell r0 (fun q => q)
    have r1w := hsq.cell r1 (fun q => q)
    have HRw := Lib.hid (hsq.at_ HR0.out (fun q => q))
    have HSQ := Lib.hid hsq
    clear hsq hE1q hE2q
    refine region_path (S := (fun w' => w'.cell? ⟨w.heap.size, 0, none⟩ = some (.int .i64 N) ∧ w'.cell? ⟨w.heap.size, 1, none⟩ = some (.slice A n cap) ∧ w'.cell? ⟨w1.heap.size, 0, none⟩ = some (.int .u32 es) ∧ w'.cell? ⟨w1.heap.size, 1, none⟩ = some (.int .i64 ec) ∧ w'.cell? ⟨w1.heap.size, 2, none⟩ = some (.int .i64 ef) ∧ w'.cell? ⟨w1.heap.size, 3, none⟩ = some (.int .i64 ek) ∧ w'.cell? ⟨w2.heap.size, 0, none⟩ = some (.int .u32 es) ∧ w'.cell? ⟨w2.heap.size, 1, none⟩ = some (.int .i64 ec) ∧ w'.cell? ⟨w2.heap.size, 2, none⟩ = some (.int .i64 ef) ∧ w'.cell? ⟨w2.heap.size, 3, none⟩ = some (.int .i64 ek))) 99 [(0, true), (1, true), (2, true), (3, true), (4, true), (5, true), (6, true), (7, true), (8, false), (9, true), (10, false), (11, true), (12, true)] (by kernel_rfl) (by kernel_rfl) (by kernel_rfl) ⟨q0w, q1w, d0, d1, d2, d3, g0, g1, g2, g3⟩ ?_
    refine path_read (i := 0) (v := ?v3_0) rfl (by rfl) (fun _ _ _ h => h) ?hy3_0 ?_
    case hy3_0 => ((intro w hSw; (try dsimp only at hSw); go_simp) <;> (try with_reducible rfl))
    try simp only [Act.put, List.setIfInBounds_toArray, List.set_cons_zero, List.set_cons_succ]
    refine path_read (i := 1) (v := ?v3_1) rfl (by rfl) (fun _ _ _ h => h) ?hy3_1 ?_
    case hy3_1 => ((intro w hSw; (try dsimp only at hSw); go_simp) <;> (try with_reducible rfl))
    try simp only [Act.put, List.setIfInBounds_toArray, List.set_cons_zero, List.set_cons_succ]
    refine path_read (i := 2) (v := ?v3_2) rfl (by rfl) (fun _ _ _ h => h) ?hy3_2 ?_
    case hy3_2 => ((intro w hSw; (try dsimp only at hSw); go_simp) <;> (try with_reducible rfl))
    try simp only [Act.put, List.setIfInBounds_toArray, List.set_cons_zero, List.set_cons_succ]
    refine path_read (i := 3) (v := ?v3_3) rfl (by rfl) (fun _ _ _ h => h) ?hy3_3 ?_
    case hy3_3 => ((intro w hSw; (try dsimp only at hSw); go_simp) <;> (try with_reducible rfl))
    try simp only [Act.put, List.setIfInBounds_toArray, List.set_cons_zero, List.set_cons_succ]
    refine path_read (i := 4) (v := ?v3_4) rfl (by rfl) (fun _ _ _ h => h) ?hy3_4 ?_
    case hy3_4 => ((intro w hSw; (try dsimp only at hSw); go_simp) <;> (try with_reducible rfl))
    try simp only [Act.put, List.setIfInBounds_toArray, List.set_cons_zero, List.set_cons_succ]
    refine path_read (i := 5) (v := ?v3_5) rfl (by rfl) (fun _ _ _ h => h) ?hy3_5 ?_
    case hy3_5 => ((intro w hSw; (try dsimp only at hSw); go_simp) <;> (try with_reducible rfl))
    try simp only [Act.put, List.setIfInBounds_toArray, List.set_cons_zero, List.set_cons_succ]
    refine path_read (i := 6) (v := ?v3_6) rfl (by rfl) (fun _ _ _ h => h) ?hy3_6 ?_
    case hy3_6 => ((intro w hSw; (try dsimp only at hSw); go_simp) <;> (try with_reducible rfl))
    try simp only [Act.put, List.setIfInBounds_toArray, List.set_cons_zero, List.set_cons_succ]
    refine path_read (i := 7) (v := ?v3_7) rfl (by rfl) (fun _ _ _ h => h) ?hy3_7 ?_
    case hy3_7 => ((intro w hSw; (try dsimp only at hSw); go_simp) <;> (try with_reducible rfl))
    try simp only [Act.put, List.setIfInBounds_toArray, List.set_cons_zero, List.set_cons_succ]
    refine path_do (i := 8) rfl ?_
    go_wp2_with ((go_at_call 28; refine (HSM.out _).mono ?_; rintro e3 w3 ⟨rfl, hs3'⟩; have HS3 : Hid (Same wq w3) := Lib.hid ((Chg.refl (fun _ => False) wq).drew.trans hs3'); have r03 := HS3.out.cell r0w (fun q => q); have r13 := HS3.out.cell r1w (fun q => q); have fR3 := frozen_at (HS3.out.at_ HRw.out (fun q => q))))
    refine ⟨.inr ?keep3_8, ?_⟩
    case keep3_8 => ((first | (exact ⟨(chg_set2 _ _ HS3.out).cell q0w (by omega), (chg_set2 _ _ HS3.out).cell q1w (by omega), (chg_set2 _ _ HS3.out).cell d0 (by omega), (chg_set2 _ _ HS3.out).cell d1 (by omega), (chg_set2 _ _ HS3.out).cell d2 (by omega), (chg_set2 _ _ HS3.out).cell d3 (by omega), (chg_set2 _ _ HS3.out).cell g0 (by omega), (chg_set2 _ _ HS3.out).cell g1 (by omega), (chg_set2 _ _ HS3.out).cell g2 (by omega), (chg_set2 _ _ HS3.out).cell g3 (by omega)⟩) | (exact ⟨HS3.out.cell q0w (fun q => q), HS3.out.cell q1w (fun q => q), HS3.out.cell d0 (fun q => q), HS3.out.cell d1 (fun q => q), HS3.out.cell d2 (fun q => q), HS3.out.cell d3 (fun q => q), HS3.out.cell g0 (fun q => q), HS3.out.cell g1 (fun q => q), HS3.out.cell g2 (fun q => q), HS3.out.cell g3 (fun q => q)⟩) | go_keep))
    try simp only [Act.put, List.setIfInBounds_toArray, List.set_cons_zero, List.set_cons_succ]
    refine path_read (i := 9) (v := ?v3_9) rfl (by rfl) (fun _ _ _ h => h) ?hy3_9 ?_
    case hy3_9 => ((intro w hSw; (try dsimp only at hSw); go_simp) <;> (try with_reducible rfl))
    try simp only [Act.put, List.setIfInBounds_toArray, List.set_cons_zero, List.set_cons_succ]
    refine path_do (i := 10) rfl ?_
    go_wp2_with ((go_at_call 28; refine (HSM.out _).mono ?_; rintro e3 w3 ⟨rfl, hs3'⟩; have HS3 : Hid (Same wq w3) := Lib.hid ((Chg.refl (fun _ => False) wq).drew.trans hs3'); have r03 := HS3.out.cell r0w (fun q => q); have r13 := HS3.out.cell r1w (fun q => q); have fR3 := frozen_at (HS3.out.at_ HRw.out (fun q => q))))
    refine ⟨.inr ?keep3_10, ?_⟩
    case keep3_10 => ((first | (exact ⟨(chg_set2 _ _ HS3.out).cell q0w (by omega), (chg_set2 _ _ HS3.out).cell q1w (by omega), (chg_set2 _ _ HS3.out).cell d0 (by omega), (chg_set2 _ _ HS3.out).cell d1 (by omega), (chg_set2 _ _ HS3.out).cell d2 (by omega), (chg_set2 _ _ HS3.out).cell d3 (by omega), (chg_set2 _ _ HS3.out).cell g0 (by omega), (chg_set2 _ _ HS3.out).cell g1 (by omega), (chg_set2 _ _ HS3.out).cell g2 (by omega), (chg_set2 _ _ HS3.out).cell g3 (by omega)⟩) | (exact ⟨HS3.out.cell q0w (fun q => q), HS3.out.cell q1w (fun q => q), HS3.out.cell d0 (fun q => q), HS3.out.cell d1 (fun q => q), HS3.out.cell d2 (fun q => q), HS3.out.cell d3 (fun q => q), HS3.out.cell g0 (fun q => q), HS3.out.cell g1 (fun q => q), HS3.out.cell g2 (fun q => q), HS3.out.cell g3 (fun q => q)⟩) | go_keep))
    try simp only [Act.put, List.setIfInBounds_toArray, List.set_cons_zero, List.set_cons_succ]
    refine path_read (i := 11) (v := ?v3_11) rfl (by rfl) (fun _ _ _ h => h) ?hy3_11 ?_
    case hy3_11 => ((intro w hSw; (try dsimp only at hSw); go_simp) <;> (try with_reducible rfl))
    try simp only [Act.put, List.setIfInBounds_toArray, List.set_cons_zero, List.set_cons_succ]
    refine path_read (i := 12) (v := ?v3_12) rfl (by rfl) (fun _ _ _ h => h) ?hy3_12 ?_
    case hy3_12 => ((intro w hSw; (try dsimp only at hSw); go_simp) <;> (try with_reducible rfl))
    try simp only [Act.put, List.setIfInBounds_toArray, List.set_cons_zero, List.set_cons_succ]
    refine path_end ?_
    go_wp2
    refine bodyPost_ret (results_cell_tmp2 Try.results20 rfl (run_load_rlog (a := .int .i64 N) (c := .slice A n cap) ?_)) rfl ⟨L, N, l, A, n, cap, rfl, HR.out, Nat.le_refl _, ?_, ?_, ?_⟩
    · refine at_setCell (C := [.int .i64 N, .slice none 0 0]) _ ?_
      refine at_setCell (C := [.int .i64 0, .slice none 0 0]) _ ?_
      exact HS3.out.at_ HRw.out (fun q => q)
    · exact (HL0.out.chg (HSQ.out.trans HS3.out) (fun q => q)).chg (chg_set2 _ _ (Chg.refl _ _)) (by omega)
    · exact (HA0.out.chg (HSQ.out.trans HS3.out) (fun _ _ _ _ q => q)).chg (chg_set2 _ _ (Chg.refl _ _)) (fun b _ _ ⟨cur, fr, ht⟩ => ne_of_type ht (HS3.out.at_ HRw.out (fun q => q)) (by decide))
    · refine Chg.setCell (Chg.setCell ?_ _ _ (fun q => by simp at q; omega)) _ _ (fun q => by simp at q; omega)
      exact Chg.of_same (HS0.out.trans (HSQ.out.trans HS3.out))
end Go.Proofs.Ytchodbcfncdmaaa
