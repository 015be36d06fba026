/- agree of compositorlaw31, the end: Check, Find, Latest. -/
import Derived.Test.YtchodbcfncdmaaaAgree31b
set_option linter.unusedVariables false
set_option linter.unusedSimpArgs false
namespace Go.Proofs.Ytchodbcfncdmaaa
open Go.RowKit

set_option maxRecDepth 100000 in
set_option maxHeartbeats 8000000 in
theorem agree_check (A : Option Addr) (B N n cap base : Nat) (L : SLog) (l : List Ent) (x : LOp) (w : World) (hr : RelR L N l) (hL : LogAt w B L) (h : SlotsAt w base A n l) (hBb : B < base) (hb : base ≤ w.heap.size) (hx : x.ok) (hN : N ≤ 700) (hk : x.kind = 2) :
    Calls Try.prog 20 #[.pointer (some ⟨B, 0, none⟩), .agg #[.int .i64 N, .slice A n cap], .int .u32 N, .agg x.cells.toArray] w fun e w' => AgreeRet B base N w e w' := by
  obtain ⟨k, m, c, s, e, ms, bk⟩ := x
  obtain ⟨_, _, hc2, hs2, he2, hms2, hbk⟩ := hx
  simp only [i64ok] at hc2 hs2 he2 hms2 hbk
  simp only at hk
  subst hk
  have hBw : B < w.heap.size := lt_of_at hL.1
  have hn1 : n ≤ 1000 := by have := hr.len; have := h.1; omega
  have HR := Lib.hid hr
  have HL := Lib.hid hL
  have HA := Lib.hid h
  have HKK := Lib.hid (fun (e : Ent) (he : e ∈ l) => (show 0 ≤ e.k ∧ e.k ≤ 62 by have := hr.mem e he; omega))
  clear hr hL h
  simp only [LOp.cells]
  go_enter Try.func20, Try.ntmps20
  go_wp2_with fail
  have hs0 : Same w (((w.alloc (.cells #[.int .i64 N, .slice A n cap] 42)).alloc (.cells #[.int .i64 2, .int .i64 m, .int .i64 c, .int .i64 s, .int .i64 e, .int .i64 ms, .int .u32 bk] 25)).alloc (.cells #[.int .i64 0, .slice none 0 0] 42)) := (((Chg.refl (fun _ => False) w).alloc _).alloc _).alloc _
  have hP0 : (((w.alloc (.cells #[.int .i64 N, .slice A n cap] 42)).alloc (.cells #[.int .i64 2, .int .i64 m, .int .i64 c, .int .i64 s, .int .i64 e, .int .i64 ms, .int .u32 bk] 25)).alloc (.cells #[.int .i64 0, .slice none 0 0] 42)).heap[w.heap.size]? = some (.cells #[.int .i64 N, .slice A n cap] 42 (0, 0)) := at_alloc (at_alloc (at_new _ _))
  have hO0 : (((w.alloc (.cells #[.int .i64 N, .slice A n cap] 42)).alloc (.cells #[.int .i64 2, .int .i64 m, .int .i64 c, .int .i64 s, .int .i64 e, .int .i64 ms, .int .u32 bk] 25)).alloc (.cells #[.int .i64 0, .slice none 0 0] 42)).heap[w.heap.size + 1]? = some (.cells #[.int .i64 2, .int .i64 m, .int .i64 c, .int .i64 s, .int .i64 e, .int .i64 ms, .int .u32 bk] 25 (0, 0)) := at_alloc (heap_alloc2_new w _ _)
  have hR0 : (((w.alloc (.cells #[.int .i64 N, .slice A n cap] 42)).alloc (.cells #[.int .i64 2, .int .i64 m, .int .i64 c, .int .i64 s, .int .i64 e, .int .i64 ms, .int .u32 bk] 25)).alloc (.cells #[.int .i64 0, .slice none 0 0] 42)).heap[w.heap.size + 1 + 1]? = some (.cells #[.int .i64 0, .slice none 0 0] 42 (0, 0)) := heap_alloc3_new w _ _ _
  have hsz0 : w.heap.size + 3 = (((w.alloc (.cells #[.int .i64 N, .slice A n cap] 42)).alloc (.cells #[.int .i64 2, .int .i64 m, .int .i64 c, .int .i64 s, .int .i64 e, .int .i64 ms, .int .u32 bk] 25)).alloc (.cells #[.int .i64 0, .slice none 0 0] 42)).heap.size := by simp
  generalize (((w.alloc (.cells #[.int .i64 N, .slice A n cap] 42)).alloc (.cells #[.int .i64 2, .int .i64 m, .int .i64 c, .int .i64 s, .int .i64 e, .int .i64 ms, .int .u32 bk] 25)).alloc (.cells #[.int .i64 0, .slice none 0 0] 42)) = wr at *
  have q0 := cell_at (C := [.int .i64 N, .slice A n cap]) hP0 0
  have q1 := cell_at (C := [.int .i64 N, .slice A n cap]) hP0 1
  have o2 := cell_at (C := [.int .i64 2, .int .i64 m, .int .i64 c, .int .i64 s, .int .i64 e, .int .i64 ms, .int .u32 bk]) hO0 2
  have o5 := cell_at (C := [.int .i64 2, .int .i64 m, .int .i64 c, .int .i64 s, .int .i64 e, .int .i64 ms, .int .u32 bk]) hO0 5
  have r0 := cell_at (C := [.int .i64 0, .slice none 0 0]) hR0 0
  have r1 := cell_at (C := [.int .i64 0, .slice none 0 0]) hR0 1
  simp only [List.getElem?_cons_zero, List.getElem?_cons_succ] at q0 q1 o2 o5 r0 r1
  have HS0 := Lib.hid hs0
  have HR0 := Lib.hid hR0
  have HL0 := Lib.hid (HL.out.chg hs0 (fun q => q))
  have HA0 := Lib.hid (HA.out.chg hs0 (fun _ _ _ _ q => q))
  clear hs0 hP0 hO0 hR0
  have HCK := Lib.hid (HR.out.check (((N : Int) - bk) % 4294967296) c ms)
  refine region_path (S := (fun w' => w'.cell? ⟨w.heap.size, 0, none⟩ = some (.int .i64 N) ∧ w'.cell? ⟨w.heap.size, 1, none⟩ = some (.slice A n cap) ∧ w'.cell? ⟨w.heap.size + 1, 2, none⟩ = some (.int .i64 c) ∧ w'.cell? ⟨w.heap.size + 1, 5, none⟩ = some (.int .i64 ms))) 99 [(0, true), (1, true), (2, true), (3, true), (4, true), (5, true), (6, true), (7, true), (9, true), (10, true), (11, true), (12, true), (13, true), (14, true), (8, false), (15, false), (16, true), (17, false), (18, true), (19, true)] (by kernel_rfl) (by kernel_rfl) (by kernel_rfl) ⟨q0, q1, o2, o5⟩ ?_
  refine path_read (i := 0) (v := ?v1_0) rfl (by rfl) (fun _ _ _ h => h) ?hy1_0 ?_
  case hy1_0 => ((intro w hSw; (try dsimp only at hSw); go_simp) <;> (try with_reducible rfl))
  try simp only [Act.put, List.setIfInBounds_toArray, List.set_cons_zero, List.set_cons_succ]
  refine path_read (i := 1) (v := ?v1_1) rfl (by rfl) (fun _ _ _ h => h) ?hy1_1 ?_
  case hy1_1 => ((intro w hSw; (try dsimp only at hSw); go_simp) <;> (try with_reducible rfl))
  try simp only [Act.put, List.setIfInBounds_toArray, List.set_cons_zero, List.set_cons_succ]
  refine path_read (i := 2) (v := ?v1_2) rfl (by rfl) (fun _ _ _ h => h) ?hy1_2 ?_
  case hy1_2 => ((intro w hSw; (try dsimp only at hSw); go_simp) <;> (try with_reducible rfl))
  try simp only [Act.put, List.setIfInBounds_toArray, List.set_cons_zero, List.set_cons_succ]
  refine path_read (i := 3) (v := ?v1_3) rfl (by rfl) (fun _ _ _ h => h) ?hy1_3 ?_
  case hy1_3 => ((intro w hSw; (try dsimp only at hSw); go_simp) <;> (try with_reducible rfl))
  try simp only [Act.put, List.setIfInBounds_toArray, List.set_cons_zero, List.set_cons_succ]
  refine path_read (i := 4) (v := ?v1_4) rfl (by rfl) (fun _ _ _ h => h) ?hy1_4 ?_
  case hy1_4 => ((intro w hSw; (try dsimp only at hSw); go_simp) <;> (try with_reducible rfl))
  try simp only [Act.put, List.setIfInBounds_toArray, List.set_cons_zero, List.set_cons_succ]
  refine path_read (i := 5) (v := ?v1_5) rfl (by rfl) (fun _ _ _ h => h) ?hy1_5 ?_
  case hy1_5 => ((intro w hSw; (try dsimp only at hSw); go_simp) <;> (try with_reducible rfl))
  try simp only [Act.put, List.setIfInBounds_toArray, List.set_cons_zero, List.set_cons_succ]
  refine path_read (i := 6) (v := ?v1_6) rfl (by rfl) (fun _ _ _ h => h) ?hy1_6 ?_
  case hy1_6 => ((intro w hSw; (try dsimp only at hSw); go_simp) <;> (try with_reducible rfl))
  try simp only [Act.put, List.setIfInBounds_toArray, List.set_cons_zero, List.set_cons_succ]
  refine path_read (i := 7) (v := ?v1_7) rfl (by rfl) (fun _ _ _ h => h) ?hy1_7 ?_
  case hy1_7 => ((intro w hSw; (try dsimp only at hSw); go_simp) <;> (try with_reducible rfl))
  try simp only [Act.put, List.setIfInBounds_toArray, List.set_cons_zero, List.set_cons_succ]
  refine path_read (i := 9) (v := ?v1_9) rfl (by rfl) (fun _ _ _ h => h) ?hy1_9 ?_
  case hy1_9 => ((intro w hSw; (try dsimp only at hSw); go_simp) <;> (try with_reducible rfl))
  try simp only [Act.put, List.setIfInBounds_toArray, List.set_cons_zero, List.set_cons_succ]
  refine path_read (i := 10) (v := ?v1_10) rfl (by rfl) (fun _ _ _ h => h) ?hy1_10 ?_
  case hy1_10 => ((intro w hSw; (try dsimp only at hSw); go_simp) <;> (try with_reducible rfl))
  try simp only [Act.put, List.setIfInBounds_toArray, List.set_cons_zero, List.set_cons_succ]
  refine path_read (i := 11) (v := ?v1_11) rfl (by rfl) (fun _ _ _ h => h) ?hy1_11 ?_
  case hy1_11 => ((intro w hSw; (try dsimp only at hSw); go_simp) <;> (try with_reducible rfl))
  try simp only [Act.put, List.setIfInBounds_toArray, List.set_cons_zero, List.set_cons_succ]
  refine path_read (i := 12) (v := ?v1_12) rfl (by rfl) (fun _ _ _ h => h) ?hy1_12 ?_
  case hy1_12 => ((intro w hSw; (try dsimp only at hSw); go_simp) <;> (try with_reducible rfl))
  try simp only [Act.put, List.setIfInBounds_toArray, List.set_cons_zero, List.set_cons_succ]
  refine path_read (i := 13) (v := ?v1_13) rfl (by rfl) (fun _ _ _ h => h) ?hy1_13 ?_
  case hy1_13 => ((intro w hSw; (try dsimp only at hSw); go_simp) <;> (try with_reducible rfl))
  try simp only [Act.put, List.setIfInBounds_toArray, List.set_cons_zero, List.set_cons_succ]
  refine path_read (i := 14) (v := ?v1_14) rfl (by rfl) (fun _ _ _ h => h) ?hy1_14 ?_
  case hy1_14 => ((intro w hSw; (try dsimp only at hSw); go_simp) <;> (try with_reducible rfl))
  try simp only [Act.put, List.setIfInBounds_toArray, List.set_cons_zero, List.set_cons_succ]
  refine path_do (i := 8) rfl ?_
  go_wp2_with ((first | (go_at_call 13; refine (check_ok _ _ _ _ _ L (HL0.out.chg (Chg.refl (fun _ => False) wr).drew (fun q => q))).mono ?_; rintro e1 w1 ⟨rfl, hs1⟩; have HS1 : Hid (Same wr w1) := Lib.hid ((Chg.refl (fun _ => False) wr).drew.trans hs1)) | (go_at_call 26; refine (rCheck_ok A N n cap base l _ _ _ _ (HA0.out.chg HS1.out (fun _ _ _ _ q => q)) hn1 HKK.out).mono ?_; rintro e2 w2 ⟨rfl, hs2'⟩; have HS2 : Hid (Same wr w2) := Lib.hid (HS1.out.trans hs2'); have r02 := HS2.out.cell r0 (fun q => q); have r12 := HS2.out.cell r1 (fun q => q); have fR2 := frozen_at (HS2.out.at_ HR0.out (fun q => q)))))
  refine ⟨.inr ?keep1_8, ?_⟩
  case keep1_8 => ((first | (exact ⟨(chg_set2 _ _ HS2.out).cell q0 (by omega), (chg_set2 _ _ HS2.out).cell q1 (by omega), (chg_set2 _ _ HS2.out).cell o2 (by omega), (chg_set2 _ _ HS2.out).cell o5 (by omega)⟩) | (exact ⟨HS2.out.cell q0 (fun q => q), HS2.out.cell q1 (fun q => q), HS2.out.cell o2 (fun q => q), HS2.out.cell o5 (fun q => q)⟩) | (exact ⟨HS1.out.cell q0 (fun q => q), HS1.out.cell q1 (fun q => q), HS1.out.cell o2 (fun q => q), HS1.out.cell o5 (fun q => q)⟩) | go_keep))
  try simp only [Act.put, List.setIfInBounds_toArray, List.set_cons_zero, List.set_cons_succ]
  refine path_do (i := 15) rfl ?_
  go_wp2_with ((first | (go_at_call 13; refine (check_ok _ _ _ _ _ L (HL0.out.chg (Chg.refl (fun _ => False) wr).drew (fun q => q))).mono ?_; rintro e1 w1 ⟨rfl, hs1⟩; have HS1 : Hid (Same wr w1) := Lib.hid ((Chg.refl (fun _ => False) wr).drew.trans hs1)) | (go_at_call 26; refine (rCheck_ok A N n cap base l _ _ _ _ (HA0.out.chg HS1.out (fun _ _ _ _ q => q)) hn1 HKK.out).mono ?_; rintro e2 w2 ⟨rfl, hs2'⟩; have HS2 : Hid (Same wr w2) := Lib.hid (HS1.out.trans hs2'); have r02 := HS2.out.cell r0 (fun q => q); have r12 := HS2.out.cell r1 (fun q => q); have fR2 := frozen_at (HS2.out.at_ HR0.out (fun q => q)))))
  refine ⟨.inr ?keep1_15, ?_⟩
  case keep1_15 => ((first | (exact ⟨(chg_set2 _ _ HS2.out).cell q0 (by omega), (chg_set2 _ _ HS2.out).cell q1 (by omega), (chg_set2 _ _ HS2.out).cell o2 (by omega), (chg_set2 _ _ HS2.out).cell o5 (by omega)⟩) | (exact ⟨HS2.out.cell q0 (fun q => q), HS2.out.cell q1 (fun q => q), HS2.out.cell o2 (fun q => q), HS2.out.cell o5 (fun q => q)⟩) | (exact ⟨HS1.out.cell q0 (fun q => q), HS1.out.cell q1 (fun q => q), HS1.out.cell o2 (fun q => q), HS1.out.cell o5 (fun q => q)⟩) | go_keep))
  try simp only [Act.put, List.setIfInBounds_toArray, List.set_cons_zero, List.set_cons_succ]
  refine path_read (i := 16) (v := ?v1_16) rfl (by rfl) (fun _ _ _ h => h) ?hy1_16 ?_
  case hy1_16 => ((intro w hSw; (try dsimp only at hSw); go_simp) <;> (try with_reducible rfl))
  try simp only [Act.put, List.setIfInBounds_toArray, List.set_cons_zero, List.set_cons_succ]
  refine path_do (i := 17) rfl ?_
  go_wp2_with ((first | (go_at_call 13; refine (check_ok _ _ _ _ _ L (HL0.out.chg (Chg.refl (fun _ => False) wr).drew (fun q => q))).mono ?_; rintro e1 w1 ⟨rfl, hs1⟩; have HS1 : Hid (Same wr w1) := Lib.hid ((Chg.refl (fun _ => False) wr).drew.trans hs1)) | (go_at_call 26; refine (rCheck_ok A N n cap base l _ _ _ _ (HA0.out.chg HS1.out (fun _ _ _ _ q => q)) hn1 HKK.out).mono ?_; rintro e2 w2 ⟨rfl, hs2'⟩; have HS2 : Hid (Same wr w2) := Lib.hid (HS1.out.trans hs2'); have r02 := HS2.out.cell r0 (fun q => q); have r12 := HS2.out.cell r1 (fun q => q); have fR2 := frozen_at (HS2.out.at_ HR0.out (fun q => q)))))
  refine ⟨.inr ?keep1_17, ?_⟩
  case keep1_17 => ((first | (exact ⟨(chg_set2 _ _ HS2.out).cell q0 (by omega), (chg_set2 _ _ HS2.out).cell q1 (by omega), (chg_set2 _ _ HS2.out).cell o2 (by omega), (chg_set2 _ _ HS2.out).cell o5 (by omega)⟩) | (exact ⟨HS2.out.cell q0 (fun q => q), HS2.out.cell q1 (fun q => q), HS2.out.cell o2 (fun q => q), HS2.out.cell o5 (fun q => q)⟩) | (exact ⟨HS1.out.cell q0 (fun q => q), HS1.out.cell q1 (fun q => q), HS1.out.cell o2 (fun q => q), HS1.out.cell o5 (fun q => q)⟩) | go_keep))
  try simp only [Act.put, List.setIfInBounds_toArray, List.set_cons_zero, List.set_cons_succ]
  refine path_read (i := 18) (v := ?v1_18) rfl (by rfl) (fun _ _ _ h => h) ?hy1_18 ?_
  case hy1_18 => ((intro w hSw; (try dsimp only at hSw); go_simp) <;> (try with_reducible rfl))
  try simp only [Act.put, List.setIfInBounds_toArray, List.set_cons_zero, List.set_cons_succ]
  refine path_read (i := 19) (v := ?v1_19) rfl (by rfl) (fun _ _ _ h => h) ?hy1_19 ?_
  case hy1_19 => ((intro w hSw; (try dsimp only at hSw); go_simp) <;> (try with_reducible rfl))
  try simp only [Act.put, List.setIfInBounds_toArray, List.set_cons_zero, List.set_cons_succ]
  refine path_end ?_
  go_wp2
  refine bodyPost_ret (results_cell_tmp2 Try.results20 rfl (run_load_rlog (a := .int .i64 N) (c := .slice A n cap) ?_)) rfl ⟨L, N, l, A, n, cap, by rw [HCK.out]; simp [go_sem], HR.out, Nat.le_refl _, ?_, ?_, ?_⟩
  · refine at_setCell (C := [.int .i64 N, .slice none 0 0]) _ ?_
    refine at_setCell (C := [.int .i64 0, .slice none 0 0]) _ ?_
    exact HS2.out.at_ HR0.out (fun q => q)
  · exact (HL0.out.chg HS2.out (fun q => q)).chg (chg_set2 _ _ (Chg.refl _ _)) (by omega)
  · exact (HA0.out.chg HS2.out (fun _ _ _ _ q => q)).chg (chg_set2 _ _ (Chg.refl _ _)) (fun b _ _ ⟨cur, fr, ht⟩ => ne_of_type ht (HS2.out.at_ HR0.out (fun q => q)) (by decide))
  · refine Chg.setCell (Chg.setCell ?_ _ _ (fun q => by simp at q; omega)) _ _ (fun q => by simp at q; omega)
    exact Chg.of_same (HS0.out.trans HS2.out)
end Go.Proofs.Ytchodbcfncdmaaa
