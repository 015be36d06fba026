/- session.call of compositorlaw43 on a drag that New did not make. -/
import Derived.Test.YteolilggeaffaaaPk20
set_option linter.unusedVariables false
set_option linter.unusedSimpArgs false
set_option maxRecDepth 100000
namespace Go.Proofs.Yteolilggeaffaaa
open Go.RowKit

theorem dstart_un (v : Value) (client surface icon acts n : Int) (A : Option Addr) (m cap : Nat) (w : World) (h : ∀ w', Same w w' → Calls Try.prog 42 #[v] w' fun e w'' => e = .returned (.bool false) ∧ w' = w'') : Calls Try.prog 31 #[v, .int .i64 client, .int .i64 surface, .int .i64 icon, .agg #[.slice A m cap, .int .i64 acts], .int .u32 n] w fun e w' => e = .returned (.int .i64 1) ∧ Same w w' := by
  go_enter Try.func31, Try.ntmps31
  go_wp2
  go_step3
  go_wp2_with fail
  refine (h _ ((Chg.refl _ _).alloc _)).mono ?_
  rintro e w' ⟨rfl, rfl⟩
  go_wp2
  try rw [Exit.noGoto_ret]
  go_ret
  exact ⟨rfl, (Chg.refl _ _).alloc _⟩
theorem infoRes : (Try.prog.info? 63).map (fun i => i.size) = some 3 := by kernel_rfl
theorem run_load_res {w : World} {g : Nat} {a b c : Value} (h : w.heap[g]? = some (.cells #[a, b, c] 63 (0, 0))) : (loadVar 63 ⟨g, 0, none⟩).run Try.prog w = .ok (.agg #[a, b, c]) w :=
  run_loadMid (P := Try.prog) (C := [a, b, c]) 63 0 3 _ h infoRes Try.underlying63 rfl (by simp)
theorem res_set {w : World} {g : Nat} {a b c : Value} (x y z : Value) (h : w.heap[g]? = some (.cells #[a, b, c] 63 (0, 0))) : (((w.setCell ⟨g, 0, none⟩ x).setCell ⟨g, 1, none⟩ y).setCell ⟨g, 2, none⟩ z).heap[g]? = some (.cells #[x, y, z] 63 (0, 0)) :=
  at_setCell (C := [x, y, c]) (i := 2) z (at_setCell (C := [x, b, c]) (i := 1) y (at_setCell (C := [a, b, c]) (i := 0) x h))
theorem res_cells {w : World} {g : Nat} {a b c : Value} (h : w.heap[g]? = some (.cells #[a, b, c] 63 (0, 0))) : w.cell? ⟨g, 0, none⟩ = some a ∧ w.cell? ⟨g, 1, none⟩ = some b ∧ w.cell? ⟨g, 2, none⟩ = some c :=
  ⟨cell_at (C := [a, b, c]) h 0, cell_at (C := [a, b, c]) h 1, cell_at (C := [a, b, c]) h 2⟩
theorem res_chg (w : World) (g : Nat) (x y z : Value) : Chg (fun i => i = g) w (((w.setCell ⟨g, 0, none⟩ x).setCell ⟨g, 1, none⟩ y).setCell ⟨g, 2, none⟩ z) := by
  refine Chg.setCell (Chg.setCell (Chg.setCell (Chg.refl (fun i => i = g) w) _ _ ?_) _ _ ?_) _ _ ?_
  all_goals exact fun _ => rfl
def NoMade (dv : Value) (w : World) : Prop := ∀ w', Same w w' → Calls Try.prog 42 #[dv] w' fun e w'' => e = .returned (.bool false) ∧ w' = w''
theorem NoMade.keep {dv : Value} {w w' : World} (h : NoMade dv w) (k : Same w w') : NoMade dv w' := fun _ k2 => h _ (k.trans k2)
theorem NoMade.now {dv : Value} {w : World} (h : NoMade dv w) : Calls Try.prog 42 #[dv] w fun e w'' => e = .returned (.bool false) ∧ w = w'' := h _ (Chg.refl _ _)
section
variable {w : World} {sb : Nat} {dv : Value}
set_option maxHeartbeats 4000000 in
theorem call_un1 (client surface nn other px py tm back acts : Int) (fo : ByteArray) (A : Option Addr) (len cap : Nat) (hm : NoMade dv w) (hs : w.heap[sb]? = some (.cells #[.pointer none, dv, .int .u32 0, .slice none 0 0] 36 (0, 0))) :
    Calls Try.prog 27 #[.pointer (some ⟨sb, 0, none⟩), .agg #[.int .i64 1, .int .i64 client, .int .i64 surface, .int .i64 nn, .int .i64 other, .int .i64 px, .int .i64 py, .int .i64 tm, .int .u32 back, .string fo, .slice A len cap, .int .i64 acts]] w fun e w' => e = .returned (.agg #[.slice none 0 0, .bool false, .int .i64 1]) ∧ Same w w' := by
  have HM := Lib.hid hm
  have hsl := lt_of_at hs
  have q1 : w.cell? ⟨sb, 1, none⟩ = some dv := cell_at (C := [.pointer none, dv, .int .u32 0, .slice none 0 0]) hs 1
  have q2 : w.cell? ⟨sb, 2, none⟩ = some (.int .u32 0) := cell_at (C := [.pointer none, dv, .int .u32 0, .slice none 0 0]) hs 2
  have hb0 := (Chg.refl (fun _ => False) _).alloc (.cells #[.slice none 0 0, .bool false, .int .i64 0] 63) |>.at_ (at_new w (.cells #[.int .i64 1, .int .i64 client, .int .i64 surface, .int .i64 nn, .int .i64 other, .int .i64 px, .int .i64 py, .int .i64 tm, .int .u32 back, .string fo, .slice A len cap, .int .i64 acts] 67)) (fun q => q)
  have hb1 := at_new2 w (.cells #[.int .i64 1, .int .i64 client, .int .i64 surface, .int .i64 nn, .int .i64 other, .int .i64 px, .int .i64 py, .int .i64 tm, .int .u32 back, .string fo, .slice A len cap, .int .i64 acts] 67) (.cells #[.slice none 0 0, .bool false, .int .i64 0] 63)
  have HK0 := Lib.hid (Chg.refl (fun x => x = w.heap.size + 1) ((w.alloc (.cells #[.int .i64 1, .int .i64 client, .int .i64 surface, .int .i64 nn, .int .i64 other, .int .i64 px, .int .i64 py, .int .i64 tm, .int .u32 back, .string fo, .slice A len cap, .int .i64 acts] 67)).alloc (.cells #[.slice none 0 0, .bool false, .int .i64 0] 63)))
  have HS0 := Lib.hid (((Chg.refl (fun _ => False) w).alloc (.cells #[.int .i64 1, .int .i64 client, .int .i64 surface, .int .i64 nn, .int .i64 other, .int .i64 px, .int .i64 py, .int .i64 tm, .int .u32 back, .string fo, .slice A len cap, .int .i64 acts] 67)).alloc (.cells #[.slice none 0 0, .bool false, .int .i64 0] 63))
  have q1b := HS0.out.cell q1 (fun q => q)
  have q2b := HS0.out.cell q2 (fun q => q)
  have KEEP := Lib.hid (fun (w' : World) (k : Chg (fun x => x = w.heap.size + 1) _ w') => And.intro (k.cell q1b (by show ¬ sb = w.heap.size + 1; omega)) (And.intro (k.cell q2b (by show ¬ sb = w.heap.size + 1; omega)) (And.intro (k.cell (cell_at (C := [.int .i64 1, .int .i64 client, .int .i64 surface, .int .i64 nn, .int .i64 other, .int .i64 px, .int .i64 py, .int .i64 tm, .int .u32 back, .string fo, .slice A len cap, .int .i64 acts]) hb0 1) (by show ¬ w.heap.size = w.heap.size + 1; omega)) (And.intro (k.cell (cell_at (C := [.int .i64 1, .int .i64 client, .int .i64 surface, .int .i64 nn, .int .i64 other, .int .i64 px, .int .i64 py, .int .i64 tm, .int .u32 back, .string fo, .slice A len cap, .int .i64 acts]) hb0 2) (by show ¬ w.heap.size = w.heap.size + 1; omega)) (And.intro (k.cell (cell_at (C := [.int .i64 1, .int .i64 client, .int .i64 surface, .int .i64 nn, .int .i64 other, .int .i64 px, .int .i64 py, .int .i64 tm, .int .u32 back, .string fo, .slice A len cap, .int .i64 acts]) hb0 3) (by show ¬ w.heap.size = w.heap.size + 1; omega)) (And.intro (k.cell (cell_at (C := [.int .i64 1, .int .i64 client, .int .i64 surface, .int .i64 nn, .int .i64 other, .int .i64 px, .int .i64 py, .int .i64 tm, .int .u32 back, .string fo, .slice A len cap, .int .i64 acts]) hb0 4) (by show ¬ w.heap.size = w.heap.size + 1; omega)) (And.intro (k.cell (cell_at (C := [.int .i64 1, .int .i64 client, .int .i64 surface, .int .i64 nn, .int .i64 other, .int .i64 px, .int .i64 py, .int .i64 tm, .int .u32 back, .string fo, .slice A len cap, .int .i64 acts]) hb0 5) (by show ¬ w.heap.size = w.heap.size + 1; omega)) (And.intro (k.cell (cell_at (C := [.int .i64 1, .int .i64 client, .int .i64 surface, .int .i64 nn, .int .i64 other, .int .i64 px, .int .i64 py, .int .i64 tm, .int .u32 back, .string fo, .slice A len cap, .int .i64 acts]) hb0 6) (by show ¬ w.heap.size = w.heap.size + 1; omega)) (And.intro (k.cell (cell_at (C := [.int .i64 1, .int .i64 client, .int .i64 surface, .int .i64 nn, .int .i64 other, .int .i64 px, .int .i64 py, .int .i64 tm, .int .u32 back, .string fo, .slice A len cap, .int .i64 acts]) hb0 7) (by show ¬ w.heap.size = w.heap.size + 1; omega)) (And.intro (k.cell (cell_at (C := [.int .i64 1, .int .i64 client, .int .i64 surface, .int .i64 nn, .int .i64 other, .int .i64 px, .int .i64 py, .int .i64 tm, .int .u32 back, .string fo, .slice A len cap, .int .i64 acts]) hb0 8) (by show ¬ w.heap.size = w.heap.size + 1; omega)) (And.intro (k.cell (cell_at (C := [.int .i64 1, .int .i64 client, .int .i64 surface, .int .i64 nn, .int .i64 other, .int .i64 px, .int .i64 py, .int .i64 tm, .int .u32 back, .string fo, .slice A len cap, .int .i64 acts]) hb0 9) (by show ¬ w.heap.size = w.heap.size + 1; omega)) (And.intro (k.cell (cell_at (C := [.int .i64 1, .int .i64 client, .int .i64 surface, .int .i64 nn, .int .i64 other, .int .i64 px, .int .i64 py, .int .i64 tm, .int .u32 back, .string fo, .slice A len cap, .int .i64 acts]) hb0 10) (by show ¬ w.heap.size = w.heap.size + 1; omega)) ((k.cell (cell_at (C := [.int .i64 1, .int .i64 client, .int .i64 surface, .int .i64 nn, .int .i64 other, .int .i64 px, .int .i64 py, .int .i64 tm, .int .u32 back, .string fo, .slice A len cap, .int .i64 acts]) hb0 11) (by show ¬ w.heap.size = w.heap.size + 1; omega)))))))))))))))
  have HB1 := Lib.hid hb1
  clear hm hs hb0 hb1 q1b q2b
  show Calls Try.prog 27 _ w _
  go_enter Try.func27, Try.ntmps27
  go_wp2_with fail
  have HK := Lib.hid (HK0.out.drew)
  have HS := Lib.hid (HS0.out.drew)
  have hcel := KEEP.out _ HK.out
  have HB1 := Lib.hid ((Chg.refl (fun _ => False) _).drew.at_ HB1.out (fun q => q))
  refine region_path (S := (fun w' => w'.cell? ⟨sb, 1, none⟩ = some dv ∧ w'.cell? ⟨sb, 2, none⟩ = some (.int .u32 0) ∧ w'.cell? ⟨w.heap.size, 1, none⟩ = some (.int .i64 client) ∧ w'.cell? ⟨w.heap.size, 2, none⟩ = some (.int .i64 surface) ∧ w'.cell? ⟨w.heap.size, 3, none⟩ = some (.int .i64 nn) ∧ w'.cell? ⟨w.heap.size, 4, none⟩ = some (.int .i64 other) ∧ w'.cell? ⟨w.heap.size, 5, none⟩ = some (.int .i64 px) ∧ w'.cell? ⟨w.heap.size, 6, none⟩ = some (.int .i64 py) ∧ w'.cell? ⟨w.heap.size, 7, none⟩ = some (.int .i64 tm) ∧ w'.cell? ⟨w.heap.size, 8, none⟩ = some (.int .u32 back) ∧ w'.cell? ⟨w.heap.size, 9, none⟩ = some (.string fo) ∧ w'.cell? ⟨w.heap.size, 10, none⟩ = some (.slice A len cap) ∧ w'.cell? ⟨w.heap.size, 11, none⟩ = some (.int .i64 acts))) 99 [(0, true), (1, true), (2, true), (3, true), (4, true), (5, true), (6, true), (7, true), (8, true), (9, true), (10, true), (11, true), (13, true), (14, true), (15, true), (16, true), (17, true), (18, true), (19, true), (12, false), (20, false), (21, true), (22, false)] (by kernel_rfl) (by kernel_rfl) (by kernel_rfl) hcel ?_
  refine path_read (i := 0) (v := ?v1_0) rfl (by rfl) (fun _ _ _ h => h) ?hy1_0 ?_
  case hy1_0 => ((intro w hSw; (try dsimp only at hSw); go_simp) <;> (try with_reducible rfl))
  try simp only [Act.put, List.setIfInBounds_toArray, List.set_cons_zero, List.set_cons_succ]
  refine path_read (i := 1) (v := ?v1_1) rfl (by rfl) (fun _ _ _ h => h) ?hy1_1 ?_
  case hy1_1 => ((intro w hSw; (try dsimp only at hSw); go_simp) <;> (try with_reducible rfl))
  try simp only [Act.put, List.setIfInBounds_toArray, List.set_cons_zero, List.set_cons_succ]
  refine path_read (i := 2) (v := ?v1_2) rfl (by rfl) (fun _ _ _ h => h) ?hy1_2 ?_
  case hy1_2 => ((intro w hSw; (try dsimp only at hSw); go_simp) <;> (try with_reducible rfl))
  try simp only [Act.put, List.setIfInBounds_toArray, List.set_cons_zero, List.set_cons_succ]
  refine path_read (i := 3) (v := ?v1_3) rfl (by rfl) (fun _ _ _ h => h) ?hy1_3 ?_
  case hy1_3 => ((intro w hSw; (try dsimp only at hSw); go_simp) <;> (try with_reducible rfl))
  try simp only [Act.put, List.setIfInBounds_toArray, List.set_cons_zero, List.set_cons_succ]
  refine path_read (i := 4) (v := ?v1_4) rfl (by rfl) (fun _ _ _ h => h) ?hy1_4 ?_
  case hy1_4 => ((intro w hSw; (try dsimp only at hSw); go_simp) <;> (try with_reducible rfl))
  try simp only [Act.put, List.setIfInBounds_toArray, List.set_cons_zero, List.set_cons_succ]
  refine path_read (i := 5) (v := ?v1_5) rfl (by rfl) (fun _ _ _ h => h) ?hy1_5 ?_
  case hy1_5 => ((intro w hSw; (try dsimp only at hSw); go_simp) <;> (try with_reducible rfl))
  try simp only [Act.put, List.setIfInBounds_toArray, List.set_cons_zero, List.set_cons_succ]
  refine path_read (i := 6) (v := ?v1_6) rfl (by rfl) (fun _ _ _ h => h) ?hy1_6 ?_
  case hy1_6 => ((intro w hSw; (try dsimp only at hSw); go_simp) <;> (try with_reducible rfl))
  try simp only [Act.put, List.setIfInBounds_toArray, List.set_cons_zero, List.set_cons_succ]
  refine path_read (i := 7) (v := ?v1_7) rfl (by rfl) (fun _ _ _ h => h) ?hy1_7 ?_
  case hy1_7 => ((intro w hSw; (try dsimp only at hSw); go_simp) <;> (try with_reducible rfl))
  try simp only [Act.put, List.setIfInBounds_toArray, List.set_cons_zero, List.set_cons_succ]
  refine path_read (i := 8) (v := ?v1_8) rfl (by rfl) (fun _ _ _ h => h) ?hy1_8 ?_
  case hy1_8 => ((intro w hSw; (try dsimp only at hSw); go_simp) <;> (try with_reducible rfl))
  try simp only [Act.put, List.setIfInBounds_toArray, List.set_cons_zero, List.set_cons_succ]
  refine path_read (i := 9) (v := ?v1_9) rfl (by rfl) (fun _ _ _ h => h) ?hy1_9 ?_
  case hy1_9 => ((intro w hSw; (try dsimp only at hSw); go_simp) <;> (try with_reducible rfl))
  try simp only [Act.put, List.setIfInBounds_toArray, List.set_cons_zero, List.set_cons_succ]
  refine path_read (i := 10) (v := ?v1_10) rfl (by rfl) (fun _ _ _ h => h) ?hy1_10 ?_
  case hy1_10 => ((intro w hSw; (try dsimp only at hSw); go_simp) <;> (try with_reducible rfl))
  try simp only [Act.put, List.setIfInBounds_toArray, List.set_cons_zero, List.set_cons_succ]
  refine path_read (i := 11) (v := ?v1_11) rfl (by rfl) (fun _ _ _ h => h) ?hy1_11 ?_
  case hy1_11 => ((intro w hSw; (try dsimp only at hSw); go_simp) <;> (try with_reducible rfl))
  try simp only [Act.put, List.setIfInBounds_toArray, List.set_cons_zero, List.set_cons_succ]
  refine path_read (i := 13) (v := ?v1_13) rfl (by rfl) (fun _ _ _ h => h) ?hy1_13 ?_
  case hy1_13 => ((intro w hSw; (try dsimp only at hSw); go_simp) <;> (try with_reducible rfl))
  try simp only [Act.put, List.setIfInBounds_toArray, List.set_cons_zero, List.set_cons_succ]
  refine path_read (i := 14) (v := ?v1_14) rfl (by rfl) (fun _ _ _ h => h) ?hy1_14 ?_
  case hy1_14 => ((intro w hSw; (try dsimp only at hSw); go_simp) <;> (try with_reducible rfl))
  try simp only [Act.put, List.setIfInBounds_toArray, List.set_cons_zero, List.set_cons_succ]
  refine path_read (i := 15) (v := ?v1_15) rfl (by rfl) (fun _ _ _ h => h) ?hy1_15 ?_
  case hy1_15 => ((intro w hSw; (try dsimp only at hSw); go_simp) <;> (try with_reducible rfl))
  try simp only [Act.put, List.setIfInBounds_toArray, List.set_cons_zero, List.set_cons_succ]
  refine path_read (i := 16) (v := ?v1_16) rfl (by rfl) (fun _ _ _ h => h) ?hy1_16 ?_
  case hy1_16 => ((intro w hSw; (try dsimp only at hSw); go_simp) <;> (try with_reducible rfl))
  try simp only [Act.put, List.setIfInBounds_toArray, List.set_cons_zero, List.set_cons_succ]
  refine path_read (i := 17) (v := ?v1_17) rfl (by rfl) (fun _ _ _ h => h) ?hy1_17 ?_
  case hy1_17 => ((intro w hSw; (try dsimp only at hSw); go_simp) <;> (try with_reducible rfl))
  try simp only [Act.put, List.setIfInBounds_toArray, List.set_cons_zero, List.set_cons_succ]
  refine path_read (i := 18) (v := ?v1_18) rfl (by rfl) (fun _ _ _ h => h) ?hy1_18 ?_
  case hy1_18 => ((intro w hSw; (try dsimp only at hSw); go_simp) <;> (try with_reducible rfl))
  try simp only [Act.put, List.setIfInBounds_toArray, List.set_cons_zero, List.set_cons_succ]
  refine path_read (i := 19) (v := ?v1_19) rfl (by rfl) (fun _ _ _ h => h) ?hy1_19 ?_
  case hy1_19 => ((intro w hSw; (try dsimp only at hSw); go_simp) <;> (try with_reducible rfl))
  try simp only [Act.put, List.setIfInBounds_toArray, List.set_cons_zero, List.set_cons_succ]
  refine path_do (i := 12) rfl ?_
  go_wp2_with ((first | (go_at_call 32; go_loud (refine (prog_ok A len cap acts _).mono ?_; rintro e w2 ⟨rfl, hs⟩; have HK := Lib.hid (HK.out.trans (Chg.of_same hs)); have HS := Lib.hid (HS.out.trans hs); have HB1 := Lib.hid (hs.at_ HB1.out (fun q => q)); have r0 := (res_cells HB1.out).1; have r1 := (res_cells HB1.out).2.1; have r2 := (res_cells HB1.out).2.2; have rf := frozen_at HB1.out; have rl := lt_of_at HB1.out; clear hs)) | (go_at_call 31; go_loud (refine (dstart_un dv client surface other acts _ A len cap _ (HM.out.keep HS.out)).mono ?_; rintro e w2 ⟨rfl, hs⟩; have HK := Lib.hid (HK.out.trans (Chg.of_same hs)); have HS := Lib.hid (HS.out.trans hs); have HB1 := Lib.hid (hs.at_ HB1.out (fun q => q)); have r0 := (res_cells HB1.out).1; have r1 := (res_cells HB1.out).2.1; have r2 := (res_cells HB1.out).2.2; have rf := frozen_at HB1.out; have rl := lt_of_at HB1.out; clear hs))))
  (first | refine ⟨.inr ?keep1_12, ?_⟩ | refine ⟨?keep1_12, ?_⟩)
  case keep1_12 => ((first | exact KEEP.out _ (HK.out.trans (res_chg _ _ _ _ _)) | exact KEEP.out _ HK.out))
  try simp only [Act.put, List.setIfInBounds_toArray, List.set_cons_zero, List.set_cons_succ]
  refine path_do (i := 20) rfl ?_
  go_wp2_with ((first | (go_at_call 32; go_loud (refine (prog_ok A len cap acts _).mono ?_; rintro e w2 ⟨rfl, hs⟩; have HK := Lib.hid (HK.out.trans (Chg.of_same hs)); have HS := Lib.hid (HS.out.trans hs); have HB1 := Lib.hid (hs.at_ HB1.out (fun q => q)); have r0 := (res_cells HB1.out).1; have r1 := (res_cells HB1.out).2.1; have r2 := (res_cells HB1.out).2.2; have rf := frozen_at HB1.out; have rl := lt_of_at HB1.out; clear hs)) | (go_at_call 31; go_loud (refine (dstart_un dv client surface other acts _ A len cap _ (HM.out.keep HS.out)).mono ?_; rintro e w2 ⟨rfl, hs⟩; have HK := Lib.hid (HK.out.trans (Chg.of_same hs)); have HS := Lib.hid (HS.out.trans hs); have HB1 := Lib.hid (hs.at_ HB1.out (fun q => q)); have r0 := (res_cells HB1.out).1; have r1 := (res_cells HB1.out).2.1; have r2 := (res_cells HB1.out).2.2; have rf := frozen_at HB1.out; have rl := lt_of_at HB1.out; clear hs))))
  (first | refine ⟨.inr ?keep1_20, ?_⟩ | refine ⟨?keep1_20, ?_⟩)
  case keep1_20 => ((first | exact KEEP.out _ (HK.out.trans (res_chg _ _ _ _ _)) | exact KEEP.out _ HK.out))
  try simp only [Act.put, List.setIfInBounds_toArray, List.set_cons_zero, List.set_cons_succ]
  refine path_read (i := 21) (v := ?v1_21) rfl (by rfl) (fun _ _ _ h => h) ?hy1_21 ?_
  case hy1_21 => ((intro w hSw; (try dsimp only at hSw); go_simp) <;> (try with_reducible rfl))
  try simp only [Act.put, List.setIfInBounds_toArray, List.set_cons_zero, List.set_cons_succ]
  refine path_do (i := 22) rfl ?_
  go_wp2_with ((first | (go_at_call 32; go_loud (refine (prog_ok A len cap acts _).mono ?_; rintro e w2 ⟨rfl, hs⟩; have HK := Lib.hid (HK.out.trans (Chg.of_same hs)); have HS := Lib.hid (HS.out.trans hs); have HB1 := Lib.hid (hs.at_ HB1.out (fun q => q)); have r0 := (res_cells HB1.out).1; have r1 := (res_cells HB1.out).2.1; have r2 := (res_cells HB1.out).2.2; have rf := frozen_at HB1.out; have rl := lt_of_at HB1.out; clear hs)) | (go_at_call 31; go_loud (refine (dstart_un dv client surface other acts _ A len cap _ (HM.out.keep HS.out)).mono ?_; rintro e w2 ⟨rfl, hs⟩; have HK := Lib.hid (HK.out.trans (Chg.of_same hs)); have HS := Lib.hid (HS.out.trans hs); have HB1 := Lib.hid (hs.at_ HB1.out (fun q => q)); have r0 := (res_cells HB1.out).1; have r1 := (res_cells HB1.out).2.1; have r2 := (res_cells HB1.out).2.2; have rf := frozen_at HB1.out; have rl := lt_of_at HB1.out; clear hs))))
  (first | refine ⟨.inr ?keep1_22, ?_⟩ | refine ⟨?keep1_22, ?_⟩)
  case keep1_22 => ((first | exact KEEP.out _ (HK.out.trans (res_chg _ _ _ _ _)) | exact KEEP.out _ HK.out))
  try simp only [Act.put, List.setIfInBounds_toArray, List.set_cons_zero, List.set_cons_succ]
  refine path_end ?_
  clear hcel
  go_wp2
  exact bodyPost_ret (results_cell1 Try.results27 rfl (run_load_res (res_set _ _ _ HB1.out))) rfl ⟨rfl, HS.out.then_ (res_chg _ _ _ _ _) (fun i hi e => by omega)⟩
set_option maxHeartbeats 4000000 in
theorem call_un2 (client surface nn other px py tm back acts : Int) (fo : ByteArray) (A : Option Addr) (len cap : Nat) (hm : NoMade dv w) (hs : w.heap[sb]? = some (.cells #[.pointer none, dv, .int .u32 0, .slice none 0 0] 36 (0, 0))) :
    Calls Try.prog 27 #[.pointer (some ⟨sb, 0, none⟩), .agg #[.int .i64 2, .int .i64 client, .int .i64 surface, .int .i64 nn, .int .i64 other, .int .i64 px, .int .i64 py, .int .i64 tm, .int .u32 back, .string fo, .slice A len cap, .int .i64 acts]] w fun e w' => e = .returned (.agg #[.slice none 0 0, .bool false, .int .i64 0]) ∧ Same w w' := by
  have HM := Lib.hid hm
  have hsl := lt_of_at hs
  have q1 : w.cell? ⟨sb, 1, none⟩ = some dv := cell_at (C := [.pointer none, dv, .int .u32 0, .slice none 0 0]) hs 1
  have q2 : w.cell? ⟨sb, 2, none⟩ = some (.int .u32 0) := cell_at (C := [.pointer none, dv, .int .u32 0, .slice none 0 0]) hs 2
  have hb0 := (Chg.refl (fun _ => False) _).alloc (.cells #[.slice none 0 0, .bool false, .int .i64 0] 63) |>.at_ (at_new w (.cells #[.int .i64 2, .int .i64 client, .int .i64 surface, .int .i64 nn, .int .i64 other, .int .i64 px, .int .i64 py, .int .i64 tm, .int .u32 back, .string fo, .slice A len cap, .int .i64 acts] 67)) (fun q => q)
  have hb1 := at_new2 w (.cells #[.int .i64 2, .int .i64 client, .int .i64 surface, .int .i64 nn, .int .i64 other, .int .i64 px, .int .i64 py, .int .i64 tm, .int .u32 back, .string fo, .slice A len cap, .int .i64 acts] 67) (.cells #[.slice none 0 0, .bool false, .int .i64 0] 63)
  have HK0 := Lib.hid (Chg.refl (fun x => x = w.heap.size + 1) ((w.alloc (.cells #[.int .i64 2, .int .i64 client, .int .i64 surface, .int .i64 nn, .int .i64 other, .int .i64 px, .int .i64 py, .int .i64 tm, .int .u32 back, .string fo, .slice A len cap, .int .i64 acts] 67)).alloc (.cells #[.slice none 0 0, .bool false, .int .i64 0] 63)))
  have HS0 := Lib.hid (((Chg.refl (fun _ => False) w).alloc (.cells #[.int .i64 2, .int .i64 client, .int .i64 surface, .int .i64 nn, .int .i64 other, .int .i64 px, .int .i64 py, .int .i64 tm, .int .u32 back, .string fo, .slice A len cap, .int .i64 acts] 67)).alloc (.cells #[.slice none 0 0, .bool false, .int .i64 0] 63))
  have q1b := HS0.out.cell q1 (fun q => q)
  have q2b := HS0.out.cell q2 (fun q => q)
  have KEEP := Lib.hid (fun (w' : World) (k : Chg (fun x => x = w.heap.size + 1) _ w') => And.intro (k.cell q1b (by show ¬ sb = w.heap.size + 1; omega)) (And.intro (k.cell q2b (by show ¬ sb = w.heap.size + 1; omega)) (And.intro (k.cell (cell_at (C := [.int .i64 2, .int .i64 client, .int .i64 surface, .int .i64 nn, .int .i64 other, .int .i64 px, .int .i64 py, .int .i64 tm, .int .u32 back, .string fo, .slice A len cap, .int .i64 acts]) hb0 1) (by show ¬ w.heap.size = w.heap.size + 1; omega)) (And.intro (k.cell (cell_at (C := [.int .i64 2, .int .i64 client, .int .i64 surface, .int .i64 nn, .int .i64 other, .int .i64 px, .int .i64 py, .int .i64 tm, .int .u32 back, .string fo, .slice A len cap, .int .i64 acts]) hb0 2) (by show ¬ w.heap.size = w.heap.size + 1; omega)) (And.intro (k.cell (cell_at (C := [.int .i64 2, .int .i64 client, .int .i64 surface, .int .i64 nn, .int .i64 other, .int .i64 px, .int .i64 py, .int .i64 tm, .int .u32 back, .string fo, .slice A len cap, .int .i64 acts]) hb0 3) (by show ¬ w.heap.size = w.heap.size + 1; omega)) (And.intro (k.cell (cell_at (C := [.int .i64 2, .int .i64 client, .int .i64 surface, .int .i64 nn, .int .i64 other, .int .i64 px, .int .i64 py, .int .i64 tm, .int .u32 back, .string fo, .slice A len cap, .int .i64 acts]) hb0 4) (by show ¬ w.heap.size = w.heap.size + 1; omega)) (And.intro (k.cell (cell_at (C := [.int .i64 2, .int .i64 client, .int .i64 surface, .int .i64 nn, .int .i64 other, .int .i64 px, .int .i64 py, .int .i64 tm, .int .u32 back, .string fo, .slice A len cap, .int .i64 acts]) hb0 5) (by show ¬ w.heap.size = w.heap.size + 1; omega)) (And.intro (k.cell (cell_at (C := [.int .i64 2, .int .i64 client, .int .i64 surface, .int .i64 nn, .int .i64 other, .int .i64 px, .int .i64 py, .int .i64 tm, .int .u32 back, .string fo, .slice A len cap, .int .i64 acts]) hb0 6) (by show ¬ w.heap.size = w.heap.size + 1; omega)) (And.intro (k.cell (cell_at (C := [.int .i64 2, .int .i64 client, .int .i64 surface, .int .i64 nn, .int .i64 other, .int .i64 px, .int .i64 py, .int .i64 tm, .int .u32 back, .string fo, .slice A len cap, .int .i64 acts]) hb0 7) (by show ¬ w.heap.size = w.heap.size + 1; omega)) (And.intro (k.cell (cell_at (C := [.int .i64 2, .int .i64 client, .int .i64 surface, .int .i64 nn, .int .i64 other, .int .i64 px, .int .i64 py, .int .i64 tm, .int .u32 back, .string fo, .slice A len cap, .int .i64 acts]) hb0 8) (by show ¬ w.heap.size = w.heap.size + 1; omega)) (And.intro (k.cell (cell_at (C := [.int .i64 2, .int .i64 client, .int .i64 surface, .int .i64 nn, .int .i64 other, .int .i64 px, .int .i64 py, .int .i64 tm, .int .u32 back, .string fo, .slice A len cap, .int .i64 acts]) hb0 9) (by show ¬ w.heap.size = w.heap.size + 1; omega)) (And.intro (k.cell (cell_at (C := [.int .i64 2, .int .i64 client, .int .i64 surface, .int .i64 nn, .int .i64 other, .int .i64 px, .int .i64 py, .int .i64 tm, .int .u32 back, .string fo, .slice A len cap, .int .i64 acts]) hb0 10) (by show ¬ w.heap.size = w.heap.size + 1; omega)) ((k.cell (cell_at (C := [.int .i64 2, .int .i64 client, .int .i64 surface, .int .i64 nn, .int .i64 other, .int .i64 px, .int .i64 py, .int .i64 tm, .int .u32 back, .string fo, .slice A len cap, .int .i64 acts]) hb0 11) (by show ¬ w.heap.size = w.heap.size + 1; omega)))))))))))))))
  have HB1 := Lib.hid hb1
  clear hm hs hb0 hb1 q1b q2b
  show Calls Try.prog 27 _ w _
  go_enter Try.func27, Try.ntmps27
  go_wp2_with fail
  have HK := Lib.hid (HK0.out.drew)
  have HS := Lib.hid (HS0.out.drew)
  have hcel := KEEP.out _ HK.out
  have HB1 := Lib.hid ((Chg.refl (fun _ => False) _).drew.at_ HB1.out (fun q => q))
  refine region_path (S := (fun w' => w'.cell? ⟨sb, 1, none⟩ = some dv ∧ w'.cell? ⟨sb, 2, none⟩ = some (.int .u32 0) ∧ w'.cell? ⟨w.heap.size, 1, none⟩ = some (.int .i64 client) ∧ w'.cell? ⟨w.heap.size, 2, none⟩ = some (.int .i64 surface) ∧ w'.cell? ⟨w.heap.size, 3, none⟩ = some (.int .i64 nn) ∧ w'.cell? ⟨w.heap.size, 4, none⟩ = some (.int .i64 other) ∧ w'.cell? ⟨w.heap.size, 5, none⟩ = some (.int .i64 px) ∧ w'.cell? ⟨w.heap.size, 6, none⟩ = some (.int .i64 py) ∧ w'.cell? ⟨w.heap.size, 7, none⟩ = some (.int .i64 tm) ∧ w'.cell? ⟨w.heap.size, 8, none⟩ = some (.int .u32 back) ∧ w'.cell? ⟨w.heap.size, 9, none⟩ = some (.string fo) ∧ w'.cell? ⟨w.heap.size, 10, none⟩ = some (.slice A len cap) ∧ w'.cell? ⟨w.heap.size, 11, none⟩ = some (.int .i64 acts))) 99 [(0, true), (1, true), (2, true), (3, true), (4, true), (5, true), (6, true), (7, true), (8, true), (9, true), (10, true), (11, true), (12, true), (13, true), (14, false), (15, true)] (by kernel_rfl) (by kernel_rfl) (by kernel_rfl) hcel ?_
  refine path_read (i := 0) (v := ?v2_0) rfl (by rfl) (fun _ _ _ h => h) ?hy2_0 ?_
  case hy2_0 => ((intro w hSw; (try dsimp only at hSw); go_simp) <;> (try with_reducible rfl))
  try simp only [Act.put, List.setIfInBounds_toArray, List.set_cons_zero, List.set_cons_succ]
  refine path_read (i := 1) (v := ?v2_1) rfl (by rfl) (fun _ _ _ h => h) ?hy2_1 ?_
  case hy2_1 => ((intro w hSw; (try dsimp only at hSw); go_simp) <;> (try with_reducible rfl))
  try simp only [Act.put, List.setIfInBounds_toArray, List.set_cons_zero, List.set_cons_succ]
  refine path_read (i := 2) (v := ?v2_2) rfl (by rfl) (fun _ _ _ h => h) ?hy2_2 ?_
  case hy2_2 => ((intro w hSw; (try dsimp only at hSw); go_simp) <;> (try with_reducible rfl))
  try simp only [Act.put, List.setIfInBounds_toArray, List.set_cons_zero, List.set_cons_succ]
  refine path_read (i := 3) (v := ?v2_3) rfl (by rfl) (fun _ _ _ h => h) ?hy2_3 ?_
  case hy2_3 => ((intro w hSw; (try dsimp only at hSw); go_simp) <;> (try with_reducible rfl))
  try simp only [Act.put, List.setIfInBounds_toArray, List.set_cons_zero, List.set_cons_succ]
  refine path_read (i := 4) (v := ?v2_4) rfl (by rfl) (fun _ _ _ h => h) ?hy2_4 ?_
  case hy2_4 => ((intro w hSw; (try dsimp only at hSw); go_simp) <;> (try with_reducible rfl))
  try simp only [Act.put, List.setIfInBounds_toArray, List.set_cons_zero, List.set_cons_succ]
  refine path_read (i := 5) (v := ?v2_5) rfl (by rfl) (fun _ _ _ h => h) ?hy2_5 ?_
  case hy2_5 => ((intro w hSw; (try dsimp only at hSw); go_simp) <;> (try with_reducible rfl))
  try simp only [Act.put, List.setIfInBounds_toArray, List.set_cons_zero, List.set_cons_succ]
  refine path_read (i := 6) (v := ?v2_6) rfl (by rfl) (fun _ _ _ h => h) ?hy2_6 ?_
  case hy2_6 => ((intro w hSw; (try dsimp only at hSw); go_simp) <;> (try with_reducible rfl))
  try simp only [Act.put, List.setIfInBounds_toArray, List.set_cons_zero, List.set_cons_succ]
  refine path_read (i := 7) (v := ?v2_7) rfl (by rfl) (fun _ _ _ h => h) ?hy2_7 ?_
  case hy2_7 => ((intro w hSw; (try dsimp only at hSw); go_simp) <;> (try with_reducible rfl))
  try simp only [Act.put, List.setIfInBounds_toArray, List.set_cons_zero, List.set_cons_succ]
  refine path_read (i := 8) (v := ?v2_8) rfl (by rfl) (fun _ _ _ h => h) ?hy2_8 ?_
  case hy2_8 => ((intro w hSw; (try dsimp only at hSw); go_simp) <;> (try with_reducible rfl))
  try simp only [Act.put, List.setIfInBounds_toArray, List.set_cons_zero, List.set_cons_succ]
  refine path_read (i := 9) (v := ?v2_9) rfl (by rfl) (fun _ _ _ h => h) ?hy2_9 ?_
  case hy2_9 => ((intro w hSw; (try dsimp only at hSw); go_simp) <;> (try with_reducible rfl))
  try simp only [Act.put, List.setIfInBounds_toArray, List.set_cons_zero, List.set_cons_succ]
  refine path_read (i := 10) (v := ?v2_10) rfl (by rfl) (fun _ _ _ h => h) ?hy2_10 ?_
  case hy2_10 => ((intro w hSw; (try dsimp only at hSw); go_simp) <;> (try with_reducible rfl))
  try simp only [Act.put, List.setIfInBounds_toArray, List.set_cons_zero, List.set_cons_succ]
  refine path_read (i := 11) (v := ?v2_11) rfl (by rfl) (fun _ _ _ h => h) ?hy2_11 ?_
  case hy2_11 => ((intro w hSw; (try dsimp only at hSw); go_simp) <;> (try with_reducible rfl))
  try simp only [Act.put, List.setIfInBounds_toArray, List.set_cons_zero, List.set_cons_succ]
  refine path_read (i := 12) (v := ?v2_12) rfl (by rfl) (fun _ _ _ h => h) ?hy2_12 ?_
  case hy2_12 => ((intro w hSw; (try dsimp only at hSw); go_simp) <;> (try with_reducible rfl))
  try simp only [Act.put, List.setIfInBounds_toArray, List.set_cons_zero, List.set_cons_succ]
  refine path_read (i := 13) (v := ?v2_13) rfl (by rfl) (fun _ _ _ h => h) ?hy2_13 ?_
  case hy2_13 => ((intro w hSw; (try dsimp only at hSw); go_simp) <;> (try with_reducible rfl))
  try simp only [Act.put, List.setIfInBounds_toArray, List.set_cons_zero, List.set_cons_succ]
  refine path_do (i := 14) rfl ?_
  go_wp2_with ((first | (go_at_call 20; go_loud (refine (dmove_un dv client surface px py tm _ (HM.out.keep HS.out).now).mono ?_; rintro e w2 ⟨rfl, hs⟩; have HK := Lib.hid (HK.out.trans (Chg.of_same hs)); have HS := Lib.hid (HS.out.trans hs); have HB1 := Lib.hid (hs.at_ HB1.out (fun q => q)); have r0 := (res_cells HB1.out).1; have r1 := (res_cells HB1.out).2.1; have r2 := (res_cells HB1.out).2.2; have rf := frozen_at HB1.out; have rl := lt_of_at HB1.out; clear hs))))
  (first | refine ⟨.inr ?keep2_14, ?_⟩ | refine ⟨?keep2_14, ?_⟩)
  case keep2_14 => ((first | exact KEEP.out _ (HK.out.trans (res_chg _ _ _ _ _)) | exact KEEP.out _ HK.out))
  try simp only [Act.put, List.setIfInBounds_toArray, List.set_cons_zero, List.set_cons_succ]
  refine path_read (i := 15) (v := ?v2_15) rfl (by rfl) (fun _ _ _ h => h) ?hy2_15 ?_
  case hy2_15 => ((intro w hSw; (try dsimp only at hSw); go_simp) <;> (try with_reducible rfl))
  try simp only [Act.put, List.setIfInBounds_toArray, List.set_cons_zero, List.set_cons_succ]
  refine path_end ?_
  clear hcel
  go_wp2
  go_loopw [7] (fun v7 wr => v7 = .int .i64 0 ∧ wr = w2) (fun _ _ => 0)
  case atStart => exact ⟨rfl, rfl⟩
  case round =>
    obtain ⟨rfl, rfl⟩ := hrel
    go_wp2
    exact bodyPost_ret (results_cell1 Try.results27 rfl (run_load_res (res_set _ _ _ HB1.out))) rfl ⟨rfl, HS.out.then_ (res_chg _ _ _ _ _) (fun i hi e => by omega)⟩
set_option maxHeartbeats 4000000 in
theorem call_un3 (client surface nn other px py tm back acts : Int) (fo : ByteArray) (A : Option Addr) (len cap : Nat) (hm : NoMade dv w) (hs : w.heap[sb]? = some (.cells #[.pointer none, dv, .int .u32 0, .slice none 0 0] 36 (0, 0))) :
    Calls Try.prog 27 #[.pointer (some ⟨sb, 0, none⟩), .agg #[.int .i64 3, .int .i64 client, .int .i64 surface, .int .i64 nn, .int .i64 other, .int .i64 px, .int .i64 py, .int .i64 tm, .int .u32 back, .string fo, .slice A len cap, .int .i64 acts]] w fun e w' => e = .returned (.agg #[.slice none 0 0, .bool false, .int .i64 1]) ∧ Same w w' := by
  have HM := Lib.hid hm
  have hsl := lt_of_at hs
  have q1 : w.cell? ⟨sb, 1, none⟩ = some dv := cell_at (C := [.pointer none, dv, .int .u32 0, .slice none 0 0]) hs 1
  have q2 : w.cell? ⟨sb, 2, none⟩ = some (.int .u32 0) := cell_at (C := [.pointer none, dv, .int .u32 0, .slice none 0 0]) hs 2
  have hb0 := (Chg.refl (fun _ => False) _).alloc (.cells #[.slice none 0 0, .bool false, .int .i64 0] 63) |>.at_ (at_new w (.cells #[.int .i64 3, .int .i64 client, .int .i64 surface, .int .i64 nn, .int .i64 other, .int .i64 px, .int .i64 py, .int .i64 tm, .int .u32 back, .string fo, .slice A len cap, .int .i64 acts] 67)) (fun q => q)
  have hb1 := at_new2 w (.cells #[.int .i64 3, .int .i64 client, .int .i64 surface, .int .i64 nn, .int .i64 other, .int .i64 px, .int .i64 py, .int .i64 tm, .int .u32 back, .string fo, .slice A len cap, .int .i64 acts] 67) (.cells #[.slice none 0 0, .bool false, .int .i64 0] 63)
  have HK0 := Lib.hid (Chg.refl (fun x => x = w.heap.size + 1) ((w.alloc (.cells #[.int .i64 3, .int .i64 client, .int .i64 surface, .int .i64 nn, .int .i64 other, .int .i64 px, .int .i64 py, .int .i64 tm, .int .u32 back, .string fo, .slice A len cap, .int .i64 acts] 67)).alloc (.cells #[.slice none 0 0, .bool false, .int .i64 0] 63)))
  have HS0 := Lib.hid (((Chg.refl (fun _ => False) w).alloc (.cells #[.int .i64 3, .int .i64 client, .int .i64 surface, .int .i64 nn, .int .i64 other, .int .i64 px, .int .i64 py, .int .i64 tm, .int .u32 back, .string fo, .slice A len cap, .int .i64 acts] 67)).alloc (.cells #[.slice none 0 0, .bool false, .int .i64 0] 63))
  have q1b := HS0.out.cell q1 (fun q => q)
  have q2b := HS0.out.cell q2 (fun q => q)
  have KEEP := Lib.hid (fun (w' : World) (k : Chg (fun x => x = w.heap.size + 1) _ w') => And.intro (k.cell q1b (by show ¬ sb = w.heap.size + 1; omega)) (And.intro (k.cell q2b (by show ¬ sb = w.heap.size + 1; omega)) (And.intro (k.cell (cell_at (C := [.int .i64 3, .int .i64 client, .int .i64 surface, .int .i64 nn, .int .i64 other, .int .i64 px, .int .i64 py, .int .i64 tm, .int .u32 back, .string fo, .slice A len cap, .int .i64 acts]) hb0 1) (by show ¬ w.heap.size = w.heap.size + 1; omega)) (And.intro (k.cell (cell_at (C := [.int .i64 3, .int .i64 client, .int .i64 surface, .int .i64 nn, .int .i64 other, .int .i64 px, .int .i64 py, .int .i64 tm, .int .u32 back, .string fo, .slice A len cap, .int .i64 acts]) hb0 2) (by show ¬ w.heap.size = w.heap.size + 1; omega)) (And.intro (k.cell (cell_at (C := [.int .i64 3, .int .i64 client, .int .i64 surface, .int .i64 nn, .int .i64 other, .int .i64 px, .int .i64 py, .int .i64 tm, .int .u32 back, .string fo, .slice A len cap, .int .i64 acts]) hb0 3) (by show ¬ w.heap.size = w.heap.size + 1; omega)) (And.intro (k.cell (cell_at (C := [.int .i64 3, .int .i64 client, .int .i64 surface, .int .i64 nn, .int .i64 other, .int .i64 px, .int .i64 py, .int .i64 tm, .int .u32 back, .string fo, .slice A len cap, .int .i64 acts]) hb0 4) (by show ¬ w.heap.size = w.heap.size + 1; omega)) (And.intro (k.cell (cell_at (C := [.int .i64 3, .int .i64 client, .int .i64 surface, .int .i64 nn, .int .i64 other, .int .i64 px, .int .i64 py, .int .i64 tm, .int .u32 back, .string fo, .slice A len cap, .int .i64 acts]) hb0 5) (by show ¬ w.heap.size = w.heap.size + 1; omega)) (And.intro (k.cell (cell_at (C := [.int .i64 3, .int .i64 client, .int .i64 surface, .int .i64 nn, .int .i64 other, .int .i64 px, .int .i64 py, .int .i64 tm, .int .u32 back, .string fo, .slice A len cap, .int .i64 acts]) hb0 6) (by show ¬ w.heap.size = w.heap.size + 1; omega)) (And.intro (k.cell (cell_at (C := [.int .i64 3, .int .i64 client, .int .i64 surface, .int .i64 nn, .int .i64 other, .int .i64 px, .int .i64 py, .int .i64 tm, .int .u32 back, .string fo, .slice A len cap, .int .i64 acts]) hb0 7) (by show ¬ w.heap.size = w.heap.size + 1; omega)) (And.intro (k.cell (cell_at (C := [.int .i64 3, .int .i64 client, .int .i64 surface, .int .i64 nn, .int .i64 other, .int .i64 px, .int .i64 py, .int .i64 tm, .int .u32 back, .string fo, .slice A len cap, .int .i64 acts]) hb0 8) (by show ¬ w.heap.size = w.heap.size + 1; omega)) (And.intro (k.cell (cell_at (C := [.int .i64 3, .int .i64 client, .int .i64 surface, .int .i64 nn, .int .i64 other, .int .i64 px, .int .i64 py, .int .i64 tm, .int .u32 back, .string fo, .slice A len cap, .int .i64 acts]) hb0 9) (by show ¬ w.heap.size = w.heap.size + 1; omega)) (And.intro (k.cell (cell_at (C := [.int .i64 3, .int .i64 client, .int .i64 surface, .int .i64 nn, .int .i64 other, .int .i64 px, .int .i64 py, .int .i64 tm, .int .u32 back, .string fo, .slice A len cap, .int .i64 acts]) hb0 10) (by show ¬ w.heap.size = w.heap.size + 1; omega)) ((k.cell (cell_at (C := [.int .i64 3, .int .i64 client, .int .i64 surface, .int .i64 nn, .int .i64 other, .int .i64 px, .int .i64 py, .int .i64 tm, .int .u32 back, .string fo, .slice A len cap, .int .i64 acts]) hb0 11) (by show ¬ w.heap.size = w.heap.size + 1; omega)))))))))))))))
  have HB1 := Lib.hid hb1
  clear hm hs hb0 hb1 q1b q2b
  show Calls Try.prog 27 _ w _
  go_enter Try.func27, Try.ntmps27
  go_wp2_with fail
  have HK := Lib.hid (HK0.out.drew)
  have HS := Lib.hid (HS0.out.drew)
  have hcel := KEEP.out _ HK.out
  have HB1 := Lib.hid ((Chg.refl (fun _ => False) _).drew.at_ HB1.out (fun q => q))
  refine region_path (S := (fun w' => w'.cell? ⟨sb, 1, none⟩ = some dv ∧ w'.cell? ⟨sb, 2, none⟩ = some (.int .u32 0) ∧ w'.cell? ⟨w.heap.size, 1, none⟩ = some (.int .i64 client) ∧ w'.cell? ⟨w.heap.size, 2, none⟩ = some (.int .i64 surface) ∧ w'.cell? ⟨w.heap.size, 3, none⟩ = some (.int .i64 nn) ∧ w'.cell? ⟨w.heap.size, 4, none⟩ = some (.int .i64 other) ∧ w'.cell? ⟨w.heap.size, 5, none⟩ = some (.int .i64 px) ∧ w'.cell? ⟨w.heap.size, 6, none⟩ = some (.int .i64 py) ∧ w'.cell? ⟨w.heap.size, 7, none⟩ = some (.int .i64 tm) ∧ w'.cell? ⟨w.heap.size, 8, none⟩ = some (.int .u32 back) ∧ w'.cell? ⟨w.heap.size, 9, none⟩ = some (.string fo) ∧ w'.cell? ⟨w.heap.size, 10, none⟩ = some (.slice A len cap) ∧ w'.cell? ⟨w.heap.size, 11, none⟩ = some (.int .i64 acts))) 99 [(0, true), (1, true), (2, true), (3, true), (4, true), (5, true), (6, true), (7, true), (8, false), (9, true), (10, false)] (by kernel_rfl) (by kernel_rfl) (by kernel_rfl) hcel ?_
  refine path_read (i := 0) (v := ?v3_0) rfl (by rfl) (fun _ _ _ h => h) ?hy3_0 ?_
  case hy3_0 => ((intro w hSw; (try dsimp only at hSw); go_simp) <;> (try with_reducible rfl))
  try simp only [Act.put, List.setIfInBounds_toArray, List.set_cons_zero, List.set_cons_succ]
  refine path_read (i := 1) (v := ?v3_1) rfl (by rfl) (fun _ _ _ h => h) ?hy3_1 ?_
  case hy3_1 => ((intro w hSw; (try dsimp only at hSw); go_simp) <;> (try with_reducible rfl))
  try simp only [Act.put, List.setIfInBounds_toArray, List.set_cons_zero, List.set_cons_succ]
  refine path_read (i := 2) (v := ?v3_2) rfl (by rfl) (fun _ _ _ h => h) ?hy3_2 ?_
  case hy3_2 => ((intro w hSw; (try dsimp only at hSw); go_simp) <;> (try with_reducible rfl))
  try simp only [Act.put, List.setIfInBounds_toArray, List.set_cons_zero, List.set_cons_succ]
  refine path_read (i := 3) (v := ?v3_3) rfl (by rfl) (fun _ _ _ h => h) ?hy3_3 ?_
  case hy3_3 => ((intro w hSw; (try dsimp only at hSw); go_simp) <;> (try with_reducible rfl))
  try simp only [Act.put, List.setIfInBounds_toArray, List.set_cons_zero, List.set_cons_succ]
  refine path_read (i := 4) (v := ?v3_4) rfl (by rfl) (fun _ _ _ h => h) ?hy3_4 ?_
  case hy3_4 => ((intro w hSw; (try dsimp only at hSw); go_simp) <;> (try with_reducible rfl))
  try simp only [Act.put, List.setIfInBounds_toArray, List.set_cons_zero, List.set_cons_succ]
  refine path_read (i := 5) (v := ?v3_5) rfl (by rfl) (fun _ _ _ h => h) ?hy3_5 ?_
  case hy3_5 => ((intro w hSw; (try dsimp only at hSw); go_simp) <;> (try with_reducible rfl))
  try simp only [Act.put, List.setIfInBounds_toArray, List.set_cons_zero, List.set_cons_succ]
  refine path_read (i := 6) (v := ?v3_6) rfl (by rfl) (fun _ _ _ h => h) ?hy3_6 ?_
  case hy3_6 => ((intro w hSw; (try dsimp only at hSw); go_simp) <;> (try with_reducible rfl))
  try simp only [Act.put, List.setIfInBounds_toArray, List.set_cons_zero, List.set_cons_succ]
  refine path_read (i := 7) (v := ?v3_7) rfl (by rfl) (fun _ _ _ h => h) ?hy3_7 ?_
  case hy3_7 => ((intro w hSw; (try dsimp only at hSw); go_simp) <;> (try with_reducible rfl))
  try simp only [Act.put, List.setIfInBounds_toArray, List.set_cons_zero, List.set_cons_succ]
  refine path_do (i := 8) rfl ?_
  go_wp2_with ((first | (go_at_call 13; go_loud (refine (daccept_un dv client fo _ (HM.out.keep HS.out).now).mono ?_; rintro e w2 ⟨rfl, hs⟩; have HK := Lib.hid (HK.out.trans (Chg.of_same hs)); have HS := Lib.hid (HS.out.trans hs); have HB1 := Lib.hid (hs.at_ HB1.out (fun q => q)); have r0 := (res_cells HB1.out).1; have r1 := (res_cells HB1.out).2.1; have r2 := (res_cells HB1.out).2.2; have rf := frozen_at HB1.out; have rl := lt_of_at HB1.out; clear hs))))
  (first | refine ⟨.inr ?keep3_8, ?_⟩ | refine ⟨?keep3_8, ?_⟩)
  case keep3_8 => ((first | exact KEEP.out _ (HK.out.trans (res_chg _ _ _ _ _)) | exact KEEP.out _ HK.out))
  try simp only [Act.put, List.setIfInBounds_toArray, List.set_cons_zero, List.set_cons_succ]
  refine path_read (i := 9) (v := ?v3_9) rfl (by rfl) (fun _ _ _ h => h) ?hy3_9 ?_
  case hy3_9 => ((intro w hSw; (try dsimp only at hSw); go_simp) <;> (try with_reducible rfl))
  try simp only [Act.put, List.setIfInBounds_toArray, List.set_cons_zero, List.set_cons_succ]
  refine path_do (i := 10) rfl ?_
  go_wp2_with ((first | (go_at_call 13; go_loud (refine (daccept_un dv client fo _ (HM.out.keep HS.out).now).mono ?_; rintro e w2 ⟨rfl, hs⟩; have HK := Lib.hid (HK.out.trans (Chg.of_same hs)); have HS := Lib.hid (HS.out.trans hs); have HB1 := Lib.hid (hs.at_ HB1.out (fun q => q)); have r0 := (res_cells HB1.out).1; have r1 := (res_cells HB1.out).2.1; have r2 := (res_cells HB1.out).2.2; have rf := frozen_at HB1.out; have rl := lt_of_at HB1.out; clear hs))))
  (first | refine ⟨.inr ?keep3_10, ?_⟩ | refine ⟨?keep3_10, ?_⟩)
  case keep3_10 => ((first | exact KEEP.out _ (HK.out.trans (res_chg _ _ _ _ _)) | exact KEEP.out _ HK.out))
  try simp only [Act.put, List.setIfInBounds_toArray, List.set_cons_zero, List.set_cons_succ]
  refine path_end ?_
  clear hcel
  go_wp2
  exact bodyPost_ret (results_cell1 Try.results27 rfl (run_load_res (res_set _ _ _ HB1.out))) rfl ⟨rfl, HS.out.then_ (res_chg _ _ _ _ _) (fun i hi e => by omega)⟩
set_option maxHeartbeats 4000000 in
theorem call_un4 (client surface nn other px py tm back acts : Int) (fo : ByteArray) (A : Option Addr) (len cap : Nat) (hm : NoMade dv w) (hs : w.heap[sb]? = some (.cells #[.pointer none, dv, .int .u32 0, .slice none 0 0] 36 (0, 0))) :
    Calls Try.prog 27 #[.pointer (some ⟨sb, 0, none⟩), .agg #[.int .i64 4, .int .i64 client, .int .i64 surface, .int .i64 nn, .int .i64 other, .int .i64 px, .int .i64 py, .int .i64 tm, .int .u32 back, .string fo, .slice A len cap, .int .i64 acts]] w fun e w' => e = .returned (.agg #[.slice none 0 0, .bool false, .int .i64 1]) ∧ Same w w' := by
  have HM := Lib.hid hm
  have hsl := lt_of_at hs
  have q1 : w.cell? ⟨sb, 1, none⟩ = some dv := cell_at (C := [.pointer none, dv, .int .u32 0, .slice none 0 0]) hs 1
  have q2 : w.cell? ⟨sb, 2, none⟩ = some (.int .u32 0) := cell_at (C := [.pointer none, dv, .int .u32 0, .slice none 0 0]) hs 2
  have hb0 := (Chg.refl (fun _ => False) _).alloc (.cells #[.slice none 0 0, .bool false, .int .i64 0] 63) |>.at_ (at_new w (.cells #[.int .i64 4, .int .i64 client, .int .i64 surface, .int .i64 nn, .int .i64 other, .int .i64 px, .int .i64 py, .int .i64 tm, .int .u32 back, .string fo, .slice A len cap, .int .i64 acts] 67)) (fun q => q)
  have hb1 := at_new2 w (.cells #[.int .i64 4, .int .i64 client, .int .i64 surface, .int .i64 nn, .int .i64 other, .int .i64 px, .int .i64 py, .int .i64 tm, .int .u32 back, .string fo, .slice A len cap, .int .i64 acts] 67) (.cells #[.slice none 0 0, .bool false, .int .i64 0] 63)
  have HK0 := Lib.hid (Chg.refl (fun x => x = w.heap.size + 1) ((w.alloc (.cells #[.int .i64 4, .int .i64 client, .int .i64 surface, .int .i64 nn, .int .i64 other, .int .i64 px, .int .i64 py, .int .i64 tm, .int .u32 back, .string fo, .slice A len cap, .int .i64 acts] 67)).alloc (.cells #[.slice none 0 0, .bool false, .int .i64 0] 63)))
  have HS0 := Lib.hid (((Chg.refl (fun _ => False) w).alloc (.cells #[.int .i64 4, .int .i64 client, .int .i64 surface, .int .i64 nn, .int .i64 other, .int .i64 px, .int .i64 py, .int .i64 tm, .int .u32 back, .string fo, .slice A len cap, .int .i64 acts] 67)).alloc (.cells #[.slice none 0 0, .bool false, .int .i64 0] 63))
  have q1b := HS0.out.cell q1 (fun q => q)
  have q2b := HS0.out.cell q2 (fun q => q)
  have KEEP := Lib.hid (fun (w' : World) (k : Chg (fun x => x = w.heap.size + 1) _ w') => And.intro (k.cell q1b (by show ¬ sb = w.heap.size + 1; omega)) (And.intro (k.cell q2b (by show ¬ sb = w.heap.size + 1; omega)) (And.intro (k.cell (cell_at (C := [.int .i64 4, .int .i64 client, .int .i64 surface, .int .i64 nn, .int .i64 other, .int .i64 px, .int .i64 py, .int .i64 tm, .int .u32 back, .string fo, .slice A len cap, .int .i64 acts]) hb0 1) (by show ¬ w.heap.size = w.heap.size + 1; omega)) (And.intro (k.cell (cell_at (C := [.int .i64 4, .int .i64 client, .int .i64 surface, .int .i64 nn, .int .i64 other, .int .i64 px, .int .i64 py, .int .i64 tm, .int .u32 back, .string fo, .slice A len cap, .int .i64 acts]) hb0 2) (by show ¬ w.heap.size = w.heap.size + 1; omega)) (And.intro (k.cell (cell_at (C := [.int .i64 4, .int .i64 client, .int .i64 surface, .int .i64 nn, .int .i64 other, .int .i64 px, .int .i64 py, .int .i64 tm, .int .u32 back, .string fo, .slice A len cap, .int .i64 acts]) hb0 3) (by show ¬ w.heap.size = w.heap.size + 1; omega)) (And.intro (k.cell (cell_at (C := [.int .i64 4, .int .i64 client, .int .i64 surface, .int .i64 nn, .int .i64 other, .int .i64 px, .int .i64 py, .int .i64 tm, .int .u32 back, .string fo, .slice A len cap, .int .i64 acts]) hb0 4) (by show ¬ w.heap.size = w.heap.size + 1; omega)) (And.intro (k.cell (cell_at (C := [.int .i64 4, .int .i64 client, .int .i64 surface, .int .i64 nn, .int .i64 other, .int .i64 px, .int .i64 py, .int .i64 tm, .int .u32 back, .string fo, .slice A len cap, .int .i64 acts]) hb0 5) (by show ¬ w.heap.size = w.heap.size + 1; omega)) (And.intro (k.cell (cell_at (C := [.int .i64 4, .int .i64 client, .int .i64 surface, .int .i64 nn, .int .i64 other, .int .i64 px, .int .i64 py, .int .i64 tm, .int .u32 back, .string fo, .slice A len cap, .int .i64 acts]) hb0 6) (by show ¬ w.heap.size = w.heap.size + 1; omega)) (And.intro (k.cell (cell_at (C := [.int .i64 4, .int .i64 client, .int .i64 surface, .int .i64 nn, .int .i64 other, .int .i64 px, .int .i64 py, .int .i64 tm, .int .u32 back, .string fo, .slice A len cap, .int .i64 acts]) hb0 7) (by show ¬ w.heap.size = w.heap.size + 1; omega)) (And.intro (k.cell (cell_at (C := [.int .i64 4, .int .i64 client, .int .i64 surface, .int .i64 nn, .int .i64 other, .int .i64 px, .int .i64 py, .int .i64 tm, .int .u32 back, .string fo, .slice A len cap, .int .i64 acts]) hb0 8) (by show ¬ w.heap.size = w.heap.size + 1; omega)) (And.intro (k.cell (cell_at (C := [.int .i64 4, .int .i64 client, .int .i64 surface, .int .i64 nn, .int .i64 other, .int .i64 px, .int .i64 py, .int .i64 tm, .int .u32 back, .string fo, .slice A len cap, .int .i64 acts]) hb0 9) (by show ¬ w.heap.size = w.heap.size + 1; omega)) (And.intro (k.cell (cell_at (C := [.int .i64 4, .int .i64 client, .int .i64 surface, .int .i64 nn, .int .i64 other, .int .i64 px, .int .i64 py, .int .i64 tm, .int .u32 back, .string fo, .slice A len cap, .int .i64 acts]) hb0 10) (by show ¬ w.heap.size = w.heap.size + 1; omega)) ((k.cell (cell_at (C := [.int .i64 4, .int .i64 client, .int .i64 surface, .int .i64 nn, .int .i64 other, .int .i64 px, .int .i64 py, .int .i64 tm, .int .u32 back, .string fo, .slice A len cap, .int .i64 acts]) hb0 11) (by show ¬ w.heap.size = w.heap.size + 1; omega)))))))))))))))
  have HB1 := Lib.hid hb1
  clear hm hs hb0 hb1 q1b q2b
  show Calls Try.prog 27 _ w _
  go_enter Try.func27, Try.ntmps27
  go_wp2_with fail
  have HK := Lib.hid (HK0.out.drew)
  have HS := Lib.hid (HS0.out.drew)
  have hcel := KEEP.out _ HK.out
  have HB1 := Lib.hid ((Chg.refl (fun _ => False) _).drew.at_ HB1.out (fun q => q))
  refine region_path (S := (fun w' => w'.cell? ⟨sb, 1, none⟩ = some dv ∧ w'.cell? ⟨sb, 2, none⟩ = some (.int .u32 0) ∧ w'.cell? ⟨w.heap.size, 1, none⟩ = some (.int .i64 client) ∧ w'.cell? ⟨w.heap.size, 2, none⟩ = some (.int .i64 surface) ∧ w'.cell? ⟨w.heap.size, 3, none⟩ = some (.int .i64 nn) ∧ w'.cell? ⟨w.heap.size, 4, none⟩ = some (.int .i64 other) ∧ w'.cell? ⟨w.heap.size, 5, none⟩ = some (.int .i64 px) ∧ w'.cell? ⟨w.heap.size, 6, none⟩ = some (.int .i64 py) ∧ w'.cell? ⟨w.heap.size, 7, none⟩ = some (.int .i64 tm) ∧ w'.cell? ⟨w.heap.size, 8, none⟩ = some (.int .u32 back) ∧ w'.cell? ⟨w.heap.size, 9, none⟩ = some (.string fo) ∧ w'.cell? ⟨w.heap.size, 10, none⟩ = some (.slice A len cap) ∧ w'.cell? ⟨w.heap.size, 11, none⟩ = some (.int .i64 acts))) 99 [(0, true), (1, true), (2, true), (3, true), (4, true), (5, true), (6, true), (7, true), (8, true), (9, true), (10, false), (11, true), (12, false)] (by kernel_rfl) (by kernel_rfl) (by kernel_rfl) hcel ?_
  refine path_read (i := 0) (v := ?v4_0) rfl (by rfl) (fun _ _ _ h => h) ?hy4_0 ?_
  case hy4_0 => ((intro w hSw; (try dsimp only at hSw); go_simp) <;> (try with_reducible rfl))
  try simp only [Act.put, List.setIfInBounds_toArray, List.set_cons_zero, List.set_cons_succ]
  refine path_read (i := 1) (v := ?v4_1) rfl (by rfl) (fun _ _ _ h => h) ?hy4_1 ?_
  case hy4_1 => ((intro w hSw; (try dsimp only at hSw); go_simp) <;> (try with_reducible rfl))
  try simp only [Act.put, List.setIfInBounds_toArray, List.set_cons_zero, List.set_cons_succ]
  refine path_read (i := 2) (v := ?v4_2) rfl (by rfl) (fun _ _ _ h => h) ?hy4_2 ?_
  case hy4_2 => ((intro w hSw; (try dsimp only at hSw); go_simp) <;> (try with_reducible rfl))
  try simp only [Act.put, List.setIfInBounds_toArray, List.set_cons_zero, List.set_cons_succ]
  refine path_read (i := 3) (v := ?v4_3) rfl (by rfl) (fun _ _ _ h => h) ?hy4_3 ?_
  case hy4_3 => ((intro w hSw; (try dsimp only at hSw); go_simp) <;> (try with_reducible rfl))
  try simp only [Act.put, List.setIfInBounds_toArray, List.set_cons_zero, List.set_cons_succ]
  refine path_read (i := 4) (v := ?v4_4) rfl (by rfl) (fun _ _ _ h => h) ?hy4_4 ?_
  case hy4_4 => ((intro w hSw; (try dsimp only at hSw); go_simp) <;> (try with_reducible rfl))
  try simp only [Act.put, List.setIfInBounds_toArray, List.set_cons_zero, List.set_cons_succ]
  refine path_read (i := 5) (v := ?v4_5) rfl (by rfl) (fun _ _ _ h => h) ?hy4_5 ?_
  case hy4_5 => ((intro w hSw; (try dsimp only at hSw); go_simp) <;> (try with_reducible rfl))
  try simp only [Act.put, List.setIfInBounds_toArray, List.set_cons_zero, List.set_cons_succ]
  refine path_read (i := 6) (v := ?v4_6) rfl (by rfl) (fun _ _ _ h => h) ?hy4_6 ?_
  case hy4_6 => ((intro w hSw; (try dsimp only at hSw); go_simp) <;> (try with_reducible rfl))
  try simp only [Act.put, List.setIfInBounds_toArray, List.set_cons_zero, List.set_cons_succ]
  refine path_read (i := 7) (v := ?v4_7) rfl (by rfl) (fun _ _ _ h => h) ?hy4_7 ?_
  case hy4_7 => ((intro w hSw; (try dsimp only at hSw); go_simp) <;> (try with_reducible rfl))
  try simp only [Act.put, List.setIfInBounds_toArray, List.set_cons_zero, List.set_cons_succ]
  refine path_read (i := 8) (v := ?v4_8) rfl (by rfl) (fun _ _ _ h => h) ?hy4_8 ?_
  case hy4_8 => ((intro w hSw; (try dsimp only at hSw); go_simp) <;> (try with_reducible rfl))
  try simp only [Act.put, List.setIfInBounds_toArray, List.set_cons_zero, List.set_cons_succ]
  refine path_read (i := 9) (v := ?v4_9) rfl (by rfl) (fun _ _ _ h => h) ?hy4_9 ?_
  case hy4_9 => ((intro w hSw; (try dsimp only at hSw); go_simp) <;> (try with_reducible rfl))
  try simp only [Act.put, List.setIfInBounds_toArray, List.set_cons_zero, List.set_cons_succ]
  refine path_do (i := 10) rfl ?_
  go_wp2_with ((first | (go_at_call 14; go_loud (refine (dsetact_un dv client nn other _ (HM.out.keep HS.out).now).mono ?_; rintro e w2 ⟨rfl, hs⟩; have HK := Lib.hid (HK.out.trans (Chg.of_same hs)); have HS := Lib.hid (HS.out.trans hs); have HB1 := Lib.hid (hs.at_ HB1.out (fun q => q)); have r0 := (res_cells HB1.out).1; have r1 := (res_cells HB1.out).2.1; have r2 := (res_cells HB1.out).2.2; have rf := frozen_at HB1.out; have rl := lt_of_at HB1.out; clear hs))))
  (first | refine ⟨.inr ?keep4_10, ?_⟩ | refine ⟨?keep4_10, ?_⟩)
  case keep4_10 => ((first | exact KEEP.out _ (HK.out.trans (res_chg _ _ _ _ _)) | exact KEEP.out _ HK.out))
  try simp only [Act.put, List.setIfInBounds_toArray, List.set_cons_zero, List.set_cons_succ]
  refine path_read (i := 11) (v := ?v4_11) rfl (by rfl) (fun _ _ _ h => h) ?hy4_11 ?_
  case hy4_11 => ((intro w hSw; (try dsimp only at hSw); go_simp) <;> (try with_reducible rfl))
  try simp only [Act.put, List.setIfInBounds_toArray, List.set_cons_zero, List.set_cons_succ]
  refine path_do (i := 12) rfl ?_
  go_wp2_with ((first | (go_at_call 14; go_loud (refine (dsetact_un dv client nn other _ (HM.out.keep HS.out).now).mono ?_; rintro e w2 ⟨rfl, hs⟩; have HK := Lib.hid (HK.out.trans (Chg.of_same hs)); have HS := Lib.hid (HS.out.trans hs); have HB1 := Lib.hid (hs.at_ HB1.out (fun q => q)); have r0 := (res_cells HB1.out).1; have r1 := (res_cells HB1.out).2.1; have r2 := (res_cells HB1.out).2.2; have rf := frozen_at HB1.out; have rl := lt_of_at HB1.out; clear hs))))
  (first | refine ⟨.inr ?keep4_12, ?_⟩ | refine ⟨?keep4_12, ?_⟩)
  case keep4_12 => ((first | exact KEEP.out _ (HK.out.trans (res_chg _ _ _ _ _)) | exact KEEP.out _ HK.out))
  try simp only [Act.put, List.setIfInBounds_toArray, List.set_cons_zero, List.set_cons_succ]
  refine path_end ?_
  clear hcel
  go_wp2
  exact bodyPost_ret (results_cell1 Try.results27 rfl (run_load_res (res_set _ _ _ HB1.out))) rfl ⟨rfl, HS.out.then_ (res_chg _ _ _ _ _) (fun i hi e => by omega)⟩
set_option maxHeartbeats 4000000 in
theorem call_un5 (client surface nn other px py tm back acts : Int) (fo : ByteArray) (A : Option Addr) (len cap : Nat) (hm : NoMade dv w) (hs : w.heap[sb]? = some (.cells #[.pointer none, dv, .int .u32 0, .slice none 0 0] 36 (0, 0))) :
    Calls Try.prog 27 #[.pointer (some ⟨sb, 0, none⟩), .agg #[.int .i64 5, .int .i64 client, .int .i64 surface, .int .i64 nn, .int .i64 other, .int .i64 px, .int .i64 py, .int .i64 tm, .int .u32 back, .string fo, .slice A len cap, .int .i64 acts]] w fun e w' => e = .returned (.agg #[.slice none 0 0, .bool false, .int .i64 0]) ∧ Same w w' := by
  have HM := Lib.hid hm
  have hsl := lt_of_at hs
  have q1 : w.cell? ⟨sb, 1, none⟩ = some dv := cell_at (C := [.pointer none, dv, .int .u32 0, .slice none 0 0]) hs 1
  have q2 : w.cell? ⟨sb, 2, none⟩ = some (.int .u32 0) := cell_at (C := [.pointer none, dv, .int .u32 0, .slice none 0 0]) hs 2
  have hb0 := (Chg.refl (fun _ => False) _).alloc (.cells #[.slice none 0 0, .bool false, .int .i64 0] 63) |>.at_ (at_new w (.cells #[.int .i64 5, .int .i64 client, .int .i64 surface, .int .i64 nn, .int .i64 other, .int .i64 px, .int .i64 py, .int .i64 tm, .int .u32 back, .string fo, .slice A len cap, .int .i64 acts] 67)) (fun q => q)
  have hb1 := at_new2 w (.cells #[.int .i64 5, .int .i64 client, .int .i64 surface, .int .i64 nn, .int .i64 other, .int .i64 px, .int .i64 py, .int .i64 tm, .int .u32 back, .string fo, .slice A len cap, .int .i64 acts] 67) (.cells #[.slice none 0 0, .bool false, .int .i64 0] 63)
  have HK0 := Lib.hid (Chg.refl (fun x => x = w.heap.size + 1) ((w.alloc (.cells #[.int .i64 5, .int .i64 client, .int .i64 surface, .int .i64 nn, .int .i64 other, .int .i64 px, .int .i64 py, .int .i64 tm, .int .u32 back, .string fo, .slice A len cap, .int .i64 acts] 67)).alloc (.cells #[.slice none 0 0, .bool false, .int .i64 0] 63)))
  have HS0 := Lib.hid (((Chg.refl (fun _ => False) w).alloc (.cells #[.int .i64 5, .int .i64 client, .int .i64 surface, .int .i64 nn, .int .i64 other, .int .i64 px, .int .i64 py, .int .i64 tm, .int .u32 back, .string fo, .slice A len cap, .int .i64 acts] 67)).alloc (.cells #[.slice none 0 0, .bool false, .int .i64 0] 63))
  have q1b := HS0.out.cell q1 (fun q => q)
  have q2b := HS0.out.cell q2 (fun q => q)
  have KEEP := Lib.hid (fun (w' : World) (k : Chg (fun x => x = w.heap.size + 1) _ w') => And.intro (k.cell q1b (by show ¬ sb = w.heap.size + 1; omega)) (And.intro (k.cell q2b (by show ¬ sb = w.heap.size + 1; omega)) (And.intro (k.cell (cell_at (C := [.int .i64 5, .int .i64 client, .int .i64 surface, .int .i64 nn, .int .i64 other, .int .i64 px, .int .i64 py, .int .i64 tm, .int .u32 back, .string fo, .slice A len cap, .int .i64 acts]) hb0 1) (by show ¬ w.heap.size = w.heap.size + 1; omega)) (And.intro (k.cell (cell_at (C := [.int .i64 5, .int .i64 client, .int .i64 surface, .int .i64 nn, .int .i64 other, .int .i64 px, .int .i64 py, .int .i64 tm, .int .u32 back, .string fo, .slice A len cap, .int .i64 acts]) hb0 2) (by show ¬ w.heap.size = w.heap.size + 1; omega)) (And.intro (k.cell (cell_at (C := [.int .i64 5, .int .i64 client, .int .i64 surface, .int .i64 nn, .int .i64 other, .int .i64 px, .int .i64 py, .int .i64 tm, .int .u32 back, .string fo, .slice A len cap, .int .i64 acts]) hb0 3) (by show ¬ w.heap.size = w.heap.size + 1; omega)) (And.intro (k.cell (cell_at (C := [.int .i64 5, .int .i64 client, .int .i64 surface, .int .i64 nn, .int .i64 other, .int .i64 px, .int .i64 py, .int .i64 tm, .int .u32 back, .string fo, .slice A len cap, .int .i64 acts]) hb0 4) (by show ¬ w.heap.size = w.heap.size + 1; omega)) (And.intro (k.cell (cell_at (C := [.int .i64 5, .int .i64 client, .int .i64 surface, .int .i64 nn, .int .i64 other, .int .i64 px, .int .i64 py, .int .i64 tm, .int .u32 back, .string fo, .slice A len cap, .int .i64 acts]) hb0 5) (by show ¬ w.heap.size = w.heap.size + 1; omega)) (And.intro (k.cell (cell_at (C := [.int .i64 5, .int .i64 client, .int .i64 surface, .int .i64 nn, .int .i64 other, .int .i64 px, .int .i64 py, .int .i64 tm, .int .u32 back, .string fo, .slice A len cap, .int .i64 acts]) hb0 6) (by show ¬ w.heap.size = w.heap.size + 1; omega)) (And.intro (k.cell (cell_at (C := [.int .i64 5, .int .i64 client, .int .i64 surface, .int .i64 nn, .int .i64 other, .int .i64 px, .int .i64 py, .int .i64 tm, .int .u32 back, .string fo, .slice A len cap, .int .i64 acts]) hb0 7) (by show ¬ w.heap.size = w.heap.size + 1; omega)) (And.intro (k.cell (cell_at (C := [.int .i64 5, .int .i64 client, .int .i64 surface, .int .i64 nn, .int .i64 other, .int .i64 px, .int .i64 py, .int .i64 tm, .int .u32 back, .string fo, .slice A len cap, .int .i64 acts]) hb0 8) (by show ¬ w.heap.size = w.heap.size + 1; omega)) (And.intro (k.cell (cell_at (C := [.int .i64 5, .int .i64 client, .int .i64 surface, .int .i64 nn, .int .i64 other, .int .i64 px, .int .i64 py, .int .i64 tm, .int .u32 back, .string fo, .slice A len cap, .int .i64 acts]) hb0 9) (by show ¬ w.heap.size = w.heap.size + 1; omega)) (And.intro (k.cell (cell_at (C := [.int .i64 5, .int .i64 client, .int .i64 surface, .int .i64 nn, .int .i64 other, .int .i64 px, .int .i64 py, .int .i64 tm, .int .u32 back, .string fo, .slice A len cap, .int .i64 acts]) hb0 10) (by show ¬ w.heap.size = w.heap.size + 1; omega)) ((k.cell (cell_at (C := [.int .i64 5, .int .i64 client, .int .i64 surface, .int .i64 nn, .int .i64 other, .int .i64 px, .int .i64 py, .int .i64 tm, .int .u32 back, .string fo, .slice A len cap, .int .i64 acts]) hb0 11) (by show ¬ w.heap.size = w.heap.size + 1; omega)))))))))))))))
  have HB1 := Lib.hid hb1
  clear hm hs hb0 hb1 q1b q2b
  show Calls Try.prog 27 _ w _
  go_enter Try.func27, Try.ntmps27
  go_wp2_with fail
  refine (ddrop_un dv _ (HM.out.keep HS0.out).now).mono ?_
  rintro e w2 ⟨rfl, hs⟩
  have HS := Lib.hid (HS0.out.trans hs)
  have HB1 := Lib.hid (hs.at_ HB1.out (fun q => q))
  have r0 := (res_cells HB1.out).1
  have r1 := (res_cells HB1.out).2.1
  have r2 := (res_cells HB1.out).2.2
  have rf := frozen_at HB1.out
  have rl := lt_of_at HB1.out
  clear hs
  go_wp2
  exact bodyPost_ret (results_cell1 Try.results27 rfl (run_load_res (res_set _ _ _ HB1.out))) rfl ⟨rfl, HS.out.then_ (res_chg _ _ _ _ _) (fun i hi e => by omega)⟩
set_option maxHeartbeats 4000000 in
theorem call_un6 (client surface nn other px py tm back acts : Int) (fo : ByteArray) (A : Option Addr) (len cap : Nat) (hm : NoMade dv w) (hs : w.heap[sb]? = some (.cells #[.pointer none, dv, .int .u32 0, .slice none 0 0] 36 (0, 0))) :
    Calls Try.prog 27 #[.pointer (some ⟨sb, 0, none⟩), .agg #[.int .i64 6, .int .i64 client, .int .i64 surface, .int .i64 nn, .int .i64 other, .int .i64 px, .int .i64 py, .int .i64 tm, .int .u32 back, .string fo, .slice A len cap, .int .i64 acts]] w fun e w' => e = .returned (.agg #[.slice none 0 0, .bool false, .int .i64 1]) ∧ Same w w' := by
  have HM := Lib.hid hm
  have hsl := lt_of_at hs
  have q1 : w.cell? ⟨sb, 1, none⟩ = some dv := cell_at (C := [.pointer none, dv, .int .u32 0, .slice none 0 0]) hs 1
  have q2 : w.cell? ⟨sb, 2, none⟩ = some (.int .u32 0) := cell_at (C := [.pointer none, dv, .int .u32 0, .slice none 0 0]) hs 2
  have hb0 := (Chg.refl (fun _ => False) _).alloc (.cells #[.slice none 0 0, .bool false, .int .i64 0] 63) |>.at_ (at_new w (.cells #[.int .i64 6, .int .i64 client, .int .i64 surface, .int .i64 nn, .int .i64 other, .int .i64 px, .int .i64 py, .int .i64 tm, .int .u32 back, .string fo, .slice A len cap, .int .i64 acts] 67)) (fun q => q)
  have hb1 := at_new2 w (.cells #[.int .i64 6, .int .i64 client, .int .i64 surface, .int .i64 nn, .int .i64 other, .int .i64 px, .int .i64 py, .int .i64 tm, .int .u32 back, .string fo, .slice A len cap, .int .i64 acts] 67) (.cells #[.slice none 0 0, .bool false, .int .i64 0] 63)
  have HK0 := Lib.hid (Chg.refl (fun x => x = w.heap.size + 1) ((w.alloc (.cells #[.int .i64 6, .int .i64 client, .int .i64 surface, .int .i64 nn, .int .i64 other, .int .i64 px, .int .i64 py, .int .i64 tm, .int .u32 back, .string fo, .slice A len cap, .int .i64 acts] 67)).alloc (.cells #[.slice none 0 0, .bool false, .int .i64 0] 63)))
  have HS0 := Lib.hid (((Chg.refl (fun _ => False) w).alloc (.cells #[.int .i64 6, .int .i64 client, .int .i64 surface, .int .i64 nn, .int .i64 other, .int .i64 px, .int .i64 py, .int .i64 tm, .int .u32 back, .string fo, .slice A len cap, .int .i64 acts] 67)).alloc (.cells #[.slice none 0 0, .bool false, .int .i64 0] 63))
  have q1b := HS0.out.cell q1 (fun q => q)
  have q2b := HS0.out.cell q2 (fun q => q)
  have KEEP := Lib.hid (fun (w' : World) (k : Chg (fun x => x = w.heap.size + 1) _ w') => And.intro (k.cell q1b (by show ¬ sb = w.heap.size + 1; omega)) (And.intro (k.cell q2b (by show ¬ sb = w.heap.size + 1; omega)) (And.intro (k.cell (cell_at (C := [.int .i64 6, .int .i64 client, .int .i64 surface, .int .i64 nn, .int .i64 other, .int .i64 px, .int .i64 py, .int .i64 tm, .int .u32 back, .string fo, .slice A len cap, .int .i64 acts]) hb0 1) (by show ¬ w.heap.size = w.heap.size + 1; omega)) (And.intro (k.cell (cell_at (C := [.int .i64 6, .int .i64 client, .int .i64 surface, .int .i64 nn, .int .i64 other, .int .i64 px, .int .i64 py, .int .i64 tm, .int .u32 back, .string fo, .slice A len cap, .int .i64 acts]) hb0 2) (by show ¬ w.heap.size = w.heap.size + 1; omega)) (And.intro (k.cell (cell_at (C := [.int .i64 6, .int .i64 client, .int .i64 surface, .int .i64 nn, .int .i64 other, .int .i64 px, .int .i64 py, .int .i64 tm, .int .u32 back, .string fo, .slice A len cap, .int .i64 acts]) hb0 3) (by show ¬ w.heap.size = w.heap.size + 1; omega)) (And.intro (k.cell (cell_at (C := [.int .i64 6, .int .i64 client, .int .i64 surface, .int .i64 nn, .int .i64 other, .int .i64 px, .int .i64 py, .int .i64 tm, .int .u32 back, .string fo, .slice A len cap, .int .i64 acts]) hb0 4) (by show ¬ w.heap.size = w.heap.size + 1; omega)) (And.intro (k.cell (cell_at (C := [.int .i64 6, .int .i64 client, .int .i64 surface, .int .i64 nn, .int .i64 other, .int .i64 px, .int .i64 py, .int .i64 tm, .int .u32 back, .string fo, .slice A len cap, .int .i64 acts]) hb0 5) (by show ¬ w.heap.size = w.heap.size + 1; omega)) (And.intro (k.cell (cell_at (C := [.int .i64 6, .int .i64 client, .int .i64 surface, .int .i64 nn, .int .i64 other, .int .i64 px, .int .i64 py, .int .i64 tm, .int .u32 back, .string fo, .slice A len cap, .int .i64 acts]) hb0 6) (by show ¬ w.heap.size = w.heap.size + 1; omega)) (And.intro (k.cell (cell_at (C := [.int .i64 6, .int .i64 client, .int .i64 surface, .int .i64 nn, .int .i64 other, .int .i64 px, .int .i64 py, .int .i64 tm, .int .u32 back, .string fo, .slice A len cap, .int .i64 acts]) hb0 7) (by show ¬ w.heap.size = w.heap.size + 1; omega)) (And.intro (k.cell (cell_at (C := [.int .i64 6, .int .i64 client, .int .i64 surface, .int .i64 nn, .int .i64 other, .int .i64 px, .int .i64 py, .int .i64 tm, .int .u32 back, .string fo, .slice A len cap, .int .i64 acts]) hb0 8) (by show ¬ w.heap.size = w.heap.size + 1; omega)) (And.intro (k.cell (cell_at (C := [.int .i64 6, .int .i64 client, .int .i64 surface, .int .i64 nn, .int .i64 other, .int .i64 px, .int .i64 py, .int .i64 tm, .int .u32 back, .string fo, .slice A len cap, .int .i64 acts]) hb0 9) (by show ¬ w.heap.size = w.heap.size + 1; omega)) (And.intro (k.cell (cell_at (C := [.int .i64 6, .int .i64 client, .int .i64 surface, .int .i64 nn, .int .i64 other, .int .i64 px, .int .i64 py, .int .i64 tm, .int .u32 back, .string fo, .slice A len cap, .int .i64 acts]) hb0 10) (by show ¬ w.heap.size = w.heap.size + 1; omega)) ((k.cell (cell_at (C := [.int .i64 6, .int .i64 client, .int .i64 surface, .int .i64 nn, .int .i64 other, .int .i64 px, .int .i64 py, .int .i64 tm, .int .u32 back, .string fo, .slice A len cap, .int .i64 acts]) hb0 11) (by show ¬ w.heap.size = w.heap.size + 1; omega)))))))))))))))
  have HB1 := Lib.hid hb1
  clear hm hs hb0 hb1 q1b q2b
  show Calls Try.prog 27 _ w _
  go_enter Try.func27, Try.ntmps27
  go_wp2_with fail
  have HK := Lib.hid (HK0.out.drew)
  have HS := Lib.hid (HS0.out.drew)
  have hcel := KEEP.out _ HK.out
  have HB1 := Lib.hid ((Chg.refl (fun _ => False) _).drew.at_ HB1.out (fun q => q))
  refine region_path (S := (fun w' => w'.cell? ⟨sb, 1, none⟩ = some dv ∧ w'.cell? ⟨sb, 2, none⟩ = some (.int .u32 0) ∧ w'.cell? ⟨w.heap.size, 1, none⟩ = some (.int .i64 client) ∧ w'.cell? ⟨w.heap.size, 2, none⟩ = some (.int .i64 surface) ∧ w'.cell? ⟨w.heap.size, 3, none⟩ = some (.int .i64 nn) ∧ w'.cell? ⟨w.heap.size, 4, none⟩ = some (.int .i64 other) ∧ w'.cell? ⟨w.heap.size, 5, none⟩ = some (.int .i64 px) ∧ w'.cell? ⟨w.heap.size, 6, none⟩ = some (.int .i64 py) ∧ w'.cell? ⟨w.heap.size, 7, none⟩ = some (.int .i64 tm) ∧ w'.cell? ⟨w.heap.size, 8, none⟩ = some (.int .u32 back) ∧ w'.cell? ⟨w.heap.size, 9, none⟩ = some (.string fo) ∧ w'.cell? ⟨w.heap.size, 10, none⟩ = some (.slice A len cap) ∧ w'.cell? ⟨w.heap.size, 11, none⟩ = some (.int .i64 acts))) 99 [(0, true), (1, true), (2, true), (3, true), (4, true), (5, true), (6, true), (7, true), (8, true), (9, true), (10, false), (11, true), (12, true), (13, true), (14, true), (15, true)] (by kernel_rfl) (by kernel_rfl) (by kernel_rfl) hcel ?_
  refine path_read (i := 0) (v := ?v5_0) rfl (by rfl) (fun _ _ _ h => h) ?hy5_0 ?_
  case hy5_0 => ((intro w hSw; (try dsimp only at hSw); go_simp) <;> (try with_reducible rfl))
  try simp only [Act.put, List.setIfInBounds_toArray, List.set_cons_zero, List.set_cons_succ]
  refine path_read (i := 1) (v := ?v5_1) rfl (by rfl) (fun _ _ _ h => h) ?hy5_1 ?_
  case hy5_1 => ((intro w hSw; (try dsimp only at hSw); go_simp) <;> (try with_reducible rfl))
  try simp only [Act.put, List.setIfInBounds_toArray, List.set_cons_zero, List.set_cons_succ]
  refine path_read (i := 2) (v := ?v5_2) rfl (by rfl) (fun _ _ _ h => h) ?hy5_2 ?_
  case hy5_2 => ((intro w hSw; (try dsimp only at hSw); go_simp) <;> (try with_reducible rfl))
  try simp only [Act.put, List.setIfInBounds_toArray, List.set_cons_zero, List.set_cons_succ]
  refine path_read (i := 3) (v := ?v5_3) rfl (by rfl) (fun _ _ _ h => h) ?hy5_3 ?_
  case hy5_3 => ((intro w hSw; (try dsimp only at hSw); go_simp) <;> (try with_reducible rfl))
  try simp only [Act.put, List.setIfInBounds_toArray, List.set_cons_zero, List.set_cons_succ]
  refine path_read (i := 4) (v := ?v5_4) rfl (by rfl) (fun _ _ _ h => h) ?hy5_4 ?_
  case hy5_4 => ((intro w hSw; (try dsimp only at hSw); go_simp) <;> (try with_reducible rfl))
  try simp only [Act.put, List.setIfInBounds_toArray, List.set_cons_zero, List.set_cons_succ]
  refine path_read (i := 5) (v := ?v5_5) rfl (by rfl) (fun _ _ _ h => h) ?hy5_5 ?_
  case hy5_5 => ((intro w hSw; (try dsimp only at hSw); go_simp) <;> (try with_reducible rfl))
  try simp only [Act.put, List.setIfInBounds_toArray, List.set_cons_zero, List.set_cons_succ]
  refine path_read (i := 6) (v := ?v5_6) rfl (by rfl) (fun _ _ _ h => h) ?hy5_6 ?_
  case hy5_6 => ((intro w hSw; (try dsimp only at hSw); go_simp) <;> (try with_reducible rfl))
  try simp only [Act.put, List.setIfInBounds_toArray, List.set_cons_zero, List.set_cons_succ]
  refine path_read (i := 7) (v := ?v5_7) rfl (by rfl) (fun _ _ _ h => h) ?hy5_7 ?_
  case hy5_7 => ((intro w hSw; (try dsimp only at hSw); go_simp) <;> (try with_reducible rfl))
  try simp only [Act.put, List.setIfInBounds_toArray, List.set_cons_zero, List.set_cons_succ]
  refine path_read (i := 8) (v := ?v5_8) rfl (by rfl) (fun _ _ _ h => h) ?hy5_8 ?_
  case hy5_8 => ((intro w hSw; (try dsimp only at hSw); go_simp) <;> (try with_reducible rfl))
  try simp only [Act.put, List.setIfInBounds_toArray, List.set_cons_zero, List.set_cons_succ]
  refine path_read (i := 9) (v := ?v5_9) rfl (by rfl) (fun _ _ _ h => h) ?hy5_9 ?_
  case hy5_9 => ((intro w hSw; (try dsimp only at hSw); go_simp) <;> (try with_reducible rfl))
  try simp only [Act.put, List.setIfInBounds_toArray, List.set_cons_zero, List.set_cons_succ]
  refine path_do (i := 10) rfl ?_
  go_wp2_with ((first | (go_at_call 17; go_loud (refine (dreceive_un dv client nn fo _ (HM.out.keep HS.out).now).mono ?_; rintro e w2 ⟨rfl, hs⟩; have HK := Lib.hid (HK.out.trans (Chg.of_same hs)); have HS := Lib.hid (HS.out.trans hs); have HB1 := Lib.hid (hs.at_ HB1.out (fun q => q)); have r0 := (res_cells HB1.out).1; have r1 := (res_cells HB1.out).2.1; have r2 := (res_cells HB1.out).2.2; have rf := frozen_at HB1.out; have rl := lt_of_at HB1.out; clear hs))))
  (first | refine ⟨.inr ?keep5_10, ?_⟩ | refine ⟨?keep5_10, ?_⟩)
  case keep5_10 => ((first | exact KEEP.out _ (HK.out.trans (res_chg _ _ _ _ _)) | exact KEEP.out _ HK.out))
  try simp only [Act.put, List.setIfInBounds_toArray, List.set_cons_zero, List.set_cons_succ]
  refine path_read (i := 11) (v := ?v5_11) rfl (by rfl) (fun _ _ _ h => h) ?hy5_11 ?_
  case hy5_11 => ((intro w hSw; (try dsimp only at hSw); go_simp) <;> (try with_reducible rfl))
  try simp only [Act.put, List.setIfInBounds_toArray, List.set_cons_zero, List.set_cons_succ]
  refine path_read (i := 12) (v := ?v5_12) rfl (by rfl) (fun _ _ _ h => h) ?hy5_12 ?_
  case hy5_12 => ((intro w hSw; (try dsimp only at hSw); go_simp) <;> (try with_reducible rfl))
  try simp only [Act.put, List.setIfInBounds_toArray, List.set_cons_zero, List.set_cons_succ]
  refine path_read (i := 13) (v := ?v5_13) rfl (by rfl) (fun _ _ _ h => h) ?hy5_13 ?_
  case hy5_13 => ((intro w hSw; (try dsimp only at hSw); go_simp) <;> (try with_reducible rfl))
  try simp only [Act.put, List.setIfInBounds_toArray, List.set_cons_zero, List.set_cons_succ]
  refine path_read (i := 14) (v := ?v5_14) rfl (by rfl) (fun _ _ _ h => h) ?hy5_14 ?_
  case hy5_14 => ((intro w hSw; (try dsimp only at hSw); go_simp) <;> (try with_reducible rfl))
  try simp only [Act.put, List.setIfInBounds_toArray, List.set_cons_zero, List.set_cons_succ]
  refine path_read (i := 15) (v := ?v5_15) rfl (by rfl) (fun _ _ _ h => h) ?hy5_15 ?_
  case hy5_15 => ((intro w hSw; (try dsimp only at hSw); go_simp) <;> (try with_reducible rfl))
  try simp only [Act.put, List.setIfInBounds_toArray, List.set_cons_zero, List.set_cons_succ]
  refine path_end ?_
  clear hcel
  go_wp2
  exact bodyPost_ret (results_cell1 Try.results27 rfl (run_load_res (res_set _ _ _ HB1.out))) rfl ⟨rfl, HS.out.then_ (res_chg _ _ _ _ _) (fun i hi e => by omega)⟩
set_option maxHeartbeats 4000000 in
theorem call_un7 (client surface nn other px py tm back acts : Int) (fo : ByteArray) (A : Option Addr) (len cap : Nat) (hm : NoMade dv w) (hs : w.heap[sb]? = some (.cells #[.pointer none, dv, .int .u32 0, .slice none 0 0] 36 (0, 0))) :
    Calls Try.prog 27 #[.pointer (some ⟨sb, 0, none⟩), .agg #[.int .i64 7, .int .i64 client, .int .i64 surface, .int .i64 nn, .int .i64 other, .int .i64 px, .int .i64 py, .int .i64 tm, .int .u32 back, .string fo, .slice A len cap, .int .i64 acts]] w fun e w' => e = .returned (.agg #[.slice none 0 0, .bool false, .int .i64 1]) ∧ Same w w' := by
  have HM := Lib.hid hm
  have hsl := lt_of_at hs
  have q1 : w.cell? ⟨sb, 1, none⟩ = some dv := cell_at (C := [.pointer none, dv, .int .u32 0, .slice none 0 0]) hs 1
  have q2 : w.cell? ⟨sb, 2, none⟩ = some (.int .u32 0) := cell_at (C := [.pointer none, dv, .int .u32 0, .slice none 0 0]) hs 2
  have hb0 := (Chg.refl (fun _ => False) _).alloc (.cells #[.slice none 0 0, .bool false, .int .i64 0] 63) |>.at_ (at_new w (.cells #[.int .i64 7, .int .i64 client, .int .i64 surface, .int .i64 nn, .int .i64 other, .int .i64 px, .int .i64 py, .int .i64 tm, .int .u32 back, .string fo, .slice A len cap, .int .i64 acts] 67)) (fun q => q)
  have hb1 := at_new2 w (.cells #[.int .i64 7, .int .i64 client, .int .i64 surface, .int .i64 nn, .int .i64 other, .int .i64 px, .int .i64 py, .int .i64 tm, .int .u32 back, .string fo, .slice A len cap, .int .i64 acts] 67) (.cells #[.slice none 0 0, .bool false, .int .i64 0] 63)
  have HK0 := Lib.hid (Chg.refl (fun x => x = w.heap.size + 1) ((w.alloc (.cells #[.int .i64 7, .int .i64 client, .int .i64 surface, .int .i64 nn, .int .i64 other, .int .i64 px, .int .i64 py, .int .i64 tm, .int .u32 back, .string fo, .slice A len cap, .int .i64 acts] 67)).alloc (.cells #[.slice none 0 0, .bool false, .int .i64 0] 63)))
  have HS0 := Lib.hid (((Chg.refl (fun _ => False) w).alloc (.cells #[.int .i64 7, .int .i64 client, .int .i64 surface, .int .i64 nn, .int .i64 other, .int .i64 px, .int .i64 py, .int .i64 tm, .int .u32 back, .string fo, .slice A len cap, .int .i64 acts] 67)).alloc (.cells #[.slice none 0 0, .bool false, .int .i64 0] 63))
  have q1b := HS0.out.cell q1 (fun q => q)
  have q2b := HS0.out.cell q2 (fun q => q)
  have KEEP := Lib.hid (fun (w' : World) (k : Chg (fun x => x = w.heap.size + 1) _ w') => And.intro (k.cell q1b (by show ¬ sb = w.heap.size + 1; omega)) (And.intro (k.cell q2b (by show ¬ sb = w.heap.size + 1; omega)) (And.intro (k.cell (cell_at (C := [.int .i64 7, .int .i64 client, .int .i64 surface, .int .i64 nn, .int .i64 other, .int .i64 px, .int .i64 py, .int .i64 tm, .int .u32 back, .string fo, .slice A len cap, .int .i64 acts]) hb0 1) (by show ¬ w.heap.size = w.heap.size + 1; omega)) (And.intro (k.cell (cell_at (C := [.int .i64 7, .int .i64 client, .int .i64 surface, .int .i64 nn, .int .i64 other, .int .i64 px, .int .i64 py, .int .i64 tm, .int .u32 back, .string fo, .slice A len cap, .int .i64 acts]) hb0 2) (by show ¬ w.heap.size = w.heap.size + 1; omega)) (And.intro (k.cell (cell_at (C := [.int .i64 7, .int .i64 client, .int .i64 surface, .int .i64 nn, .int .i64 other, .int .i64 px, .int .i64 py, .int .i64 tm, .int .u32 back, .string fo, .slice A len cap, .int .i64 acts]) hb0 3) (by show ¬ w.heap.size = w.heap.size + 1; omega)) (And.intro (k.cell (cell_at (C := [.int .i64 7, .int .i64 client, .int .i64 surface, .int .i64 nn, .int .i64 other, .int .i64 px, .int .i64 py, .int .i64 tm, .int .u32 back, .string fo, .slice A len cap, .int .i64 acts]) hb0 4) (by show ¬ w.heap.size = w.heap.size + 1; omega)) (And.intro (k.cell (cell_at (C := [.int .i64 7, .int .i64 client, .int .i64 surface, .int .i64 nn, .int .i64 other, .int .i64 px, .int .i64 py, .int .i64 tm, .int .u32 back, .string fo, .slice A len cap, .int .i64 acts]) hb0 5) (by show ¬ w.heap.size = w.heap.size + 1; omega)) (And.intro (k.cell (cell_at (C := [.int .i64 7, .int .i64 client, .int .i64 surface, .int .i64 nn, .int .i64 other, .int .i64 px, .int .i64 py, .int .i64 tm, .int .u32 back, .string fo, .slice A len cap, .int .i64 acts]) hb0 6) (by show ¬ w.heap.size = w.heap.size + 1; omega)) (And.intro (k.cell (cell_at (C := [.int .i64 7, .int .i64 client, .int .i64 surface, .int .i64 nn, .int .i64 other, .int .i64 px, .int .i64 py, .int .i64 tm, .int .u32 back, .string fo, .slice A len cap, .int .i64 acts]) hb0 7) (by show ¬ w.heap.size = w.heap.size + 1; omega)) (And.intro (k.cell (cell_at (C := [.int .i64 7, .int .i64 client, .int .i64 surface, .int .i64 nn, .int .i64 other, .int .i64 px, .int .i64 py, .int .i64 tm, .int .u32 back, .string fo, .slice A len cap, .int .i64 acts]) hb0 8) (by show ¬ w.heap.size = w.heap.size + 1; omega)) (And.intro (k.cell (cell_at (C := [.int .i64 7, .int .i64 client, .int .i64 surface, .int .i64 nn, .int .i64 other, .int .i64 px, .int .i64 py, .int .i64 tm, .int .u32 back, .string fo, .slice A len cap, .int .i64 acts]) hb0 9) (by show ¬ w.heap.size = w.heap.size + 1; omega)) (And.intro (k.cell (cell_at (C := [.int .i64 7, .int .i64 client, .int .i64 surface, .int .i64 nn, .int .i64 other, .int .i64 px, .int .i64 py, .int .i64 tm, .int .u32 back, .string fo, .slice A len cap, .int .i64 acts]) hb0 10) (by show ¬ w.heap.size = w.heap.size + 1; omega)) ((k.cell (cell_at (C := [.int .i64 7, .int .i64 client, .int .i64 surface, .int .i64 nn, .int .i64 other, .int .i64 px, .int .i64 py, .int .i64 tm, .int .u32 back, .string fo, .slice A len cap, .int .i64 acts]) hb0 11) (by show ¬ w.heap.size = w.heap.size + 1; omega)))))))))))))))
  have HB1 := Lib.hid hb1
  clear hm hs hb0 hb1 q1b q2b
  show Calls Try.prog 27 _ w _
  go_enter Try.func27, Try.ntmps27
  go_wp2_with fail
  have HK := Lib.hid (HK0.out.drew)
  have HS := Lib.hid (HS0.out.drew)
  have hcel := KEEP.out _ HK.out
  have HB1 := Lib.hid ((Chg.refl (fun _ => False) _).drew.at_ HB1.out (fun q => q))
  refine region_path (S := (fun w' => w'.cell? ⟨sb, 1, none⟩ = some dv ∧ w'.cell? ⟨sb, 2, none⟩ = some (.int .u32 0) ∧ w'.cell? ⟨w.heap.size, 1, none⟩ = some (.int .i64 client) ∧ w'.cell? ⟨w.heap.size, 2, none⟩ = some (.int .i64 surface) ∧ w'.cell? ⟨w.heap.size, 3, none⟩ = some (.int .i64 nn) ∧ w'.cell? ⟨w.heap.size, 4, none⟩ = some (.int .i64 other) ∧ w'.cell? ⟨w.heap.size, 5, none⟩ = some (.int .i64 px) ∧ w'.cell? ⟨w.heap.size, 6, none⟩ = some (.int .i64 py) ∧ w'.cell? ⟨w.heap.size, 7, none⟩ = some (.int .i64 tm) ∧ w'.cell? ⟨w.heap.size, 8, none⟩ = some (.int .u32 back) ∧ w'.cell? ⟨w.heap.size, 9, none⟩ = some (.string fo) ∧ w'.cell? ⟨w.heap.size, 10, none⟩ = some (.slice A len cap) ∧ w'.cell? ⟨w.heap.size, 11, none⟩ = some (.int .i64 acts))) 99 [(0, true), (1, true), (2, true), (3, true), (4, true), (5, true), (6, false), (7, true), (8, false)] (by kernel_rfl) (by kernel_rfl) (by kernel_rfl) hcel ?_
  refine path_read (i := 0) (v := ?v6_0) rfl (by rfl) (fun _ _ _ h => h) ?hy6_0 ?_
  case hy6_0 => ((intro w hSw; (try dsimp only at hSw); go_simp) <;> (try with_reducible rfl))
  try simp only [Act.put, List.setIfInBounds_toArray, List.set_cons_zero, List.set_cons_succ]
  refine path_read (i := 1) (v := ?v6_1) rfl (by rfl) (fun _ _ _ h => h) ?hy6_1 ?_
  case hy6_1 => ((intro w hSw; (try dsimp only at hSw); go_simp) <;> (try with_reducible rfl))
  try simp only [Act.put, List.setIfInBounds_toArray, List.set_cons_zero, List.set_cons_succ]
  refine path_read (i := 2) (v := ?v6_2) rfl (by rfl) (fun _ _ _ h => h) ?hy6_2 ?_
  case hy6_2 => ((intro w hSw; (try dsimp only at hSw); go_simp) <;> (try with_reducible rfl))
  try simp only [Act.put, List.setIfInBounds_toArray, List.set_cons_zero, List.set_cons_succ]
  refine path_read (i := 3) (v := ?v6_3) rfl (by rfl) (fun _ _ _ h => h) ?hy6_3 ?_
  case hy6_3 => ((intro w hSw; (try dsimp only at hSw); go_simp) <;> (try with_reducible rfl))
  try simp only [Act.put, List.setIfInBounds_toArray, List.set_cons_zero, List.set_cons_succ]
  refine path_read (i := 4) (v := ?v6_4) rfl (by rfl) (fun _ _ _ h => h) ?hy6_4 ?_
  case hy6_4 => ((intro w hSw; (try dsimp only at hSw); go_simp) <;> (try with_reducible rfl))
  try simp only [Act.put, List.setIfInBounds_toArray, List.set_cons_zero, List.set_cons_succ]
  refine path_read (i := 5) (v := ?v6_5) rfl (by rfl) (fun _ _ _ h => h) ?hy6_5 ?_
  case hy6_5 => ((intro w hSw; (try dsimp only at hSw); go_simp) <;> (try with_reducible rfl))
  try simp only [Act.put, List.setIfInBounds_toArray, List.set_cons_zero, List.set_cons_succ]
  refine path_do (i := 6) rfl ?_
  go_wp2_with ((first | (go_at_call 18; go_loud (refine (dfinish_un dv client _ (HM.out.keep HS.out).now).mono ?_; rintro e w2 ⟨rfl, hs⟩; have HK := Lib.hid (HK.out.trans (Chg.of_same hs)); have HS := Lib.hid (HS.out.trans hs); have HB1 := Lib.hid (hs.at_ HB1.out (fun q => q)); have r0 := (res_cells HB1.out).1; have r1 := (res_cells HB1.out).2.1; have r2 := (res_cells HB1.out).2.2; have rf := frozen_at HB1.out; have rl := lt_of_at HB1.out; clear hs))))
  (first | refine ⟨.inr ?keep6_6, ?_⟩ | refine ⟨?keep6_6, ?_⟩)
  case keep6_6 => ((first | exact KEEP.out _ (HK.out.trans (res_chg _ _ _ _ _)) | exact KEEP.out _ HK.out))
  try simp only [Act.put, List.setIfInBounds_toArray, List.set_cons_zero, List.set_cons_succ]
  refine path_read (i := 7) (v := ?v6_7) rfl (by rfl) (fun _ _ _ h => h) ?hy6_7 ?_
  case hy6_7 => ((intro w hSw; (try dsimp only at hSw); go_simp) <;> (try with_reducible rfl))
  try simp only [Act.put, List.setIfInBounds_toArray, List.set_cons_zero, List.set_cons_succ]
  refine path_do (i := 8) rfl ?_
  go_wp2_with ((first | (go_at_call 18; go_loud (refine (dfinish_un dv client _ (HM.out.keep HS.out).now).mono ?_; rintro e w2 ⟨rfl, hs⟩; have HK := Lib.hid (HK.out.trans (Chg.of_same hs)); have HS := Lib.hid (HS.out.trans hs); have HB1 := Lib.hid (hs.at_ HB1.out (fun q => q)); have r0 := (res_cells HB1.out).1; have r1 := (res_cells HB1.out).2.1; have r2 := (res_cells HB1.out).2.2; have rf := frozen_at HB1.out; have rl := lt_of_at HB1.out; clear hs))))
  (first | refine ⟨.inr ?keep6_8, ?_⟩ | refine ⟨?keep6_8, ?_⟩)
  case keep6_8 => ((first | exact KEEP.out _ (HK.out.trans (res_chg _ _ _ _ _)) | exact KEEP.out _ HK.out))
  try simp only [Act.put, List.setIfInBounds_toArray, List.set_cons_zero, List.set_cons_succ]
  refine path_end ?_
  clear hcel
  go_wp2
  exact bodyPost_ret (results_cell1 Try.results27 rfl (run_load_res (res_set _ _ _ HB1.out))) rfl ⟨rfl, HS.out.then_ (res_chg _ _ _ _ _) (fun i hi e => by omega)⟩
set_option maxHeartbeats 4000000 in
theorem call_un8 (client surface nn other px py tm back acts : Int) (fo : ByteArray) (A : Option Addr) (len cap : Nat) (hm : NoMade dv w) (hs : w.heap[sb]? = some (.cells #[.pointer none, dv, .int .u32 0, .slice none 0 0] 36 (0, 0))) :
    Calls Try.prog 27 #[.pointer (some ⟨sb, 0, none⟩), .agg #[.int .i64 8, .int .i64 client, .int .i64 surface, .int .i64 nn, .int .i64 other, .int .i64 px, .int .i64 py, .int .i64 tm, .int .u32 back, .string fo, .slice A len cap, .int .i64 acts]] w fun e w' => e = .returned (.agg #[.slice none 0 0, .bool false, .int .i64 0]) ∧ Same w w' := by
  have HM := Lib.hid hm
  have hsl := lt_of_at hs
  have q1 : w.cell? ⟨sb, 1, none⟩ = some dv := cell_at (C := [.pointer none, dv, .int .u32 0, .slice none 0 0]) hs 1
  have q2 : w.cell? ⟨sb, 2, none⟩ = some (.int .u32 0) := cell_at (C := [.pointer none, dv, .int .u32 0, .slice none 0 0]) hs 2
  have hb0 := (Chg.refl (fun _ => False) _).alloc (.cells #[.slice none 0 0, .bool false, .int .i64 0] 63) |>.at_ (at_new w (.cells #[.int .i64 8, .int .i64 client, .int .i64 surface, .int .i64 nn, .int .i64 other, .int .i64 px, .int .i64 py, .int .i64 tm, .int .u32 back, .string fo, .slice A len cap, .int .i64 acts] 67)) (fun q => q)
  have hb1 := at_new2 w (.cells #[.int .i64 8, .int .i64 client, .int .i64 surface, .int .i64 nn, .int .i64 other, .int .i64 px, .int .i64 py, .int .i64 tm, .int .u32 back, .string fo, .slice A len cap, .int .i64 acts] 67) (.cells #[.slice none 0 0, .bool false, .int .i64 0] 63)
  have HK0 := Lib.hid (Chg.refl (fun x => x = w.heap.size + 1) ((w.alloc (.cells #[.int .i64 8, .int .i64 client, .int .i64 surface, .int .i64 nn, .int .i64 other, .int .i64 px, .int .i64 py, .int .i64 tm, .int .u32 back, .string fo, .slice A len cap, .int .i64 acts] 67)).alloc (.cells #[.slice none 0 0, .bool false, .int .i64 0] 63)))
  have HS0 := Lib.hid (((Chg.refl (fun _ => False) w).alloc (.cells #[.int .i64 8, .int .i64 client, .int .i64 surface, .int .i64 nn, .int .i64 other, .int .i64 px, .int .i64 py, .int .i64 tm, .int .u32 back, .string fo, .slice A len cap, .int .i64 acts] 67)).alloc (.cells #[.slice none 0 0, .bool false, .int .i64 0] 63))
  have q1b := HS0.out.cell q1 (fun q => q)
  have q2b := HS0.out.cell q2 (fun q => q)
  have KEEP := Lib.hid (fun (w' : World) (k : Chg (fun x => x = w.heap.size + 1) _ w') => And.intro (k.cell q1b (by show ¬ sb = w.heap.size + 1; omega)) (And.intro (k.cell q2b (by show ¬ sb = w.heap.size + 1; omega)) (And.intro (k.cell (cell_at (C := [.int .i64 8, .int .i64 client, .int .i64 surface, .int .i64 nn, .int .i64 other, .int .i64 px, .int .i64 py, .int .i64 tm, .int .u32 back, .string fo, .slice A len cap, .int .i64 acts]) hb0 1) (by show ¬ w.heap.size = w.heap.size + 1; omega)) (And.intro (k.cell (cell_at (C := [.int .i64 8, .int .i64 client, .int .i64 surface, .int .i64 nn, .int .i64 other, .int .i64 px, .int .i64 py, .int .i64 tm, .int .u32 back, .string fo, .slice A len cap, .int .i64 acts]) hb0 2) (by show ¬ w.heap.size = w.heap.size + 1; omega)) (And.intro (k.cell (cell_at (C := [.int .i64 8, .int .i64 client, .int .i64 surface, .int .i64 nn, .int .i64 other, .int .i64 px, .int .i64 py, .int .i64 tm, .int .u32 back, .string fo, .slice A len cap, .int .i64 acts]) hb0 3) (by show ¬ w.heap.size = w.heap.size + 1; omega)) (And.intro (k.cell (cell_at (C := [.int .i64 8, .int .i64 client, .int .i64 surface, .int .i64 nn, .int .i64 other, .int .i64 px, .int .i64 py, .int .i64 tm, .int .u32 back, .string fo, .slice A len cap, .int .i64 acts]) hb0 4) (by show ¬ w.heap.size = w.heap.size + 1; omega)) (And.intro (k.cell (cell_at (C := [.int .i64 8, .int .i64 client, .int .i64 surface, .int .i64 nn, .int .i64 other, .int .i64 px, .int .i64 py, .int .i64 tm, .int .u32 back, .string fo, .slice A len cap, .int .i64 acts]) hb0 5) (by show ¬ w.heap.size = w.heap.size + 1; omega)) (And.intro (k.cell (cell_at (C := [.int .i64 8, .int .i64 client, .int .i64 surface, .int .i64 nn, .int .i64 other, .int .i64 px, .int .i64 py, .int .i64 tm, .int .u32 back, .string fo, .slice A len cap, .int .i64 acts]) hb0 6) (by show ¬ w.heap.size = w.heap.size + 1; omega)) (And.intro (k.cell (cell_at (C := [.int .i64 8, .int .i64 client, .int .i64 surface, .int .i64 nn, .int .i64 other, .int .i64 px, .int .i64 py, .int .i64 tm, .int .u32 back, .string fo, .slice A len cap, .int .i64 acts]) hb0 7) (by show ¬ w.heap.size = w.heap.size + 1; omega)) (And.intro (k.cell (cell_at (C := [.int .i64 8, .int .i64 client, .int .i64 surface, .int .i64 nn, .int .i64 other, .int .i64 px, .int .i64 py, .int .i64 tm, .int .u32 back, .string fo, .slice A len cap, .int .i64 acts]) hb0 8) (by show ¬ w.heap.size = w.heap.size + 1; omega)) (And.intro (k.cell (cell_at (C := [.int .i64 8, .int .i64 client, .int .i64 surface, .int .i64 nn, .int .i64 other, .int .i64 px, .int .i64 py, .int .i64 tm, .int .u32 back, .string fo, .slice A len cap, .int .i64 acts]) hb0 9) (by show ¬ w.heap.size = w.heap.size + 1; omega)) (And.intro (k.cell (cell_at (C := [.int .i64 8, .int .i64 client, .int .i64 surface, .int .i64 nn, .int .i64 other, .int .i64 px, .int .i64 py, .int .i64 tm, .int .u32 back, .string fo, .slice A len cap, .int .i64 acts]) hb0 10) (by show ¬ w.heap.size = w.heap.size + 1; omega)) ((k.cell (cell_at (C := [.int .i64 8, .int .i64 client, .int .i64 surface, .int .i64 nn, .int .i64 other, .int .i64 px, .int .i64 py, .int .i64 tm, .int .u32 back, .string fo, .slice A len cap, .int .i64 acts]) hb0 11) (by show ¬ w.heap.size = w.heap.size + 1; omega)))))))))))))))
  have HB1 := Lib.hid hb1
  clear hm hs hb0 hb1 q1b q2b
  show Calls Try.prog 27 _ w _
  go_enter Try.func27, Try.ntmps27
  go_wp2_with fail
  refine (dcancel_un dv _ (HM.out.keep HS0.out).now).mono ?_
  rintro e w2 ⟨rfl, hs⟩
  have HS := Lib.hid (HS0.out.trans hs)
  have HB1 := Lib.hid (hs.at_ HB1.out (fun q => q))
  have r0 := (res_cells HB1.out).1
  have r1 := (res_cells HB1.out).2.1
  have r2 := (res_cells HB1.out).2.2
  have rf := frozen_at HB1.out
  have rl := lt_of_at HB1.out
  clear hs
  go_wp2
  exact bodyPost_ret (results_cell1 Try.results27 rfl (run_load_res (res_set _ _ _ HB1.out))) rfl ⟨rfl, HS.out.then_ (res_chg _ _ _ _ _) (fun i hi e => by omega)⟩
end
end Go.Proofs.Yteolilggeaffaaa
