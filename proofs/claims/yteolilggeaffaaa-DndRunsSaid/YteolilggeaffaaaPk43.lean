/- Parts of the walk, packed: Wn643, Wn243. -/
import Derived.Test.YteolilggeaffaaaPk39
set_option linter.unusedVariables false
set_option linter.unusedSimpArgs false
set_option maxRecDepth 100000
namespace Go.Proofs.Yteolilggeaffaaa
open Go.RowKit

set_option maxHeartbeats 4000000 in
theorem want_6 (ph src cl tg : Int) (A : Option Addr) (n cap : Nat) (acts : Int) (f : ByteArray) (a p nm : Int) (tm : Bool) (la : Int) (PA : Option Addr) (pn pc : Nat) (fst : Int) (N : Nat) (LA : Option Addr) (ln lc : Nat) (last : Int) (client surface nn other px py time back : Int) (g : ByteArray) (OA : Option Addr) (om oc : Nat) (oa : Int) (w : World) (Q : MD → Int → Int → World → Prop)
    (hQ : ∀ x' ix er u v, Q x' ix er u → Chg (fun b => w.heap.size ≤ b ∧ b < w.heap.size + 6) u v → Q x' ix er v)
    (H : ∀ w1, Same w w1 → w1.heap.size = w.heap.size + 6 → Calls Try.prog 54 #[.agg #[.int .i64 ph, .int .i64 src, .int .i64 cl, .int .i64 tg, .slice A n cap, .int .i64 acts, .string f, .int .i64 a, .int .i64 p, .int .i64 nm, .bool tm, .int .i64 la, .slice PA pn pc, .int .i64 fst], .int .i64 client, .string g, .int .i64 nn] w1 fun e w' => ∃ x', ∃ ix, ∃ er, e = .returned (.tuple #[.agg x'.cells.toArray, .int .i64 ix, .int .i64 er]) ∧ Q x' ix er w' ∧ Same w1 w') :
    Calls Try.prog 26 #[.agg #[.int .i64 ph, .int .i64 src, .int .i64 cl, .int .i64 tg, .slice A n cap, .int .i64 acts, .string f, .int .i64 a, .int .i64 p, .int .i64 nm, .bool tm, .int .i64 la, .slice PA pn pc, .int .i64 fst], .agg #[.int .i64 N, .slice LA ln lc], .int .u32 last, .agg #[.int .i64 6, .int .i64 client, .int .i64 surface, .int .i64 nn, .int .i64 other, .int .i64 px, .int .i64 py, .int .i64 time, .int .u32 back, .string g, .slice OA om oc, .int .i64 oa]] w fun e w' => ∃ x', ∃ ix, ∃ er, e = .returned (.tuple #[.agg x'.cells.toArray, .agg #[.int .i64 N, .slice LA ln lc], .agg #[.slice none 0 0, .bool (er == 0), .int .i64 er]]) ∧ Q x' ix er w' ∧ Same w w' := by
  have HH := Lib.hid (And.intro hQ H)
  have HX := Lib.hid (six_at w #[.int .i64 ph, .int .i64 src, .int .i64 cl, .int .i64 tg, .slice A n cap, .int .i64 acts, .string f, .int .i64 a, .int .i64 p, .int .i64 nm, .bool tm, .int .i64 la, .slice PA pn pc, .int .i64 fst] #[.int .i64 N, .slice LA ln lc] #[.int .i64 6, .int .i64 client, .int .i64 surface, .int .i64 nn, .int .i64 other, .int .i64 px, .int .i64 py, .int .i64 time, .int .u32 back, .string g, .slice OA om oc, .int .i64 oa] #[.int .i64 0, .int .i64 0, .int .i64 0, .int .i64 0, .slice none 0 0, .int .i64 0, .string ⟨#[]⟩, .int .i64 0, .int .i64 0, .int .i64 0, .bool false, .int .i64 0, .slice none 0 0, .int .i64 0] #[.int .i64 0, .slice none 0 0] #[.slice none 0 0, .bool false, .int .i64 0] 56 60 67 56 60 63)
  clear hQ H
  go_enter Try.func26, Try.ntmps26
  go_wp2_with fail
  refine (HH.out.2 _ HX.out.2.2.2.2.2.2 HX.out.2.2.2.2.2.1).mono ?_
  rintro e w2 ⟨⟨ph', src', cl', tg', A', n', cap', acts', f', a', p', nm', tm', la', PA', pn', pc', fst'⟩, ix, er, rfl, hq, hs⟩
  dsimp only [MD.cells]
  have hz : w.heap.size + 6 ≤ w2.heap.size := by rw [← HX.out.2.2.2.2.2.1]; exact hs.size
  have HS := Lib.hid (And.intro hq (HX.out.2.2.2.2.2.2.trans hs))
  have hD : VarAt ((w2.alloc (.cells #[.int .i64 ph', .int .i64 src', .int .i64 cl', .int .i64 tg', .slice A' n' cap', .int .i64 acts', .string f', .int .i64 a', .int .i64 p', .int .i64 nm', .bool tm', .int .i64 la', .slice PA' pn' pc', .int .i64 fst'] 56)).drew) w2.heap.size 56 #[.int .i64 ph', .int .i64 src', .int .i64 cl', .int .i64 tg', .slice A' n' cap', .int .i64 acts', .string f', .int .i64 a', .int .i64 p', .int .i64 nm', .bool tm', .int .i64 la', .slice PA' pn' pc', .int .i64 fst'] := (VarAt.new w2 56 #[.int .i64 ph', .int .i64 src', .int .i64 cl', .int .i64 tg', .slice A' n' cap', .int .i64 acts', .string f', .int .i64 a', .int .i64 p', .int .i64 nm', .bool tm', .int .i64 la', .slice PA' pn' pc', .int .i64 fst']).drew
  have hL : VarAt ((w2.alloc (.cells #[.int .i64 ph', .int .i64 src', .int .i64 cl', .int .i64 tg', .slice A' n' cap', .int .i64 acts', .string f', .int .i64 a', .int .i64 p', .int .i64 nm', .bool tm', .int .i64 la', .slice PA' pn' pc', .int .i64 fst'] 56)).drew) (w.heap.size + 1) 60 #[.int .i64 N, .slice LA ln lc] := ((HX.out.2.1.same hs).alloc (.cells #[.int .i64 ph', .int .i64 src', .int .i64 cl', .int .i64 tg', .slice A' n' cap', .int .i64 acts', .string f', .int .i64 a', .int .i64 p', .int .i64 nm', .bool tm', .int .i64 la', .slice PA' pn' pc', .int .i64 fst'] 56)).drew
  have h8 : VarAt ((w2.alloc (.cells #[.int .i64 ph', .int .i64 src', .int .i64 cl', .int .i64 tg', .slice A' n' cap', .int .i64 acts', .string f', .int .i64 a', .int .i64 p', .int .i64 nm', .bool tm', .int .i64 la', .slice PA' pn' pc', .int .i64 fst'] 56)).drew) (w.heap.size + 1 + 1 + 1) 56 #[.int .i64 0, .int .i64 0, .int .i64 0, .int .i64 0, .slice none 0 0, .int .i64 0, .string ⟨#[]⟩, .int .i64 0, .int .i64 0, .int .i64 0, .bool false, .int .i64 0, .slice none 0 0, .int .i64 0] := ((HX.out.2.2.1.same hs).alloc (.cells #[.int .i64 ph', .int .i64 src', .int .i64 cl', .int .i64 tg', .slice A' n' cap', .int .i64 acts', .string f', .int .i64 a', .int .i64 p', .int .i64 nm', .bool tm', .int .i64 la', .slice PA' pn' pc', .int .i64 fst'] 56)).drew
  have h9 : VarAt ((w2.alloc (.cells #[.int .i64 ph', .int .i64 src', .int .i64 cl', .int .i64 tg', .slice A' n' cap', .int .i64 acts', .string f', .int .i64 a', .int .i64 p', .int .i64 nm', .bool tm', .int .i64 la', .slice PA' pn' pc', .int .i64 fst'] 56)).drew) (w.heap.size + 1 + 1 + 1 + 1) 60 #[.int .i64 0, .slice none 0 0] := ((HX.out.2.2.2.1.same hs).alloc (.cells #[.int .i64 ph', .int .i64 src', .int .i64 cl', .int .i64 tg', .slice A' n' cap', .int .i64 acts', .string f', .int .i64 a', .int .i64 p', .int .i64 nm', .bool tm', .int .i64 la', .slice PA' pn' pc', .int .i64 fst'] 56)).drew
  have h10 : VarAt ((w2.alloc (.cells #[.int .i64 ph', .int .i64 src', .int .i64 cl', .int .i64 tg', .slice A' n' cap', .int .i64 acts', .string f', .int .i64 a', .int .i64 p', .int .i64 nm', .bool tm', .int .i64 la', .slice PA' pn' pc', .int .i64 fst'] 56)).drew) (w.heap.size + 1 + 1 + 1 + 1 + 1) 63 #[.slice none 0 0, .bool false, .int .i64 0] := ((HX.out.2.2.2.2.1.same hs).alloc (.cells #[.int .i64 ph', .int .i64 src', .int .i64 cl', .int .i64 tg', .slice A' n' cap', .int .i64 acts', .string f', .int .i64 a', .int .i64 p', .int .i64 nm', .bool tm', .int .i64 la', .slice PA' pn' pc', .int .i64 fst'] 56)).drew
  clear hq hs
  go_wp2_with fail
  refine region_path (S := (fun w' => VarAt w' w2.heap.size 56 #[.int .i64 ph', .int .i64 src', .int .i64 cl', .int .i64 tg', .slice A' n' cap', .int .i64 acts', .string f', .int .i64 a', .int .i64 p', .int .i64 nm', .bool tm', .int .i64 la', .slice PA' pn' pc', .int .i64 fst'] ∧ VarAt w' (w.heap.size + 1) 60 #[.int .i64 N, .slice LA ln lc])) 99 [(0, true), (1, true), (2, true), (3, true), (4, true), (5, true), (6, false), (7, false), (8, false)] (by kernel_rfl) (by kernel_rfl) (by kernel_rfl) (⟨hD, hL⟩) ?_
  refine path_read (i := 0) (v := (.agg #[.int .i64 ph', .int .i64 src', .int .i64 cl', .int .i64 tg', .slice A' n' cap', .int .i64 acts', .string f', .int .i64 a', .int .i64 p', .int .i64 nm', .bool tm', .int .i64 la', .slice PA' pn' pc', .int .i64 fst']) ) rfl (by rfl) (fun _ _ _ h => h) ?hy51_0 ?_
  case hy51_0 => (intro w hSw;  exact exec_loadv rfl (VarAt.ldD (x := ⟨ph', src', cl', tg', A', n', cap', acts', f', a', p', nm', tm', la', PA', pn', pc', fst'⟩) hSw.1))
  try simp only [Act.put, List.setIfInBounds_toArray, List.set_cons_zero, List.set_cons_succ]
  refine path_read (i := 1) (v := (.agg #[.int .i64 N, .slice LA ln lc]) ) rfl (by rfl) (fun _ _ _ h => h) ?hy51_1 ?_
  case hy51_1 => (intro w hSw;  exact exec_loadv rfl (VarAt.ldL (N := N) hSw.2))
  try simp only [Act.put, List.setIfInBounds_toArray, List.set_cons_zero, List.set_cons_succ]
  refine path_read (i := 2) (v := ?v51_2) rfl (by rfl) (fun _ _ _ h => h) ?hy51_2 ?_
  case hy51_2 => ((intro w hSw; (try dsimp only at hSw); go_simp) <;> (try with_reducible rfl))
  try simp only [Act.put, List.setIfInBounds_toArray, List.set_cons_zero, List.set_cons_succ]
  refine path_read (i := 3) (v := ?v51_3) rfl (by rfl) (fun _ _ _ h => h) ?hy51_3 ?_
  case hy51_3 => ((intro w hSw; (try dsimp only at hSw); go_simp) <;> (try with_reducible rfl))
  try simp only [Act.put, List.setIfInBounds_toArray, List.set_cons_zero, List.set_cons_succ]
  refine path_read (i := 4) (v := ?v51_4) rfl (by rfl) (fun _ _ _ h => h) ?hy51_4 ?_
  case hy51_4 => ((intro w hSw; (try dsimp only at hSw); go_simp) <;> (try with_reducible rfl))
  try simp only [Act.put, List.setIfInBounds_toArray, List.set_cons_zero, List.set_cons_succ]
  refine path_read (i := 5) (v := ?v51_5) rfl (by rfl) (fun _ _ _ h => h) ?hy51_5 ?_
  case hy51_5 => ((intro w hSw; (try dsimp only at hSw); go_simp) <;> (try with_reducible rfl))
  try simp only [Act.put, List.setIfInBounds_toArray, List.set_cons_zero, List.set_cons_succ]
  refine path_do (i := 6) rfl ?_
  (refine wpl_storeRow #[.int .i64 0, .int .i64 0, .int .i64 0, .int .i64 0, .slice none 0 0, .int .i64 0, .string ⟨#[]⟩, .int .i64 0, .int .i64 0, .int .i64 0, .bool false, .int .i64 0, .slice none 0 0, .int .i64 0] rfl rfl h8 (by kernel_rfl) rfl (by simp [Value.oneCell']) ?_)
  refine path_next (.inr ?keep51_6) ?_
  case keep51_6 => (exact ⟨hD.set _ (by omega), hL.set _ (by omega)⟩)
  try simp only [Act.put, List.setIfInBounds_toArray, List.set_cons_zero, List.set_cons_succ]
  refine path_do (i := 7) rfl ?_
  (refine wpl_storeRow #[.int .i64 0, .slice none 0 0] rfl rfl (h9.set _ (by omega)) (by kernel_rfl) rfl (by simp [Value.oneCell']) ?_)
  refine path_next (.inr ?keep51_7) ?_
  case keep51_7 => (exact ⟨(hD.set _ (by omega)).set _ (by omega), (hL.set _ (by omega)).set _ (by omega)⟩)
  try simp only [Act.put, List.setIfInBounds_toArray, List.set_cons_zero, List.set_cons_succ]
  refine path_do (i := 8) rfl ?_
  (refine wpl_storeRow #[.slice none 0 0, .bool false, .int .i64 0] rfl rfl ((h10.set _ (by omega)).set _ (by omega)) (by kernel_rfl) rfl (by simp [Value.oneCell']) ?_)
  refine path_next (.inr ?keep51_8) ?_
  case keep51_8 => (exact ⟨((hD.set _ (by omega)).set _ (by omega)).set _ (by omega), ((hL.set _ (by omega)).set _ (by omega)).set _ (by omega)⟩)
  try simp only [Act.put, List.setIfInBounds_toArray, List.set_cons_zero, List.set_cons_succ]
  refine path_end ?_
  go_wp2
  have H3 := three_set (d1 := #[.int .i64 ph', .int .i64 src', .int .i64 cl', .int .i64 tg', .slice A' n' cap', .int .i64 acts', .string f', .int .i64 a', .int .i64 p', .int .i64 nm', .bool tm', .int .i64 la', .slice PA' pn' pc', .int .i64 fst']) (l1 := #[.int .i64 N, .slice LA ln lc]) (r1 := #[.slice none 0 0, .bool (er == 0), .int .i64 er]) h8 h9 h10 (by omega) (by omega) (by omega)
  refine bodyPost_ret (results_cell3 Try.results26 rfl rfl rfl (VarAt.ldD (x := ⟨ph', src', cl', tg', A', n', cap', acts', f', a', p', nm', tm', la', PA', pn', pc', fst'⟩) H3.1) (VarAt.ldL (N := N) H3.2.1) (VarAt.ldR H3.2.2)) rfl ⟨⟨ph', src', cl', tg', A', n', cap', acts', f', a', p', nm', tm', la', PA', pn', pc', fst'⟩, ix, er, ?_, ?_, ?_⟩
  · unfold MD.cells lgc rsc; rfl
  · refine HH.out.1 _ _ _ _ _ HS.out.1 ?_
    exact (((((Chg.refl _ _).alloc _).drew).setRow _ _ (fun _ => ⟨by omega, by omega⟩)).setRow _ _ (fun _ => ⟨by omega, by omega⟩)).setRow _ _ (fun _ => ⟨by omega, by omega⟩)
  · exact three_same ((HS.out.2.alloc _).drew) ⟨by omega, by omega, by omega⟩

end Go.Proofs.Yteolilggeaffaaa

namespace Go.Proofs.Yteolilggeaffaaa
open Go.RowKit

set_option maxHeartbeats 4000000 in
theorem want_2 (ph src cl tg : Int) (A : Option Addr) (n cap : Nat) (acts : Int) (f : ByteArray) (a p nm : Int) (tm : Bool) (la : Int) (PA : Option Addr) (pn pc : Nat) (fst : Int) (N : Nat) (LA : Option Addr) (ln lc : Nat) (last : Int) (client surface nn other px py time back : Int) (g : ByteArray) (OA : Option Addr) (om oc : Nat) (oa : Int) (w : World) (Q : MD → Nat → Option Addr → Nat → Nat → Option Addr → Nat → Nat → World → Prop)
    (hQ : ∀ x' (N' : Nat) LA' ln' lc' VA vn vc u v, Q x' N' LA' ln' lc' VA vn vc u → Chg (fun b => w.heap.size ≤ b ∧ b < w.heap.size + 6) u v → Q x' N' LA' ln' lc' VA vn vc v)
    (H : ∀ w1, Same w w1 → w1.heap.size = w.heap.size + 6 → Calls Try.prog 50 #[.agg #[.int .i64 ph, .int .i64 src, .int .i64 cl, .int .i64 tg, .slice A n cap, .int .i64 acts, .string f, .int .i64 a, .int .i64 p, .int .i64 nm, .bool tm, .int .i64 la, .slice PA pn pc, .int .i64 fst], .agg #[.int .i64 N, .slice LA ln lc], .int .i64 client, .int .i64 surface, .int .i64 px, .int .i64 py, .int .i64 time] w1 fun e w' => ∃ x', ∃ N' : Nat, ∃ LA', ∃ ln', ∃ lc', ∃ VA, ∃ vn, ∃ vc, e = .returned (.tuple #[.agg x'.cells.toArray, .agg #[.int .i64 N', .slice LA' ln' lc'], .slice VA vn vc]) ∧ Q x' N' LA' ln' lc' VA vn vc w' ∧ Same w1 w') :
    Calls Try.prog 26 #[.agg #[.int .i64 ph, .int .i64 src, .int .i64 cl, .int .i64 tg, .slice A n cap, .int .i64 acts, .string f, .int .i64 a, .int .i64 p, .int .i64 nm, .bool tm, .int .i64 la, .slice PA pn pc, .int .i64 fst], .agg #[.int .i64 N, .slice LA ln lc], .int .u32 last, .agg #[.int .i64 2, .int .i64 client, .int .i64 surface, .int .i64 nn, .int .i64 other, .int .i64 px, .int .i64 py, .int .i64 time, .int .u32 back, .string g, .slice OA om oc, .int .i64 oa]] w fun e w' => ∃ x', ∃ N' : Nat, ∃ LA', ∃ ln', ∃ lc', ∃ VA, ∃ vn, ∃ vc, e = .returned (.tuple #[.agg x'.cells.toArray, .agg #[.int .i64 N', .slice LA' ln' lc'], .agg #[.slice VA vn vc, .bool false, .int .i64 0]]) ∧ Q x' N' LA' ln' lc' VA vn vc w' ∧ Same w w' := by
  have HH := Lib.hid (And.intro hQ H)
  have HX := Lib.hid (six_at w #[.int .i64 ph, .int .i64 src, .int .i64 cl, .int .i64 tg, .slice A n cap, .int .i64 acts, .string f, .int .i64 a, .int .i64 p, .int .i64 nm, .bool tm, .int .i64 la, .slice PA pn pc, .int .i64 fst] #[.int .i64 N, .slice LA ln lc] #[.int .i64 2, .int .i64 client, .int .i64 surface, .int .i64 nn, .int .i64 other, .int .i64 px, .int .i64 py, .int .i64 time, .int .u32 back, .string g, .slice OA om oc, .int .i64 oa] #[.int .i64 0, .int .i64 0, .int .i64 0, .int .i64 0, .slice none 0 0, .int .i64 0, .string ⟨#[]⟩, .int .i64 0, .int .i64 0, .int .i64 0, .bool false, .int .i64 0, .slice none 0 0, .int .i64 0] #[.int .i64 0, .slice none 0 0] #[.slice none 0 0, .bool false, .int .i64 0] 56 60 67 56 60 63)
  clear hQ H
  go_enter Try.func26, Try.ntmps26
  go_wp2_with fail
  refine (HH.out.2 _ HX.out.2.2.2.2.2.2 HX.out.2.2.2.2.2.1).mono ?_
  rintro e w2 ⟨⟨ph', src', cl', tg', A', n', cap', acts', f', a', p', nm', tm', la', PA', pn', pc', fst'⟩, N', LA', ln', lc', VA, vn, vc, rfl, hq, hs⟩
  dsimp only [MD.cells]
  have hz : w.heap.size + 6 ≤ w2.heap.size := by rw [← HX.out.2.2.2.2.2.1]; exact hs.size
  have HS := Lib.hid (And.intro hq (HX.out.2.2.2.2.2.2.trans hs))
  have hD : VarAt (((w2.alloc (.cells #[.int .i64 ph', .int .i64 src', .int .i64 cl', .int .i64 tg', .slice A' n' cap', .int .i64 acts', .string f', .int .i64 a', .int .i64 p', .int .i64 nm', .bool tm', .int .i64 la', .slice PA' pn' pc', .int .i64 fst'] 56)).alloc (.cells #[.int .i64 N', .slice LA' ln' lc'] 60)).drew) w2.heap.size 56 #[.int .i64 ph', .int .i64 src', .int .i64 cl', .int .i64 tg', .slice A' n' cap', .int .i64 acts', .string f', .int .i64 a', .int .i64 p', .int .i64 nm', .bool tm', .int .i64 la', .slice PA' pn' pc', .int .i64 fst'] := ((VarAt.new w2 56 #[.int .i64 ph', .int .i64 src', .int .i64 cl', .int .i64 tg', .slice A' n' cap', .int .i64 acts', .string f', .int .i64 a', .int .i64 p', .int .i64 nm', .bool tm', .int .i64 la', .slice PA' pn' pc', .int .i64 fst']).alloc (.cells #[.int .i64 N', .slice LA' ln' lc'] 60)).drew
  have hL : VarAt (((w2.alloc (.cells #[.int .i64 ph', .int .i64 src', .int .i64 cl', .int .i64 tg', .slice A' n' cap', .int .i64 acts', .string f', .int .i64 a', .int .i64 p', .int .i64 nm', .bool tm', .int .i64 la', .slice PA' pn' pc', .int .i64 fst'] 56)).alloc (.cells #[.int .i64 N', .slice LA' ln' lc'] 60)).drew) (w2.heap.size + 1) 60 #[.int .i64 N', .slice LA' ln' lc'] := (VarAt.newk (w := w2.alloc (.cells #[.int .i64 ph', .int .i64 src', .int .i64 cl', .int .i64 tg', .slice A' n' cap', .int .i64 acts', .string f', .int .i64 a', .int .i64 p', .int .i64 nm', .bool tm', .int .i64 la', .slice PA' pn' pc', .int .i64 fst'] 56)) (T := 60) (cs := #[.int .i64 N', .slice LA' ln' lc']) (k := w2.heap.size + 1) (by simp)).drew
  have h8 : VarAt (((w2.alloc (.cells #[.int .i64 ph', .int .i64 src', .int .i64 cl', .int .i64 tg', .slice A' n' cap', .int .i64 acts', .string f', .int .i64 a', .int .i64 p', .int .i64 nm', .bool tm', .int .i64 la', .slice PA' pn' pc', .int .i64 fst'] 56)).alloc (.cells #[.int .i64 N', .slice LA' ln' lc'] 60)).drew) (w.heap.size + 1 + 1 + 1) 56 #[.int .i64 0, .int .i64 0, .int .i64 0, .int .i64 0, .slice none 0 0, .int .i64 0, .string ⟨#[]⟩, .int .i64 0, .int .i64 0, .int .i64 0, .bool false, .int .i64 0, .slice none 0 0, .int .i64 0] := (((HX.out.2.2.1.same hs).alloc (.cells #[.int .i64 ph', .int .i64 src', .int .i64 cl', .int .i64 tg', .slice A' n' cap', .int .i64 acts', .string f', .int .i64 a', .int .i64 p', .int .i64 nm', .bool tm', .int .i64 la', .slice PA' pn' pc', .int .i64 fst'] 56)).alloc (.cells #[.int .i64 N', .slice LA' ln' lc'] 60)).drew
  have h9 : VarAt (((w2.alloc (.cells #[.int .i64 ph', .int .i64 src', .int .i64 cl', .int .i64 tg', .slice A' n' cap', .int .i64 acts', .string f', .int .i64 a', .int .i64 p', .int .i64 nm', .bool tm', .int .i64 la', .slice PA' pn' pc', .int .i64 fst'] 56)).alloc (.cells #[.int .i64 N', .slice LA' ln' lc'] 60)).drew) (w.heap.size + 1 + 1 + 1 + 1) 60 #[.int .i64 0, .slice none 0 0] := (((HX.out.2.2.2.1.same hs).alloc (.cells #[.int .i64 ph', .int .i64 src', .int .i64 cl', .int .i64 tg', .slice A' n' cap', .int .i64 acts', .string f', .int .i64 a', .int .i64 p', .int .i64 nm', .bool tm', .int .i64 la', .slice PA' pn' pc', .int .i64 fst'] 56)).alloc (.cells #[.int .i64 N', .slice LA' ln' lc'] 60)).drew
  have h10 : VarAt (((w2.alloc (.cells #[.int .i64 ph', .int .i64 src', .int .i64 cl', .int .i64 tg', .slice A' n' cap', .int .i64 acts', .string f', .int .i64 a', .int .i64 p', .int .i64 nm', .bool tm', .int .i64 la', .slice PA' pn' pc', .int .i64 fst'] 56)).alloc (.cells #[.int .i64 N', .slice LA' ln' lc'] 60)).drew) (w.heap.size + 1 + 1 + 1 + 1 + 1) 63 #[.slice none 0 0, .bool false, .int .i64 0] := (((HX.out.2.2.2.2.1.same hs).alloc (.cells #[.int .i64 ph', .int .i64 src', .int .i64 cl', .int .i64 tg', .slice A' n' cap', .int .i64 acts', .string f', .int .i64 a', .int .i64 p', .int .i64 nm', .bool tm', .int .i64 la', .slice PA' pn' pc', .int .i64 fst'] 56)).alloc (.cells #[.int .i64 N', .slice LA' ln' lc'] 60)).drew
  clear hq hs
  go_wp2_with fail
  refine region_path (S := (fun w' => VarAt w' w2.heap.size 56 #[.int .i64 ph', .int .i64 src', .int .i64 cl', .int .i64 tg', .slice A' n' cap', .int .i64 acts', .string f', .int .i64 a', .int .i64 p', .int .i64 nm', .bool tm', .int .i64 la', .slice PA' pn' pc', .int .i64 fst'] ∧ VarAt w' (w2.heap.size + 1) 60 #[.int .i64 N', .slice LA' ln' lc'])) 99 [(0, true), (1, true), (2, true), (3, true), (4, false), (5, false), (6, false)] (by kernel_rfl) (by kernel_rfl) (by kernel_rfl) (⟨hD, hL⟩) ?_
  refine path_read (i := 0) (v := (.agg #[.int .i64 ph', .int .i64 src', .int .i64 cl', .int .i64 tg', .slice A' n' cap', .int .i64 acts', .string f', .int .i64 a', .int .i64 p', .int .i64 nm', .bool tm', .int .i64 la', .slice PA' pn' pc', .int .i64 fst']) ) rfl (by rfl) (fun _ _ _ h => h) ?hy52_0 ?_
  case hy52_0 => (intro w hSw;  exact exec_loadv rfl (VarAt.ldD (x := ⟨ph', src', cl', tg', A', n', cap', acts', f', a', p', nm', tm', la', PA', pn', pc', fst'⟩) hSw.1))
  try simp only [Act.put, List.setIfInBounds_toArray, List.set_cons_zero, List.set_cons_succ]
  refine path_read (i := 1) (v := (.agg #[.int .i64 N', .slice LA' ln' lc']) ) rfl (by rfl) (fun _ _ _ h => h) ?hy52_1 ?_
  case hy52_1 => (intro w hSw;  exact exec_loadv rfl (VarAt.ldL (N := N') hSw.2))
  try simp only [Act.put, List.setIfInBounds_toArray, List.set_cons_zero, List.set_cons_succ]
  refine path_read (i := 2) (v := ?v52_2) rfl (by rfl) (fun _ _ _ h => h) ?hy52_2 ?_
  case hy52_2 => ((intro w hSw; (try dsimp only at hSw); go_simp) <;> (try with_reducible rfl))
  try simp only [Act.put, List.setIfInBounds_toArray, List.set_cons_zero, List.set_cons_succ]
  refine path_read (i := 3) (v := ?v52_3) rfl (by rfl) (fun _ _ _ h => h) ?hy52_3 ?_
  case hy52_3 => ((intro w hSw; (try dsimp only at hSw); go_simp) <;> (try with_reducible rfl))
  try simp only [Act.put, List.setIfInBounds_toArray, List.set_cons_zero, List.set_cons_succ]
  refine path_do (i := 4) rfl ?_
  (refine wpl_storeRow #[.int .i64 0, .int .i64 0, .int .i64 0, .int .i64 0, .slice none 0 0, .int .i64 0, .string ⟨#[]⟩, .int .i64 0, .int .i64 0, .int .i64 0, .bool false, .int .i64 0, .slice none 0 0, .int .i64 0] rfl rfl h8 (by kernel_rfl) rfl (by simp [Value.oneCell']) ?_)
  refine path_next (.inr ?keep52_4) ?_
  case keep52_4 => (exact ⟨hD.set _ (by omega), hL.set _ (by omega)⟩)
  try simp only [Act.put, List.setIfInBounds_toArray, List.set_cons_zero, List.set_cons_succ]
  refine path_do (i := 5) rfl ?_
  (refine wpl_storeRow #[.int .i64 0, .slice none 0 0] rfl rfl (h9.set _ (by omega)) (by kernel_rfl) rfl (by simp [Value.oneCell']) ?_)
  refine path_next (.inr ?keep52_5) ?_
  case keep52_5 => (exact ⟨(hD.set _ (by omega)).set _ (by omega), (hL.set _ (by omega)).set _ (by omega)⟩)
  try simp only [Act.put, List.setIfInBounds_toArray, List.set_cons_zero, List.set_cons_succ]
  refine path_do (i := 6) rfl ?_
  (refine wpl_storeRow #[.slice none 0 0, .bool false, .int .i64 0] rfl rfl ((h10.set _ (by omega)).set _ (by omega)) (by kernel_rfl) rfl (by simp [Value.oneCell']) ?_)
  refine path_next (.inr ?keep52_6) ?_
  case keep52_6 => (exact ⟨((hD.set _ (by omega)).set _ (by omega)).set _ (by omega), ((hL.set _ (by omega)).set _ (by omega)).set _ (by omega)⟩)
  try simp only [Act.put, List.setIfInBounds_toArray, List.set_cons_zero, List.set_cons_succ]
  refine path_end ?_
  go_wp2
  have H3 := three_set (d1 := #[.int .i64 ph', .int .i64 src', .int .i64 cl', .int .i64 tg', .slice A' n' cap', .int .i64 acts', .string f', .int .i64 a', .int .i64 p', .int .i64 nm', .bool tm', .int .i64 la', .slice PA' pn' pc', .int .i64 fst']) (l1 := #[.int .i64 N', .slice LA' ln' lc']) (r1 := #[.slice VA vn vc, .bool false, .int .i64 0]) h8 h9 h10 (by omega) (by omega) (by omega)
  refine bodyPost_ret (results_cell3 Try.results26 rfl rfl rfl (VarAt.ldD (x := ⟨ph', src', cl', tg', A', n', cap', acts', f', a', p', nm', tm', la', PA', pn', pc', fst'⟩) H3.1) (VarAt.ldL (N := N') H3.2.1) (VarAt.ldR H3.2.2)) rfl ⟨⟨ph', src', cl', tg', A', n', cap', acts', f', a', p', nm', tm', la', PA', pn', pc', fst'⟩, N', LA', ln', lc', VA, vn, vc, ?_, ?_, ?_⟩
  · unfold MD.cells lgc rsc; rfl
  · refine HH.out.1 _ _ _ _ _ _ _ _ _ _ HS.out.1 ?_
    exact ((((((Chg.refl _ _).alloc _).alloc _).drew).setRow _ _ (fun _ => ⟨by omega, by omega⟩)).setRow _ _ (fun _ => ⟨by omega, by omega⟩)).setRow _ _ (fun _ => ⟨by omega, by omega⟩)
  · exact three_same (((HS.out.2.alloc _).alloc _).drew) ⟨by omega, by omega, by omega⟩

end Go.Proofs.Yteolilggeaffaaa
