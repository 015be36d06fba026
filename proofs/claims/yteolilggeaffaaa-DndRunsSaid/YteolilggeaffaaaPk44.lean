/- Parts of the walk, packed: Wn043, Wnkkneg43. -/
import Derived.Test.YteolilggeaffaaaPk39
set_option linter.unusedVariables false
set_option linter.unusedSimpArgs false
set_option maxRecDepth 100000
namespace Go.Proofs.Yteolilggeaffaaa
open Go.RowKit

set_option maxHeartbeats 4000000 in
theorem want_0 (ph src cl tg : Int) (A : Option Addr) (n cap : Nat) (acts : Int) (f : ByteArray) (a p nm : Int) (tm : Bool) (la : Int) (PA : Option Addr) (pn pc : Nat) (fst : Int) (N : Nat) (LA : Option Addr) (ln lc : Nat) (last : Int) (client surface nn other px py time back : Int) (g : ByteArray) (OA : Option Addr) (om oc : Nat) (oa : Int) (w : World) (Q : Nat → Option Addr → Nat → Nat → Int → World → Prop)
    (hQ : ∀ (N' : Nat) LA' ln' lc' sn u v, Q N' LA' ln' lc' sn u → Chg (fun b => w.heap.size ≤ b ∧ b < w.heap.size + 6) u v → Q N' LA' ln' lc' sn v)
    (H : ∀ w1, Same w w1 → w1.heap.size = w.heap.size + 6 → Calls Try.prog 48 #[.agg #[.int .i64 N, .slice LA ln lc], .int .i64 client, .int .i64 surface, .int .i64 nn] w1 fun e w' => ∃ N' : Nat, ∃ LA', ∃ ln', ∃ lc', ∃ sn, e = .returned (.tuple #[.agg #[.int .i64 N', .slice LA' ln' lc'], .int .u32 sn]) ∧ Q N' LA' ln' lc' sn w' ∧ Same w1 w') :
    Calls Try.prog 26 #[.agg #[.int .i64 ph, .int .i64 src, .int .i64 cl, .int .i64 tg, .slice A n cap, .int .i64 acts, .string f, .int .i64 a, .int .i64 p, .int .i64 nm, .bool tm, .int .i64 la, .slice PA pn pc, .int .i64 fst], .agg #[.int .i64 N, .slice LA ln lc], .int .u32 last, .agg #[.int .i64 0, .int .i64 client, .int .i64 surface, .int .i64 nn, .int .i64 other, .int .i64 px, .int .i64 py, .int .i64 time, .int .u32 back, .string g, .slice OA om oc, .int .i64 oa]] w fun e w' => ∃ N' : Nat, ∃ LA', ∃ ln', ∃ lc', ∃ sn, e = .returned (.tuple #[.agg #[.int .i64 ph, .int .i64 src, .int .i64 cl, .int .i64 tg, .slice A n cap, .int .i64 acts, .string f, .int .i64 a, .int .i64 p, .int .i64 nm, .bool tm, .int .i64 la, .slice PA pn pc, .int .i64 fst], .agg #[.int .i64 N', .slice LA' ln' lc'], .agg #[.slice none 0 0, .bool false, .int .i64 0]]) ∧ Q N' LA' ln' lc' sn w' ∧ Same w w' := by
  have HH := Lib.hid (And.intro hQ H)
  have HX := Lib.hid (six_at w #[.int .i64 ph, .int .i64 src, .int .i64 cl, .int .i64 tg, .slice A n cap, .int .i64 acts, .string f, .int .i64 a, .int .i64 p, .int .i64 nm, .bool tm, .int .i64 la, .slice PA pn pc, .int .i64 fst] #[.int .i64 N, .slice LA ln lc] #[.int .i64 0, .int .i64 client, .int .i64 surface, .int .i64 nn, .int .i64 other, .int .i64 px, .int .i64 py, .int .i64 time, .int .u32 back, .string g, .slice OA om oc, .int .i64 oa] #[.int .i64 0, .int .i64 0, .int .i64 0, .int .i64 0, .slice none 0 0, .int .i64 0, .string ⟨#[]⟩, .int .i64 0, .int .i64 0, .int .i64 0, .bool false, .int .i64 0, .slice none 0 0, .int .i64 0] #[.int .i64 0, .slice none 0 0] #[.slice none 0 0, .bool false, .int .i64 0] 56 60 67 56 60 63)
  clear hQ H
  go_enter Try.func26, Try.ntmps26
  go_wp2_with fail
  refine (HH.out.2 _ HX.out.2.2.2.2.2.2 HX.out.2.2.2.2.2.1).mono ?_
  rintro e w2 ⟨N', LA', ln', lc', sn, rfl, hq, hs⟩
  dsimp only [MD.cells]
  have hz : w.heap.size + 6 ≤ w2.heap.size := by rw [← HX.out.2.2.2.2.2.1]; exact hs.size
  have HS := Lib.hid (And.intro hq (HX.out.2.2.2.2.2.2.trans hs))
  have hD : VarAt ((w2.alloc (.cells #[.int .i64 N', .slice LA' ln' lc'] 60)).drew) w.heap.size 56 #[.int .i64 ph, .int .i64 src, .int .i64 cl, .int .i64 tg, .slice A n cap, .int .i64 acts, .string f, .int .i64 a, .int .i64 p, .int .i64 nm, .bool tm, .int .i64 la, .slice PA pn pc, .int .i64 fst] := ((HX.out.1.same hs).alloc (.cells #[.int .i64 N', .slice LA' ln' lc'] 60)).drew
  have hL : VarAt ((w2.alloc (.cells #[.int .i64 N', .slice LA' ln' lc'] 60)).drew) w2.heap.size 60 #[.int .i64 N', .slice LA' ln' lc'] := (VarAt.new w2 60 #[.int .i64 N', .slice LA' ln' lc']).drew
  have h8 : VarAt ((w2.alloc (.cells #[.int .i64 N', .slice LA' ln' lc'] 60)).drew) (w.heap.size + 1 + 1 + 1) 56 #[.int .i64 0, .int .i64 0, .int .i64 0, .int .i64 0, .slice none 0 0, .int .i64 0, .string ⟨#[]⟩, .int .i64 0, .int .i64 0, .int .i64 0, .bool false, .int .i64 0, .slice none 0 0, .int .i64 0] := ((HX.out.2.2.1.same hs).alloc (.cells #[.int .i64 N', .slice LA' ln' lc'] 60)).drew
  have h9 : VarAt ((w2.alloc (.cells #[.int .i64 N', .slice LA' ln' lc'] 60)).drew) (w.heap.size + 1 + 1 + 1 + 1) 60 #[.int .i64 0, .slice none 0 0] := ((HX.out.2.2.2.1.same hs).alloc (.cells #[.int .i64 N', .slice LA' ln' lc'] 60)).drew
  have h10 : VarAt ((w2.alloc (.cells #[.int .i64 N', .slice LA' ln' lc'] 60)).drew) (w.heap.size + 1 + 1 + 1 + 1 + 1) 63 #[.slice none 0 0, .bool false, .int .i64 0] := ((HX.out.2.2.2.2.1.same hs).alloc (.cells #[.int .i64 N', .slice LA' ln' lc'] 60)).drew
  clear hq hs
  go_wp2_with fail
  refine region_path (S := (fun w' => VarAt w' w.heap.size 56 #[.int .i64 ph, .int .i64 src, .int .i64 cl, .int .i64 tg, .slice A n cap, .int .i64 acts, .string f, .int .i64 a, .int .i64 p, .int .i64 nm, .bool tm, .int .i64 la, .slice PA pn pc, .int .i64 fst] ∧ VarAt w' w2.heap.size 60 #[.int .i64 N', .slice LA' ln' lc'])) 99 [(0, true), (1, true), (2, true), (3, false), (4, false), (5, false)] (by kernel_rfl) (by kernel_rfl) (by kernel_rfl) (⟨hD, hL⟩) ?_
  refine path_read (i := 0) (v := (.agg #[.int .i64 ph, .int .i64 src, .int .i64 cl, .int .i64 tg, .slice A n cap, .int .i64 acts, .string f, .int .i64 a, .int .i64 p, .int .i64 nm, .bool tm, .int .i64 la, .slice PA pn pc, .int .i64 fst]) ) rfl (by rfl) (fun _ _ _ h => h) ?hy53_0 ?_
  case hy53_0 => (intro w hSw;  exact exec_loadv rfl (VarAt.ldD (x := ⟨ph, src, cl, tg, A, n, cap, acts, f, a, p, nm, tm, la, PA, pn, pc, fst⟩) hSw.1))
  try simp only [Act.put, List.setIfInBounds_toArray, List.set_cons_zero, List.set_cons_succ]
  refine path_read (i := 1) (v := (.agg #[.int .i64 N', .slice LA' ln' lc']) ) rfl (by rfl) (fun _ _ _ h => h) ?hy53_1 ?_
  case hy53_1 => (intro w hSw;  exact exec_loadv rfl (VarAt.ldL (N := N') hSw.2))
  try simp only [Act.put, List.setIfInBounds_toArray, List.set_cons_zero, List.set_cons_succ]
  refine path_read (i := 2) (v := ?v53_2) rfl (by rfl) (fun _ _ _ h => h) ?hy53_2 ?_
  case hy53_2 => ((intro w hSw; (try dsimp only at hSw); go_simp) <;> (try with_reducible rfl))
  try simp only [Act.put, List.setIfInBounds_toArray, List.set_cons_zero, List.set_cons_succ]
  refine path_do (i := 3) rfl ?_
  (refine wpl_storeRow #[.int .i64 0, .int .i64 0, .int .i64 0, .int .i64 0, .slice none 0 0, .int .i64 0, .string ⟨#[]⟩, .int .i64 0, .int .i64 0, .int .i64 0, .bool false, .int .i64 0, .slice none 0 0, .int .i64 0] rfl rfl h8 (by kernel_rfl) rfl (by simp [Value.oneCell']) ?_)
  refine path_next (.inr ?keep53_3) ?_
  case keep53_3 => (exact ⟨hD.set _ (by omega), hL.set _ (by omega)⟩)
  try simp only [Act.put, List.setIfInBounds_toArray, List.set_cons_zero, List.set_cons_succ]
  refine path_do (i := 4) rfl ?_
  (refine wpl_storeRow #[.int .i64 0, .slice none 0 0] rfl rfl (h9.set _ (by omega)) (by kernel_rfl) rfl (by simp [Value.oneCell']) ?_)
  refine path_next (.inr ?keep53_4) ?_
  case keep53_4 => (exact ⟨(hD.set _ (by omega)).set _ (by omega), (hL.set _ (by omega)).set _ (by omega)⟩)
  try simp only [Act.put, List.setIfInBounds_toArray, List.set_cons_zero, List.set_cons_succ]
  refine path_do (i := 5) rfl ?_
  (refine wpl_storeRow #[.slice none 0 0, .bool false, .int .i64 0] rfl rfl ((h10.set _ (by omega)).set _ (by omega)) (by kernel_rfl) rfl (by simp [Value.oneCell']) ?_)
  refine path_next (.inr ?keep53_5) ?_
  case keep53_5 => (exact ⟨((hD.set _ (by omega)).set _ (by omega)).set _ (by omega), ((hL.set _ (by omega)).set _ (by omega)).set _ (by omega)⟩)
  try simp only [Act.put, List.setIfInBounds_toArray, List.set_cons_zero, List.set_cons_succ]
  refine path_end ?_
  go_wp2
  have H3 := three_set (d1 := #[.int .i64 ph, .int .i64 src, .int .i64 cl, .int .i64 tg, .slice A n cap, .int .i64 acts, .string f, .int .i64 a, .int .i64 p, .int .i64 nm, .bool tm, .int .i64 la, .slice PA pn pc, .int .i64 fst]) (l1 := #[.int .i64 N', .slice LA' ln' lc']) (r1 := #[.slice none 0 0, .bool false, .int .i64 0]) h8 h9 h10 (by omega) (by omega) (by omega)
  refine bodyPost_ret (results_cell3 Try.results26 rfl rfl rfl (VarAt.ldD (x := ⟨ph, src, cl, tg, A, n, cap, acts, f, a, p, nm, tm, la, PA, pn, pc, fst⟩) H3.1) (VarAt.ldL (N := N') H3.2.1) (VarAt.ldR H3.2.2)) rfl ⟨N', LA', ln', lc', sn, ?_, ?_, ?_⟩
  · rfl
  · refine HH.out.1 _ _ _ _ _ _ _ HS.out.1 ?_
    exact (((((Chg.refl _ _).alloc _).drew).setRow _ _ (fun _ => ⟨by omega, by omega⟩)).setRow _ _ (fun _ => ⟨by omega, by omega⟩)).setRow _ _ (fun _ => ⟨by omega, by omega⟩)
  · exact three_same ((HS.out.2.alloc _).drew) ⟨by omega, by omega, by omega⟩

end Go.Proofs.Yteolilggeaffaaa

namespace Go.Proofs.Yteolilggeaffaaa
open Go.RowKit

set_option maxHeartbeats 4000000 in
theorem want_kk_neg (kk : Int) (ph src cl tg : Int) (A : Option Addr) (n cap : Nat) (acts : Int) (f : ByteArray) (a p nm : Int) (tm : Bool) (la : Int) (PA : Option Addr) (pn pc : Nat) (fst : Int) (N : Nat) (LA : Option Addr) (ln lc : Nat) (last : Int) (client surface nn other px py time back : Int) (g : ByteArray) (OA : Option Addr) (om oc : Nat) (oa : Int) (w : World) (hk : kk < 0 ∨ 8 < kk) (hn : nn < 0) (Q : World → Prop)
    (hQ : ∀  u v, Q  u → Chg (fun b => w.heap.size ≤ b ∧ b < w.heap.size + 6) u v → Q  v)
    (H : ∀ w1, Same w w1 → w1.heap.size = w.heap.size + 6 → Q w1) :
    Calls Try.prog 26 #[.agg #[.int .i64 ph, .int .i64 src, .int .i64 cl, .int .i64 tg, .slice A n cap, .int .i64 acts, .string f, .int .i64 a, .int .i64 p, .int .i64 nm, .bool tm, .int .i64 la, .slice PA pn pc, .int .i64 fst], .agg #[.int .i64 N, .slice LA ln lc], .int .u32 last, .agg #[.int .i64 kk, .int .i64 client, .int .i64 surface, .int .i64 nn, .int .i64 other, .int .i64 px, .int .i64 py, .int .i64 time, .int .u32 back, .string g, .slice OA om oc, .int .i64 oa]] w fun e w' => e = .returned (.tuple #[.agg #[.int .i64 ph, .int .i64 src, .int .i64 cl, .int .i64 tg, .slice A n cap, .int .i64 acts, .string f, .int .i64 a, .int .i64 p, .int .i64 nm, .bool tm, .int .i64 la, .slice PA pn pc, .int .i64 fst], .agg #[.int .i64 N, .slice LA ln lc], .agg #[.slice none 0 0, .bool false, .int .i64 0]]) ∧ Q  w' ∧ Same w w' := by
  have k0 : (kk == 0) = false := by simp; omega
  have k1 : (kk == 1) = false := by simp; omega
  have k2 : (kk == 2) = false := by simp; omega
  have k3 : (kk == 3) = false := by simp; omega
  have k4 : (kk == 4) = false := by simp; omega
  have k5 : (kk == 5) = false := by simp; omega
  have k6 : (kk == 6) = false := by simp; omega
  have k7 : (kk == 7) = false := by simp; omega
  have k8 : (kk == 8) = false := by simp; omega
  clear hk
  have HH := Lib.hid (And.intro hQ H)
  have HX := Lib.hid (six_at w #[.int .i64 ph, .int .i64 src, .int .i64 cl, .int .i64 tg, .slice A n cap, .int .i64 acts, .string f, .int .i64 a, .int .i64 p, .int .i64 nm, .bool tm, .int .i64 la, .slice PA pn pc, .int .i64 fst] #[.int .i64 N, .slice LA ln lc] #[.int .i64 kk, .int .i64 client, .int .i64 surface, .int .i64 nn, .int .i64 other, .int .i64 px, .int .i64 py, .int .i64 time, .int .u32 back, .string g, .slice OA om oc, .int .i64 oa] #[.int .i64 0, .int .i64 0, .int .i64 0, .int .i64 0, .slice none 0 0, .int .i64 0, .string ⟨#[]⟩, .int .i64 0, .int .i64 0, .int .i64 0, .bool false, .int .i64 0, .slice none 0 0, .int .i64 0] #[.int .i64 0, .slice none 0 0] #[.slice none 0 0, .bool false, .int .i64 0] 56 60 67 56 60 63)
  clear hQ H
  go_enter Try.func26, Try.ntmps26
  go_wp2_with fail
  have hq := HH.out.2 _ HX.out.2.2.2.2.2.2 HX.out.2.2.2.2.2.1
  obtain ⟨w2, hw2, hs⟩ : ∃ w2, w2 = ((((((w.alloc (.cells #[.int .i64 ph, .int .i64 src, .int .i64 cl, .int .i64 tg, .slice A n cap, .int .i64 acts, .string f, .int .i64 a, .int .i64 p, .int .i64 nm, .bool tm, .int .i64 la, .slice PA pn pc, .int .i64 fst] 56)).alloc (.cells #[.int .i64 N, .slice LA ln lc] 60)).alloc (.cells #[.int .i64 kk, .int .i64 client, .int .i64 surface, .int .i64 nn, .int .i64 other, .int .i64 px, .int .i64 py, .int .i64 time, .int .u32 back, .string g, .slice OA om oc, .int .i64 oa] 67)).alloc (.cells #[.int .i64 0, .int .i64 0, .int .i64 0, .int .i64 0, .slice none 0 0, .int .i64 0, .string ⟨#[]⟩, .int .i64 0, .int .i64 0, .int .i64 0, .bool false, .int .i64 0, .slice none 0 0, .int .i64 0] 56)).alloc (.cells #[.int .i64 0, .slice none 0 0] 60)).alloc (.cells #[.slice none 0 0, .bool false, .int .i64 0] 63)) ∧ Same ((((((w.alloc (.cells #[.int .i64 ph, .int .i64 src, .int .i64 cl, .int .i64 tg, .slice A n cap, .int .i64 acts, .string f, .int .i64 a, .int .i64 p, .int .i64 nm, .bool tm, .int .i64 la, .slice PA pn pc, .int .i64 fst] 56)).alloc (.cells #[.int .i64 N, .slice LA ln lc] 60)).alloc (.cells #[.int .i64 kk, .int .i64 client, .int .i64 surface, .int .i64 nn, .int .i64 other, .int .i64 px, .int .i64 py, .int .i64 time, .int .u32 back, .string g, .slice OA om oc, .int .i64 oa] 67)).alloc (.cells #[.int .i64 0, .int .i64 0, .int .i64 0, .int .i64 0, .slice none 0 0, .int .i64 0, .string ⟨#[]⟩, .int .i64 0, .int .i64 0, .int .i64 0, .bool false, .int .i64 0, .slice none 0 0, .int .i64 0] 56)).alloc (.cells #[.int .i64 0, .slice none 0 0] 60)).alloc (.cells #[.slice none 0 0, .bool false, .int .i64 0] 63)) w2 := ⟨_, rfl, Chg.refl _ _⟩
  rw [← hw2] at hq ⊢
  have hz : w.heap.size + 6 ≤ w2.heap.size := by rw [← HX.out.2.2.2.2.2.1]; exact hs.size
  have HS := Lib.hid (And.intro hq (HX.out.2.2.2.2.2.2.trans hs))
  have hD : VarAt (w2.drew) w.heap.size 56 #[.int .i64 ph, .int .i64 src, .int .i64 cl, .int .i64 tg, .slice A n cap, .int .i64 acts, .string f, .int .i64 a, .int .i64 p, .int .i64 nm, .bool tm, .int .i64 la, .slice PA pn pc, .int .i64 fst] := (HX.out.1.same hs).drew
  have hL : VarAt (w2.drew) (w.heap.size + 1) 60 #[.int .i64 N, .slice LA ln lc] := (HX.out.2.1.same hs).drew
  have h8 : VarAt (w2.drew) (w.heap.size + 1 + 1 + 1) 56 #[.int .i64 0, .int .i64 0, .int .i64 0, .int .i64 0, .slice none 0 0, .int .i64 0, .string ⟨#[]⟩, .int .i64 0, .int .i64 0, .int .i64 0, .bool false, .int .i64 0, .slice none 0 0, .int .i64 0] := (HX.out.2.2.1.same hs).drew
  have h9 : VarAt (w2.drew) (w.heap.size + 1 + 1 + 1 + 1) 60 #[.int .i64 0, .slice none 0 0] := (HX.out.2.2.2.1.same hs).drew
  have h10 : VarAt (w2.drew) (w.heap.size + 1 + 1 + 1 + 1 + 1) 63 #[.slice none 0 0, .bool false, .int .i64 0] := (HX.out.2.2.2.2.1.same hs).drew
  clear hq hs
  go_wp2_with fail
  refine region_path (S := (fun w' => VarAt w' w.heap.size 56 #[.int .i64 ph, .int .i64 src, .int .i64 cl, .int .i64 tg, .slice A n cap, .int .i64 acts, .string f, .int .i64 a, .int .i64 p, .int .i64 nm, .bool tm, .int .i64 la, .slice PA pn pc, .int .i64 fst] ∧ VarAt w' (w.heap.size + 1) 60 #[.int .i64 N, .slice LA ln lc])) 99 [(0, true), (1, true), (2, true), (3, false), (4, false), (5, false)] (by kernel_rfl) (by kernel_rfl) (by kernel_rfl) (⟨hD, hL⟩) ?_
  refine path_read (i := 0) (v := (.agg #[.int .i64 ph, .int .i64 src, .int .i64 cl, .int .i64 tg, .slice A n cap, .int .i64 acts, .string f, .int .i64 a, .int .i64 p, .int .i64 nm, .bool tm, .int .i64 la, .slice PA pn pc, .int .i64 fst]) ) rfl (by rfl) (fun _ _ _ h => h) ?hy54_0 ?_
  case hy54_0 => (intro w hSw;  exact exec_loadv rfl (VarAt.ldD (x := ⟨ph, src, cl, tg, A, n, cap, acts, f, a, p, nm, tm, la, PA, pn, pc, fst⟩) hSw.1))
  try simp only [Act.put, List.setIfInBounds_toArray, List.set_cons_zero, List.set_cons_succ]
  refine path_read (i := 1) (v := (.agg #[.int .i64 N, .slice LA ln lc]) ) rfl (by rfl) (fun _ _ _ h => h) ?hy54_1 ?_
  case hy54_1 => (intro w hSw;  exact exec_loadv rfl (VarAt.ldL (N := N) hSw.2))
  try simp only [Act.put, List.setIfInBounds_toArray, List.set_cons_zero, List.set_cons_succ]
  refine path_read (i := 2) (v := ?v54_2) rfl (by rfl) (fun _ _ _ h => h) ?hy54_2 ?_
  case hy54_2 => ((intro w hSw; (try dsimp only at hSw); go_simp) <;> (try with_reducible rfl))
  try simp only [Act.put, List.setIfInBounds_toArray, List.set_cons_zero, List.set_cons_succ]
  refine path_do (i := 3) rfl ?_
  (refine wpl_storeRow #[.int .i64 0, .int .i64 0, .int .i64 0, .int .i64 0, .slice none 0 0, .int .i64 0, .string ⟨#[]⟩, .int .i64 0, .int .i64 0, .int .i64 0, .bool false, .int .i64 0, .slice none 0 0, .int .i64 0] rfl rfl h8 (by kernel_rfl) rfl (by simp [Value.oneCell']) ?_)
  refine path_next (.inr ?keep54_3) ?_
  case keep54_3 => (exact ⟨hD.set _ (by omega), hL.set _ (by omega)⟩)
  try simp only [Act.put, List.setIfInBounds_toArray, List.set_cons_zero, List.set_cons_succ]
  refine path_do (i := 4) rfl ?_
  (refine wpl_storeRow #[.int .i64 0, .slice none 0 0] rfl rfl (h9.set _ (by omega)) (by kernel_rfl) rfl (by simp [Value.oneCell']) ?_)
  refine path_next (.inr ?keep54_4) ?_
  case keep54_4 => (exact ⟨(hD.set _ (by omega)).set _ (by omega), (hL.set _ (by omega)).set _ (by omega)⟩)
  try simp only [Act.put, List.setIfInBounds_toArray, List.set_cons_zero, List.set_cons_succ]
  refine path_do (i := 5) rfl ?_
  (refine wpl_storeRow #[.slice none 0 0, .bool false, .int .i64 0] rfl rfl ((h10.set _ (by omega)).set _ (by omega)) (by kernel_rfl) rfl (by simp [Value.oneCell']) ?_)
  refine path_next (.inr ?keep54_5) ?_
  case keep54_5 => (exact ⟨((hD.set _ (by omega)).set _ (by omega)).set _ (by omega), ((hL.set _ (by omega)).set _ (by omega)).set _ (by omega)⟩)
  try simp only [Act.put, List.setIfInBounds_toArray, List.set_cons_zero, List.set_cons_succ]
  refine path_end ?_
  go_wp2
  have H3 := three_set (d1 := #[.int .i64 ph, .int .i64 src, .int .i64 cl, .int .i64 tg, .slice A n cap, .int .i64 acts, .string f, .int .i64 a, .int .i64 p, .int .i64 nm, .bool tm, .int .i64 la, .slice PA pn pc, .int .i64 fst]) (l1 := #[.int .i64 N, .slice LA ln lc]) (r1 := #[.slice none 0 0, .bool false, .int .i64 0]) h8 h9 h10 (by omega) (by omega) (by omega)
  refine bodyPost_ret (results_cell3 Try.results26 rfl rfl rfl (VarAt.ldD (x := ⟨ph, src, cl, tg, A, n, cap, acts, f, a, p, nm, tm, la, PA, pn, pc, fst⟩) H3.1) (VarAt.ldL (N := N) H3.2.1) (VarAt.ldR H3.2.2)) rfl ⟨?_, ?_, ?_⟩
  · rfl
  · refine HH.out.1 _ _ HS.out.1 ?_
    exact ((((Chg.refl _ _).drew).setRow _ _ (fun _ => ⟨by omega, by omega⟩)).setRow _ _ (fun _ => ⟨by omega, by omega⟩)).setRow _ _ (fun _ => ⟨by omega, by omega⟩)
  · exact three_same (HS.out.2.drew) ⟨by omega, by omega, by omega⟩

end Go.Proofs.Yteolilggeaffaaa
