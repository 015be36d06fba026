/- Parts of the walk, packed: Wnkkfar43, MQ43. -/
import Derived.Test.YteolilggeaffaaaPk39
import Derived.Test.YteolilggeaffaaaMP43
set_option linter.unusedVariables false
set_option linter.unusedSimpArgs false
set_option maxRecDepth 100000
namespace Go.Proofs.Yteolilggeaffaaa
open Go.RowKit

set_option maxHeartbeats 4000000 in
theorem want_kk_far (kk : Int) (ph src cl tg : Int) (A : Option Addr) (n cap : Nat) (acts : Int) (f : ByteArray) (a p nm : Int) (tm : Bool) (la : Int) (PA : Option Addr) (pn pc : Nat) (fst : Int) (N : Nat) (LA : Option Addr) (ln lc : Nat) (last : Int) (client surface nn other px py time back : Int) (g : ByteArray) (OA : Option Addr) (om oc : Nat) (oa : Int) (w : World) (hk : kk < 0 ∨ 8 < kk) (hn : ¬ nn < 0) (hf : (pn : Int) ≤ nn) (Q : World → Prop)
    (hQ : ∀  u v, Q  u → Chg (fun b => w.heap.size ≤ b ∧ b < w.heap.size + 6) u v → Q  v)
    (H : ∀ w1, Same w w1 → w1.heap.size = w.heap.size + 6 → Q w1) :
    Calls Try.prog 26 #[.agg #[.int .i64 ph, .int .i64 src, .int .i64 cl, .int .i64 tg, .slice A n cap, .int .i64 acts, .string f, .int .i64 a, .int .i64 p, .int .i64 nm, .bool tm, .int .i64 la, .slice PA pn pc, .int .i64 fst], .agg #[.int .i64 N, .slice LA ln lc], .int .u32 last, .agg #[.int .i64 kk, .int .i64 client, .int .i64 surface, .int .i64 nn, .int .i64 other, .int .i64 px, .int .i64 py, .int .i64 time, .int .u32 back, .string g, .slice OA om oc, .int .i64 oa]] w fun e w' => e = .returned (.tuple #[.agg #[.int .i64 ph, .int .i64 src, .int .i64 cl, .int .i64 tg, .slice A n cap, .int .i64 acts, .string f, .int .i64 a, .int .i64 p, .int .i64 nm, .bool tm, .int .i64 la, .slice PA pn pc, .int .i64 fst], .agg #[.int .i64 N, .slice LA ln lc], .agg #[.slice none 0 0, .bool false, .int .i64 0]]) ∧ Q  w' ∧ Same w w' := by
  have k0 : (kk == 0) = false := by simp; omega
  have k1 : (kk == 1) = false := by simp; omega
  have k2 : (kk == 2) = false := by simp; omega
  have k3 : (kk == 3) = false := by simp; omega
  have k4 : (kk == 4) = false := by simp; omega
  have k5 : (kk == 5) = false := by simp; omega
  have k6 : (kk == 6) = false := by simp; omega
  have k7 : (kk == 7) = false := by simp; omega
  have k8 : (kk == 8) = false := by simp; omega
  clear hk
  have HH := Lib.hid (And.intro hQ H)
  have HX := Lib.hid (six_at w #[.int .i64 ph, .int .i64 src, .int .i64 cl, .int .i64 tg, .slice A n cap, .int .i64 acts, .string f, .int .i64 a, .int .i64 p, .int .i64 nm, .bool tm, .int .i64 la, .slice PA pn pc, .int .i64 fst] #[.int .i64 N, .slice LA ln lc] #[.int .i64 kk, .int .i64 client, .int .i64 surface, .int .i64 nn, .int .i64 other, .int .i64 px, .int .i64 py, .int .i64 time, .int .u32 back, .string g, .slice OA om oc, .int .i64 oa] #[.int .i64 0, .int .i64 0, .int .i64 0, .int .i64 0, .slice none 0 0, .int .i64 0, .string ⟨#[]⟩, .int .i64 0, .int .i64 0, .int .i64 0, .bool false, .int .i64 0, .slice none 0 0, .int .i64 0] #[.int .i64 0, .slice none 0 0] #[.slice none 0 0, .bool false, .int .i64 0] 56 60 67 56 60 63)
  clear hQ H
  go_enter Try.func26, Try.ntmps26
  go_wp2_with fail
  have hq := HH.out.2 _ HX.out.2.2.2.2.2.2 HX.out.2.2.2.2.2.1
  obtain ⟨w2, hw2, hs⟩ : ∃ w2, w2 = ((((((w.alloc (.cells #[.int .i64 ph, .int .i64 src, .int .i64 cl, .int .i64 tg, .slice A n cap, .int .i64 acts, .string f, .int .i64 a, .int .i64 p, .int .i64 nm, .bool tm, .int .i64 la, .slice PA pn pc, .int .i64 fst] 56)).alloc (.cells #[.int .i64 N, .slice LA ln lc] 60)).alloc (.cells #[.int .i64 kk, .int .i64 client, .int .i64 surface, .int .i64 nn, .int .i64 other, .int .i64 px, .int .i64 py, .int .i64 time, .int .u32 back, .string g, .slice OA om oc, .int .i64 oa] 67)).alloc (.cells #[.int .i64 0, .int .i64 0, .int .i64 0, .int .i64 0, .slice none 0 0, .int .i64 0, .string ⟨#[]⟩, .int .i64 0, .int .i64 0, .int .i64 0, .bool false, .int .i64 0, .slice none 0 0, .int .i64 0] 56)).alloc (.cells #[.int .i64 0, .slice none 0 0] 60)).alloc (.cells #[.slice none 0 0, .bool false, .int .i64 0] 63)) ∧ Same ((((((w.alloc (.cells #[.int .i64 ph, .int .i64 src, .int .i64 cl, .int .i64 tg, .slice A n cap, .int .i64 acts, .string f, .int .i64 a, .int .i64 p, .int .i64 nm, .bool tm, .int .i64 la, .slice PA pn pc, .int .i64 fst] 56)).alloc (.cells #[.int .i64 N, .slice LA ln lc] 60)).alloc (.cells #[.int .i64 kk, .int .i64 client, .int .i64 surface, .int .i64 nn, .int .i64 other, .int .i64 px, .int .i64 py, .int .i64 time, .int .u32 back, .string g, .slice OA om oc, .int .i64 oa] 67)).alloc (.cells #[.int .i64 0, .int .i64 0, .int .i64 0, .int .i64 0, .slice none 0 0, .int .i64 0, .string ⟨#[]⟩, .int .i64 0, .int .i64 0, .int .i64 0, .bool false, .int .i64 0, .slice none 0 0, .int .i64 0] 56)).alloc (.cells #[.int .i64 0, .slice none 0 0] 60)).alloc (.cells #[.slice none 0 0, .bool false, .int .i64 0] 63)) w2 := ⟨_, rfl, Chg.refl _ _⟩
  rw [← hw2] at hq ⊢
  have hz : w.heap.size + 6 ≤ w2.heap.size := by rw [← HX.out.2.2.2.2.2.1]; exact hs.size
  have HS := Lib.hid (And.intro hq (HX.out.2.2.2.2.2.2.trans hs))
  have hD : VarAt (w2.drew) w.heap.size 56 #[.int .i64 ph, .int .i64 src, .int .i64 cl, .int .i64 tg, .slice A n cap, .int .i64 acts, .string f, .int .i64 a, .int .i64 p, .int .i64 nm, .bool tm, .int .i64 la, .slice PA pn pc, .int .i64 fst] := (HX.out.1.same hs).drew
  have hL : VarAt (w2.drew) (w.heap.size + 1) 60 #[.int .i64 N, .slice LA ln lc] := (HX.out.2.1.same hs).drew
  have h8 : VarAt (w2.drew) (w.heap.size + 1 + 1 + 1) 56 #[.int .i64 0, .int .i64 0, .int .i64 0, .int .i64 0, .slice none 0 0, .int .i64 0, .string ⟨#[]⟩, .int .i64 0, .int .i64 0, .int .i64 0, .bool false, .int .i64 0, .slice none 0 0, .int .i64 0] := (HX.out.2.2.1.same hs).drew
  have h9 : VarAt (w2.drew) (w.heap.size + 1 + 1 + 1 + 1) 60 #[.int .i64 0, .slice none 0 0] := (HX.out.2.2.2.1.same hs).drew
  have h10 : VarAt (w2.drew) (w.heap.size + 1 + 1 + 1 + 1 + 1) 63 #[.slice none 0 0, .bool false, .int .i64 0] := (HX.out.2.2.2.2.1.same hs).drew
  clear hq hs
  go_wp2_with fail
  refine region_path (S := (fun w' => VarAt w' w.heap.size 56 #[.int .i64 ph, .int .i64 src, .int .i64 cl, .int .i64 tg, .slice A n cap, .int .i64 acts, .string f, .int .i64 a, .int .i64 p, .int .i64 nm, .bool tm, .int .i64 la, .slice PA pn pc, .int .i64 fst] ∧ VarAt w' (w.heap.size + 1) 60 #[.int .i64 N, .slice LA ln lc])) 99 [(0, true), (1, true), (2, true), (3, false), (4, false), (5, false)] (by kernel_rfl) (by kernel_rfl) (by kernel_rfl) (⟨hD, hL⟩) ?_
  refine path_read (i := 0) (v := (.agg #[.int .i64 ph, .int .i64 src, .int .i64 cl, .int .i64 tg, .slice A n cap, .int .i64 acts, .string f, .int .i64 a, .int .i64 p, .int .i64 nm, .bool tm, .int .i64 la, .slice PA pn pc, .int .i64 fst]) ) rfl (by rfl) (fun _ _ _ h => h) ?hy55_0 ?_
  case hy55_0 => (intro w hSw;  exact exec_loadv rfl (VarAt.ldD (x := ⟨ph, src, cl, tg, A, n, cap, acts, f, a, p, nm, tm, la, PA, pn, pc, fst⟩) hSw.1))
  try simp only [Act.put, List.setIfInBounds_toArray, List.set_cons_zero, List.set_cons_succ]
  refine path_read (i := 1) (v := (.agg #[.int .i64 N, .slice LA ln lc]) ) rfl (by rfl) (fun _ _ _ h => h) ?hy55_1 ?_
  case hy55_1 => (intro w hSw;  exact exec_loadv rfl (VarAt.ldL (N := N) hSw.2))
  try simp only [Act.put, List.setIfInBounds_toArray, List.set_cons_zero, List.set_cons_succ]
  refine path_read (i := 2) (v := ?v55_2) rfl (by rfl) (fun _ _ _ h => h) ?hy55_2 ?_
  case hy55_2 => ((intro w hSw; (try dsimp only at hSw); go_simp) <;> (try with_reducible rfl))
  try simp only [Act.put, List.setIfInBounds_toArray, List.set_cons_zero, List.set_cons_succ]
  refine path_do (i := 3) rfl ?_
  (refine wpl_storeRow #[.int .i64 0, .int .i64 0, .int .i64 0, .int .i64 0, .slice none 0 0, .int .i64 0, .string ⟨#[]⟩, .int .i64 0, .int .i64 0, .int .i64 0, .bool false, .int .i64 0, .slice none 0 0, .int .i64 0] rfl rfl h8 (by kernel_rfl) rfl (by simp [Value.oneCell']) ?_)
  refine path_next (.inr ?keep55_3) ?_
  case keep55_3 => (exact ⟨hD.set _ (by omega), hL.set _ (by omega)⟩)
  try simp only [Act.put, List.setIfInBounds_toArray, List.set_cons_zero, List.set_cons_succ]
  refine path_do (i := 4) rfl ?_
  (refine wpl_storeRow #[.int .i64 0, .slice none 0 0] rfl rfl (h9.set _ (by omega)) (by kernel_rfl) rfl (by simp [Value.oneCell']) ?_)
  refine path_next (.inr ?keep55_4) ?_
  case keep55_4 => (exact ⟨(hD.set _ (by omega)).set _ (by omega), (hL.set _ (by omega)).set _ (by omega)⟩)
  try simp only [Act.put, List.setIfInBounds_toArray, List.set_cons_zero, List.set_cons_succ]
  refine path_do (i := 5) rfl ?_
  (refine wpl_storeRow #[.slice none 0 0, .bool false, .int .i64 0] rfl rfl ((h10.set _ (by omega)).set _ (by omega)) (by kernel_rfl) rfl (by simp [Value.oneCell']) ?_)
  refine path_next (.inr ?keep55_5) ?_
  case keep55_5 => (exact ⟨((hD.set _ (by omega)).set _ (by omega)).set _ (by omega), ((hL.set _ (by omega)).set _ (by omega)).set _ (by omega)⟩)
  try simp only [Act.put, List.setIfInBounds_toArray, List.set_cons_zero, List.set_cons_succ]
  refine path_end ?_
  go_wp2
  have H3 := three_set (d1 := #[.int .i64 ph, .int .i64 src, .int .i64 cl, .int .i64 tg, .slice A n cap, .int .i64 acts, .string f, .int .i64 a, .int .i64 p, .int .i64 nm, .bool tm, .int .i64 la, .slice PA pn pc, .int .i64 fst]) (l1 := #[.int .i64 N, .slice LA ln lc]) (r1 := #[.slice none 0 0, .bool false, .int .i64 0]) h8 h9 h10 (by omega) (by omega) (by omega)
  refine bodyPost_ret (results_cell3 Try.results26 rfl rfl rfl (VarAt.ldD (x := ⟨ph, src, cl, tg, A, n, cap, acts, f, a, p, nm, tm, la, PA, pn, pc, fst⟩) H3.1) (VarAt.ldL (N := N) H3.2.1) (VarAt.ldR H3.2.2)) rfl ⟨?_, ?_, ?_⟩
  · rfl
  · refine HH.out.1 _ _ HS.out.1 ?_
    exact ((((Chg.refl _ _).drew).setRow _ _ (fun _ => ⟨by omega, by omega⟩)).setRow _ _ (fun _ => ⟨by omega, by omega⟩)).setRow _ _ (fun _ => ⟨by omega, by omega⟩)
  · exact three_same (HS.out.2.drew) ⟨by omega, by omega, by omega⟩

end Go.Proofs.Yteolilggeaffaaa

namespace Go.Proofs.Yteolilggeaffaaa
open Go.RowKit

set_option maxHeartbeats 4000000 in
theorem mdrop_yes (src cl tg : Int) (A : Option Addr) (n cap : Nat) (acts : Int) (f : ByteArray) (a p nm : Int) (tm : Bool) (la : Int) (PA : Option Addr) (pn pc : Nat) (fst : Int) (v : Int) (w : World) (h0 : tg ≠ 0) (hf : f ≠ ByteArray.empty) (hac : MD.act ⟨1, src, cl, tg, A, n, cap, acts, f, a, p, nm, tm, la, PA, pn, pc, fst⟩ = v) (hv : v ≠ 0) :
    Calls Try.prog 53 #[.agg #[.int .i64 1, .int .i64 src, .int .i64 cl, .int .i64 tg, .slice A n cap, .int .i64 acts, .string f, .int .i64 a, .int .i64 p, .int .i64 nm, .bool tm, .int .i64 la, .slice PA pn pc, .int .i64 fst]] w fun e w' => ∃ VA vc, e = .returned (.tuple #[.agg (MD.cells ⟨2, src, cl, tg, A, n, cap, acts, f, a, p, nm, tm, la, PA, pn, pc, fst⟩).toArray, .slice VA 1 vc, .bool true]) ∧ OutAt w.heap.size w' (.slice VA 1 vc) [Dv.cells ⟨cl, tg, 17, 0, 0, 0, 0, 0, 0⟩] ∧ Same w w' := by
  have HX : Hid (VarAt ((w.alloc (.cells #[.int .i64 1, .int .i64 src, .int .i64 cl, .int .i64 tg, .slice A n cap, .int .i64 acts, .string f, .int .i64 a, .int .i64 p, .int .i64 nm, .bool tm, .int .i64 la, .slice PA pn pc, .int .i64 fst] 56)).alloc (.cells #[.int .i64 0, .int .i64 0, .int .i64 0, .int .i64 0, .slice none 0 0, .int .i64 0, .string ⟨#[]⟩, .int .i64 0, .int .i64 0, .int .i64 0, .bool false, .int .i64 0, .slice none 0 0, .int .i64 0] 56)) w.heap.size 56 #[.int .i64 1, .int .i64 src, .int .i64 cl, .int .i64 tg, .slice A n cap, .int .i64 acts, .string f, .int .i64 a, .int .i64 p, .int .i64 nm, .bool tm, .int .i64 la, .slice PA pn pc, .int .i64 fst] ∧ VarAt ((w.alloc (.cells #[.int .i64 1, .int .i64 src, .int .i64 cl, .int .i64 tg, .slice A n cap, .int .i64 acts, .string f, .int .i64 a, .int .i64 p, .int .i64 nm, .bool tm, .int .i64 la, .slice PA pn pc, .int .i64 fst] 56)).alloc (.cells #[.int .i64 0, .int .i64 0, .int .i64 0, .int .i64 0, .slice none 0 0, .int .i64 0, .string ⟨#[]⟩, .int .i64 0, .int .i64 0, .int .i64 0, .bool false, .int .i64 0, .slice none 0 0, .int .i64 0] 56)) (w.heap.size + 1) 56 #[.int .i64 0, .int .i64 0, .int .i64 0, .int .i64 0, .slice none 0 0, .int .i64 0, .string ⟨#[]⟩, .int .i64 0, .int .i64 0, .int .i64 0, .bool false, .int .i64 0, .slice none 0 0, .int .i64 0] ∧ Same w ((w.alloc (.cells #[.int .i64 1, .int .i64 src, .int .i64 cl, .int .i64 tg, .slice A n cap, .int .i64 acts, .string f, .int .i64 a, .int .i64 p, .int .i64 nm, .bool tm, .int .i64 la, .slice PA pn pc, .int .i64 fst] 56)).alloc (.cells #[.int .i64 0, .int .i64 0, .int .i64 0, .int .i64 0, .slice none 0 0, .int .i64 0, .string ⟨#[]⟩, .int .i64 0, .int .i64 0, .int .i64 0, .bool false, .int .i64 0, .slice none 0 0, .int .i64 0] 56)) ∧ ((w.alloc (.cells #[.int .i64 1, .int .i64 src, .int .i64 cl, .int .i64 tg, .slice A n cap, .int .i64 acts, .string f, .int .i64 a, .int .i64 p, .int .i64 nm, .bool tm, .int .i64 la, .slice PA pn pc, .int .i64 fst] 56)).alloc (.cells #[.int .i64 0, .int .i64 0, .int .i64 0, .int .i64 0, .slice none 0 0, .int .i64 0, .string ⟨#[]⟩, .int .i64 0, .int .i64 0, .int .i64 0, .bool false, .int .i64 0, .slice none 0 0, .int .i64 0] 56)).heap.size = w.heap.size + 2) :=
    Lib.hid ⟨(VarAt.new _ _ _).alloc _, VarAt.newk (by simp), ((Chg.refl _ _).alloc _).alloc _, by simp⟩
  have h2e : ¬ f = ⟨#[]⟩ := hf
  have hne := toList_ne h2e
  have hne2 : ¬ f.toList = [] := toList_cons h2e
  have hne4 : f.toList.isEmpty = false := toList_emp h2e
  clear hf h2e
  have b0 : (tg == 0) = false := by simp [h0]
  clear h0
  have HAC := Lib.hid hac
  have bv : (v == 0) = false := by simp [hv]
  clear hac hv
  go_enter Try.func53, Try.ntmps53
  go_wp2_with fail
  refine (maction_ok v ⟨1, src, cl, tg, A, n, cap, acts, f, a, p, nm, tm, la, PA, pn, pc, fst⟩ _ HAC.out).mono ?_
  rintro e w2 ⟨rfl, hs⟩
  have h1 := HX.out.1.same hs
  have p0 : w2.cell? ⟨w.heap.size, 0, none⟩ = some (.int .i64 1) := cell_at (C := [.int .i64 1, .int .i64 src, .int .i64 cl, .int .i64 tg, .slice A n cap, .int .i64 acts, .string f, .int .i64 a, .int .i64 p, .int .i64 nm, .bool tm, .int .i64 la, .slice PA pn pc, .int .i64 fst]) h1 0
  have f0 := frozen_at h1 0
  have hz : w.heap.size + 2 ≤ w2.heap.size := by rw [← HX.out.2.2.2]; exact hs.size
  have hlt : w.heap.size < w2.heap.size := by omega
  have h1' : VarAt (w2.setCell ⟨w.heap.size, 0, none⟩ (.int .i64 2)) w.heap.size 56 #[.int .i64 2, .int .i64 src, .int .i64 cl, .int .i64 tg, .slice A n cap, .int .i64 acts, .string f, .int .i64 a, .int .i64 p, .int .i64 nm, .bool tm, .int .i64 la, .slice PA pn pc, .int .i64 fst] := at_setCell (i := 0) (C := [.int .i64 1, .int .i64 src, .int .i64 cl, .int .i64 tg, .slice A n cap, .int .i64 acts, .string f, .int .i64 a, .int .i64 p, .int .i64 nm, .bool tm, .int .i64 la, .slice PA pn pc, .int .i64 fst]) _ h1
  have h2' : VarAt (w2.setCell ⟨w.heap.size, 0, none⟩ (.int .i64 2)) (w.heap.size + 1) 56 #[.int .i64 0, .int .i64 0, .int .i64 0, .int .i64 0, .slice none 0 0, .int .i64 0, .string ⟨#[]⟩, .int .i64 0, .int .i64 0, .int .i64 0, .bool false, .int .i64 0, .slice none 0 0, .int .i64 0] := at_setCell_other _ (by omega) (HX.out.2.1.same hs)
  have hs' : Same w (w2.setCell ⟨w.heap.size, 0, none⟩ (.int .i64 2)) := (HX.out.2.2.1.trans hs).setCell _ _ (fun q => by have q2 : w.heap.size < w.heap.size := q; omega)
  have hz' : w.heap.size + 2 ≤ (w2.setCell ⟨w.heap.size, 0, none⟩ (.int .i64 2)).heap.size := by simpa using hz
  have HQ := Lib.hid (And.intro h1' (And.intro h2' (And.intro hs' hz')))
  clear hs h1 h1' h2' hs' hz'
  go_wp2_with fail
  clear p0 f0 hlt hz
  generalize w2.setCell ⟨w.heap.size, 0, none⟩ (.int .i64 2) = w4 at *
  have q1 := HQ.out.1.drew
  have q2 : w4.drew.cell? ⟨w.heap.size, 2, none⟩ = some (.int .i64 cl) := cell_at (C := [.int .i64 2, .int .i64 src, .int .i64 cl, .int .i64 tg, .slice A n cap, .int .i64 acts, .string f, .int .i64 a, .int .i64 p, .int .i64 nm, .bool tm, .int .i64 la, .slice PA pn pc, .int .i64 fst]) q1 2
  have q3 : w4.drew.cell? ⟨w.heap.size, 3, none⟩ = some (.int .i64 tg) := cell_at (C := [.int .i64 2, .int .i64 src, .int .i64 cl, .int .i64 tg, .slice A n cap, .int .i64 acts, .string f, .int .i64 a, .int .i64 p, .int .i64 nm, .bool tm, .int .i64 la, .slice PA pn pc, .int .i64 fst]) q1 3
  have HK := Lib.hid (And.intro q1 (And.intro q2 q3))
  have H2 := Lib.hid HQ.out.2.1.drew
  have HS := Lib.hid (HQ.out.2.2.1.drew)
  have HZ := Lib.hid (show w.heap.size + 2 ≤ w4.drew.heap.size from HQ.out.2.2.2)
  have HO : Hid True := Lib.hid trivial
  clear q1 q2 q3
  refine region_tree (S := (fun w' => VarAt w' w.heap.size 56 #[.int .i64 2, .int .i64 src, .int .i64 cl, .int .i64 tg, .slice A n cap, .int .i64 acts, .string f, .int .i64 a, .int .i64 p, .int .i64 nm, .bool tm, .int .i64 la, .slice PA pn pc, .int .i64 fst] ∧ w'.cell? ⟨w.heap.size, 2, none⟩ = some (.int .i64 cl) ∧ w'.cell? ⟨w.heap.size, 3, none⟩ = some (.int .i64 tg))) 99 (.rd 0 (.rd 1 (.rd 2 (.rd 3 (.rd 4 (.rd 5 (.fork 6 7 (.one 7 (.rd 8 (.rd 9 .nil))) (.one 6 (.rd 8 (.rd 9 .nil)))))))))) (by kernel_rfl) (by kernel_rfl) (by kernel_rfl) HK.out ?_
  generalize w4.drew = wd at *
  refine tree_read (i := 0) (v := (.agg #[.int .i64 2, .int .i64 src, .int .i64 cl, .int .i64 tg, .slice A n cap, .int .i64 acts, .string f, .int .i64 a, .int .i64 p, .int .i64 nm, .bool tm, .int .i64 la, .slice PA pn pc, .int .i64 fst]) ) rfl (by rfl) (fun _ _ _ h => h) ?hy56 ?_
  case hy56 => (intro w hSw;  exact exec_loadv rfl (VarAt.ldD (x := ⟨2, src, cl, tg, A, n, cap, acts, f, a, p, nm, tm, la, PA, pn, pc, fst⟩) hSw.1))
  try simp only [Act.put, List.setIfInBounds_toArray, List.set_cons_zero, List.set_cons_succ]
  refine tree_read (i := 1) (v := ?v57) rfl (by rfl) (fun _ _ _ h => h) ?hy57 ?_
  case hy57 => ((intro w hSw; (try dsimp only at hSw); go_simp) <;> (try with_reducible rfl))
  try simp only [Act.put, List.setIfInBounds_toArray, List.set_cons_zero, List.set_cons_succ]
  refine tree_read (i := 2) (v := ?v58) rfl (by rfl) (fun _ _ _ h => h) ?hy58 ?_
  case hy58 => ((intro w hSw; (try dsimp only at hSw); go_simp) <;> (try with_reducible rfl))
  try simp only [Act.put, List.setIfInBounds_toArray, List.set_cons_zero, List.set_cons_succ]
  refine tree_read (i := 3) (v := ?v59) rfl (by rfl) (fun _ _ _ h => h) ?hy59 ?_
  case hy59 => ((intro w hSw; (try dsimp only at hSw); go_simp) <;> (try with_reducible rfl))
  try simp only [Act.put, List.setIfInBounds_toArray, List.set_cons_zero, List.set_cons_succ]
  refine tree_read (i := 4) (v := ?v60) rfl (by rfl) (fun _ _ _ h => h) ?hy60 ?_
  case hy60 => ((intro w hSw; (try dsimp only at hSw); go_simp) <;> (try with_reducible rfl))
  try simp only [Act.put, List.setIfInBounds_toArray, List.set_cons_zero, List.set_cons_succ]
  refine tree_read (i := 5) (v := ?v61) rfl (by rfl) (fun _ _ _ h => h) ?hy61 ?_
  case hy61 => ((intro w hSw; (try dsimp only at hSw); go_simp) <;> (try with_reducible rfl))
  try simp only [Act.put, List.setIfInBounds_toArray, List.set_cons_zero, List.set_cons_succ]
  refine tree_fork (i := 6) (j := 7) rfl rfl ?_ ?_
  · go_wp2_with (fail)
    have HK := Lib.hid (And.intro (HK.out.1.alloc (.cells #[.int .i64 cl, .int .i64 tg, .int .i64 17, .int .i64 0, .int .i64 0, .int .i64 0, .int .i64 0, .int .i64 0, .int .u32 0] 72)) (And.intro (((Chg.refl (fun _ => False) _).alloc (.cells #[.int .i64 cl, .int .i64 tg, .int .i64 17, .int .i64 0, .int .i64 0, .int .i64 0, .int .i64 0, .int .i64 0, .int .u32 0] 72)).cell HK.out.2.1 (fun q => q)) (((Chg.refl (fun _ => False) _).alloc (.cells #[.int .i64 cl, .int .i64 tg, .int .i64 17, .int .i64 0, .int .i64 0, .int .i64 0, .int .i64 0, .int .i64 0, .int .u32 0] 72)).cell HK.out.2.2 (fun q => q))))
    have H2 := Lib.hid (H2.out.alloc (.cells #[.int .i64 cl, .int .i64 tg, .int .i64 17, .int .i64 0, .int .i64 0, .int .i64 0, .int .i64 0, .int .i64 0, .int .u32 0] 72))
    have HS := Lib.hid (HS.out.alloc (.cells #[.int .i64 cl, .int .i64 tg, .int .i64 17, .int .i64 0, .int .i64 0, .int .i64 0, .int .i64 0, .int .i64 0, .int .u32 0] 72))
    have HO := Lib.hid (out_new HZ.out cl tg 17 0 0 0 0 0 0)
    (try simp only [setRow_size] at HO)
    (first | refine ⟨.inr ?keep66, ?_⟩ | refine ⟨?keep66, ?_⟩)
    case keep66 => ((exact HK.out))
    try simp only [Act.put, List.setIfInBounds_toArray, List.set_cons_zero, List.set_cons_succ]
    refine tree_one (i := 7) rfl ?_
    go_wp2_with ((refine wpl_storeRow _ rfl rfl H2.out (by kernel_rfl) rfl (by simp [Value.oneCell']) ?_))
    have HK := Lib.hid (And.intro (HK.out.1.set (k := w.heap.size + 1) #[.int .i64 2, .int .i64 src, .int .i64 cl, .int .i64 tg, .slice A n cap, .int .i64 acts, .string f, .int .i64 a, .int .i64 p, .int .i64 nm, .bool tm, .int .i64 la, .slice PA pn pc, .int .i64 fst] (by omega)) (And.intro (((Chg.refl (fun x => x = w.heap.size + 1) _).setRow (w.heap.size + 1) #[.int .i64 2, .int .i64 src, .int .i64 cl, .int .i64 tg, .slice A n cap, .int .i64 acts, .string f, .int .i64 a, .int .i64 p, .int .i64 nm, .bool tm, .int .i64 la, .slice PA pn pc, .int .i64 fst] (fun _ => rfl)).cell HK.out.2.1 (fun q => by have q2 : w.heap.size = w.heap.size + 1 := q; omega)) (((Chg.refl (fun x => x = w.heap.size + 1) _).setRow (w.heap.size + 1) #[.int .i64 2, .int .i64 src, .int .i64 cl, .int .i64 tg, .slice A n cap, .int .i64 acts, .string f, .int .i64 a, .int .i64 p, .int .i64 nm, .bool tm, .int .i64 la, .slice PA pn pc, .int .i64 fst] (fun _ => rfl)).cell HK.out.2.2 (fun q => by have q2 : w.heap.size = w.heap.size + 1 := q; omega))))
    have H2 := Lib.hid (H2.out.put #[.int .i64 2, .int .i64 src, .int .i64 cl, .int .i64 tg, .slice A n cap, .int .i64 acts, .string f, .int .i64 a, .int .i64 p, .int .i64 nm, .bool tm, .int .i64 la, .slice PA pn pc, .int .i64 fst])
    have HS := Lib.hid (HS.out.setRow (w.heap.size + 1) #[.int .i64 2, .int .i64 src, .int .i64 cl, .int .i64 tg, .slice A n cap, .int .i64 acts, .string f, .int .i64 a, .int .i64 p, .int .i64 nm, .bool tm, .int .i64 la, .slice PA pn pc, .int .i64 fst] (fun q => by omega))
    have HZ := Lib.hid (show w.heap.size + 2 ≤ (World.setRow _ (w.heap.size + 1) #[.int .i64 2, .int .i64 src, .int .i64 cl, .int .i64 tg, .slice A n cap, .int .i64 acts, .string f, .int .i64 a, .int .i64 p, .int .i64 nm, .bool tm, .int .i64 la, .slice PA pn pc, .int .i64 fst]).heap.size from by rw [setRow_size]; exact HZ.out)
    (first | have HO := Lib.hid (out_set #[.int .i64 2, .int .i64 src, .int .i64 cl, .int .i64 tg, .slice A n cap, .int .i64 acts, .string f, .int .i64 a, .int .i64 p, .int .i64 nm, .bool tm, .int .i64 la, .slice PA pn pc, .int .i64 fst] HO.out) | skip)
    (first | refine ⟨.inr ?keep67, ?_⟩ | refine ⟨?keep67, ?_⟩)
    case keep67 => ((exact HK.out))
    try simp only [Act.put, List.setIfInBounds_toArray, List.set_cons_zero, List.set_cons_succ]
    refine tree_read (i := 8) (v := ?v68) rfl (by rfl) (fun _ _ _ h => h) ?hy68 ?_
    case hy68 => ((intro w hSw; (try dsimp only at hSw); go_simp) <;> (try with_reducible rfl))
    try simp only [Act.put, List.setIfInBounds_toArray, List.set_cons_zero, List.set_cons_succ]
    refine tree_read (i := 9) (v := ?v69) rfl (by rfl) (fun _ _ _ h => h) ?hy69 ?_
    case hy69 => ((intro w hSw; (try dsimp only at hSw); go_simp) <;> (try with_reducible rfl))
    try simp only [Act.put, List.setIfInBounds_toArray, List.set_cons_zero, List.set_cons_succ]
    refine tree_end ?_
    go_wp2
    refine bodyPost_ret (results_cell_tmp2 Try.results53 rfl (VarAt.ldD (x := ⟨2, src, cl, tg, A, n, cap, acts, f, a, p, nm, tm, la, PA, pn, pc, fst⟩) H2.out)) rfl ⟨_, _, rfl, World.ownsRow.mono HO.out (by omega), HS.out⟩
  · go_wp2_with ((refine wpl_storeRow _ rfl rfl H2.out (by kernel_rfl) rfl (by simp [Value.oneCell']) ?_))
    have HK := Lib.hid (And.intro (HK.out.1.set (k := w.heap.size + 1) #[.int .i64 2, .int .i64 src, .int .i64 cl, .int .i64 tg, .slice A n cap, .int .i64 acts, .string f, .int .i64 a, .int .i64 p, .int .i64 nm, .bool tm, .int .i64 la, .slice PA pn pc, .int .i64 fst] (by omega)) (And.intro (((Chg.refl (fun x => x = w.heap.size + 1) _).setRow (w.heap.size + 1) #[.int .i64 2, .int .i64 src, .int .i64 cl, .int .i64 tg, .slice A n cap, .int .i64 acts, .string f, .int .i64 a, .int .i64 p, .int .i64 nm, .bool tm, .int .i64 la, .slice PA pn pc, .int .i64 fst] (fun _ => rfl)).cell HK.out.2.1 (fun q => by have q2 : w.heap.size = w.heap.size + 1 := q; omega)) (((Chg.refl (fun x => x = w.heap.size + 1) _).setRow (w.heap.size + 1) #[.int .i64 2, .int .i64 src, .int .i64 cl, .int .i64 tg, .slice A n cap, .int .i64 acts, .string f, .int .i64 a, .int .i64 p, .int .i64 nm, .bool tm, .int .i64 la, .slice PA pn pc, .int .i64 fst] (fun _ => rfl)).cell HK.out.2.2 (fun q => by have q2 : w.heap.size = w.heap.size + 1 := q; omega))))
    have H2 := Lib.hid (H2.out.put #[.int .i64 2, .int .i64 src, .int .i64 cl, .int .i64 tg, .slice A n cap, .int .i64 acts, .string f, .int .i64 a, .int .i64 p, .int .i64 nm, .bool tm, .int .i64 la, .slice PA pn pc, .int .i64 fst])
    have HS := Lib.hid (HS.out.setRow (w.heap.size + 1) #[.int .i64 2, .int .i64 src, .int .i64 cl, .int .i64 tg, .slice A n cap, .int .i64 acts, .string f, .int .i64 a, .int .i64 p, .int .i64 nm, .bool tm, .int .i64 la, .slice PA pn pc, .int .i64 fst] (fun q => by omega))
    have HZ := Lib.hid (show w.heap.size + 2 ≤ (World.setRow _ (w.heap.size + 1) #[.int .i64 2, .int .i64 src, .int .i64 cl, .int .i64 tg, .slice A n cap, .int .i64 acts, .string f, .int .i64 a, .int .i64 p, .int .i64 nm, .bool tm, .int .i64 la, .slice PA pn pc, .int .i64 fst]).heap.size from by rw [setRow_size]; exact HZ.out)
    (first | have HO := Lib.hid (out_set #[.int .i64 2, .int .i64 src, .int .i64 cl, .int .i64 tg, .slice A n cap, .int .i64 acts, .string f, .int .i64 a, .int .i64 p, .int .i64 nm, .bool tm, .int .i64 la, .slice PA pn pc, .int .i64 fst] HO.out) | skip)
    (first | refine ⟨.inr ?keep62, ?_⟩ | refine ⟨?keep62, ?_⟩)
    case keep62 => ((exact HK.out))
    try simp only [Act.put, List.setIfInBounds_toArray, List.set_cons_zero, List.set_cons_succ]
    refine tree_one (i := 6) rfl ?_
    go_wp2_with (fail)
    have HK := Lib.hid (And.intro (HK.out.1.alloc (.cells #[.int .i64 cl, .int .i64 tg, .int .i64 17, .int .i64 0, .int .i64 0, .int .i64 0, .int .i64 0, .int .i64 0, .int .u32 0] 72)) (And.intro (((Chg.refl (fun _ => False) _).alloc (.cells #[.int .i64 cl, .int .i64 tg, .int .i64 17, .int .i64 0, .int .i64 0, .int .i64 0, .int .i64 0, .int .i64 0, .int .u32 0] 72)).cell HK.out.2.1 (fun q => q)) (((Chg.refl (fun _ => False) _).alloc (.cells #[.int .i64 cl, .int .i64 tg, .int .i64 17, .int .i64 0, .int .i64 0, .int .i64 0, .int .i64 0, .int .i64 0, .int .u32 0] 72)).cell HK.out.2.2 (fun q => q))))
    have H2 := Lib.hid (H2.out.alloc (.cells #[.int .i64 cl, .int .i64 tg, .int .i64 17, .int .i64 0, .int .i64 0, .int .i64 0, .int .i64 0, .int .i64 0, .int .u32 0] 72))
    have HS := Lib.hid (HS.out.alloc (.cells #[.int .i64 cl, .int .i64 tg, .int .i64 17, .int .i64 0, .int .i64 0, .int .i64 0, .int .i64 0, .int .i64 0, .int .u32 0] 72))
    have HO := Lib.hid (out_new HZ.out cl tg 17 0 0 0 0 0 0)
    (try simp only [setRow_size] at HO)
    (first | refine ⟨.inr ?keep64, ?_⟩ | refine ⟨?keep64, ?_⟩)
    case keep64 => ((exact HK.out))
    try simp only [Act.put, List.setIfInBounds_toArray, List.set_cons_zero, List.set_cons_succ]
    refine tree_read (i := 8) (v := ?v65) rfl (by rfl) (fun _ _ _ h => h) ?hy65 ?_
    case hy65 => ((intro w hSw; (try dsimp only at hSw); go_simp) <;> (try with_reducible rfl))
    try simp only [Act.put, List.setIfInBounds_toArray, List.set_cons_zero, List.set_cons_succ]
    refine tree_read (i := 9) (v := ?v66) rfl (by rfl) (fun _ _ _ h => h) ?hy66 ?_
    case hy66 => ((intro w hSw; (try dsimp only at hSw); go_simp) <;> (try with_reducible rfl))
    try simp only [Act.put, List.setIfInBounds_toArray, List.set_cons_zero, List.set_cons_succ]
    refine tree_end ?_
    go_wp2
    refine bodyPost_ret (results_cell_tmp2 Try.results53 rfl (VarAt.ldD (x := ⟨2, src, cl, tg, A, n, cap, acts, f, a, p, nm, tm, la, PA, pn, pc, fst⟩) H2.out)) rfl ⟨_, _, rfl, World.ownsRow.mono HO.out (by omega), HS.out⟩
end Go.Proofs.Yteolilggeaffaaa
