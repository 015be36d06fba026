/- The walks of package compositorref31, continued: Issue of invalid arguments, Forget. -/
import Derived.Test.YtchodbcfncdmaaaRefW
set_option linter.unusedVariables false
set_option linter.unusedSimpArgs false
namespace Go.Proofs.Ytchodbcfncdmaaa
open Go.RowKit

set_option maxRecDepth 100000 in
theorem rIssue_bad (A : Option Addr) (N n cap : Nat) (c f k : Int) (w : World) (hg : good c f k = false) :
    Calls Try.prog 24 #[.agg #[.int .i64 N, .slice A n cap], .int .i64 c, .int .i64 f, .int .i64 k] w fun e w' => e = .returned (.tuple #[.agg #[.int .i64 N, .slice A n cap], .int .u32 0]) ∧ Same w w' := by
  have hbad : c < 1 ∨ f < 0 ∨ k < 0 ∨ 62 < k := by
    simp only [good, Bool.and_eq_false_iff, decide_eq_false_iff_not] at hg
    omega
  clear hg
  by_cases q1 : c < 1
  · clear hbad
    go_enter Try.func24, Try.ntmps24
    go_wp2
    refine bodyPost_ret (results_cell_tmp Try.results24 rfl (run_load_rlog (a := .int .i64 N) (c := .slice A n cap) ?_)) rfl ⟨rfl, ?_⟩
    · exact heap_alloc2_new _ _ _
    ·
      repeat (first | (with_reducible refine Chg.drew ?_) | (with_reducible refine Chg.drewN ?_ _) | (with_reducible refine Chg.alloc ?_ _) | (with_reducible refine Chg.setCell ?_ _ _ ?_; rotate_left 1; · (intro q; first | (simp; done) | (exfalso; revert q; simp; done) | (exfalso; revert q; simp; omega) | (simp; omega))))
      exact (Chg.refl _ w)
  by_cases q2 : f < 0
  · clear hbad
    go_enter Try.func24, Try.ntmps24
    go_wp2
    refine bodyPost_ret (results_cell_tmp Try.results24 rfl (run_load_rlog (a := .int .i64 N) (c := .slice A n cap) ?_)) rfl ⟨rfl, ?_⟩
    · exact heap_alloc2_new _ _ _
    ·
      repeat (first | (with_reducible refine Chg.drew ?_) | (with_reducible refine Chg.drewN ?_ _) | (with_reducible refine Chg.alloc ?_ _) | (with_reducible refine Chg.setCell ?_ _ _ ?_; rotate_left 1; · (intro q; first | (simp; done) | (exfalso; revert q; simp; done) | (exfalso; revert q; simp; omega) | (simp; omega))))
      exact (Chg.refl _ w)
  by_cases q3 : k < 0
  · clear hbad
    go_enter Try.func24, Try.ntmps24
    go_wp2
    refine bodyPost_ret (results_cell_tmp Try.results24 rfl (run_load_rlog (a := .int .i64 N) (c := .slice A n cap) ?_)) rfl ⟨rfl, ?_⟩
    · exact heap_alloc2_new _ _ _
    ·
      repeat (first | (with_reducible refine Chg.drew ?_) | (with_reducible refine Chg.drewN ?_ _) | (with_reducible refine Chg.alloc ?_ _) | (with_reducible refine Chg.setCell ?_ _ _ ?_; rotate_left 1; · (intro q; first | (simp; done) | (exfalso; revert q; simp; done) | (exfalso; revert q; simp; omega) | (simp; omega))))
      exact (Chg.refl _ w)
  have q4 : 62 < k := by omega
  clear hbad
  go_enter Try.func24, Try.ntmps24
  go_wp2
  refine bodyPost_ret (results_cell_tmp Try.results24 rfl (run_load_rlog (a := .int .i64 N) (c := .slice A n cap) ?_)) rfl ⟨rfl, ?_⟩
  · exact heap_alloc2_new _ _ _
  ·
    repeat (first | (with_reducible refine Chg.drew ?_) | (with_reducible refine Chg.drewN ?_ _) | (with_reducible refine Chg.alloc ?_ _) | (with_reducible refine Chg.setCell ?_ _ _ ?_; rotate_left 1; · (intro q; first | (simp; done) | (exfalso; revert q; simp; done) | (exfalso; revert q; simp; omega) | (simp; omega))))
    exact (Chg.refl _ w)

def rIssue (N : Nat) (l : List Ent) (c f k : Int) : List Ent := if good c f k then rIssued N l c f k else l
theorem rIssue_ok (A : Option Addr) (N n cap base : Nat) (l : List Ent) (c f k : Int) (w : World) (h : SlotsAt w base A n l) (hb : base ≤ w.heap.size) (hn : n ≤ 1000) (hN : N + 1 ≤ 4294967294) :
    Calls Try.prog 24 #[.agg #[.int .i64 N, .slice A n cap], .int .i64 c, .int .i64 f, .int .i64 k] w fun e w' => ∃ A' n' cap', e = .returned (.tuple #[.agg #[.int .i64 (if good c f k then (N : Int) + 1 else N), .slice A' n' cap'], .int .u32 (if good c f k then (N : Int) + 1 else 0)]) ∧
      SlotsAt w' base A' n' (rIssue N l c f k) ∧ Same w w' := by
  cases hg : good c f k with
  | true =>
    refine (rIssue_good A N n cap base l c f k w h hn hN hg).mono ?_
    rintro e w' ⟨A', n', cap', he, hs, hc⟩
    refine ⟨A', n', cap', by rw [he]; rfl, ?_, hc⟩
    unfold rIssue
    rw [hg, if_pos rfl]
    exact hs.lower hb
  | false =>
    refine (rIssue_bad A N n cap c f k w hg).mono ?_
    rintro e w' ⟨he, hc⟩
    refine ⟨A, n, cap, by rw [he]; rfl, ?_, hc⟩
    unfold rIssue
    rw [hg, if_neg (by decide)]
    exact h.chg hc (fun _ _ _ _ q => q)

/-! ### Forget -/
set_option maxRecDepth 100000 in
set_option maxHeartbeats 8000000 in
theorem rForget_ok (A : Option Addr) (N n cap base : Nat) (l : List Ent) (client : Int) (w : World) (h : SlotsAt w base A n l) (hb : base ≤ w.heap.size) (hn : n ≤ 1000) :
    Calls Try.prog 25 #[.agg #[.int .i64 N, .slice A n cap], .int .i64 client] w fun e w' => ∃ A' n' cap', e = .returned (.agg #[.int .i64 N, .slice A' n' cap']) ∧
      SlotsAt w' base A' n' (rForget l client) ∧ Same w w' := by
  have hlen := h.1
  have HA := Lib.hid h
  clear h
  go_enter Try.func25, Try.ntmps25
  go_wp2
  go_loopw [6] (fun v wr => CopyRel w (w.heap.size + 1 + 1) (.int .i64 N) (fun e => e.c != client) l v wr ∧ wr.heap[w.heap.size]? = some (.cells #[.int .i64 N, .slice A n cap] 42 (0, 0)) ∧ wr.heap[w.heap.size + 1]? = some (.cells #[.int .i64 0, .slice none 0 0] 42 (0, 0))) (fun v _ => n - (intOf v).toNat)
  case atStart =>
    refine ⟨⟨0, .slice none 0 0, by omega, rfl, heap_alloc3_new _ _ _ _, World.ownsRow_nil _ _ _ _, ?_⟩, at_alloc (at_alloc (at_new _ _)), at_alloc (heap_alloc2_new _ _ _)⟩
    repeat (first | (with_reducible refine Chg.drew ?_) | (with_reducible refine Chg.drewN ?_ _) | (with_reducible refine Chg.alloc ?_ _) | (with_reducible refine Chg.setCell ?_ _ _ ?_; rotate_left 1; · (intro q; first | (simp; done) | (exfalso; revert q; simp; done) | (exfalso; revert q; simp; omega) | (simp; omega))))
    exact (Chg.refl _ w)
  case round =>
    obtain ⟨⟨i, u, hi, rfl, hO, hown, hs⟩, hP, hR⟩ := hrel
    rw [hlen] at hi
    have p1 := cell_at (C := [.int .i64 N, .slice A n cap]) hP 1
    have o0 := cell_at (C := [.int .i64 N, u]) hO 0
    have o1 := cell_at (C := [.int .i64 N, u]) hO 1
    have r0 := cell_at (C := [.int .i64 0, .slice none 0 0]) hR 0
    have r1 := cell_at (C := [.int .i64 0, .slice none 0 0]) hR 1
    simp only [List.getElem?_cons_zero, List.getElem?_cons_succ] at p1 o0 o1 r0 r1
    have fO := frozen_at hO
    have fR := frozen_at hR
    have hOs := lt_of_at hO
    have HO := Lib.hid hO
    have HOWN := Lib.hid hown
    have HS := Lib.hid hs
    have HP := Lib.hid hP
    have HR := Lib.hid hR
    have HOU : Hid (∀ k, k ≤ w.heap.size + 1 + 1 → some k ≠ u.ownBlock) := Lib.hid fun k hk e => by have := hown.lt _ e.symm; omega
    clear hO hown hs hP hR
    by_cases hlt : i < n
    · have hb0 : (0 : Int) ≤ (i : Int) := Int.natCast_nonneg _
      have hb1 : (i : Int) < (n : Int) := by omega
      have HA' := Lib.hid HA.out
      obtain ⟨b, x, rfl, hbase, hbw, hx, hc⟩ := (HA.out.chg HS.out (fun _ _ _ _ q => q)).at_ hlt
      have x0 : wr.cell? ⟨b, i * 5, none⟩ = _ := hc 0 _ rfl
      have x1 := hc 1 _ rfl
      have x2 := hc 2 _ rfl
      have x3 := hc 3 _ rfl
      have x4 := hc 4 _ rfl
      have HX := Lib.hid hx
      clear hc hx
      obtain ⟨xs, xc, xf, xk⟩ := x
      simp only at x0 x1 x2 x3 x4
      have hM := Lib.hid (take_filter_succ (p := fun e => e.c != client) HX.out)
      cases hk : (xc != client) with
      | true =>
        have hm : ((l.take i).filter (fun e => e.c != client)).length ≤ 1000 := by
          have := List.length_filter_le (fun e : Ent => e.c != client) (l.take i)
          have h2 : (l.take i).length ≤ i := List.length_take_le _ _
          omega
        simp only [hk, if_true] at hM
        have hbw2 : b < w.heap.size := by obtain ⟨b', hA, _, hlt', _⟩ := HA.out.2 (by omega); injection hA with hA; injection hA with hA; omega
        generalize hys : (l.take i).filter (fun e => e.c != client) = ys at *
        clear hys
        go_wp2_with fail
        refine region_path (S := (fun w' => w'.cell? ⟨w.heap.size, 1, none⟩ = some (.slice (some ⟨b, 0, none⟩) n cap) ∧ w'.cell? ⟨w.heap.size + 1 + 1, 1, none⟩ = some u ∧ w'.cell? ⟨b, i * 5, none⟩ = some (.int .i64 xs) ∧ w'.cell? ⟨b, i * 5 + 1, none⟩ = some (.int .u32 xs) ∧ w'.cell? ⟨b, i * 5 + 2, none⟩ = some (.int .i64 xc) ∧ w'.cell? ⟨b, i * 5 + 3, none⟩ = some (.int .i64 xf) ∧ w'.cell? ⟨b, i * 5 + 4, none⟩ = some (.int .i64 xk))) 10 [(0, true), (1, true), (2, true), (3, true), (4, true), (5, true), (6, true), (7, false), (8, false), (9, true), (10, false)] (by kernel_rfl) (by kernel_rfl) (by kernel_rfl) ⟨p1, o1, x0, x1, x2, x3, x4⟩ ?_
        refine path_read (i := 0) (v := ?v1_0) rfl (by rfl) (fun _ _ _ h => h) ?hy1_0 ?_
        case hy1_0 => ((intro w hSw; (try dsimp only at hSw); go_simp) <;> (try with_reducible rfl))
        try simp only [Act.put, List.setIfInBounds_toArray, List.set_cons_zero, List.set_cons_succ]
        refine path_read (i := 1) (v := ?v1_1) rfl (by rfl) (fun _ _ _ h => h) ?hy1_1 ?_
        case hy1_1 => ((intro w hSw; (try dsimp only at hSw); go_simp) <;> (try with_reducible rfl))
        try simp only [Act.put, List.setIfInBounds_toArray, List.set_cons_zero, List.set_cons_succ]
        refine path_read (i := 2) (v := ?v1_2) rfl (by rfl) (fun _ _ _ h => h) ?hy1_2 ?_
        case hy1_2 => ((intro w hSw; (try dsimp only at hSw); go_simp) <;> (try with_reducible rfl))
        try simp only [Act.put, List.setIfInBounds_toArray, List.set_cons_zero, List.set_cons_succ]
        refine path_read (i := 3) (v := ?v1_3) rfl (by rfl) (fun _ _ _ h => h) ?hy1_3 ?_
        case hy1_3 => ((intro w hSw; (try dsimp only at hSw); go_simp) <;> (try with_reducible rfl))
        try simp only [Act.put, List.setIfInBounds_toArray, List.set_cons_zero, List.set_cons_succ]
        refine path_read (i := 4) (v := ?v1_4) rfl (by rfl) (fun _ _ _ h => h) ?hy1_4 ?_
        case hy1_4 => ((intro w hSw; (try dsimp only at hSw); go_simp) <;> (try with_reducible rfl))
        try simp only [Act.put, List.setIfInBounds_toArray, List.set_cons_zero, List.set_cons_succ]
        refine path_read (i := 5) (v := ?v1_5) rfl (by rfl) (fun _ _ _ h => h) ?hy1_5 ?_
        case hy1_5 => ((intro w hSw; (try dsimp only at hSw); go_simp) <;> (try with_reducible rfl))
        try simp only [Act.put, List.setIfInBounds_toArray, List.set_cons_zero, List.set_cons_succ]
        refine path_read (i := 6) (v := ?v1_6) rfl (by rfl) (fun _ _ _ h => h) ?hy1_6 ?_
        case hy1_6 => ((intro w hSw; (try dsimp only at hSw); go_simp) <;> (try with_reducible rfl))
        try simp only [Act.put, List.setIfInBounds_toArray, List.set_cons_zero, List.set_cons_succ]
        refine path_do (i := 7) rfl ?_
        go_wp2_with ((refine wpl_append1 (w.heap.size + 1 + 1 + 1) 67 _ 5 40 Try.underlying40 Rinfo67 rfl (by omega) u ys.length (ys.flatMap Ent.slot) ((HOWN.out.alloc _).drew) rfl wr.heap.size 1 [.int .i64 xs, .int .u32 xs, .int .i64 xc, .int .i64 xf, .int .i64 xk] rfl (at_new _ _) rfl (by simp [Value.oneCell']) (by omega) (by omega) (by simp; omega) ?_; intro gg gcap w1 hown1 hgrow hat hlt1; have hk1 : Chg (fun x => some x = u.ownBlock) wr w1 := Chg.grownO (by (repeat (first | (with_reducible refine Chg.drew ?_) | (with_reducible refine Chg.alloc ?_ _))); exact Chg.refl _ _) hgrow; have HO1 := Lib.hid (hk1.at_ HO.out (HOU.out _ (by omega))); have fO1 := frozen_at HO1.out; have o11 := hk1.cell o1 (HOU.out _ (by omega))))
        refine ⟨.inr ?keep1_7, ?_⟩
        case keep1_7 => ((first | (exact ⟨hk1.cell p1 (HOU.out _ (by omega)), hk1.cell o1 (HOU.out _ (by omega)), hk1.cell x0 (HOU.out _ (by omega)), hk1.cell x1 (HOU.out _ (by omega)), hk1.cell x2 (HOU.out _ (by omega)), hk1.cell x3 (HOU.out _ (by omega)), hk1.cell x4 (HOU.out _ (by omega))⟩) | go_keep))
        try simp only [Act.put, List.setIfInBounds_toArray, List.set_cons_zero, List.set_cons_succ]
        refine path_do (i := 8) rfl ?_
        (refine wpl_append1 (w.heap.size + 1 + 1 + 1) 67 _ 5 40 Try.underlying40 Rinfo67 rfl (by omega) u ys.length (ys.flatMap Ent.slot) ((HOWN.out.alloc _).drew) rfl wr.heap.size 1 [.int .i64 xs, .int .u32 xs, .int .i64 xc, .int .i64 xf, .int .i64 xk] rfl (at_new _ _) rfl (by simp [Value.oneCell']) (by omega) (by omega) (by simp; omega) ?_; intro gg gcap w1 hown1 hgrow hat hlt1; have hk1 : Chg (fun x => some x = u.ownBlock) wr w1 := Chg.grownO (by (repeat (first | (with_reducible refine Chg.drew ?_) | (with_reducible refine Chg.alloc ?_ _))); exact Chg.refl _ _) hgrow; have HO1 := Lib.hid (hk1.at_ HO.out (HOU.out _ (by omega))); have fO1 := frozen_at HO1.out; have o11 := hk1.cell o1 (HOU.out _ (by omega)))
        refine path_next (.inr ?keep1_8) ?_
        case keep1_8 => ((first | (exact ⟨hk1.cell p1 (HOU.out _ (by omega)), hk1.cell o1 (HOU.out _ (by omega)), hk1.cell x0 (HOU.out _ (by omega)), hk1.cell x1 (HOU.out _ (by omega)), hk1.cell x2 (HOU.out _ (by omega)), hk1.cell x3 (HOU.out _ (by omega)), hk1.cell x4 (HOU.out _ (by omega))⟩) | go_keep))
        try simp only [Act.put, List.setIfInBounds_toArray, List.set_cons_zero, List.set_cons_succ]
        refine path_read (i := 9) (v := ?v1_9) rfl (by rfl) (fun _ _ _ h => h) ?hy1_9 ?_
        case hy1_9 => ((intro w hSw; (try dsimp only at hSw); go_simp) <;> (try with_reducible rfl))
        try simp only [Act.put, List.setIfInBounds_toArray, List.set_cons_zero, List.set_cons_succ]
        refine path_do (i := 10) rfl ?_
        go_wp2_with ((refine wpl_append1 (w.heap.size + 1 + 1 + 1) 67 _ 5 40 Try.underlying40 Rinfo67 rfl (by omega) u ys.length (ys.flatMap Ent.slot) ((HOWN.out.alloc _).drew) rfl wr.heap.size 1 [.int .i64 xs, .int .u32 xs, .int .i64 xc, .int .i64 xf, .int .i64 xk] rfl (at_new _ _) rfl (by simp [Value.oneCell']) (by omega) (by omega) (by simp; omega) ?_; intro gg gcap w1 hown1 hgrow hat hlt1; have hk1 : Chg (fun x => some x = u.ownBlock) wr w1 := Chg.grownO (by (repeat (first | (with_reducible refine Chg.drew ?_) | (with_reducible refine Chg.alloc ?_ _))); exact Chg.refl _ _) hgrow; have HO1 := Lib.hid (hk1.at_ HO.out (HOU.out _ (by omega))); have fO1 := frozen_at HO1.out; have o11 := hk1.cell o1 (HOU.out _ (by omega))))
        refine ⟨.inl (by first | rfl | trivial), ?_⟩
        refine path_end ?_
        go_wp2
        go_roundw
        case rel =>
          have hO2 := at_setCell (i := 1) (.slice (some ⟨gg, 0, none⟩) (ys.length + 1) gcap) (C := [.int .i64 N, u]) HO1.out
          have hgl := hown1.lt gg rfl
          refine ⟨⟨i + 1, _, by omega, by go_num, hO2, ?_, ?_⟩, ?_, ?_⟩
          · rw [hM.out]
            simp only [List.length_append, List.length_singleton, List.flatMap_append, List.flatMap_cons, List.flatMap_nil, List.append_nil]
            exact hown1.kept (grownBy_setCell _ _ _ _) (.inr (fun e => by simp [Value.ownBlock] at e; omega))
          · refine Chg.setCell ?_ _ _ (fun q => by simp at q; omega)
            exact HS.out.then_ hk1 (fun i hi q => HOU.out i (by omega) q)
          · exact at_setCell_other _ (by omega) (hk1.at_ HP.out (HOU.out _ (by omega)))
          · exact at_setCell_other _ (by omega) (hk1.at_ HR.out (HOU.out _ (by omega)))
        case measure => simp [intOf]; omega
      | false =>
        simp only [hk, Bool.false_eq_true, if_false, List.append_nil] at hM
        go_wp2
        go_roundw
        case rel =>
          refine ⟨⟨i + 1, _, by omega, by go_num, HO.out, ?_, HS.out⟩, HP.out, HR.out⟩
          rw [hM.out]
          exact HOWN.out
        case measure => simp [intOf]; omega
    · have hb1 : ¬ (i : Int) < (n : Int) := by omega
      have hys : (l.take i).filter (fun e => e.c != client) = l.filter (fun e => e.c != client) := by rw [List.take_of_length_le (by omega)]
      rw [hys] at HOWN
      clear hys
      obtain ⟨A', cap', he, hsl⟩ := SlotsAt.of_own HOWN.out rfl
      subst he
      have HL := Lib.hid hsl
      clear hsl
      go_wp2
      refine bodyPost_ret (results_cell1 Try.results25 rfl (run_load_rlog (a := .int .i64 N) (c := .slice A' (l.filter (fun e => e.c != client)).length cap') ?_)) rfl ⟨_, _, ⟨_, rfl⟩, ?_, ?_⟩
      · refine at_setCell (C := [.int .i64 N, .slice none 0 0]) _ ?_
        refine at_setCell (C := [.int .i64 0, .slice none 0 0]) _ ?_
        exact HR.out
      · refine SlotsAt.lower (base := w.heap.size + 1 + 1 + 1) ?_ (by omega)
        refine HL.out.chg (S := fun x => x = w.heap.size + 1) ?_ ?_
        · repeat (refine Chg.setCell ?_ _ _ (fun q => by simp))
          exact Chg.refl _ _
        · intro b hb _ _ q; omega
      · repeat (refine Chg.setCell ?_ _ _ (fun q => by simp at q; omega))
        exact HS.out
end Go.Proofs.Ytchodbcfncdmaaa
