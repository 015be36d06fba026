/- agree of compositorlaw31: one call on both logs. -/
import Derived.Test.YtchodbcfncdmaaaRefY
import Derived.Test.YtchodbcfncdmaaaArgs31
set_option linter.unusedVariables false
set_option linter.unusedSimpArgs false
namespace Go.Proofs.Ytchodbcfncdmaaa
open Go.RowKit

theorem ne_of_type {w : World} {b b' : Nat} {c c' : Array Value} {T T' : TypeId} {f f' : Nat × Nat} (h : w.heap[b]? = some (.cells c T f)) (h' : w.heap[b']? = some (.cells c' T' f')) (hne : T ≠ T') : b ≠ b' := by
  rintro rfl
  rw [h] at h'
  injection h' with h'
  injection h' with _ h'
  exact hne h'
theorem chg_set2 {w w2 : World} {g : Nat} (u v : Value) (h : Same w w2) : Chg (fun x => x = g) w ((w2.setCell ⟨g, 0, none⟩ u).setCell ⟨g, 1, none⟩ v) :=
  ((Chg.of_same (S := fun x => x = g) h).setCell ⟨g, 0, none⟩ u (fun _ => rfl)).setCell ⟨g, 1, none⟩ v (fun _ => rfl)
/-- What agree hands back: new logs that agree, nothing else turned. -/
def AgreeRet (B base M : Nat) (w : World) (e : Ending) (w' : World) : Prop :=
  ∃ (L : SLog) (N : Nat) (l : List Ent) (A : Option Addr) (n cap : Nat), e = .returned (.tuple #[.agg #[.int .i64 N, .slice A n cap], .int .u32 N, .bool true]) ∧ RelR L N l ∧ N ≤ M ∧ LogAt w' B L ∧ SlotsAt w' base A n l ∧ Chg (fun x => x = B) w w'
def AgRel (w : World) (B base N0 : Nat) (op : List Value) (v2 v12 : Value) (wr : World) : Prop :=
  ∃ (i N : Nat) (L : SLog) (l : List Ent) (A : Option Addr) (n cap : Nat), v2 = .int .u32 N ∧ v12 = .int .i64 i ∧ RelR L N l ∧ N ≤ N0 + i ∧ LogAt wr B L ∧ SlotsAt wr base A n l ∧
    wr.heap[w.heap.size]? = some (.cells #[.int .i64 N, .slice A n cap] 42 (0, 0)) ∧ wr.heap[w.heap.size + 1]? = some (.cells op.toArray 25 (0, 0)) ∧ wr.heap[w.heap.size + 1 + 1]? = some (.cells #[.int .i64 0, .slice none 0 0] 42 (0, 0)) ∧ Chg (fun x => x = B) w wr

set_option maxRecDepth 100000 in
set_option maxHeartbeats 8000000 in
theorem agree_issue (A : Option Addr) (B N n cap base : Nat) (L : SLog) (l : List Ent) (x : LOp) (w : World) (hr : RelR L N l) (hL : LogAt w B L) (h : SlotsAt w base A n l) (hBb : B < base) (hb : base ≤ w.heap.size) (hx : x.ok) (hm0 : 0 ≤ x.many) (hm : N + x.many ≤ 700) (hk : x.kind = 0) :
    Calls Try.prog 20 #[.pointer (some ⟨B, 0, none⟩), .agg #[.int .i64 N, .slice A n cap], .int .u32 N, .agg x.cells.toArray] w fun e w' => AgreeRet B base (N + x.many.toNat) w e w' := by
  obtain ⟨k, m, c, s, e, ms, bk⟩ := x
  obtain ⟨_, _, hc2, hs2, he2, _, _⟩ := hx
  simp only [i64ok] at hm0 hm hk hc2 hs2 he2
  subst hk
  have hBw : B < w.heap.size := lt_of_at hL.1
  have HR := Lib.hid hr
  have HL := Lib.hid hL
  have HA := Lib.hid h
  clear hr hL h
  simp only [LOp.cells]
  go_enter Try.func20, Try.ntmps20
  go_wp2
  go_loopw [2, 12] (fun v2 v12 wr => AgRel w B base N [.int .i64 0, .int .i64 m, .int .i64 c, .int .i64 s, .int .i64 e, .int .i64 ms, .int .u32 bk] v2 v12 wr ∧ ∃ i : Nat, v12 = .int .i64 i ∧ (i : Int) ≤ m) (fun _ v12 _ => m.toNat - (intOf v12).toNat)
  case atStart =>
    refine ⟨⟨0, N, L, l, A, n, cap, rfl, rfl, HR.out, by omega, HL.out.chg (((Chg.refl (fun _ => False) w).alloc _).alloc _ |>.alloc _) (fun q => q), HA.out.chg (((Chg.refl (fun _ => False) w).alloc _).alloc _ |>.alloc _) (fun _ _ _ _ q => q), at_alloc (at_alloc (at_new _ _)), at_alloc (heap_alloc2_new _ _ _), heap_alloc3_new _ _ _ _, ?_⟩, 0, rfl, by omega⟩
    repeat (first | (with_reducible refine Chg.drew ?_) | (with_reducible refine Chg.drewN ?_ _) | (with_reducible refine Chg.alloc ?_ _) | (with_reducible refine Chg.setCell ?_ _ _ ?_; rotate_left 1; · (intro q; first | (simp; done) | (exfalso; revert q; simp; done) | (exfalso; revert q; simp; omega) | (simp; omega))))
    exact (Chg.refl _ w)
  case round =>
    obtain ⟨⟨i, N1, L1, l1, A1, n1, cap1, rfl, rfl, hr1, hN1, hL1, hA1, hP, hO, hR, hch⟩, i', hi', him⟩ := hrel
    injection hi' with _ hi'
    have hii : i' = i := by omega
    subst hii
    have hn1 : n1 ≤ 1000 := by have := hr1.len; have := hA1.1; omega
    have q0 := cell_at (C := [.int .i64 N1, .slice A1 n1 cap1]) hP 0
    have q1 := cell_at (C := [.int .i64 N1, .slice A1 n1 cap1]) hP 1
    have r0 := cell_at (C := [.int .i64 0, .slice none 0 0]) hR 0
    have r1 := cell_at (C := [.int .i64 0, .slice none 0 0]) hR 1
    have o1 := cell_at hO 1
    have o2 := cell_at hO 2
    have o3 := cell_at hO 3
    have o4 := cell_at hO 4
    simp only [List.getElem?_cons_zero, List.getElem?_cons_succ] at q0 q1 r0 r1 o1 o2 o3 o4
    have fR := frozen_at hR
    have fP := frozen_at hP
    have hRs := lt_of_at hR
    have HR1 := Lib.hid hr1
    have HL1 := Lib.hid hL1
    have HA1 := Lib.hid hA1
    have HP := Lib.hid hP
    have HO := Lib.hid hO
    have HRR := Lib.hid hR
    have HC := Lib.hid hch
    clear hr1 hL1 hA1 hP hO hR hch
    by_cases hlt : (i' : Int) < m
    · have hri := rIssue_ok A1 N1 n1 cap1 base l1 c s e wr HA1.out (by omega) hn1 (by omega)
      have hsi := fun w' (hk : Same wr w') => issue_ok B w' L1 c s e (HL1.out.chg hk (fun q => q)) hc2.2 hs2.2
      have hnl : nxt L1.last = (N1 : Int) + 1 := by
        rw [HR1.out.last]
        unfold nxt
        rw [if_neg (by omega)]
      unfold SLog.issueN at hsi
      rw [hnl] at hsi
      cases hg : good c s e with
      | true =>
        rw [hg] at hri hsi
        simp only [if_true] at hri hsi
        have hrel2 : RelR (L1.issue c s e) (N1 + 1) (rIssue N1 l1 c s e) := by
          unfold SLog.issue rIssue
          rw [hg, if_pos rfl, if_pos rfl]
          exact HR1.out.issued (by omega) hg hc2.2 hs2.2
        have HRI := Lib.hid hri
        have HSI := Lib.hid hsi
        have HR2 := Lib.hid hrel2
        clear hri hsi hnl hrel2
        go_wp2_with fail
        refine HRI.out.mono ?_
        rintro e1 w1 ⟨A2, n2, cap2, rfl, hA2, hs1⟩
        have HA2 := Lib.hid hA2
        have HS1 := Lib.hid hs1
        have q0' := hs1.cell q0 (fun q => q)
        have q1' := hs1.cell q1 (fun q => q)
        have o2' := hs1.cell o2 (fun q => q)
        have o3' := hs1.cell o3 (fun q => q)
        have o4' := hs1.cell o4 (fun q => q)
        have hw1 : wr.heap.size ≤ w1.heap.size := hs1.size
        have hl0 : w.heap.size < w1.heap.size := by omega
        have hl1 : w.heap.size + 1 < w1.heap.size := by omega
        have hl2 : w.heap.size + 1 + 1 < w1.heap.size := by omega
        clear hA2 hs1
        go_wp2_with fail
        refine (HSI.out _ (HS1.out.alloc _)).mono ?_
        rintro e2 w2 ⟨rfl, hL2, hc3⟩
        have hO2 : w2.heap[w1.heap.size]? = some (.cells #[.int .i64 ((N1 : Int) + 1), .slice A2 n2 cap2] 42 (0, 0)) := hc3.at_ (at_new _ _) (by omega)
        have s0 := cell_at (C := [.int .i64 ((N1 : Int) + 1), .slice A2 n2 cap2]) hO2 0
        have s1 := cell_at (C := [.int .i64 ((N1 : Int) + 1), .slice A2 n2 cap2]) hO2 1
        simp only [List.getElem?_cons_zero, List.getElem?_cons_succ] at s0 s1
        have hc4 : Chg (fun x => x = B) wr w2 := (Chg.of_same (HS1.out.alloc _)).trans hc3
        have HC4 := Lib.hid hc4
        have HC3 := Lib.hid hc3
        have HA3 := Lib.hid (HA2.out.chg ((Chg.of_same ((Chg.refl (fun _ => False) w1).alloc _)).trans hc3) (fun b _ _ ⟨cur, fr, ht⟩ => ne_of_type ht (HL1.out.chg HS1.out (fun q => q)).1 (by decide)))
        have HP2 := Lib.hid (hc4.at_ HP.out (by omega))
        have fP2 := frozen_at HP2.out
        have q0'' := hc4.cell q0 (by omega)
        have q1'' := hc4.cell q1 (by omega)
        have HL2 := Lib.hid hL2
        clear hL2 hc3 hc4 hO2
        go_wp2
        go_roundw
        case rel =>
          refine ⟨⟨i' + 1, N1 + 1, _, _, A2, n2, cap2, by go_num, by go_num, HR2.out, by omega, ?_, ?_, ?_, ?_, ?_, ?_⟩, i' + 1, by go_num, by omega⟩
          · exact HL2.out.chg (chg_set2 _ _ (Chg.refl _ _)) (by omega)
          · exact HA3.out.chg (chg_set2 _ _ (Chg.refl _ _)) (fun b _ _ ⟨cur, fr, ht⟩ => ne_of_type ht HP2.out (by decide))
          · have := at_setCell (i := 0) (.int .i64 ((N1 : Int) + 1)) (C := [.int .i64 N1, .slice A1 n1 cap1]) HP2.out
            have := at_setCell (i := 1) (.slice A2 n2 cap2) (C := [.int .i64 ((N1 : Int) + 1), .slice A1 n1 cap1]) this
            have e : (((N1 + 1 : Nat) : Int)) = (N1 : Int) + 1 := by omega
            rw [e]
            exact this
          · exact at_setCell_other _ (by omega) (at_setCell_other _ (by omega) (HC4.out.at_ HO.out (by omega)))
          · exact at_setCell_other _ (by omega) (at_setCell_other _ (by omega) (HC4.out.at_ HRR.out (by omega)))
          · refine Chg.setCell (Chg.setCell ?_ _ _ (fun q => by simp at q)) _ _ (fun q => by simp at q)
            exact HC.out.trans HC4.out
        case measure => simp [intOf]; omega
      | false =>
        rw [hg] at hri hsi
        simp only [Bool.false_eq_true, if_false] at hri hsi
        have hrel2 : RelR (L1.issue c s e) N1 (rIssue N1 l1 c s e) := by
          unfold SLog.issue rIssue
          rw [hg, if_neg (by decide), if_neg (by decide)]
          exact HR1.out
        have HRI := Lib.hid hri
        have HSI := Lib.hid hsi
        have HR2 := Lib.hid hrel2
        clear hri hsi hnl hrel2
        go_wp2_with fail
        refine HRI.out.mono ?_
        rintro e1 w1 ⟨A2, n2, cap2, rfl, hA2, hs1⟩
        have HA2 := Lib.hid hA2
        have HS1 := Lib.hid hs1
        have q0' := hs1.cell q0 (fun q => q)
        have q1' := hs1.cell q1 (fun q => q)
        have o2' := hs1.cell o2 (fun q => q)
        have o3' := hs1.cell o3 (fun q => q)
        have o4' := hs1.cell o4 (fun q => q)
        have hw1 : wr.heap.size ≤ w1.heap.size := hs1.size
        have hl0 : w.heap.size < w1.heap.size := by omega
        have hl1 : w.heap.size + 1 < w1.heap.size := by omega
        have hl2 : w.heap.size + 1 + 1 < w1.heap.size := by omega
        clear hA2 hs1
        go_wp2_with fail
        refine (HSI.out _ (HS1.out.alloc _)).mono ?_
        rintro e2 w2 ⟨rfl, hL2, hc3⟩
        have hO2 : w2.heap[w1.heap.size]? = some (.cells #[.int .i64 N1, .slice A2 n2 cap2] 42 (0, 0)) := hc3.at_ (at_new _ _) (by omega)
        have s0 := cell_at (C := [.int .i64 N1, .slice A2 n2 cap2]) hO2 0
        have s1 := cell_at (C := [.int .i64 N1, .slice A2 n2 cap2]) hO2 1
        simp only [List.getElem?_cons_zero, List.getElem?_cons_succ] at s0 s1
        have hc4 : Chg (fun x => x = B) wr w2 := (Chg.of_same (HS1.out.alloc _)).trans hc3
        have HC4 := Lib.hid hc4
        have HC3 := Lib.hid hc3
        have HA3 := Lib.hid (HA2.out.chg ((Chg.of_same ((Chg.refl (fun _ => False) w1).alloc _)).trans hc3) (fun b _ _ ⟨cur, fr, ht⟩ => ne_of_type ht (HL1.out.chg HS1.out (fun q => q)).1 (by decide)))
        have HP2 := Lib.hid (hc4.at_ HP.out (by omega))
        have fP2 := frozen_at HP2.out
        have q0'' := hc4.cell q0 (by omega)
        have q1'' := hc4.cell q1 (by omega)
        have HL2 := Lib.hid hL2
        clear hL2 hc3 hc4 hO2
        go_wp2
        go_roundw
        case rel =>
          refine ⟨⟨i' + 1, N1, _, _, A2, n2, cap2, rfl, by go_num, HR2.out, by omega, ?_, ?_, ?_, ?_, ?_, ?_⟩, i' + 1, by go_num, by omega⟩
          · exact HL2.out.chg (chg_set2 _ _ (Chg.refl _ _)) (by omega)
          · exact HA3.out.chg (chg_set2 _ _ (Chg.refl _ _)) (fun b _ _ ⟨cur, fr, ht⟩ => ne_of_type ht HP2.out (by decide))
          · have := at_setCell (i := 0) (.int .i64 N1) (C := [.int .i64 N1, .slice A1 n1 cap1]) HP2.out
            have := at_setCell (i := 1) (.slice A2 n2 cap2) (C := [.int .i64 N1, .slice A1 n1 cap1]) this
            exact this
          · exact at_setCell_other _ (by omega) (at_setCell_other _ (by omega) (HC4.out.at_ HO.out (by omega)))
          · exact at_setCell_other _ (by omega) (at_setCell_other _ (by omega) (HC4.out.at_ HRR.out (by omega)))
          · refine Chg.setCell (Chg.setCell ?_ _ _ (fun q => by simp at q)) _ _ (fun q => by simp at q)
            exact HC.out.trans HC4.out
        case measure => simp [intOf]; omega
    · have hN7 : N1 ≤ N + m.toNat := by omega
      go_wp2
      refine bodyPost_ret (results_cell_tmp2 Try.results20 rfl (run_load_rlog (a := .int .i64 N1) (c := .slice A1 n1 cap1) ?_)) rfl ⟨L1, N1, l1, A1, n1, cap1, rfl, HR1.out, hN7, ?_, ?_, ?_⟩
      · refine at_setCell (C := [.int .i64 N1, .slice none 0 0]) _ ?_
        refine at_setCell (C := [.int .i64 0, .slice none 0 0]) _ ?_
        exact HRR.out
      · exact HL1.out.chg (chg_set2 _ _ (Chg.refl _ _)) (by omega)
      · exact HA1.out.chg (chg_set2 _ _ (Chg.refl _ _)) (fun b _ _ ⟨cur, fr, ht⟩ => ne_of_type ht HRR.out (by decide))
      · refine Chg.setCell (Chg.setCell ?_ _ _ (fun q => by simp at q; omega)) _ _ (fun q => by simp at q; omega)
        exact HC.out
end Go.Proofs.Ytchodbcfncdmaaa
