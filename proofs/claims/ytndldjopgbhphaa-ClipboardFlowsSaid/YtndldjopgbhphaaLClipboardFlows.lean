/- The walk of ClipboardFlows: for all arguments it returns true and leaves what was there as it was. -/
import Derived.Test.YtndldjopgbhphaaFlowS
import Derived.Test.YtndldjopgbhphaaTree
set_option linter.unusedVariables false
set_option linter.unusedSimpArgs false
set_option maxRecDepth 100000
namespace Go.Proofs.Ytndldjopgbhphaa
open Go.RowKit

set_option maxHeartbeats 16000000 in
theorem ClipboardFlows_walk (win : Int) (A0 : Option Addr) (len cap0 : Nat) (as_ : List Int) (who : Int) (w : World) (h : U8sAt w A0 len as_) (hw0 : 0 ≤ who) (hw1 : who ≤ 255) :
    Calls Try.prog 8 #[.int .i64 win, .slice A0 len cap0, .int .u8 who] w fun e w' => e = .returned (.bool true) ∧ Same w w' := by
  have HI := Lib.hid h
  have hlm := h.2.2
  unfold maxLen at hlm
  clear h
  by_cases hl : 60 < (len : Int)
  · go_enter Try.func8, Try.ntmps8
    go_wp2_with fail
    refine (example42_ok _).mono ?_
    rintro e w1 ⟨rfl, hs⟩
    have HS := Lib.hid hs
    clear hs
    go_wp2
    go_ret
    exact ⟨rfl, HS.out⟩
  have hl' : len ≤ 60 := by omega
  clear hlm
  go_enter Try.func8, Try.ntmps8
  go_wp2_with fail
  refine (ses_lognew _).mono ?_
  rintro e w1 ⟨rfl, hl1, hs1⟩
  have HL1 := Lib.hid hl1
  have HS1 := Lib.hid hs1
  clear hl1 hs1
  go_wp2_with fail
  refine (ses_new (w0 := w) HL1.out (Nat.le_refl _) HS1.out).mono ?_
  rintro e w2 ⟨b, R2, rfl, hses, _, _⟩
  have H2 := Lib.hid hses
  clear hses HL1 HS1
  go_wp2_with fail
  refine (plain_ok _).mono ?_
  rintro e w4 ⟨g4, rfl, hg, hsa, hk⟩
  have HG := Lib.hid (And.intro hg hsa)
  have H4 := Lib.hid (H2.out.keep hk)
  have HN : Hid (¬ R2 g4) := Lib.hid (fun q => by have := H2.out.clip.lt g4 q; omega)
  have hgn : g4 ≠ w.heap.size := by have := H2.out.llt; omega
  clear hg hk hsa H2
  go_wp2_with fail
  refine (ses_issue flL 1 1 1 9 H4.out (by omega) (by omega) fl_n rfl).mono ?_
  rintro e w3 ⟨rfl, hses, hk⟩
  have H3 := Lib.hid hses
  have HSA : Hid (SArg w3 (some ⟨g4, 0, none⟩) 1 1 [tp]) := Lib.hid (HG.out.2.chg2 hk (fun _ g o e => by cases e; exact hgn))
  clear hses hk H4
  go_wp2_with fail
  refine (ses_set _ 0 1 1 1 _ 1 1 [tp] H3.out HSA.out (fun _ g o e => by cases e; exact HN.out) fl_a fl_a').mono ?_
  rintro e w5 ⟨R5, rfl, hses, _⟩
  have H5 := Lib.hid hses
  clear hses H3 HG HN HSA hgn
  go_wp2_with fail
  refine (ses_focus ⟨1, [tp], 2, 1, true, 1, []⟩ 2 1 H5.out (show 0 < 1000000 by decide) (by omega) rfl rfl).mono ?_
  rintro e w6 ⟨R6, g6, rfl, _, _, _, hses, _⟩
  have H6 := Lib.hid hses
  clear hses H5
  by_cases hwin : win < 1 ∨ 65536 < win
  · have HW := Lib.hid hwin
    have HE : Hid (CSt.rcvE ⟨1, [tp], 2, 1, true, 1, []⟩ 2 tp win = 6) := Lib.hid (by rw [fl_rcv, if_pos hwin])
    clear hwin
    as_aux_lemma =>
      go_wp2_with fail
      refine (ses_rcv_no 6 2 win tp H6.out HE.out (by decide)).mono ?_
      rintro e w7 ⟨rfl, rfl⟩
      go_wp2_with fail
      refine (qnew_bad win _ HW.out).mono ?_
      rintro e w8 ⟨rfl, hk⟩
      unfold rpv
      have HS := Lib.hid (H6.out.same.trans hk)
      clear hk
      go_wp2_with fail
      refine (example42_ok _).mono ?_
      rintro e w9 ⟨rfl, hk⟩
      have HS := Lib.hid ((HS.out.alloc _).trans hk)
      clear hk
      go_wp2
      go_ret
      exact ⟨rfl, HS.out⟩
  · have hv0 : 1 ≤ win := by omega
    have hv1 : win ≤ 65536 := by omega
    have HE : Hid (CSt.rcvE ⟨1, [tp], 2, 1, true, 1, []⟩ 2 tp win = 0) := Lib.hid (by rw [fl_rcv, if_neg hwin])
    clear hwin
    go_wp2_with fail
    refine (ses_rcv 2 win tp H6.out HE.out (show 0 < 1000 by decide)).mono ?_
    rintro e w7 ⟨R7, pb, Rp7, rfl, hses, _⟩
    have H7 : Hid (Ses w w7 w.heap.size b R7 flL (flC (PSt.new win) pb Rp7)) := Lib.hid hses
    clear hses H6 HE
    go_wp2_with fail
    refine (qnew_ok win _ hv0 hv1).mono ?_
    rintro e w8 ⟨rfl, hk⟩
    have H8 := Lib.hid (H7.out.keep hk)
    unfold rpv PSt.new
    clear hk H7 hv0 hv1
    go_wp2
    obtain ⟨Y, hYe⟩ : ∃ Y, w8.heap.size = Y := ⟨_, rfl⟩
    rw [hYe]
    have HYE := Lib.hid hYe
    clear hYe
    go_loopg [13] len (fun g v13 wr => ∃ (i : Nat), i ≤ len ∧ g = len - i ∧ v13 = .int .i64 i ∧ ∃ R Rp q A n cap, FlS w wr w.heap.size b Y pb R Rp q q A n cap)
    case atStart =>
      obtain rfl := HYE.out
      exact ⟨0, by omega, by omega, rfl, R7, Rp7, PSt.new win, none, 0, 0, H8.out.keep ((Chg.refl _ _).alloc _), fun hr => by have := H8.out.clip.lt _ hr; omega, by have := H8.out.llt; omega, H8.out.same.size, at_new _ _, BytesAt.nil _ _, rfl, rfl⟩
    case round =>
      obtain ⟨i, hi, hg, rfl, R, Rp, q, A, n, cap, hst⟩ := hrel
      have HG := Lib.hid hg
      have HS := Lib.hid hst
      clear hg hst
      obtain ⟨y0, y1, y2, y3, y4⟩ := qcells_0 HS.out.at_
      by_cases hlt : i < len
      · have hii : (i : Int) < len := by omega
        obtain ⟨ab, ao, x, rfl, hab, _, hx0, hcx⟩ := HI.out.at_ hlt
        have gx := HS.out.ses.same.cell hcx (fun q => q)
        have hx1 := hx0.1
        have hx2 := hx0.2
        clear hcx hx0
        obtain ⟨m, hm⟩ : ∃ m : Nat, x / 4 = (m : Int) := ⟨(x / 4).toNat, by omega⟩
        have hm63 : m ≤ 63 := by omega
        cases e0 : (x % 4 == 0)
        · cases e1 : (x % 4 == 1)
          · as_aux_lemma =>
              obtain ⟨q', hq'⟩ : ∃ q', q.read m = q' := ⟨_, rfl⟩
              obtain ⟨vv, hvv⟩ : ∃ vv, q.rdE m = vv := ⟨_, rfl⟩
              obtain ⟨ys, hys⟩ : ∃ ys, q.rd m = ys := ⟨_, rfl⟩
              obtain ⟨ny, hny⟩ : ∃ ny, ys.length = ny := ⟨_, rfl⟩
              have HQ := Lib.hid (And.intro hq' (And.intro hvv (And.intro hys hny)))
              clear hq' hvv hys hny
              go_wp2_with fail
              refine (qread_q q' ys vv m HS.out.bytes HS.out.pipe.pipe.ok HQ.out.2.2.1 HQ.out.2.1 HQ.out.1).mono ?_
              rintro e w4 ⟨A', n', cap', A8, n8, c8, rfl, hb4, hb8, hs4⟩
              obtain rfl : n8 = ny := by rw [← hb8.1, HQ.out.2.2.2]
              clear hb8
              have HB4 := Lib.hid hb4
              have HS4 := Lib.hid (HS.out.same hs4)
              have HK4 := Lib.hid hs4
              clear hb4 hs4 y0 y1 y2 y3 y4
              obtain ⟨z0, z1, z2, z3, z4⟩ := qcells_0 HS4.out.at_
              have fz := frozen_at HS4.out.at_
              have hYl := HS4.out.ylt
              go_wp2_with fail
              have HM := Lib.hid (And.intro (box_chg w4 Y q' A' n' cap' (.cells (qcells q' A' n' cap').toArray 83)) (box_at HS4.out.at_ q' A' n' cap' (.cells (qcells q' A' n' cap').toArray 83)))
              unfold qcells at HM
              generalize (((((w4.setCell ⟨Y, 0, none⟩ (.int .i64 q'.win)).setCell ⟨Y, 1, none⟩ (.int .i64 q'.cr)).setCell ⟨Y, 2, none⟩ (.slice A' n' cap')).setCell ⟨Y, 3, none⟩ (.bool (q'.cl && !q'.cn))).setCell ⟨Y, 4, none⟩ (.bool q'.cn)).alloc (.cells [Value.int .i64 q'.win, .int .i64 q'.cr, .slice A' n' cap', .bool (q'.cl && !q'.cn), .bool q'.cn].toArray 83) = w5 at *
              have HS5 := Lib.hid (HS.out.laid HK4.out HB4.out HM.out.1 HM.out.2)
              clear HM z0 z1 z2 z3 z4 fz hYl
              refine (pread_n q' ys n8 vv m HS5.out.pipe HQ.out.2.2.1 HQ.out.2.2.2 HQ.out.2.1 HQ.out.1).mono ?_
              rintro e w6 ⟨A7, c7, rfl, _, hp6, hk6⟩
              obtain ⟨R6, hst6⟩ := HS5.out.used hk6 hp6.pipe (fun j q => .inl q) (by rw [← HQ.out.1]; exact HS.out.op)
              have HS6 := Lib.hid hst6
              clear hp6 hk6 hst6
              go_wp2
              go_roundg (len - (i + 1))
              case measure => have := HG.out; omega
              case rel => exact ⟨i + 1, by omega, by rfl, by go_num, R6, Rp, q', A', n', cap', HS6.out⟩
          · as_aux_lemma =>
              obtain ⟨q', hq'⟩ : ∃ q', q.write (List.replicate m 0) = q' := ⟨_, rfl⟩
              obtain ⟨vv, hvv⟩ : ∃ vv, q.wrE = vv := ⟨_, rfl⟩
              obtain ⟨kk, hkk⟩ : ∃ kk, (q.wrN (List.replicate m (0 : Int)).length : Int) = kk := ⟨_, rfl⟩
              have HQ := Lib.hid (And.intro hq' (And.intro hvv hkk))
              clear hq' hvv hkk
              have hmk := fun w => run_make_bytes m (by omega) w
              have WA : Hid (Calls Try.prog 40 #[.agg #[.int .i64 q.win, .int .i64 q.cr, .slice A n cap, .bool (q.cl && !q.cn), .bool q.cn], .slice (some ⟨wr.heap.size, 0, none⟩) m m] (wr.alloc (.cells (zeroB m) 5)).drew (FWr wr R Y q' kk vv (fun _ => True))) :=
                Lib.hid (fwr_any HS.out rfl q' kk vv m _ _ HQ.out.1 HQ.out.2.1 HQ.out.2.2 (((Chg.refl _ wr).alloc _).drew) (bytes_zero wr m (by omega)) (fun _ _ => trivial))
              have WB : Hid (Calls Try.prog 40 #[.agg #[.int .i64 q.win, .int .i64 q.cr, .slice A n cap, .bool (q.cl && !q.cn), .bool q.cn], .slice (some ⟨wr.heap.size, 0, none⟩) m m] ((wr.alloc (.cells (zeroB m) 5)).alloc boxZ).drew (FWr wr R Y q' kk vv (fun w' => w'.heap[wr.heap.size + 1]? = some boxZ))) :=
                Lib.hid (fwr_any HS.out rfl q' kk vv m _ _ HQ.out.1 HQ.out.2.1 HQ.out.2.2 ((((Chg.refl _ wr).alloc _).alloc _).drew) (BytesAt.chg (S := fun _ => False) (bytes_zero wr m (by omega)) (((Chg.refl _ _).alloc _).drew) (fun _ _ q => q)) (fun w' k => k.at_ (at_new2s wr _ _ _ rfl) (fun q => q)))
              have WC : Hid (Calls Try.prog 40 #[.agg #[.int .i64 q.win, .int .i64 q.cr, .slice A n cap, .bool (q.cl && !q.cn), .bool q.cn], .slice (some ⟨wr.heap.size + 1, 0, none⟩) m m] ((wr.alloc boxZ).alloc (.cells (zeroB m) 5)).drew (FWr wr R Y q' kk vv (fun w' => w'.heap[wr.heap.size]? = some boxZ))) :=
                Lib.hid (fwr_any HS.out rfl q' kk vv m _ _ HQ.out.1 HQ.out.2.1 HQ.out.2.2 ((((Chg.refl _ wr).alloc _).alloc _).drew) (bytes_zeroK (wr.alloc boxZ) m _ (by omega) (by simp)) (fun w' k => k.at_ (at_new1s wr _ _) (fun q => q)))
              unfold boxZ at WB WC
              go_upto_region 30 with (fail)
              go_cut [17, 18, 19] (fun s17 s18 s19 wx => ∃ g A' n' cap', s17 = .pointer (some ⟨g, 0, none⟩) ∧ s18 = .int .i64 kk ∧ s19 = .int .i64 vv ∧ wx.heap[g]? = some (.cells (qcells q' A' n' cap').toArray 83 (0, 0)) ∧ Same wr wx ∧ BytesAt wx (fun x => ¬ R x ∧ x ≠ Y) A' n' cap' q'.bs ∧ wr.heap.size ≤ g)
              case first =>
                refine region_tree (S := (fun w' => w'.cell? ⟨Y, 0, none⟩ = some (.int .i64 q.win) ∧ w'.cell? ⟨Y, 1, none⟩ = some (.int .i64 q.cr) ∧ w'.cell? ⟨Y, 2, none⟩ = some (.slice A n cap) ∧ w'.cell? ⟨Y, 3, none⟩ = some (.bool (q.cl && !q.cn)) ∧ w'.cell? ⟨Y, 4, none⟩ = some (.bool q.cn))) 99 (.rd 0 (.rd 1 (.fork 2 8 (.fork 3 8 (.rd 4 (.rd 5 (.rd 6 (.rd 7 (.one 8 (.one 9 (.one 10 (.one 11 .nil)))))))) (.one 3 (.rd 4 (.rd 5 (.rd 6 (.rd 7 (.one 9 (.one 10 (.one 11 .nil))))))))) (.one 2 (.one 3 (.rd 4 (.rd 5 (.rd 6 (.rd 7 (.one 9 (.one 10 (.one 11 .nil)))))))))))) (by kernel_rfl) (by kernel_rfl) (by kernel_rfl) ⟨y0, y1, y2, y3, y4⟩ ?_
                refine tree_read (i := 0) (v := ?v1) rfl (by rfl) (fun _ _ _ h => h) ?hy1 ?_
                case hy1 => ((intro w hSw; (try dsimp only at hSw); go_simp) <;> (try with_reducible rfl))
                try simp only [Act.put, List.setIfInBounds_toArray, List.set_cons_zero, List.set_cons_succ]
                refine tree_read (i := 1) (v := ?v2) rfl (by rfl) (fun _ _ _ h => h) ?hy2 ?_
                case hy2 => ((intro w hSw; (try dsimp only at hSw); go_simp) <;> (try with_reducible rfl))
                try simp only [Act.put, List.setIfInBounds_toArray, List.set_cons_zero, List.set_cons_succ]
                refine tree_fork (i := 2) (j := 8) rfl rfl ?_ ?_
                · go_wp2_with ((go_at_call 40; (first | ((with_reducible refine WA.out.mono ?_); rintro e w4 ⟨A', n', cap', rfl, hb4, hs4, hbx⟩; have HK4 := Lib.hid hs4; have HB4 := Lib.hid hb4; have hqk := qcells_0 (hs4.at_ HS.out.at_ (fun q => q)); clear hb4 hs4) | ((with_reducible refine WB.out.mono ?_); rintro e w4 ⟨A', n', cap', rfl, hb4, hs4, hbx⟩; have HK4 := Lib.hid hs4; have HB4 := Lib.hid hb4; have hqk := qcells_0 (hs4.at_ HS.out.at_ (fun q => q)); clear hb4 hs4; have HX := Lib.hid hbx; obtain ⟨x0, x1, x2, x3, x4, fx, lx⟩ := box5 hbx; clear hbx) | ((with_reducible refine WC.out.mono ?_); rintro e w4 ⟨A', n', cap', rfl, hb4, hs4, hbx⟩; have HK4 := Lib.hid hs4; have HB4 := Lib.hid hb4; have hqk := qcells_0 (hs4.at_ HS.out.at_ (fun q => q)); clear hb4 hs4; have HX := Lib.hid hbx; obtain ⟨x0, x1, x2, x3, x4, fx, lx⟩ := box5 hbx; clear hbx))))
                  refine ⟨.inr ?keep3, ?_⟩
                  case keep3 => ((first | (with_reducible exact ⟨y0, y1, y2, y3, y4⟩) | (with_reducible exact hqk) | (refine qcells_0 (Chg.at_ (S := fun _ => False) (u := wr) ?_ HS.out.at_ (fun q => q)); (repeat (first | (with_reducible refine Chg.drew ?_) | (with_reducible refine Chg.alloc ?_ _) | (with_reducible refine Chg.setCell ?_ _ _ ?_; rotate_left 1; · (intro q; have := HK4.out.size; (try dsimp only at q); omega)))); (first | (with_reducible exact HK4.out) | (with_reducible exact Chg.refl _ _)))))
                  try simp only [Act.put, List.setIfInBounds_toArray, List.set_cons_zero, List.set_cons_succ]
                  refine tree_fork (i := 3) (j := 8) rfl rfl ?_ ?_
                  · go_wp2_with ((go_at_call 40; (first | ((with_reducible refine WA.out.mono ?_); rintro e w4 ⟨A', n', cap', rfl, hb4, hs4, hbx⟩; have HK4 := Lib.hid hs4; have HB4 := Lib.hid hb4; have hqk := qcells_0 (hs4.at_ HS.out.at_ (fun q => q)); clear hb4 hs4) | ((with_reducible refine WB.out.mono ?_); rintro e w4 ⟨A', n', cap', rfl, hb4, hs4, hbx⟩; have HK4 := Lib.hid hs4; have HB4 := Lib.hid hb4; have hqk := qcells_0 (hs4.at_ HS.out.at_ (fun q => q)); clear hb4 hs4; have HX := Lib.hid hbx; obtain ⟨x0, x1, x2, x3, x4, fx, lx⟩ := box5 hbx; clear hbx) | ((with_reducible refine WC.out.mono ?_); rintro e w4 ⟨A', n', cap', rfl, hb4, hs4, hbx⟩; have HK4 := Lib.hid hs4; have HB4 := Lib.hid hb4; have hqk := qcells_0 (hs4.at_ HS.out.at_ (fun q => q)); clear hb4 hs4; have HX := Lib.hid hbx; obtain ⟨x0, x1, x2, x3, x4, fx, lx⟩ := box5 hbx; clear hbx))))
                    refine ⟨.inr ?keep5, ?_⟩
                    case keep5 => ((first | (with_reducible exact ⟨y0, y1, y2, y3, y4⟩) | (with_reducible exact hqk) | (refine qcells_0 (Chg.at_ (S := fun _ => False) (u := wr) ?_ HS.out.at_ (fun q => q)); (repeat (first | (with_reducible refine Chg.drew ?_) | (with_reducible refine Chg.alloc ?_ _) | (with_reducible refine Chg.setCell ?_ _ _ ?_; rotate_left 1; · (intro q; have := HK4.out.size; (try dsimp only at q); omega)))); (first | (with_reducible exact HK4.out) | (with_reducible exact Chg.refl _ _)))))
                    try simp only [Act.put, List.setIfInBounds_toArray, List.set_cons_zero, List.set_cons_succ]
                    refine tree_read (i := 4) (v := ?v7) rfl (by rfl) (fun _ _ _ h => h) ?hy7 ?_
                    case hy7 => ((intro w hSw; (try dsimp only at hSw); go_simp) <;> (try with_reducible rfl))
                    try simp only [Act.put, List.setIfInBounds_toArray, List.set_cons_zero, List.set_cons_succ]
                    refine tree_read (i := 5) (v := ?v8) rfl (by rfl) (fun _ _ _ h => h) ?hy8 ?_
                    case hy8 => ((intro w hSw; (try dsimp only at hSw); go_simp) <;> (try with_reducible rfl))
                    try simp only [Act.put, List.setIfInBounds_toArray, List.set_cons_zero, List.set_cons_succ]
                    refine tree_read (i := 6) (v := ?v9) rfl (by rfl) (fun _ _ _ h => h) ?hy9 ?_
                    case hy9 => ((intro w hSw; (try dsimp only at hSw); go_simp) <;> (try with_reducible rfl))
                    try simp only [Act.put, List.setIfInBounds_toArray, List.set_cons_zero, List.set_cons_succ]
                    refine tree_read (i := 7) (v := ?v10) rfl (by rfl) (fun _ _ _ h => h) ?hy10 ?_
                    case hy10 => ((intro w hSw; (try dsimp only at hSw); go_simp) <;> (try with_reducible rfl))
                    try simp only [Act.put, List.setIfInBounds_toArray, List.set_cons_zero, List.set_cons_succ]
                    refine tree_one (i := 8) rfl ?_
                    go_wp2_with ((go_at_call 40; (first | ((with_reducible refine WA.out.mono ?_); rintro e w4 ⟨A', n', cap', rfl, hb4, hs4, hbx⟩; have HK4 := Lib.hid hs4; have HB4 := Lib.hid hb4; have hqk := qcells_0 (hs4.at_ HS.out.at_ (fun q => q)); clear hb4 hs4) | ((with_reducible refine WB.out.mono ?_); rintro e w4 ⟨A', n', cap', rfl, hb4, hs4, hbx⟩; have HK4 := Lib.hid hs4; have HB4 := Lib.hid hb4; have hqk := qcells_0 (hs4.at_ HS.out.at_ (fun q => q)); clear hb4 hs4; have HX := Lib.hid hbx; obtain ⟨x0, x1, x2, x3, x4, fx, lx⟩ := box5 hbx; clear hbx) | ((with_reducible refine WC.out.mono ?_); rintro e w4 ⟨A', n', cap', rfl, hb4, hs4, hbx⟩; have HK4 := Lib.hid hs4; have HB4 := Lib.hid hb4; have hqk := qcells_0 (hs4.at_ HS.out.at_ (fun q => q)); clear hb4 hs4; have HX := Lib.hid hbx; obtain ⟨x0, x1, x2, x3, x4, fx, lx⟩ := box5 hbx; clear hbx))))
                    refine ⟨.inr ?keep11, ?_⟩
                    case keep11 => ((first | (with_reducible exact ⟨y0, y1, y2, y3, y4⟩) | (with_reducible exact hqk) | (refine qcells_0 (Chg.at_ (S := fun _ => False) (u := wr) ?_ HS.out.at_ (fun q => q)); (repeat (first | (with_reducible refine Chg.drew ?_) | (with_reducible refine Chg.alloc ?_ _) | (with_reducible refine Chg.setCell ?_ _ _ ?_; rotate_left 1; · (intro q; have := HK4.out.size; (try dsimp only at q); omega)))); (first | (with_reducible exact HK4.out) | (with_reducible exact Chg.refl _ _)))))
                    try simp only [Act.put, List.setIfInBounds_toArray, List.set_cons_zero, List.set_cons_succ]
                    refine tree_one (i := 9) rfl ?_
                    go_wp2_with ((go_at_call 40; (first | ((with_reducible refine WA.out.mono ?_); rintro e w4 ⟨A', n', cap', rfl, hb4, hs4, hbx⟩; have HK4 := Lib.hid hs4; have HB4 := Lib.hid hb4; have hqk := qcells_0 (hs4.at_ HS.out.at_ (fun q => q)); clear hb4 hs4) | ((with_reducible refine WB.out.mono ?_); rintro e w4 ⟨A', n', cap', rfl, hb4, hs4, hbx⟩; have HK4 := Lib.hid hs4; have HB4 := Lib.hid hb4; have hqk := qcells_0 (hs4.at_ HS.out.at_ (fun q => q)); clear hb4 hs4; have HX := Lib.hid hbx; obtain ⟨x0, x1, x2, x3, x4, fx, lx⟩ := box5 hbx; clear hbx) | ((with_reducible refine WC.out.mono ?_); rintro e w4 ⟨A', n', cap', rfl, hb4, hs4, hbx⟩; have HK4 := Lib.hid hs4; have HB4 := Lib.hid hb4; have hqk := qcells_0 (hs4.at_ HS.out.at_ (fun q => q)); clear hb4 hs4; have HX := Lib.hid hbx; obtain ⟨x0, x1, x2, x3, x4, fx, lx⟩ := box5 hbx; clear hbx))))
                    refine ⟨.inr ?keep12, ?_⟩
                    case keep12 => ((first | (with_reducible exact ⟨y0, y1, y2, y3, y4⟩) | (with_reducible exact hqk) | (refine qcells_0 (Chg.at_ (S := fun _ => False) (u := wr) ?_ HS.out.at_ (fun q => q)); (repeat (first | (with_reducible refine Chg.drew ?_) | (with_reducible refine Chg.alloc ?_ _) | (with_reducible refine Chg.setCell ?_ _ _ ?_; rotate_left 1; · (intro q; have := HK4.out.size; (try dsimp only at q); omega)))); (first | (with_reducible exact HK4.out) | (with_reducible exact Chg.refl _ _)))))
                    try simp only [Act.put, List.setIfInBounds_toArray, List.set_cons_zero, List.set_cons_succ]
                    refine tree_one (i := 10) rfl ?_
                    go_wp2_with ((go_at_call 40; (first | ((with_reducible refine WA.out.mono ?_); rintro e w4 ⟨A', n', cap', rfl, hb4, hs4, hbx⟩; have HK4 := Lib.hid hs4; have HB4 := Lib.hid hb4; have hqk := qcells_0 (hs4.at_ HS.out.at_ (fun q => q)); clear hb4 hs4) | ((with_reducible refine WB.out.mono ?_); rintro e w4 ⟨A', n', cap', rfl, hb4, hs4, hbx⟩; have HK4 := Lib.hid hs4; have HB4 := Lib.hid hb4; have hqk := qcells_0 (hs4.at_ HS.out.at_ (fun q => q)); clear hb4 hs4; have HX := Lib.hid hbx; obtain ⟨x0, x1, x2, x3, x4, fx, lx⟩ := box5 hbx; clear hbx) | ((with_reducible refine WC.out.mono ?_); rintro e w4 ⟨A', n', cap', rfl, hb4, hs4, hbx⟩; have HK4 := Lib.hid hs4; have HB4 := Lib.hid hb4; have hqk := qcells_0 (hs4.at_ HS.out.at_ (fun q => q)); clear hb4 hs4; have HX := Lib.hid hbx; obtain ⟨x0, x1, x2, x3, x4, fx, lx⟩ := box5 hbx; clear hbx))))
                    refine ⟨.inr ?keep13, ?_⟩
                    case keep13 => ((first | (with_reducible exact ⟨y0, y1, y2, y3, y4⟩) | (with_reducible exact hqk) | (refine qcells_0 (Chg.at_ (S := fun _ => False) (u := wr) ?_ HS.out.at_ (fun q => q)); (repeat (first | (with_reducible refine Chg.drew ?_) | (with_reducible refine Chg.alloc ?_ _) | (with_reducible refine Chg.setCell ?_ _ _ ?_; rotate_left 1; · (intro q; have := HK4.out.size; (try dsimp only at q); omega)))); (first | (with_reducible exact HK4.out) | (with_reducible exact Chg.refl _ _)))))
                    try simp only [Act.put, List.setIfInBounds_toArray, List.set_cons_zero, List.set_cons_succ]
                    refine tree_one (i := 11) rfl ?_
                    go_wp2_with ((go_at_call 40; (first | ((with_reducible refine WA.out.mono ?_); rintro e w4 ⟨A', n', cap', rfl, hb4, hs4, hbx⟩; have HK4 := Lib.hid hs4; have HB4 := Lib.hid hb4; have hqk := qcells_0 (hs4.at_ HS.out.at_ (fun q => q)); clear hb4 hs4) | ((with_reducible refine WB.out.mono ?_); rintro e w4 ⟨A', n', cap', rfl, hb4, hs4, hbx⟩; have HK4 := Lib.hid hs4; have HB4 := Lib.hid hb4; have hqk := qcells_0 (hs4.at_ HS.out.at_ (fun q => q)); clear hb4 hs4; have HX := Lib.hid hbx; obtain ⟨x0, x1, x2, x3, x4, fx, lx⟩ := box5 hbx; clear hbx) | ((with_reducible refine WC.out.mono ?_); rintro e w4 ⟨A', n', cap', rfl, hb4, hs4, hbx⟩; have HK4 := Lib.hid hs4; have HB4 := Lib.hid hb4; have hqk := qcells_0 (hs4.at_ HS.out.at_ (fun q => q)); clear hb4 hs4; have HX := Lib.hid hbx; obtain ⟨x0, x1, x2, x3, x4, fx, lx⟩ := box5 hbx; clear hbx))))
                    refine ⟨.inr ?keep14, ?_⟩
                    case keep14 => ((first | (with_reducible exact ⟨y0, y1, y2, y3, y4⟩) | (with_reducible exact hqk) | (refine qcells_0 (Chg.at_ (S := fun _ => False) (u := wr) ?_ HS.out.at_ (fun q => q)); (repeat (first | (with_reducible refine Chg.drew ?_) | (with_reducible refine Chg.alloc ?_ _) | (with_reducible refine Chg.setCell ?_ _ _ ?_; rotate_left 1; · (intro q; have := HK4.out.size; (try dsimp only at q); omega)))); (first | (with_reducible exact HK4.out) | (with_reducible exact Chg.refl _ _)))))
                    try simp only [Act.put, List.setIfInBounds_toArray, List.set_cons_zero, List.set_cons_succ]
                    refine tree_end ?_
                    go_wp2_with fail
                    go_meet
                    case rel => (first | (have hxx := HX.out; exact ⟨_, A', n', cap', rfl, rfl, rfl, box_laid hxx q' A' n' cap', HK4.out.then_ (box_chgN w4 _ q' A' n' cap') (fun i hi e => by (try dsimp only at e); omega), HB4.out.laidbox hxx (box_chgN w4 _ q' A' n' cap'), by omega⟩) | exact ⟨_, A', n', cap', rfl, rfl, rfl, at_new w4 _, HK4.out.alloc _, HB4.out.chg ((Chg.refl (fun _ => False) w4).alloc _) (fun _ _ q => q), HK4.out.size⟩)
                  · go_wp2_with ((go_at_call 40; (first | ((with_reducible refine WA.out.mono ?_); rintro e w4 ⟨A', n', cap', rfl, hb4, hs4, hbx⟩; have HK4 := Lib.hid hs4; have HB4 := Lib.hid hb4; have hqk := qcells_0 (hs4.at_ HS.out.at_ (fun q => q)); clear hb4 hs4) | ((with_reducible refine WB.out.mono ?_); rintro e w4 ⟨A', n', cap', rfl, hb4, hs4, hbx⟩; have HK4 := Lib.hid hs4; have HB4 := Lib.hid hb4; have hqk := qcells_0 (hs4.at_ HS.out.at_ (fun q => q)); clear hb4 hs4; have HX := Lib.hid hbx; obtain ⟨x0, x1, x2, x3, x4, fx, lx⟩ := box5 hbx; clear hbx) | ((with_reducible refine WC.out.mono ?_); rintro e w4 ⟨A', n', cap', rfl, hb4, hs4, hbx⟩; have HK4 := Lib.hid hs4; have HB4 := Lib.hid hb4; have hqk := qcells_0 (hs4.at_ HS.out.at_ (fun q => q)); clear hb4 hs4; have HX := Lib.hid hbx; obtain ⟨x0, x1, x2, x3, x4, fx, lx⟩ := box5 hbx; clear hbx))))
                    refine ⟨.inr ?keep14, ?_⟩
                    case keep14 => ((first | (with_reducible exact ⟨y0, y1, y2, y3, y4⟩) | (with_reducible exact hqk) | (refine qcells_0 (Chg.at_ (S := fun _ => False) (u := wr) ?_ HS.out.at_ (fun q => q)); (repeat (first | (with_reducible refine Chg.drew ?_) | (with_reducible refine Chg.alloc ?_ _) | (with_reducible refine Chg.setCell ?_ _ _ ?_; rotate_left 1; · (intro q; have := HK4.out.size; (try dsimp only at q); omega)))); (first | (with_reducible exact HK4.out) | (with_reducible exact Chg.refl _ _)))))
                    try simp only [Act.put, List.setIfInBounds_toArray, List.set_cons_zero, List.set_cons_succ]
                    refine tree_one (i := 3) rfl ?_
                    go_wp2_with ((go_at_call 40; (first | ((with_reducible refine WA.out.mono ?_); rintro e w4 ⟨A', n', cap', rfl, hb4, hs4, hbx⟩; have HK4 := Lib.hid hs4; have HB4 := Lib.hid hb4; have hqk := qcells_0 (hs4.at_ HS.out.at_ (fun q => q)); clear hb4 hs4) | ((with_reducible refine WB.out.mono ?_); rintro e w4 ⟨A', n', cap', rfl, hb4, hs4, hbx⟩; have HK4 := Lib.hid hs4; have HB4 := Lib.hid hb4; have hqk := qcells_0 (hs4.at_ HS.out.at_ (fun q => q)); clear hb4 hs4; have HX := Lib.hid hbx; obtain ⟨x0, x1, x2, x3, x4, fx, lx⟩ := box5 hbx; clear hbx) | ((with_reducible refine WC.out.mono ?_); rintro e w4 ⟨A', n', cap', rfl, hb4, hs4, hbx⟩; have HK4 := Lib.hid hs4; have HB4 := Lib.hid hb4; have hqk := qcells_0 (hs4.at_ HS.out.at_ (fun q => q)); clear hb4 hs4; have HX := Lib.hid hbx; obtain ⟨x0, x1, x2, x3, x4, fx, lx⟩ := box5 hbx; clear hbx))))
                    refine ⟨.inr ?keep15, ?_⟩
                    case keep15 => ((first | (with_reducible exact ⟨y0, y1, y2, y3, y4⟩) | (with_reducible exact hqk) | (refine qcells_0 (Chg.at_ (S := fun _ => False) (u := wr) ?_ HS.out.at_ (fun q => q)); (repeat (first | (with_reducible refine Chg.drew ?_) | (with_reducible refine Chg.alloc ?_ _) | (with_reducible refine Chg.setCell ?_ _ _ ?_; rotate_left 1; · (intro q; have := HK4.out.size; (try dsimp only at q); omega)))); (first | (with_reducible exact HK4.out) | (with_reducible exact Chg.refl _ _)))))
                    try simp only [Act.put, List.setIfInBounds_toArray, List.set_cons_zero, List.set_cons_succ]
                    refine tree_read (i := 4) (v := ?v16) rfl (by rfl) (fun _ _ _ h => h) ?hy16 ?_
                    case hy16 => ((intro w hSw; (try dsimp only at hSw); go_simp) <;> (try with_reducible rfl))
                    try simp only [Act.put, List.setIfInBounds_toArray, List.set_cons_zero, List.set_cons_succ]
                    refine tree_read (i := 5) (v := ?v17) rfl (by rfl) (fun _ _ _ h => h) ?hy17 ?_
                    case hy17 => ((intro w hSw; (try dsimp only at hSw); go_simp) <;> (try with_reducible rfl))
                    try simp only [Act.put, List.setIfInBounds_toArray, List.set_cons_zero, List.set_cons_succ]
                    refine tree_read (i := 6) (v := ?v18) rfl (by rfl) (fun _ _ _ h => h) ?hy18 ?_
                    case hy18 => ((intro w hSw; (try dsimp only at hSw); go_simp) <;> (try with_reducible rfl))
                    try simp only [Act.put, List.setIfInBounds_toArray, List.set_cons_zero, List.set_cons_succ]
                    refine tree_read (i := 7) (v := ?v19) rfl (by rfl) (fun _ _ _ h => h) ?hy19 ?_
                    case hy19 => ((intro w hSw; (try dsimp only at hSw); go_simp) <;> (try with_reducible rfl))
                    try simp only [Act.put, List.setIfInBounds_toArray, List.set_cons_zero, List.set_cons_succ]
                    refine tree_one (i := 9) rfl ?_
                    go_wp2_with ((go_at_call 40; (first | ((with_reducible refine WA.out.mono ?_); rintro e w4 ⟨A', n', cap', rfl, hb4, hs4, hbx⟩; have HK4 := Lib.hid hs4; have HB4 := Lib.hid hb4; have hqk := qcells_0 (hs4.at_ HS.out.at_ (fun q => q)); clear hb4 hs4) | ((with_reducible refine WB.out.mono ?_); rintro e w4 ⟨A', n', cap', rfl, hb4, hs4, hbx⟩; have HK4 := Lib.hid hs4; have HB4 := Lib.hid hb4; have hqk := qcells_0 (hs4.at_ HS.out.at_ (fun q => q)); clear hb4 hs4; have HX := Lib.hid hbx; obtain ⟨x0, x1, x2, x3, x4, fx, lx⟩ := box5 hbx; clear hbx) | ((with_reducible refine WC.out.mono ?_); rintro e w4 ⟨A', n', cap', rfl, hb4, hs4, hbx⟩; have HK4 := Lib.hid hs4; have HB4 := Lib.hid hb4; have hqk := qcells_0 (hs4.at_ HS.out.at_ (fun q => q)); clear hb4 hs4; have HX := Lib.hid hbx; obtain ⟨x0, x1, x2, x3, x4, fx, lx⟩ := box5 hbx; clear hbx))))
                    refine ⟨.inr ?keep20, ?_⟩
                    case keep20 => ((first | (with_reducible exact ⟨y0, y1, y2, y3, y4⟩) | (with_reducible exact hqk) | (refine qcells_0 (Chg.at_ (S := fun _ => False) (u := wr) ?_ HS.out.at_ (fun q => q)); (repeat (first | (with_reducible refine Chg.drew ?_) | (with_reducible refine Chg.alloc ?_ _) | (with_reducible refine Chg.setCell ?_ _ _ ?_; rotate_left 1; · (intro q; have := HK4.out.size; (try dsimp only at q); omega)))); (first | (with_reducible exact HK4.out) | (with_reducible exact Chg.refl _ _)))))
                    try simp only [Act.put, List.setIfInBounds_toArray, List.set_cons_zero, List.set_cons_succ]
                    refine tree_one (i := 10) rfl ?_
                    go_wp2_with ((go_at_call 40; (first | ((with_reducible refine WA.out.mono ?_); rintro e w4 ⟨A', n', cap', rfl, hb4, hs4, hbx⟩; have HK4 := Lib.hid hs4; have HB4 := Lib.hid hb4; have hqk := qcells_0 (hs4.at_ HS.out.at_ (fun q => q)); clear hb4 hs4) | ((with_reducible refine WB.out.mono ?_); rintro e w4 ⟨A', n', cap', rfl, hb4, hs4, hbx⟩; have HK4 := Lib.hid hs4; have HB4 := Lib.hid hb4; have hqk := qcells_0 (hs4.at_ HS.out.at_ (fun q => q)); clear hb4 hs4; have HX := Lib.hid hbx; obtain ⟨x0, x1, x2, x3, x4, fx, lx⟩ := box5 hbx; clear hbx) | ((with_reducible refine WC.out.mono ?_); rintro e w4 ⟨A', n', cap', rfl, hb4, hs4, hbx⟩; have HK4 := Lib.hid hs4; have HB4 := Lib.hid hb4; have hqk := qcells_0 (hs4.at_ HS.out.at_ (fun q => q)); clear hb4 hs4; have HX := Lib.hid hbx; obtain ⟨x0, x1, x2, x3, x4, fx, lx⟩ := box5 hbx; clear hbx))))
                    refine ⟨.inr ?keep21, ?_⟩
                    case keep21 => ((first | (with_reducible exact ⟨y0, y1, y2, y3, y4⟩) | (with_reducible exact hqk) | (refine qcells_0 (Chg.at_ (S := fun _ => False) (u := wr) ?_ HS.out.at_ (fun q => q)); (repeat (first | (with_reducible refine Chg.drew ?_) | (with_reducible refine Chg.alloc ?_ _) | (with_reducible refine Chg.setCell ?_ _ _ ?_; rotate_left 1; · (intro q; have := HK4.out.size; (try dsimp only at q); omega)))); (first | (with_reducible exact HK4.out) | (with_reducible exact Chg.refl _ _)))))
                    try simp only [Act.put, List.setIfInBounds_toArray, List.set_cons_zero, List.set_cons_succ]
                    refine tree_one (i := 11) rfl ?_
                    go_wp2_with ((go_at_call 40; (first | ((with_reducible refine WA.out.mono ?_); rintro e w4 ⟨A', n', cap', rfl, hb4, hs4, hbx⟩; have HK4 := Lib.hid hs4; have HB4 := Lib.hid hb4; have hqk := qcells_0 (hs4.at_ HS.out.at_ (fun q => q)); clear hb4 hs4) | ((with_reducible refine WB.out.mono ?_); rintro e w4 ⟨A', n', cap', rfl, hb4, hs4, hbx⟩; have HK4 := Lib.hid hs4; have HB4 := Lib.hid hb4; have hqk := qcells_0 (hs4.at_ HS.out.at_ (fun q => q)); clear hb4 hs4; have HX := Lib.hid hbx; obtain ⟨x0, x1, x2, x3, x4, fx, lx⟩ := box5 hbx; clear hbx) | ((with_reducible refine WC.out.mono ?_); rintro e w4 ⟨A', n', cap', rfl, hb4, hs4, hbx⟩; have HK4 := Lib.hid hs4; have HB4 := Lib.hid hb4; have hqk := qcells_0 (hs4.at_ HS.out.at_ (fun q => q)); clear hb4 hs4; have HX := Lib.hid hbx; obtain ⟨x0, x1, x2, x3, x4, fx, lx⟩ := box5 hbx; clear hbx))))
                    refine ⟨.inr ?keep22, ?_⟩
                    case keep22 => ((first | (with_reducible exact ⟨y0, y1, y2, y3, y4⟩) | (with_reducible exact hqk) | (refine qcells_0 (Chg.at_ (S := fun _ => False) (u := wr) ?_ HS.out.at_ (fun q => q)); (repeat (first | (with_reducible refine Chg.drew ?_) | (with_reducible refine Chg.alloc ?_ _) | (with_reducible refine Chg.setCell ?_ _ _ ?_; rotate_left 1; · (intro q; have := HK4.out.size; (try dsimp only at q); omega)))); (first | (with_reducible exact HK4.out) | (with_reducible exact Chg.refl _ _)))))
                    try simp only [Act.put, List.setIfInBounds_toArray, List.set_cons_zero, List.set_cons_succ]
                    refine tree_end ?_
                    go_wp2_with fail
                    go_meet
                    case rel => (first | (have hxx := HX.out; exact ⟨_, A', n', cap', rfl, rfl, rfl, box_laid hxx q' A' n' cap', HK4.out.then_ (box_chgN w4 _ q' A' n' cap') (fun i hi e => by (try dsimp only at e); omega), HB4.out.laidbox hxx (box_chgN w4 _ q' A' n' cap'), by omega⟩) | exact ⟨_, A', n', cap', rfl, rfl, rfl, at_new w4 _, HK4.out.alloc _, HB4.out.chg ((Chg.refl (fun _ => False) w4).alloc _) (fun _ _ q => q), HK4.out.size⟩)
                · go_wp2_with ((go_at_call 40; (first | ((with_reducible refine WA.out.mono ?_); rintro e w4 ⟨A', n', cap', rfl, hb4, hs4, hbx⟩; have HK4 := Lib.hid hs4; have HB4 := Lib.hid hb4; have hqk := qcells_0 (hs4.at_ HS.out.at_ (fun q => q)); clear hb4 hs4) | ((with_reducible refine WB.out.mono ?_); rintro e w4 ⟨A', n', cap', rfl, hb4, hs4, hbx⟩; have HK4 := Lib.hid hs4; have HB4 := Lib.hid hb4; have hqk := qcells_0 (hs4.at_ HS.out.at_ (fun q => q)); clear hb4 hs4; have HX := Lib.hid hbx; obtain ⟨x0, x1, x2, x3, x4, fx, lx⟩ := box5 hbx; clear hbx) | ((with_reducible refine WC.out.mono ?_); rintro e w4 ⟨A', n', cap', rfl, hb4, hs4, hbx⟩; have HK4 := Lib.hid hs4; have HB4 := Lib.hid hb4; have hqk := qcells_0 (hs4.at_ HS.out.at_ (fun q => q)); clear hb4 hs4; have HX := Lib.hid hbx; obtain ⟨x0, x1, x2, x3, x4, fx, lx⟩ := box5 hbx; clear hbx))))
                  refine ⟨.inr ?keep22, ?_⟩
                  case keep22 => ((first | (with_reducible exact ⟨y0, y1, y2, y3, y4⟩) | (with_reducible exact hqk) | (refine qcells_0 (Chg.at_ (S := fun _ => False) (u := wr) ?_ HS.out.at_ (fun q => q)); (repeat (first | (with_reducible refine Chg.drew ?_) | (with_reducible refine Chg.alloc ?_ _) | (with_reducible refine Chg.setCell ?_ _ _ ?_; rotate_left 1; · (intro q; have := HK4.out.size; (try dsimp only at q); omega)))); (first | (with_reducible exact HK4.out) | (with_reducible exact Chg.refl _ _)))))
                  try simp only [Act.put, List.setIfInBounds_toArray, List.set_cons_zero, List.set_cons_succ]
                  refine tree_one (i := 2) rfl ?_
                  go_wp2_with ((go_at_call 40; (first | ((with_reducible refine WA.out.mono ?_); rintro e w4 ⟨A', n', cap', rfl, hb4, hs4, hbx⟩; have HK4 := Lib.hid hs4; have HB4 := Lib.hid hb4; have hqk := qcells_0 (hs4.at_ HS.out.at_ (fun q => q)); clear hb4 hs4) | ((with_reducible refine WB.out.mono ?_); rintro e w4 ⟨A', n', cap', rfl, hb4, hs4, hbx⟩; have HK4 := Lib.hid hs4; have HB4 := Lib.hid hb4; have hqk := qcells_0 (hs4.at_ HS.out.at_ (fun q => q)); clear hb4 hs4; have HX := Lib.hid hbx; obtain ⟨x0, x1, x2, x3, x4, fx, lx⟩ := box5 hbx; clear hbx) | ((with_reducible refine WC.out.mono ?_); rintro e w4 ⟨A', n', cap', rfl, hb4, hs4, hbx⟩; have HK4 := Lib.hid hs4; have HB4 := Lib.hid hb4; have hqk := qcells_0 (hs4.at_ HS.out.at_ (fun q => q)); clear hb4 hs4; have HX := Lib.hid hbx; obtain ⟨x0, x1, x2, x3, x4, fx, lx⟩ := box5 hbx; clear hbx))))
                  refine ⟨.inr ?keep23, ?_⟩
                  case keep23 => ((first | (with_reducible exact ⟨y0, y1, y2, y3, y4⟩) | (with_reducible exact hqk) | (refine qcells_0 (Chg.at_ (S := fun _ => False) (u := wr) ?_ HS.out.at_ (fun q => q)); (repeat (first | (with_reducible refine Chg.drew ?_) | (with_reducible refine Chg.alloc ?_ _) | (with_reducible refine Chg.setCell ?_ _ _ ?_; rotate_left 1; · (intro q; have := HK4.out.size; (try dsimp only at q); omega)))); (first | (with_reducible exact HK4.out) | (with_reducible exact Chg.refl _ _)))))
                  try simp only [Act.put, List.setIfInBounds_toArray, List.set_cons_zero, List.set_cons_succ]
                  refine tree_one (i := 3) rfl ?_
                  go_wp2_with ((go_at_call 40; (first | ((with_reducible refine WA.out.mono ?_); rintro e w4 ⟨A', n', cap', rfl, hb4, hs4, hbx⟩; have HK4 := Lib.hid hs4; have HB4 := Lib.hid hb4; have hqk := qcells_0 (hs4.at_ HS.out.at_ (fun q => q)); clear hb4 hs4) | ((with_reducible refine WB.out.mono ?_); rintro e w4 ⟨A', n', cap', rfl, hb4, hs4, hbx⟩; have HK4 := Lib.hid hs4; have HB4 := Lib.hid hb4; have hqk := qcells_0 (hs4.at_ HS.out.at_ (fun q => q)); clear hb4 hs4; have HX := Lib.hid hbx; obtain ⟨x0, x1, x2, x3, x4, fx, lx⟩ := box5 hbx; clear hbx) | ((with_reducible refine WC.out.mono ?_); rintro e w4 ⟨A', n', cap', rfl, hb4, hs4, hbx⟩; have HK4 := Lib.hid hs4; have HB4 := Lib.hid hb4; have hqk := qcells_0 (hs4.at_ HS.out.at_ (fun q => q)); clear hb4 hs4; have HX := Lib.hid hbx; obtain ⟨x0, x1, x2, x3, x4, fx, lx⟩ := box5 hbx; clear hbx))))
                  refine ⟨.inr ?keep24, ?_⟩
                  case keep24 => ((first | (with_reducible exact ⟨y0, y1, y2, y3, y4⟩) | (with_reducible exact hqk) | (refine qcells_0 (Chg.at_ (S := fun _ => False) (u := wr) ?_ HS.out.at_ (fun q => q)); (repeat (first | (with_reducible refine Chg.drew ?_) | (with_reducible refine Chg.alloc ?_ _) | (with_reducible refine Chg.setCell ?_ _ _ ?_; rotate_left 1; · (intro q; have := HK4.out.size; (try dsimp only at q); omega)))); (first | (with_reducible exact HK4.out) | (with_reducible exact Chg.refl _ _)))))
                  try simp only [Act.put, List.setIfInBounds_toArray, List.set_cons_zero, List.set_cons_succ]
                  refine tree_read (i := 4) (v := ?v25) rfl (by rfl) (fun _ _ _ h => h) ?hy25 ?_
                  case hy25 => ((intro w hSw; (try dsimp only at hSw); go_simp) <;> (try with_reducible rfl))
                  try simp only [Act.put, List.setIfInBounds_toArray, List.set_cons_zero, List.set_cons_succ]
                  refine tree_read (i := 5) (v := ?v26) rfl (by rfl) (fun _ _ _ h => h) ?hy26 ?_
                  case hy26 => ((intro w hSw; (try dsimp only at hSw); go_simp) <;> (try with_reducible rfl))
                  try simp only [Act.put, List.setIfInBounds_toArray, List.set_cons_zero, List.set_cons_succ]
                  refine tree_read (i := 6) (v := ?v27) rfl (by rfl) (fun _ _ _ h => h) ?hy27 ?_
                  case hy27 => ((intro w hSw; (try dsimp only at hSw); go_simp) <;> (try with_reducible rfl))
                  try simp only [Act.put, List.setIfInBounds_toArray, List.set_cons_zero, List.set_cons_succ]
                  refine tree_read (i := 7) (v := ?v28) rfl (by rfl) (fun _ _ _ h => h) ?hy28 ?_
                  case hy28 => ((intro w hSw; (try dsimp only at hSw); go_simp) <;> (try with_reducible rfl))
                  try simp only [Act.put, List.setIfInBounds_toArray, List.set_cons_zero, List.set_cons_succ]
                  refine tree_one (i := 9) rfl ?_
                  go_wp2_with ((go_at_call 40; (first | ((with_reducible refine WA.out.mono ?_); rintro e w4 ⟨A', n', cap', rfl, hb4, hs4, hbx⟩; have HK4 := Lib.hid hs4; have HB4 := Lib.hid hb4; have hqk := qcells_0 (hs4.at_ HS.out.at_ (fun q => q)); clear hb4 hs4) | ((with_reducible refine WB.out.mono ?_); rintro e w4 ⟨A', n', cap', rfl, hb4, hs4, hbx⟩; have HK4 := Lib.hid hs4; have HB4 := Lib.hid hb4; have hqk := qcells_0 (hs4.at_ HS.out.at_ (fun q => q)); clear hb4 hs4; have HX := Lib.hid hbx; obtain ⟨x0, x1, x2, x3, x4, fx, lx⟩ := box5 hbx; clear hbx) | ((with_reducible refine WC.out.mono ?_); rintro e w4 ⟨A', n', cap', rfl, hb4, hs4, hbx⟩; have HK4 := Lib.hid hs4; have HB4 := Lib.hid hb4; have hqk := qcells_0 (hs4.at_ HS.out.at_ (fun q => q)); clear hb4 hs4; have HX := Lib.hid hbx; obtain ⟨x0, x1, x2, x3, x4, fx, lx⟩ := box5 hbx; clear hbx))))
                  refine ⟨.inr ?keep29, ?_⟩
                  case keep29 => ((first | (with_reducible exact ⟨y0, y1, y2, y3, y4⟩) | (with_reducible exact hqk) | (refine qcells_0 (Chg.at_ (S := fun _ => False) (u := wr) ?_ HS.out.at_ (fun q => q)); (repeat (first | (with_reducible refine Chg.drew ?_) | (with_reducible refine Chg.alloc ?_ _) | (with_reducible refine Chg.setCell ?_ _ _ ?_; rotate_left 1; · (intro q; have := HK4.out.size; (try dsimp only at q); omega)))); (first | (with_reducible exact HK4.out) | (with_reducible exact Chg.refl _ _)))))
                  try simp only [Act.put, List.setIfInBounds_toArray, List.set_cons_zero, List.set_cons_succ]
                  refine tree_one (i := 10) rfl ?_
                  go_wp2_with ((go_at_call 40; (first | ((with_reducible refine WA.out.mono ?_); rintro e w4 ⟨A', n', cap', rfl, hb4, hs4, hbx⟩; have HK4 := Lib.hid hs4; have HB4 := Lib.hid hb4; have hqk := qcells_0 (hs4.at_ HS.out.at_ (fun q => q)); clear hb4 hs4) | ((with_reducible refine WB.out.mono ?_); rintro e w4 ⟨A', n', cap', rfl, hb4, hs4, hbx⟩; have HK4 := Lib.hid hs4; have HB4 := Lib.hid hb4; have hqk := qcells_0 (hs4.at_ HS.out.at_ (fun q => q)); clear hb4 hs4; have HX := Lib.hid hbx; obtain ⟨x0, x1, x2, x3, x4, fx, lx⟩ := box5 hbx; clear hbx) | ((with_reducible refine WC.out.mono ?_); rintro e w4 ⟨A', n', cap', rfl, hb4, hs4, hbx⟩; have HK4 := Lib.hid hs4; have HB4 := Lib.hid hb4; have hqk := qcells_0 (hs4.at_ HS.out.at_ (fun q => q)); clear hb4 hs4; have HX := Lib.hid hbx; obtain ⟨x0, x1, x2, x3, x4, fx, lx⟩ := box5 hbx; clear hbx))))
                  refine ⟨.inr ?keep30, ?_⟩
                  case keep30 => ((first | (with_reducible exact ⟨y0, y1, y2, y3, y4⟩) | (with_reducible exact hqk) | (refine qcells_0 (Chg.at_ (S := fun _ => False) (u := wr) ?_ HS.out.at_ (fun q => q)); (repeat (first | (with_reducible refine Chg.drew ?_) | (with_reducible refine Chg.alloc ?_ _) | (with_reducible refine Chg.setCell ?_ _ _ ?_; rotate_left 1; · (intro q; have := HK4.out.size; (try dsimp only at q); omega)))); (first | (with_reducible exact HK4.out) | (with_reducible exact Chg.refl _ _)))))
                  try simp only [Act.put, List.setIfInBounds_toArray, List.set_cons_zero, List.set_cons_succ]
                  refine tree_one (i := 11) rfl ?_
                  go_wp2_with ((go_at_call 40; (first | ((with_reducible refine WA.out.mono ?_); rintro e w4 ⟨A', n', cap', rfl, hb4, hs4, hbx⟩; have HK4 := Lib.hid hs4; have HB4 := Lib.hid hb4; have hqk := qcells_0 (hs4.at_ HS.out.at_ (fun q => q)); clear hb4 hs4) | ((with_reducible refine WB.out.mono ?_); rintro e w4 ⟨A', n', cap', rfl, hb4, hs4, hbx⟩; have HK4 := Lib.hid hs4; have HB4 := Lib.hid hb4; have hqk := qcells_0 (hs4.at_ HS.out.at_ (fun q => q)); clear hb4 hs4; have HX := Lib.hid hbx; obtain ⟨x0, x1, x2, x3, x4, fx, lx⟩ := box5 hbx; clear hbx) | ((with_reducible refine WC.out.mono ?_); rintro e w4 ⟨A', n', cap', rfl, hb4, hs4, hbx⟩; have HK4 := Lib.hid hs4; have HB4 := Lib.hid hb4; have hqk := qcells_0 (hs4.at_ HS.out.at_ (fun q => q)); clear hb4 hs4; have HX := Lib.hid hbx; obtain ⟨x0, x1, x2, x3, x4, fx, lx⟩ := box5 hbx; clear hbx))))
                  refine ⟨.inr ?keep31, ?_⟩
                  case keep31 => ((first | (with_reducible exact ⟨y0, y1, y2, y3, y4⟩) | (with_reducible exact hqk) | (refine qcells_0 (Chg.at_ (S := fun _ => False) (u := wr) ?_ HS.out.at_ (fun q => q)); (repeat (first | (with_reducible refine Chg.drew ?_) | (with_reducible refine Chg.alloc ?_ _) | (with_reducible refine Chg.setCell ?_ _ _ ?_; rotate_left 1; · (intro q; have := HK4.out.size; (try dsimp only at q); omega)))); (first | (with_reducible exact HK4.out) | (with_reducible exact Chg.refl _ _)))))
                  try simp only [Act.put, List.setIfInBounds_toArray, List.set_cons_zero, List.set_cons_succ]
                  refine tree_end ?_
                  go_wp2_with fail
                  go_meet
                  case rel => (first | (have hxx := HX.out; exact ⟨_, A', n', cap', rfl, rfl, rfl, box_laid hxx q' A' n' cap', HK4.out.then_ (box_chgN w4 _ q' A' n' cap') (fun i hi e => by (try dsimp only at e); omega), HB4.out.laidbox hxx (box_chgN w4 _ q' A' n' cap'), by omega⟩) | exact ⟨_, A', n', cap', rfl, rfl, rfl, at_new w4 _, HK4.out.alloc _, HB4.out.chg ((Chg.refl (fun _ => False) w4).alloc _) (fun _ _ q => q), HK4.out.size⟩)
              case rest =>
                obtain ⟨g, A', n', cap', rfl, rfl, rfl, hat, hs4, hb4, hge⟩ := hcut
                obtain ⟨x0, x1, x2, x3, x4⟩ := qcells_0 hat
                clear WA WB WC hat
                have HB4 := Lib.hid hb4
                have HS4 := Lib.hid (HS.out.same hs4)
                have HK4 := Lib.hid hs4
                clear hb4 hs4 y0 y1 y2 y3 y4
                obtain ⟨z0, z1, z2, z3, z4⟩ := qcells_0 HS4.out.at_
                have fz := frozen_at HS4.out.at_
                have hYl := HS4.out.ylt
                go_wp2_with fail
                have HZ := Lib.hid (bytes_zeroK (((((wc.setCell ⟨Y, 0, none⟩ (.int .i64 q'.win)).setCell ⟨Y, 1, none⟩ (.int .i64 q'.cr)).setCell ⟨Y, 2, none⟩ (.slice A' n' cap')).setCell ⟨Y, 3, none⟩ (.bool (q'.cl && !q'.cn))).setCell ⟨Y, 4, none⟩ (.bool q'.cn)) m wc.heap.size (by omega) (by simp))
                have HM := Lib.hid (And.intro (box_chg wc Y q' A' n' cap' (.cells (zeroB m) 5)) (box_at HS4.out.at_ q' A' n' cap' (.cells (zeroB m) 5)))
                generalize (((((wc.setCell ⟨Y, 0, none⟩ (.int .i64 q'.win)).setCell ⟨Y, 1, none⟩ (.int .i64 q'.cr)).setCell ⟨Y, 2, none⟩ (.slice A' n' cap')).setCell ⟨Y, 3, none⟩ (.bool (q'.cl && !q'.cn))).setCell ⟨Y, 4, none⟩ (.bool q'.cn)).alloc (.cells (zeroB m) 5) = w5 at *
                have HS5 := Lib.hid (HS.out.laid HK4.out HB4.out HM.out.1 HM.out.2)
                clear HM z0 z1 z2 z3 z4 fz hYl x0 x1 x2 x3 x4
                refine (pwrite_v q' kk vv _ m m (List.replicate m 0) HS5.out.pipe HZ.out HQ.out.2.2 HQ.out.2.1 HQ.out.1).mono ?_
                rintro e w6 ⟨rfl, Rq, hp6, hRq, hk6⟩
                obtain ⟨R6, hst6⟩ := HS5.out.used hk6 hp6.pipe hRq (by rw [← HQ.out.1]; exact HS.out.op)
                have HS6 := Lib.hid hst6
                clear hp6 hk6 hst6 hRq HZ hmk
                go_wp2
                go_roundg (len - (i + 1))
                case measure => have := HG.out; omega
                case rel => exact ⟨i + 1, by omega, by rfl, by go_num, R6, Rq, q', A', n', cap', HS6.out⟩
        · as_aux_lemma =>
            obtain ⟨q', hq'⟩ : ∃ q', q.grant m = q' := ⟨_, rfl⟩
            obtain ⟨vv, hvv⟩ : ∃ vv, q.grE m = vv := ⟨_, rfl⟩
            have HQ := Lib.hid (And.intro hq' hvv)
            clear hq' hvv
            go_wp2_with fail
            refine (qgrant_q q' vv m HS.out.bytes HS.out.pipe.pipe.ok (by omega) HQ.out.2 HQ.out.1).mono ?_
            rintro e w4 ⟨A', n', cap', rfl, hb4, hs4⟩
            have HB4 := Lib.hid hb4
            have HS4 := Lib.hid (HS.out.same hs4)
            have HK4 := Lib.hid hs4
            clear hb4 hs4 y0 y1 y2 y3 y4
            obtain ⟨z0, z1, z2, z3, z4⟩ := qcells_0 HS4.out.at_
            have fz := frozen_at HS4.out.at_
            have hYl := HS4.out.ylt
            go_wp2_with fail
            have HM := Lib.hid (And.intro (box_chg w4 Y q' A' n' cap' (.cells (qcells q' A' n' cap').toArray 83)) (box_at HS4.out.at_ q' A' n' cap' (.cells (qcells q' A' n' cap').toArray 83)))
            unfold qcells at HM
            generalize (((((w4.setCell ⟨Y, 0, none⟩ (.int .i64 q'.win)).setCell ⟨Y, 1, none⟩ (.int .i64 q'.cr)).setCell ⟨Y, 2, none⟩ (.slice A' n' cap')).setCell ⟨Y, 3, none⟩ (.bool (q'.cl && !q'.cn))).setCell ⟨Y, 4, none⟩ (.bool q'.cn)).alloc (.cells [Value.int .i64 q'.win, .int .i64 q'.cr, .slice A' n' cap', .bool (q'.cl && !q'.cn), .bool q'.cn].toArray 83) = w5 at *
            have HS5 := Lib.hid (HS.out.laid HK4.out HB4.out HM.out.1 HM.out.2)
            clear HM z0 z1 z2 z3 z4 fz hYl
            refine (pgrant_v q' vv m HS5.out.pipe (by omega) HQ.out.2 HQ.out.1).mono ?_
            rintro e w6 ⟨rfl, hp6, hk6⟩
            obtain ⟨R6, hst6⟩ := HS5.out.used hk6 hp6.pipe (fun j q => .inl q) (by rw [← HQ.out.1]; exact grant_op _ HS.out.op)
            have HS6 := Lib.hid hst6
            clear hp6 hk6 hst6
            go_wp2
            go_roundg (len - (i + 1))
            case measure => have := HG.out; omega
            case rel => exact ⟨i + 1, by omega, by rfl, by go_num, R6, Rp, q', A', n', cap', HS6.out⟩
      · have hii : ¬ (i : Int) < len := by omega
        obtain rfl : i = len := by omega
        rcases (show who % 3 = 0 ∨ who % 3 = 1 ∨ who % 3 = 2 by omega) with h3 | h3 | h3
        · as_aux_lemma =>
            go_wp2_with fail
            refine (ses_gone ⟨0, [], 2, 1, true, 1, [⟨pb, Rp, q.cancel, 1, 2, false⟩]⟩ 1 HS.out.ses rfl).mono ?_
            rintro e w6 ⟨R6, rfl, hses, _⟩
            have H6 := Lib.hid hses
            have HO := Lib.hid HS.out.op
            clear hses y0 y1 y2 y3 y4
            go_wp2_with fail
            refine (pread_v q.cancel [] 20 1 (H6.out.pipe (i := 0) rfl) (cancel_rd HO.out).2.1 (cancel_rd HO.out).1 (cancel_rd HO.out).2.2).mono ?_
            rintro e w7 ⟨A7, c7, rfl, _, hp7, hk7⟩
            obtain ⟨R7, hses, _⟩ := H6.out.used (i := 0) rfl hk7 hp7.pipe (fun j q => .inl q)
            have H7 := Lib.hid hses
            clear hses hp7 hk7
            go_wp2_with fail
            refine (pwrite_v q.cancel 0 20 _ 1 1 [1] ((H7.out.keep ((Chg.refl _ _).alloc _)).pipe (i := 0) rfl) (bytes_new _ _ _ 1 [1] _ rfl rfl (by unfold maxLen; omega)) (by show (q.cancel.wrN 1 : Int) = 0; rw [(cancel_wr HO.out).2.1]; rfl) (cancel_wr HO.out).1 (cancel_wr HO.out).2.2).mono ?_
            rintro e w8 ⟨rfl, Rq, hp8, hRq, hk8⟩
            obtain ⟨R8, hses, _⟩ := (H7.out.keep ((Chg.refl _ _).alloc _)).used (i := 0) rfl hk8 hp8.pipe hRq
            have H8 := Lib.hid hses
            clear hses hp8 hk8 hRq
            go_wp2_with fail
            refine (example42_ok _).mono ?_
            rintro e w9 ⟨rfl, hk⟩
            have HE := Lib.hid (H8.out.same.trans hk)
            clear hk
            go_wp2
            go_ret
            exact ⟨rfl, HE.out⟩
        · as_aux_lemma =>
            go_wp2_with fail
            refine (ses_gone ⟨1, [tp], 0, 1, true, 1, [⟨pb, Rp, q.cancel, 1, 2, false⟩]⟩ 2 HS.out.ses rfl).mono ?_
            rintro e w6 ⟨R6, rfl, hses, _⟩
            have H6 := Lib.hid hses
            have HO := Lib.hid HS.out.op
            clear hses y0 y1 y2 y3 y4
            go_wp2_with fail
            refine (pread_v q.cancel [] 20 1 (H6.out.pipe (i := 0) rfl) (cancel_rd HO.out).2.1 (cancel_rd HO.out).1 (cancel_rd HO.out).2.2).mono ?_
            rintro e w7 ⟨A7, c7, rfl, _, hp7, hk7⟩
            obtain ⟨R7, hses, _⟩ := H6.out.used (i := 0) rfl hk7 hp7.pipe (fun j q => .inl q)
            have H7 := Lib.hid hses
            clear hses hp7 hk7
            go_wp2_with fail
            refine (pwrite_v q.cancel 0 20 _ 1 1 [1] ((H7.out.keep ((Chg.refl _ _).alloc _)).pipe (i := 0) rfl) (bytes_new _ _ _ 1 [1] _ rfl rfl (by unfold maxLen; omega)) (by show (q.cancel.wrN 1 : Int) = 0; rw [(cancel_wr HO.out).2.1]; rfl) (cancel_wr HO.out).1 (cancel_wr HO.out).2.2).mono ?_
            rintro e w8 ⟨rfl, Rq, hp8, hRq, hk8⟩
            obtain ⟨R8, hses, _⟩ := (H7.out.keep ((Chg.refl _ _).alloc _)).used (i := 0) rfl hk8 hp8.pipe hRq
            have H8 := Lib.hid hses
            clear hses hp8 hk8 hRq
            go_wp2_with fail
            refine (example42_ok _).mono ?_
            rintro e w9 ⟨rfl, hk⟩
            have HE := Lib.hid (H8.out.same.trans hk)
            clear hk
            go_wp2
            go_ret
            exact ⟨rfl, HE.out⟩
        · as_aux_lemma =>
            go_wp2_with fail
            refine (ses_gone (flC q pb Rp) 3 HS.out.ses rfl).mono ?_
            rintro e w6 ⟨R6, rfl, hses, hown⟩
            have H6 := Lib.hid hses
            have hny6 := hown.not HS.out.ylt HS.out.ny
            have hat6 := hown.chg.at_ HS.out.at_ HS.out.ny
            have HB6 := Lib.hid (bytes_wrote HS.out.bytes hown.chg hown.new)
            have HAT := Lib.hid hat6
            clear hses hown hny6 hat6 y0 y1 y2 y3 y4
            obtain ⟨y0, y1, y2, y3, y4⟩ := qcells_0 HAT.out
            go_wp2_with fail
            refine region_path (S := (fun w' => w'.cell? ⟨Y, 0, none⟩ = some (.int .i64 q.win) ∧ w'.cell? ⟨Y, 1, none⟩ = some (.int .i64 q.cr) ∧ w'.cell? ⟨Y, 2, none⟩ = some (.slice A n cap) ∧ w'.cell? ⟨Y, 3, none⟩ = some (.bool (q.cl && !q.cn)) ∧ w'.cell? ⟨Y, 4, none⟩ = some (.bool q.cn))) 99 [(0, true), (2, true), (1, false), (3, false), (4, true), (5, true), (6, true), (8, true), (7, false), (9, false), (10, true), (11, true), (12, true), (13, false), (14, true), (15, true)] (by kernel_rfl) (by kernel_rfl) (by kernel_rfl) ⟨y0, y1, y2, y3, y4⟩ ?_
            refine path_read (i := 0) (v := ?v32_0) rfl (by rfl) (fun _ _ _ h => h) ?hy32_0 ?_
            case hy32_0 => ((intro w hSw; (try dsimp only at hSw); go_simp) <;> (try with_reducible rfl))
            try simp only [Act.put, List.setIfInBounds_toArray, List.set_cons_zero, List.set_cons_succ]
            refine path_read (i := 2) (v := ?v32_2) rfl (by rfl) (fun _ _ _ h => h) ?hy32_2 ?_
            case hy32_2 => ((intro w hSw; (try dsimp only at hSw); go_simp) <;> (try with_reducible rfl))
            try simp only [Act.put, List.setIfInBounds_toArray, List.set_cons_zero, List.set_cons_succ]
            refine path_do (i := 1) rfl ?_
            go_wp2_with ((first | (go_at_call 44; refine (pbuffered_v q.bs.length ((H6.out.keep (Chg.refl (fun _ => False) w6).drew).pipe (i := 0) rfl) rfl).mono ?_; rintro e wq ⟨rfl, rfl⟩) | (go_at_call 45; refine (qbuffered_q (HB6.out.chg (Chg.refl (fun _ => False) w6).drew (fun _ _ q => q))).mono ?_; rintro e w7 ⟨rfl, hs7⟩; have HK := Lib.hid ((Chg.refl (fun _ => False) w6).drew.trans hs7); have hqc := qcells_0 (HK.out.at_ HAT.out (fun q => q)); clear hs7) | (go_at_call 46; refine (pcredit_v q.cr ((H6.out.keep HK.out).pipe (i := 0) rfl) rfl).mono ?_; rintro e wq ⟨rfl, rfl⟩) | (go_at_call 47; refine (qcredit_q q A n cap _).mono ?_; rintro e w8 ⟨rfl, hs8⟩; have HK := Lib.hid (HK.out.trans hs8); have hqc := qcells_0 (HK.out.at_ HAT.out (fun q => q)); clear hs8) | (go_at_call 11; refine (example42_ok _).mono ?_; rintro e w9 ⟨rfl, hs9⟩; have HK := Lib.hid (HK.out.trans hs9); have hqc := qcells_0 (HK.out.at_ HAT.out (fun q => q)); clear hs9)))
            refine ⟨.inr ?keep32_1, ?_⟩
            case keep32_1 => ((first | exact ⟨y0, y1, y2, y3, y4⟩ | exact hqc))
            try simp only [Act.put, List.setIfInBounds_toArray, List.set_cons_zero, List.set_cons_succ]
            refine path_do (i := 3) rfl ?_
            go_wp2_with ((first | (go_at_call 44; refine (pbuffered_v q.bs.length ((H6.out.keep (Chg.refl (fun _ => False) w6).drew).pipe (i := 0) rfl) rfl).mono ?_; rintro e wq ⟨rfl, rfl⟩) | (go_at_call 45; refine (qbuffered_q (HB6.out.chg (Chg.refl (fun _ => False) w6).drew (fun _ _ q => q))).mono ?_; rintro e w7 ⟨rfl, hs7⟩; have HK := Lib.hid ((Chg.refl (fun _ => False) w6).drew.trans hs7); have hqc := qcells_0 (HK.out.at_ HAT.out (fun q => q)); clear hs7) | (go_at_call 46; refine (pcredit_v q.cr ((H6.out.keep HK.out).pipe (i := 0) rfl) rfl).mono ?_; rintro e wq ⟨rfl, rfl⟩) | (go_at_call 47; refine (qcredit_q q A n cap _).mono ?_; rintro e w8 ⟨rfl, hs8⟩; have HK := Lib.hid (HK.out.trans hs8); have hqc := qcells_0 (HK.out.at_ HAT.out (fun q => q)); clear hs8) | (go_at_call 11; refine (example42_ok _).mono ?_; rintro e w9 ⟨rfl, hs9⟩; have HK := Lib.hid (HK.out.trans hs9); have hqc := qcells_0 (HK.out.at_ HAT.out (fun q => q)); clear hs9)))
            refine ⟨.inr ?keep32_3, ?_⟩
            case keep32_3 => ((first | exact ⟨y0, y1, y2, y3, y4⟩ | exact hqc))
            try simp only [Act.put, List.setIfInBounds_toArray, List.set_cons_zero, List.set_cons_succ]
            refine path_read (i := 4) (v := ?v32_4) rfl (by rfl) (fun _ _ _ h => h) ?hy32_4 ?_
            case hy32_4 => ((intro w hSw; (try dsimp only at hSw); go_simp) <;> (try with_reducible rfl))
            try simp only [Act.put, List.setIfInBounds_toArray, List.set_cons_zero, List.set_cons_succ]
            refine path_read (i := 5) (v := ?v32_5) rfl (by rfl) (fun _ _ _ h => h) ?hy32_5 ?_
            case hy32_5 => ((intro w hSw; (try dsimp only at hSw); go_simp) <;> (try with_reducible rfl))
            try simp only [Act.put, List.setIfInBounds_toArray, List.set_cons_zero, List.set_cons_succ]
            refine path_read (i := 6) (v := ?v32_6) rfl (by rfl) (fun _ _ _ h => h) ?hy32_6 ?_
            case hy32_6 => ((intro w hSw; (try dsimp only at hSw); go_simp) <;> (try with_reducible rfl))
            try simp only [Act.put, List.setIfInBounds_toArray, List.set_cons_zero, List.set_cons_succ]
            refine path_read (i := 8) (v := ?v32_8) rfl (by rfl) (fun _ _ _ h => h) ?hy32_8 ?_
            case hy32_8 => ((intro w hSw; (try dsimp only at hSw); go_simp) <;> (try with_reducible rfl))
            try simp only [Act.put, List.setIfInBounds_toArray, List.set_cons_zero, List.set_cons_succ]
            refine path_do (i := 7) rfl ?_
            go_wp2_with ((first | (go_at_call 44; refine (pbuffered_v q.bs.length ((H6.out.keep (Chg.refl (fun _ => False) w6).drew).pipe (i := 0) rfl) rfl).mono ?_; rintro e wq ⟨rfl, rfl⟩) | (go_at_call 45; refine (qbuffered_q (HB6.out.chg (Chg.refl (fun _ => False) w6).drew (fun _ _ q => q))).mono ?_; rintro e w7 ⟨rfl, hs7⟩; have HK := Lib.hid ((Chg.refl (fun _ => False) w6).drew.trans hs7); have hqc := qcells_0 (HK.out.at_ HAT.out (fun q => q)); clear hs7) | (go_at_call 46; refine (pcredit_v q.cr ((H6.out.keep HK.out).pipe (i := 0) rfl) rfl).mono ?_; rintro e wq ⟨rfl, rfl⟩) | (go_at_call 47; refine (qcredit_q q A n cap _).mono ?_; rintro e w8 ⟨rfl, hs8⟩; have HK := Lib.hid (HK.out.trans hs8); have hqc := qcells_0 (HK.out.at_ HAT.out (fun q => q)); clear hs8) | (go_at_call 11; refine (example42_ok _).mono ?_; rintro e w9 ⟨rfl, hs9⟩; have HK := Lib.hid (HK.out.trans hs9); have hqc := qcells_0 (HK.out.at_ HAT.out (fun q => q)); clear hs9)))
            refine ⟨.inr ?keep32_7, ?_⟩
            case keep32_7 => ((first | exact ⟨y0, y1, y2, y3, y4⟩ | exact hqc))
            try simp only [Act.put, List.setIfInBounds_toArray, List.set_cons_zero, List.set_cons_succ]
            refine path_do (i := 9) rfl ?_
            go_wp2_with ((first | (go_at_call 44; refine (pbuffered_v q.bs.length ((H6.out.keep (Chg.refl (fun _ => False) w6).drew).pipe (i := 0) rfl) rfl).mono ?_; rintro e wq ⟨rfl, rfl⟩) | (go_at_call 45; refine (qbuffered_q (HB6.out.chg (Chg.refl (fun _ => False) w6).drew (fun _ _ q => q))).mono ?_; rintro e w7 ⟨rfl, hs7⟩; have HK := Lib.hid ((Chg.refl (fun _ => False) w6).drew.trans hs7); have hqc := qcells_0 (HK.out.at_ HAT.out (fun q => q)); clear hs7) | (go_at_call 46; refine (pcredit_v q.cr ((H6.out.keep HK.out).pipe (i := 0) rfl) rfl).mono ?_; rintro e wq ⟨rfl, rfl⟩) | (go_at_call 47; refine (qcredit_q q A n cap _).mono ?_; rintro e w8 ⟨rfl, hs8⟩; have HK := Lib.hid (HK.out.trans hs8); have hqc := qcells_0 (HK.out.at_ HAT.out (fun q => q)); clear hs8) | (go_at_call 11; refine (example42_ok _).mono ?_; rintro e w9 ⟨rfl, hs9⟩; have HK := Lib.hid (HK.out.trans hs9); have hqc := qcells_0 (HK.out.at_ HAT.out (fun q => q)); clear hs9)))
            refine ⟨.inr ?keep32_9, ?_⟩
            case keep32_9 => ((first | exact ⟨y0, y1, y2, y3, y4⟩ | exact hqc))
            try simp only [Act.put, List.setIfInBounds_toArray, List.set_cons_zero, List.set_cons_succ]
            refine path_read (i := 10) (v := ?v32_10) rfl (by rfl) (fun _ _ _ h => h) ?hy32_10 ?_
            case hy32_10 => ((intro w hSw; (try dsimp only at hSw); go_simp) <;> (try with_reducible rfl))
            try simp only [Act.put, List.setIfInBounds_toArray, List.set_cons_zero, List.set_cons_succ]
            refine path_read (i := 11) (v := ?v32_11) rfl (by rfl) (fun _ _ _ h => h) ?hy32_11 ?_
            case hy32_11 => ((intro w hSw; (try dsimp only at hSw); go_simp) <;> (try with_reducible rfl))
            try simp only [Act.put, List.setIfInBounds_toArray, List.set_cons_zero, List.set_cons_succ]
            refine path_read (i := 12) (v := ?v32_12) rfl (by rfl) (fun _ _ _ h => h) ?hy32_12 ?_
            case hy32_12 => ((intro w hSw; (try dsimp only at hSw); go_simp) <;> (try with_reducible rfl))
            try simp only [Act.put, List.setIfInBounds_toArray, List.set_cons_zero, List.set_cons_succ]
            refine path_do (i := 13) rfl ?_
            go_wp2_with ((first | (go_at_call 44; refine (pbuffered_v q.bs.length ((H6.out.keep (Chg.refl (fun _ => False) w6).drew).pipe (i := 0) rfl) rfl).mono ?_; rintro e wq ⟨rfl, rfl⟩) | (go_at_call 45; refine (qbuffered_q (HB6.out.chg (Chg.refl (fun _ => False) w6).drew (fun _ _ q => q))).mono ?_; rintro e w7 ⟨rfl, hs7⟩; have HK := Lib.hid ((Chg.refl (fun _ => False) w6).drew.trans hs7); have hqc := qcells_0 (HK.out.at_ HAT.out (fun q => q)); clear hs7) | (go_at_call 46; refine (pcredit_v q.cr ((H6.out.keep HK.out).pipe (i := 0) rfl) rfl).mono ?_; rintro e wq ⟨rfl, rfl⟩) | (go_at_call 47; refine (qcredit_q q A n cap _).mono ?_; rintro e w8 ⟨rfl, hs8⟩; have HK := Lib.hid (HK.out.trans hs8); have hqc := qcells_0 (HK.out.at_ HAT.out (fun q => q)); clear hs8) | (go_at_call 11; refine (example42_ok _).mono ?_; rintro e w9 ⟨rfl, hs9⟩; have HK := Lib.hid (HK.out.trans hs9); have hqc := qcells_0 (HK.out.at_ HAT.out (fun q => q)); clear hs9)))
            refine ⟨.inr ?keep32_13, ?_⟩
            case keep32_13 => ((first | exact ⟨y0, y1, y2, y3, y4⟩ | exact hqc))
            try simp only [Act.put, List.setIfInBounds_toArray, List.set_cons_zero, List.set_cons_succ]
            refine path_read (i := 14) (v := ?v32_14) rfl (by rfl) (fun _ _ _ h => h) ?hy32_14 ?_
            case hy32_14 => ((intro w hSw; (try dsimp only at hSw); go_simp) <;> (try with_reducible rfl))
            try simp only [Act.put, List.setIfInBounds_toArray, List.set_cons_zero, List.set_cons_succ]
            refine path_read (i := 15) (v := ?v32_15) rfl (by rfl) (fun _ _ _ h => h) ?hy32_15 ?_
            case hy32_15 => ((intro w hSw; (try dsimp only at hSw); go_simp) <;> (try with_reducible rfl))
            try simp only [Act.put, List.setIfInBounds_toArray, List.set_cons_zero, List.set_cons_succ]
            refine path_end ?_
            go_wp2
            go_ret
            exact ⟨rfl, H6.out.same.trans HK.out⟩
end Go.Proofs.Ytndldjopgbhphaa
