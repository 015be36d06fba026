/- agree of compositorlaw31, the other calls. -/
import Derived.Test.YtchodbcfncdmaaaAgree31
set_option linter.unusedVariables false
set_option linter.unusedSimpArgs false
namespace Go.Proofs.Ytchodbcfncdmaaa
open Go.RowKit

set_option maxRecDepth 100000 in
set_option maxHeartbeats 8000000 in
theorem agree_forget (A : Option Addr) (B N n cap base : Nat) (L : SLog) (l : List Ent) (x : LOp) (w : World) (hr : RelR L N l) (hL : LogAt w B L) (h : SlotsAt w base A n l) (hBb : B < base) (hb : base ≤ w.heap.size) (hx : x.ok) (hN : N ≤ 700) (hk : x.kind = 1) :
    Calls Try.prog 20 #[.pointer (some ⟨B, 0, none⟩), .agg #[.int .i64 N, .slice A n cap], .int .u32 N, .agg x.cells.toArray] w fun e w' => AgreeRet B base N w e w' := by
  obtain ⟨k, m, c, s, e, ms, bk⟩ := x
  simp only at hk
  subst hk
  have hBw : B < w.heap.size := lt_of_at hL.1
  have hn1 : n ≤ 1000 := by have := hr.len; have := h.1; omega
  have HR := Lib.hid hr
  have HL := Lib.hid hL
  have HA := Lib.hid h
  clear hr hL h hx
  simp only [LOp.cells]
  go_enter Try.func20, Try.ntmps20
  go_wp2_with fail
  have hs0 := (((Chg.refl (fun _ => False) w).alloc (.cells #[.int .i64 N, .slice A n cap] 42)).alloc (.cells #[.int .i64 1, .int .i64 m, .int .i64 c, .int .i64 s, .int .i64 e, .int .i64 ms, .int .u32 bk] 25)).alloc (.cells #[.int .i64 0, .slice none 0 0] 42)
  have hP0 : ((((w.alloc (.cells #[.int .i64 N, .slice A n cap] 42)).alloc (.cells #[.int .i64 1, .int .i64 m, .int .i64 c, .int .i64 s, .int .i64 e, .int .i64 ms, .int .u32 bk] 25)).alloc (.cells #[.int .i64 0, .slice none 0 0] 42))).heap[w.heap.size]? = some (.cells #[.int .i64 N, .slice A n cap] 42 (0, 0)) := at_alloc (at_alloc (at_new _ _))
  have hO0 := at_alloc (o' := .cells #[.int .i64 0, .slice none 0 0] 42) (heap_alloc2_new w (.cells #[.int .i64 N, .slice A n cap] 42) (.cells #[.int .i64 1, .int .i64 m, .int .i64 c, .int .i64 s, .int .i64 e, .int .i64 ms, .int .u32 bk] 25))
  have hR0 := heap_alloc3_new w (.cells #[.int .i64 N, .slice A n cap] 42) (.cells #[.int .i64 1, .int .i64 m, .int .i64 c, .int .i64 s, .int .i64 e, .int .i64 ms, .int .u32 bk] 25) (.cells #[.int .i64 0, .slice none 0 0] 42)
  have hsz0 : w.heap.size + 3 = ((((w.alloc (.cells #[.int .i64 N, .slice A n cap] 42)).alloc (.cells #[.int .i64 1, .int .i64 m, .int .i64 c, .int .i64 s, .int .i64 e, .int .i64 ms, .int .u32 bk] 25)).alloc (.cells #[.int .i64 0, .slice none 0 0] 42))).heap.size := by simp
  generalize ((w.alloc (.cells #[.int .i64 N, .slice A n cap] 42)).alloc (.cells #[.int .i64 1, .int .i64 m, .int .i64 c, .int .i64 s, .int .i64 e, .int .i64 ms, .int .u32 bk] 25)).alloc (.cells #[.int .i64 0, .slice none 0 0] 42) = wr at *
  refine (forget_ok _ _ _ L (HL.out.chg hs0 (fun q => q))).mono ?_
  rintro e1 w1 ⟨rfl, hL1, hc1⟩
  have hA1 := (HA.out.chg hs0 (fun _ _ _ _ q => q)).chg hc1 (fun b _ _ ⟨cur, fr, ht⟩ => ne_of_type ht (HL.out.chg hs0 (fun q => q)).1 (by decide))
  have hP1 := hc1.at_ hP0 (by omega)
  have hO1 := hc1.at_ hO0 (by omega)
  have hR1 := hc1.at_ hR0 (by omega)
  have q0 := cell_at (C := [.int .i64 N, .slice A n cap]) hP1 0
  have q1 := cell_at (C := [.int .i64 N, .slice A n cap]) hP1 1
  have o2 := cell_at (C := [.int .i64 1, .int .i64 m, .int .i64 c, .int .i64 s, .int .i64 e, .int .i64 ms, .int .u32 bk]) hO1 2
  simp only [List.getElem?_cons_zero, List.getElem?_cons_succ] at q0 q1 o2
  have hsz1 : wr.heap.size ≤ w1.heap.size := hc1.size
  have HL1 := Lib.hid hL1
  have HA1 := Lib.hid hA1
  have HR1 := Lib.hid hR1
  have HC1 := Lib.hid ((Chg.of_same hs0).trans hc1)
  clear hs0 hP0 hO0 hR0 hL1 hc1 hA1 hP1 hO1 hR1
  go_wp2_with fail
  refine (rForget_ok A N n cap base l c w1 HA1.out (by omega) hn1).mono ?_
  rintro e2 w2 ⟨A2, n2, cap2, rfl, hA2, hs2⟩
  have hR2 := hs2.at_ HR1.out (fun q => q)
  have r0 := cell_at (C := [.int .i64 0, .slice none 0 0]) hR2 0
  have r1 := cell_at (C := [.int .i64 0, .slice none 0 0]) hR2 1
  simp only [List.getElem?_cons_zero, List.getElem?_cons_succ] at r0 r1
  have fR := frozen_at hR2
  have HR2 := Lib.hid hR2
  have HA2 := Lib.hid hA2
  have HL2 := Lib.hid (HL1.out.chg hs2 (fun q => q))
  have HC2 := Lib.hid (HC1.out.trans (Chg.of_same hs2))
  clear hA2 hs2 hR2
  go_wp2
  refine bodyPost_ret (results_cell_tmp2 Try.results20 rfl (run_load_rlog (a := .int .i64 N) (c := .slice A2 n2 cap2) ?_)) rfl ⟨L.forget c, N, rForget l c, A2, n2, cap2, rfl, HR.out.forget c, Nat.le_refl _, ?_, ?_, ?_⟩
  · refine at_setCell (C := [.int .i64 N, .slice none 0 0]) _ ?_
    refine at_setCell (C := [.int .i64 0, .slice none 0 0]) _ ?_
    exact HR2.out
  · exact HL2.out.chg (chg_set2 _ _ (Chg.refl _ _)) (by omega)
  · exact HA2.out.chg (chg_set2 _ _ (Chg.refl _ _)) (fun b _ _ ⟨cur, fr, ht⟩ => ne_of_type ht HR2.out (by decide))
  · refine Chg.setCell (Chg.setCell ?_ _ _ (fun q => by simp at q; omega)) _ _ (fun q => by simp at q; omega)
    exact HC2.out
end Go.Proofs.Ytchodbcfncdmaaa
