/- The walk of DndRuns: for all arguments it returns true and leaves what was there as it was. (Printed by runs43.py.) -/
import Derived.Test.YteolilggeaffaaaPk51
import Derived.Test.YteolilggeaffaaaWanx43
import Derived.WalkMore
import Derived.Deep.LoopGhost
set_option linter.unusedVariables false
set_option linter.unusedSimpArgs false
set_option maxRecDepth 100000
namespace Go.Proofs.Yteolilggeaffaaa
open Go.RowKit

set_option maxHeartbeats 16000000 in
theorem DndRuns_walk (A : Option Addr) (len cap : Nat) (l : List DOp) (w : World) (h : DOpsAt w A len l) :
    Calls Try.prog 5 #[.slice A len cap] w fun e w' => e = .returned (.bool true) ∧ Same w w' := by
  have HO := Lib.hid h
  have hlm := h.2.2
  unfold maxLen at hlm
  clear h
  go_enter Try.func5, Try.ntmps5
  go_wp2_with fail
  refine (lq_start _).mono ?_
  rintro e w1 ⟨sb, lb, b, F, rfl, hl⟩
  have HL := Lib.hid hl
  clear hl
  go_wp2_with fail
  refine (light43_ok A len cap l _ (HO.out.same HL.out.same)).mono ?_
  rintro e w2 ⟨v, rfl, rfl, hlt⟩
  cases v
  · clear hlt
    go_wp2_with fail
    refine (example43_ok _).mono ?_
    rintro e w9 ⟨rfl, hs⟩
    have HS9 := Lib.hid hs
    clear hs
    go_wp2
    go_ret
    exact ⟨rfl, HL.out.same.trans HS9.out⟩
  · have hl40 := (hlt rfl).1
    have HLT := Lib.hid (hlt rfl).2
    clear hlt
    go_wp2_with fail
    refine (mnew_ok _).mono ?_
    rintro e w2 ⟨rfl, hs2⟩
    have HL := Lib.hid (HL.out.keep hs2)
    clear hs2
    go_wp2_with fail
    refine (rNew_ok _).mono ?_
    rintro e w3 ⟨rfl, hs3⟩
    have HL := Lib.hid (HL.out.keep hs3)
    clear hs3
    have e6 : (w3.alloc (.cells MD.zero.cells.toArray 56)).heap.size = w3.heap.size + 1 := by simp
    have HI : Hid (RunI w ((((w3.alloc (.cells MD.zero.cells.toArray 56)).alloc (.cells #[.int .i64 0, .slice none 0 0] 60)).setRow w3.heap.size MD.zero.cells.toArray).setRow (w3.heap.size + 1) #[.int .i64 0, .slice none 0 0]) F sb lb b w3.heap.size (w3.heap.size + 1) SLog.new DSt.new 0 MD.zero [] 0 none 0 0 []) := Lib.hid ⟨HL.out.keep ((((((Chg.refl _ _).alloc _).alloc _).setRow _ _ (fun q => absurd q (Nat.lt_irrefl _))).setRow _ _ (fun q => by omega))), ((((VarAt.new _ _ _).alloc _).put _).set _ (by omega)), (((VarAt.newk (by simp)).set _ (by omega)).put _), rd_new _ _, ⟨RelR.new, ⟨rfl, fun q => absurd q (by decide)⟩, fun _ _ _ q => absurd q (by decide)⟩, fun q => absurd (HL.out.lo _ q).2 (Nat.lt_irrefl _), fun q => by have := (HL.out.lo _ q).2; omega, HL.out.same.size, by have := HL.out.same.size; omega⟩
    go_upto_region 7 with (first | (refine wpl_alloc MD.zero.cells.toArray _ (zeroMD _) rfl ?_) | (refine wpl_alloc #[.int .i64 0, .slice none 0 0] _ (zeroRL _) rfl ?_; rw [e6]) | (refine wpl_storeRow MD.zero.cells.toArray rfl rfl ((VarAt.new _ _ _).alloc _) infoMD2 rfl (MD.one _) ?_) | (refine wpl_storeRow (g := w3.heap.size + 1) #[.int .i64 0, .slice none 0 0] rfl rfl (((VarAt.newk (by simp)).set _ (by omega))) infoRL2 rfl (by simp [Value.oneCell']) ?_))
    try simp only [Act.put, List.setIfInBounds_toArray, List.set_cons_zero, List.set_cons_succ]
    generalize ((((w3.alloc (.cells MD.zero.cells.toArray 56)).alloc (.cells #[.int .i64 0, .slice none 0 0] 60)).setRow w3.heap.size MD.zero.cells.toArray).setRow (w3.heap.size + 1) #[.int .i64 0, .slice none 0 0]) = w4 at *
    obtain ⟨g5, hg5⟩ : ∃ g5, w3.heap.size = g5 := ⟨_, rfl⟩
    obtain ⟨g6, hg6⟩ : ∃ g6, w3.heap.size + 1 = g6 := ⟨_, rfl⟩
    rw [hg6, hg5]
    rw [hg6, hg5] at HI
    clear e6 hg5 hg6
    go_wp2
    go_loopw [7] (fun v7 wr => ∃ (i : Nat) (F : Nat → Prop) (L : SLog) (d : DSt) (last : Int) (x : MD) (rs : List RPp) (N : Nat) (LA : Option Addr) (ln lc : Nat) (le : List Ent), i ≤ len ∧ v7 = .int .i64 i ∧ d.offers ≤ i ∧ d.flows.length ≤ i ∧ N ≤ i ∧ RunI w wr F sb lb b g5 g6 L d last x rs N LA ln lc le) (fun v7 _ => len - (intOf v7).toNat)
    case atStart => exact ⟨0, F, SLog.new, DSt.new, 0, MD.zero, [], 0, none, 0, 0, [], by omega, rfl, Nat.le_refl _, Nat.le_refl _, Nat.le_refl _, HI.out⟩
    case round =>
      clear HI HL
      obtain ⟨i, F, L, d, last, x, rs, N, LA, ln, lc, le, hi, rfl, hof, hfl, hN, hI⟩ := hrel
      rename World => wo
      have HI := Lib.hid hI
      have HB := Lib.hid (And.intro hof (And.intro hfl hN))
      have hs1 := hI.lq.cell2
      have hsl := hI.lq.slt
      clear hI hof hfl hN
      by_cases hlt : i < len
      · have hii : (i : Int) < len := by omega
        obtain ⟨g, o, op, rfl, hgw, hxi, hok, hc⟩ := HO.out.at_ hlt
        have HX := Lib.hid (And.intro (List.mem_of_getElem? hxi) hok)
        have HC := Lib.hid hc
        have hgw2 := Nat.lt_of_lt_of_le hgw HI.out.lq.same.size
        have hcc := fun j v hv => HI.out.lq.same.cell (HC.out j v hv) (fun q => q)
        have c0 := hcc 0 _ rfl
        rw [Nat.add_zero] at c0
        have c1 := hcc 1 _ rfl
        have c2 := hcc 2 _ rfl
        have c3 := hcc 3 _ rfl
        have c4 := hcc 4 _ rfl
        have c5 := hcc 5 _ rfl
        have c6 := hcc 6 _ rfl
        have c7 := hcc 7 _ rfl
        have c8 := hcc 8 _ rfl
        have c9 := hcc 9 _ rfl
        have c10 := hcc 10 _ rfl
        have c11 := hcc 11 _ rfl
        clear hcc hxi hok hc
        go_upto_region 10 with (fail)
        refine region_box3 (S := fun w' => Same wo w') 99 [0, 1, 2, 3, 4, 5, 6, 7, 8, 9] 10 [11, 12, 13, 14] 15 16 17 18 19 20 (by kernel_rfl) (by kernel_rfl) (by kernel_rfl) ((Chg.refl _ _).drew) ?_
        refine reads_one (v := (.agg x.cells.toArray)) rfl (by rfl) (fun _ _ _ h => h) ?hy0 ?_
        case hy0 => (intro w hSw; exact exec_loadg rfl (VarAt.ldD (HI.out.vd.same hSw)))
        try simp only [Act.put, List.setIfInBounds_toArray, List.set_cons_zero, List.set_cons_succ]
        refine reads_one (v := (.agg #[.int .i64 N, .slice LA ln lc])) rfl (by rfl) (fun _ _ _ h => h) ?hy1 ?_
        case hy1 => (intro w hSw; exact exec_loadg rfl (VarAt.ldL (N := N) (HI.out.vl.same hSw)))
        try simp only [Act.put, List.setIfInBounds_toArray, List.set_cons_zero, List.set_cons_succ]
        refine reads_one (v := ?v2) rfl (by rfl) (fun _ _ _ h => h) ?hy2 ?_
        case hy2 => ((intro w hSw; go_simp) <;> (try with_reducible rfl))
        try simp only [Act.put, List.setIfInBounds_toArray, List.set_cons_zero, List.set_cons_succ]
        refine reads_one (v := ?v3) rfl (by rfl) (fun _ _ _ h => h) ?hy3 ?_
        case hy3 => ((intro w hSw; go_simp) <;> (try with_reducible rfl))
        try simp only [Act.put, List.setIfInBounds_toArray, List.set_cons_zero, List.set_cons_succ]
        refine reads_one (v := ?v4) rfl (by rfl) (fun _ _ _ h => h) ?hy4 ?_
        case hy4 => ((intro w hSw; go_simp) <;> (try with_reducible rfl))
        try simp only [Act.put, List.setIfInBounds_toArray, List.set_cons_zero, List.set_cons_succ]
        refine reads_one (v := (.int .u32 last)) rfl (by rfl) (fun _ _ _ h => h) ?hy5 ?_
        case hy5 => (intro w hSw; (have q := HI.out.lq.cell2; have q := hSw.cell q (fun q => q); go_simp))
        try simp only [Act.put, List.setIfInBounds_toArray, List.set_cons_zero, List.set_cons_succ]
        refine reads_one (v := ?v6) rfl (by rfl) (fun _ _ _ h => h) ?hy6 ?_
        case hy6 => ((intro w hSw; go_simp) <;> (try with_reducible rfl))
        try simp only [Act.put, List.setIfInBounds_toArray, List.set_cons_zero, List.set_cons_succ]
        refine reads_one (v := ?v7) rfl (by rfl) (fun _ _ _ h => h) ?hy7 ?_
        case hy7 => ((intro w hSw; go_simp) <;> (try with_reducible rfl))
        try simp only [Act.put, List.setIfInBounds_toArray, List.set_cons_zero, List.set_cons_succ]
        refine reads_one (v := ?v8) rfl (by rfl) (fun _ _ _ h => h) ?hy8 ?_
        case hy8 => ((intro w hSw; go_simp) <;> (try with_reducible rfl))
        try simp only [Act.put, List.setIfInBounds_toArray, List.set_cons_zero, List.set_cons_succ]
        refine reads_one (v := (.agg #[.int .i64 op.kind, .int .i64 op.client, .int .i64 op.surface, .int .i64 op.n, .int .i64 op.other, .int .i64 op.x, .int .i64 op.y, .int .i64 op.time, .int .u32 op.back, .string op.f, .slice op.o.A op.o.len op.o.cap, .int .i64 op.o.acts])) rfl (by rfl) (fun _ _ _ h => h) ?hy9 ?_
        case hy9 => (intro w hSw; (have c0 := hSw.cell c0 (fun q => q); have c1 := hSw.cell c1 (fun q => q); have c2 := hSw.cell c2 (fun q => q); have c3 := hSw.cell c3 (fun q => q); have c4 := hSw.cell c4 (fun q => q); have c5 := hSw.cell c5 (fun q => q); have c6 := hSw.cell c6 (fun q => q); have c7 := hSw.cell c7 (fun q => q); have c8 := hSw.cell c8 (fun q => q); have c9 := hSw.cell c9 (fun q => q); have c10 := hSw.cell c10 (fun q => q); have c11 := hSw.cell c11 (fun q => q); go_simp))
        try simp only [Act.put, List.setIfInBounds_toArray, List.set_cons_zero, List.set_cons_succ]
        refine reads_end ?_
        intro af haf
        have haz : 94 ≤ af.tmps.size := by rw [haf]; exact Nat.le_refl _
        have hM : (runM af op d L last (FG F g5 g6) N).Ok := runM_ok haz
        refine ⟨(runM af op d L last (FG F g5 g6) N).Inv wo, Three.start _ _ _, ?call, ?n1, ?n2, ?n3, ?m1, ?m2, ?m3, ?fin⟩
        case n1 => exact fun c k2 k3 a w2 hS hI => wpOp_list rfl (wpl_alloc _ _ (zeroMD _) rfl (then_end ⟨hS.trans ((Chg.refl _ _).alloc _), Three.alloc1 hM hS hI⟩))
        case n2 => exact fun c k1 k3 a w2 hS hI => wpOp_list rfl (wpl_alloc _ _ (zeroRL _) rfl (then_end ⟨hS.trans ((Chg.refl _ _).alloc _), Three.alloc2 hM hS hI⟩))
        case n3 => exact fun c k1 k2 a w2 hS hI => wpOp_list rfl (wpl_alloc _ _ (zeroRes _) rfl (then_end ⟨hS.trans ((Chg.refl _ _).alloc _), Three.alloc3 hM hS hI⟩))
        case m1 =>
          intro k2 k3 a w2 hS hI
          obtain ⟨gg, r, e1, hv, e2, hg, hI2⟩ := Three.store1 hM hS hI
          exact wpOp_list rfl (wpl_storeRow _ e1 e2 hv infoMD2 rfl (MD.one r.x) (then_end ⟨hS.setRow _ _ (fun q => by omega), hI2⟩))
        case m2 =>
          intro k1 k3 a w2 hS hI
          obtain ⟨gg, r, e1, hv, e2, hg, hI2⟩ := Three.store2 hM hS hI
          exact wpOp_list rfl (wpl_storeRow _ e1 e2 hv infoRL2 rfl (lgc_one _ _ _ _) (then_end ⟨hS.setRow _ _ (fun q => by omega), hI2⟩))
        case m3 =>
          intro k1 k2 a w2 hS hI
          obtain ⟨gg, r, e1, hv, e2, hg, hI2⟩ := Three.store3 hM hS hI
          exact wpOp_list rfl (wpl_storeRow _ e1 e2 hv infoRes2 rfl (rsc_one _ _ _ _ _) (then_end ⟨hS.setRow _ _ (fun q => by omega), hI2⟩))
        case call =>
          intro k1 k2 k3 a w2 hS h1 h2 h3 hI
          obtain ⟨p1, p2, p3, X, rfl, hX, b1, b2, b3⟩ := Three.atCall hI
          have hWI := HI.out.win hX hS (HX.out.2.same (HI.out.lq.same.trans hS)) (HLT.out _ HX.out.1) (by have := HB.out; omega) (by have := HB.out; omega) (by have := HB.out; omega)
          have HW := Lib.hid hWI
          have HB3 := Lib.hid (And.intro hX (And.intro b1 (And.intro b2 b3)))
          clear hWI hX b1 b2 b3 hI
          refine wpOp_list rfl ?_
          obtain ⟨a2, ha2⟩ : ∃ a2, a2 = fr3 8 9 10 af p1 p2 p3 := ⟨_, rfl⟩
          show wpList _ _ _ _ (fr3 8 9 10 af p1 p2 p3) w2
          rw [← ha2]
          rw [haf] at ha2
          simp only [fr3, Act.put, List.setIfInBounds_toArray, List.set_cons_zero, List.set_cons_succ] at ha2
          subst ha2
          go_wp2_with (go_at_call 26; go_loud (refine (want_any op lc HW.out).mono ?_; rintro e w3 ⟨x', N', LA', ln', lc', VA, vn, vc, ok, er, rfl, hq, hs3⟩; have HQ := Lib.hid hq; clear hq))
          refine ⟨hS.trans hs3, ?_⟩
          try simp only [Act.put, List.setIfInBounds_toArray, List.set_cons_zero, List.set_cons_succ]
          refine reads_one (v := ?v11) rfl (by rfl) (fun _ _ _ h => h) ?hy11 ?_
          case hy11 => ((intro w hSw; go_simp) <;> (try with_reducible rfl))
          try simp only [Act.put, List.setIfInBounds_toArray, List.set_cons_zero, List.set_cons_succ]
          refine reads_one (v := ?v12) rfl (by rfl) (fun _ _ _ h => h) ?hy12 ?_
          case hy12 => ((intro w hSw; go_simp) <;> (try with_reducible rfl))
          try simp only [Act.put, List.setIfInBounds_toArray, List.set_cons_zero, List.set_cons_succ]
          refine reads_one (v := ?v13) rfl (by rfl) (fun _ _ _ h => h) ?hy13 ?_
          case hy13 => ((intro w hSw; go_simp) <;> (try with_reducible rfl))
          try simp only [Act.put, List.setIfInBounds_toArray, List.set_cons_zero, List.set_cons_succ]
          refine reads_one (v := ?v14) rfl (by rfl) (fun _ _ _ h => h) ?hy14 ?_
          case hy14 => ((intro w hSw; go_simp) <;> (try with_reducible rfl))
          try simp only [Act.put, List.setIfInBounds_toArray, List.set_cons_zero, List.set_cons_succ]
          refine reads_end ?_
          refine Three.called hs3 h1 h2 h3 HB3.out.1 HB3.out.2.1 HB3.out.2.2.1 HB3.out.2.2.2 ⟨x', N', LA', ln', lc', VA, vn, vc, ok, er⟩ HQ.out ?_
          show _ = fr3 8 9 10 (runFr af (some ⟨x', N', LA', ln', lc', VA, vn, vc, ok, er⟩)) p1 p2 p3
          rw [haf]
          simp only [fr3, runFr, Act.put, List.setIfInBounds_toArray, List.set_cons_zero, List.set_cons_succ]
          rfl
        case fin =>
          intro a w2 hS hI
          obtain ⟨r, g8, g9, g10, X, ha, hX, hrel, v8, v9, v10, x8, x9, x10⟩ := Three.done hI
          obtain ⟨x', N', LA', ln', lc', VA, vn, vc, ok, er⟩ := r
          have ha2 : a = fr3 8 9 10 (runFr af (some ⟨x', N', LA', ln', lc', VA, vn, vc, ok, er⟩)) (.pointer (some ⟨g8, 0, none⟩)) (.pointer (some ⟨g9, 0, none⟩)) (.pointer (some ⟨g10, 0, none⟩)) := ha
          clear ha hI
          rw [haf] at ha2
          simp only [fr3, runFr, WRes.tup, WRes.u1, WRes.u2, WRes.u3, Act.put, List.setIfInBounds_toArray, List.set_cons_zero, List.set_cons_succ] at ha2
          subst ha2
          have v8 : VarAt w2 g8 56 x'.cells.toArray := v8
          have v9 : VarAt w2 g9 60 #[.int .i64 N', .slice LA' ln' lc'] := v9
          have v10 : VarAt w2 g10 63 #[.slice VA vn vc, .bool ok, .int .i64 er] := v10
          have hrel : WantR op d L last (fun y => FG F g5 g6 y ∨ X y) N x' N' LA' ln' VA vn ok er w2 := hrel
          have hF := fun y (q : F y) => (HI.out.lq.lo y q).2
          have n8 : ¬ F g8 := fun q => by have := hF _ q; have := hX _ x8; omega
          have n9 : ¬ F g9 := fun q => by have := hF _ q; have := hX _ x9; omega
          have n10 : ¬ F g10 := fun q => by have := hF _ q; have := hX _ x10; omega
          have m5 := HI.out.lt g5 (.inr (.inl rfl))
          have m6 := HI.out.lt g6 (.inr (.inr rfl))
          have e95 : g9 ≠ g5 := fun q => by have := hX _ x9; omega
          have e105 : g10 ≠ g5 := fun q => by have := hX _ x10; omega
          have e106 : g10 ≠ g6 := fun q => by have := hX _ x10; omega
          have e56 := HI.out.ne
          have HR := Lib.hid (And.intro hrel (And.intro v8 (And.intro v9 (And.intro v10 (And.intro n8 (And.intro n9 (And.intro n10 (And.intro e95 (And.intro e105 (And.intro e106 e56))))))))))
          have HI2 := Lib.hid (HI.out.same hS)
          have HSW := Lib.hid hS
          clear hrel v8 v9 v10 hF n8 n9 n10 e95 e105 e106 e56 m5 m6 hX x8 x9 x10 hM haz haf c0 c1 c2 c3 c4 c5 c6 c7 c8 c9 c10 c11 hs1 hgw2
          have hcc := fun j v hv => HI2.out.lq.same.cell (HC.out j v hv) (fun q => q)
          have c0 := hcc 0 _ rfl
          rw [Nat.add_zero] at c0
          have c1 := hcc 1 _ rfl
          have c2 := hcc 2 _ rfl
          have c3 := hcc 3 _ rfl
          have c4 := hcc 4 _ rfl
          have c5 := hcc 5 _ rfl
          have c6 := hcc 6 _ rfl
          have c7 := hcc 7 _ rfl
          have c8 := hcc 8 _ rfl
          have c9 := hcc 9 _ rfl
          have c10 := hcc 10 _ rfl
          have c11 := hcc 11 _ rfl
          have hgw3 := Nat.lt_of_lt_of_le hgw HI2.out.lq.same.size
          clear hcc hS
          go_wp2_with fail
          have hofi : d.offers < 1000000 ∧ d.flows.length < 1000 := by have := HB.out; omega
          refine (call_any op HX.out.2 HI2.out.lq hofi.1 hofi.2).mono ?_
          rintro e w3 ⟨d', L', last', ds, ok', er', hstep, v, F', rfl, hout, hl3, hown⟩
          obtain ⟨A2, cap2, rfl, hcap, hmax, hrows⟩ := out_rows hout
          obtain ⟨hvn, hok', her', hN', hdv, rs', le', hrd, hrl⟩ := HR.out.1 d' L' last' ds ok' er' hstep
          subst hvn hok' her'
          have HSTEP := Lib.hid (step_few hstep)
          have HCALL := Lib.hid (And.intro hl3 (And.intro hown (And.intro hrd (And.intro hrl (And.intro hdv (And.intro hrows hN'))))))
          have hdl : ds.length ≤ 1000000 := by have := step_outs hstep; omega
          clear hstep hout hl3 hown hrd hrl hdv hrows hN' c0 c1 c2 c3 c4 c5 c6 c7 c8 c9 c10 c11 hgw3 hofi hcap hmax
          go_upto_region 12 with (fail)
          have hk4 : Same w3 (w3.alloc (.cells #[.slice A2 ds.length cap2, .bool ok', .int .i64 er'] 63)) := (Chg.refl (fun _ => False) w3).alloc _
          have hr4 : VarAt (w3.alloc (.cells #[.slice A2 ds.length cap2, .bool ok', .int .i64 er'] 63)) w3.heap.size 63 #[.slice A2 ds.length cap2, .bool ok', .int .i64 er'] := VarAt.new _ _ _
          have hlo11 : ¬ w3.heap.size < w3.heap.size := Nat.lt_irrefl _
          generalize w3.alloc (.cells #[.slice A2 ds.length cap2, .bool ok', .int .i64 er'] 63) = w4 at *
          have m5 := Nat.lt_of_lt_of_le (HI2.out.lt g5 (.inr (.inl rfl))) HCALL.out.2.1.size
          have m6 := Nat.lt_of_lt_of_le (HI2.out.lt g6 (.inr (.inr rfl))) HCALL.out.2.1.size
          have e115 : w3.heap.size ≠ g5 := by omega
          have e116 : w3.heap.size ≠ g6 := by omega
          obtain ⟨g11, hg11⟩ : ∃ g11, w3.heap.size = g11 := ⟨_, rfl⟩
          rw [hg11]
          rw [hg11] at hr4 e115 e116
          clear hg11 m5 m6 hlo11
          have v8 : VarAt w4 g8 56 x'.cells.toArray := VarAt.same (HCALL.out.2.1.chg.at_ HR.out.2.1 HR.out.2.2.2.2.1) hk4
          have v9 : VarAt w4 g9 60 #[.int .i64 N', .slice LA' ln' lc'] := VarAt.same (HCALL.out.2.1.chg.at_ HR.out.2.2.1 HR.out.2.2.2.2.2.1) hk4
          have v10 : VarAt w4 g10 63 #[.slice VA ds.length vc, .bool ok', .int .i64 er'] := VarAt.same (HCALL.out.2.1.chg.at_ HR.out.2.2.2.1 HR.out.2.2.2.2.2.2.1) hk4
          have v5 : VarAt w4 g5 56 x.cells.toArray := VarAt.same (HCALL.out.2.1.chg.at_ HI2.out.vd HI2.out.n5) hk4
          have v6 : VarAt w4 g6 60 #[.int .i64 N, .slice LA ln lc] := VarAt.same (HCALL.out.2.1.chg.at_ HI2.out.vl HI2.out.n6) hk4
          have hnx := run_next lc' HI2.out HCALL.out.2.1 HCALL.out.1 HCALL.out.2.2.1 HCALL.out.2.2.2.1 hk4
          have hld8 := VarAt.ldD v8
          have hld9 := VarAt.ldL (N := N') (v9.set x'.cells.toArray HR.out.2.2.2.2.2.2.2.1)
          have hst6 := v6.set x'.cells.toArray (Ne.symm HR.out.2.2.2.2.2.2.2.2.2.2)
          have v10 := (v10.set x'.cells.toArray HR.out.2.2.2.2.2.2.2.2.1).set #[.int .i64 N', .slice LA' ln' lc'] HR.out.2.2.2.2.2.2.2.2.2.1
          have v11 := (hr4.set x'.cells.toArray e115).set #[.int .i64 N', .slice LA' ln' lc'] e116
          have hdv1 : DvsF ((w4.setRow g5 x'.cells.toArray).setRow g6 #[.int .i64 N', .slice LA' ln' lc']) (FG F' g5 g6) VA ds := run_dvs hnx.2 HCALL.out.2.1 HCALL.out.2.2.2.2.1 hk4
          have hdv2 : DvsAt ((w4.setRow g5 x'.cells.toArray).setRow g6 #[.int .i64 N', .slice LA' ln' lc']) A2 ds := run_dvs2 hnx.2 HCALL.out.2.2.2.2.2.1 (HI2.out.lt g5 (.inr (.inl rfl))) (HI2.out.lt g6 (.inr (.inr rfl))) hk4
          have HV := Lib.hid (And.intro v10 (And.intro v11 (And.intro hdv1.1 (And.intro hdv2 hnx.1))))
          clear v8 v9 v10 v6 v11 hr4 hnx hdv1 hdv2 e115 e116
          go_upto_region 14 with (first | (refine wpl_loadv _ _ _ rfl hld8 ?_) | (refine wpl_storeRow x.cells.toArray rfl rfl v5 infoMD2 rfl (MD.one _) ?_) | (refine wpl_loadv _ _ _ rfl hld9 ?_) | (refine wpl_storeRow #[.int .i64 N, .slice LA ln lc] rfl rfl hst6 infoRL2 rfl (lgc_one _ _ _ _) ?_))
          try simp only [lgc, Act.put, List.setIfInBounds_toArray, List.set_cons_zero, List.set_cons_succ]
          clear hld8 hld9 hst6 v5 hk4
          generalize (w4.setRow g5 x'.cells.toArray).setRow g6 #[.int .i64 N', .slice LA' ln' lc'] = w5 at *
          have a0 := cell_at (C := [.slice VA ds.length vc, .bool ok', .int .i64 er']) HV.out.1 0
          have a1 := cell_at (C := [.slice VA ds.length vc, .bool ok', .int .i64 er']) HV.out.1 1
          have a2 := cell_at (C := [.slice VA ds.length vc, .bool ok', .int .i64 er']) HV.out.1 2
          have b0 := cell_at (C := [.slice A2 ds.length cap2, .bool ok', .int .i64 er']) HV.out.2.1 0
          have b1 := cell_at (C := [.slice A2 ds.length cap2, .bool ok', .int .i64 er']) HV.out.2.1 1
          have b2 := cell_at (C := [.slice A2 ds.length cap2, .bool ok', .int .i64 er']) HV.out.2.1 2
          have q1 := HV.out.2.2.2.2.lq.cell1
          obtain ⟨st, hst⟩ : ∃ st, d'.state = st := ⟨_, rfl⟩
          obtain ⟨act, hact⟩ : ∃ act, d'.act = act := ⟨_, rfl⟩
          have HST := Lib.hid (And.intro hst (And.intro hact (And.intro ((rd_state HV.out.2.2.2.2.rd).trans hst) ((rd_act HV.out.2.2.2.2.rd).trans hact))))
          clear hst hact
          have HK : Hid (Same w5 w5.drew) := Lib.hid ((Chg.refl _ _).drew)
          refine region_path (S := (fun w' => Same w5 w')) 99 [(0, true), (1, true), (2, true), (3, true), (4, true), (5, true), (6, true), (7, true), (8, true), (9, true), (10, true), (11, true), (12, true), (13, true), (14, true), (15, true), (16, true), (17, false), (18, true), (19, true), (20, true), (21, true), (22, true), (23, true), (24, true), (26, true), (25, false), (27, false), (28, true), (29, true), (30, true), (31, true), (32, true), (33, true), (34, true), (36, true), (35, false), (37, false), (38, true), (39, true)] (by kernel_rfl) (by kernel_rfl) (by kernel_rfl) HK.out ?_
          refine path_read (i := 0) (v := ?v7_0) rfl (by rfl) (fun _ _ _ h => h) ?hy7_0 ?_
          case hy7_0 => ((intro w hSw; (try dsimp only at hSw); go_simp) <;> (try with_reducible rfl))
          try simp only [Act.put, List.setIfInBounds_toArray, List.set_cons_zero, List.set_cons_succ]
          refine path_read (i := 1) (v := (.int .i64 er') ) rfl (by rfl) (fun _ _ _ h => h) ?hy7_1 ?_
          case hy7_1 => (intro w hSw;  (have q := hSw.cell b2 (fun q => q); go_simp))
          try simp only [Act.put, List.setIfInBounds_toArray, List.set_cons_zero, List.set_cons_succ]
          refine path_read (i := 2) (v := ?v7_2) rfl (by rfl) (fun _ _ _ h => h) ?hy7_2 ?_
          case hy7_2 => ((intro w hSw; (try dsimp only at hSw); go_simp) <;> (try with_reducible rfl))
          try simp only [Act.put, List.setIfInBounds_toArray, List.set_cons_zero, List.set_cons_succ]
          refine path_read (i := 3) (v := (.int .i64 er') ) rfl (by rfl) (fun _ _ _ h => h) ?hy7_3 ?_
          case hy7_3 => (intro w hSw;  (have q := hSw.cell a2 (fun q => q); go_simp))
          try simp only [Act.put, List.setIfInBounds_toArray, List.set_cons_zero, List.set_cons_succ]
          refine path_read (i := 4) (v := ?v7_4) rfl (by rfl) (fun _ _ _ h => h) ?hy7_4 ?_
          case hy7_4 => ((intro w hSw; (try dsimp only at hSw); go_simp) <;> (try with_reducible rfl))
          try simp only [Act.put, List.setIfInBounds_toArray, List.set_cons_zero, List.set_cons_succ]
          refine path_read (i := 5) (v := ?v7_5) rfl (by rfl) (fun _ _ _ h => h) ?hy7_5 ?_
          case hy7_5 => ((intro w hSw; (try dsimp only at hSw); go_simp) <;> (try with_reducible rfl))
          try simp only [Act.put, List.setIfInBounds_toArray, List.set_cons_zero, List.set_cons_succ]
          refine path_read (i := 6) (v := ?v7_6) rfl (by rfl) (fun _ _ _ h => h) ?hy7_6 ?_
          case hy7_6 => ((intro w hSw; (try dsimp only at hSw); go_simp) <;> (try with_reducible rfl))
          try simp only [Act.put, List.setIfInBounds_toArray, List.set_cons_zero, List.set_cons_succ]
          refine path_read (i := 7) (v := (.bool ok') ) rfl (by rfl) (fun _ _ _ h => h) ?hy7_7 ?_
          case hy7_7 => (intro w hSw;  (have q := hSw.cell b1 (fun q => q); go_simp))
          try simp only [Act.put, List.setIfInBounds_toArray, List.set_cons_zero, List.set_cons_succ]
          refine path_read (i := 8) (v := ?v7_8) rfl (by rfl) (fun _ _ _ h => h) ?hy7_8 ?_
          case hy7_8 => ((intro w hSw; (try dsimp only at hSw); go_simp) <;> (try with_reducible rfl))
          try simp only [Act.put, List.setIfInBounds_toArray, List.set_cons_zero, List.set_cons_succ]
          refine path_read (i := 9) (v := (.bool ok') ) rfl (by rfl) (fun _ _ _ h => h) ?hy7_9 ?_
          case hy7_9 => (intro w hSw;  (have q := hSw.cell a1 (fun q => q); go_simp))
          try simp only [Act.put, List.setIfInBounds_toArray, List.set_cons_zero, List.set_cons_succ]
          refine path_read (i := 10) (v := ?v7_10) rfl (by rfl) (fun _ _ _ h => h) ?hy7_10 ?_
          case hy7_10 => ((intro w hSw; (try dsimp only at hSw); go_simp) <;> (try with_reducible rfl))
          try simp only [Act.put, List.setIfInBounds_toArray, List.set_cons_zero, List.set_cons_succ]
          refine path_read (i := 11) (v := ?v7_11) rfl (by rfl) (fun _ _ _ h => h) ?hy7_11 ?_
          case hy7_11 => ((intro w hSw; (try dsimp only at hSw); go_simp) <;> (try with_reducible rfl))
          try simp only [Act.put, List.setIfInBounds_toArray, List.set_cons_zero, List.set_cons_succ]
          refine path_read (i := 12) (v := ?v7_12) rfl (by rfl) (fun _ _ _ h => h) ?hy7_12 ?_
          case hy7_12 => ((intro w hSw; (try dsimp only at hSw); go_simp) <;> (try with_reducible rfl))
          try simp only [Act.put, List.setIfInBounds_toArray, List.set_cons_zero, List.set_cons_succ]
          refine path_read (i := 13) (v := ?v7_13) rfl (by rfl) (fun _ _ _ h => h) ?hy7_13 ?_
          case hy7_13 => ((intro w hSw; (try dsimp only at hSw); go_simp) <;> (try with_reducible rfl))
          try simp only [Act.put, List.setIfInBounds_toArray, List.set_cons_zero, List.set_cons_succ]
          refine path_read (i := 14) (v := (.slice A2 ds.length cap2) ) rfl (by rfl) (fun _ _ _ h => h) ?hy7_14 ?_
          case hy7_14 => (intro w hSw;  (have q := hSw.cell b0 (fun q => q); go_simp))
          try simp only [Act.put, List.setIfInBounds_toArray, List.set_cons_zero, List.set_cons_succ]
          refine path_read (i := 15) (v := ?v7_15) rfl (by rfl) (fun _ _ _ h => h) ?hy7_15 ?_
          case hy7_15 => ((intro w hSw; (try dsimp only at hSw); go_simp) <;> (try with_reducible rfl))
          try simp only [Act.put, List.setIfInBounds_toArray, List.set_cons_zero, List.set_cons_succ]
          refine path_read (i := 16) (v := (.slice VA ds.length vc) ) rfl (by rfl) (fun _ _ _ h => h) ?hy7_16 ?_
          case hy7_16 => (intro w hSw;  (have q := hSw.cell a0 (fun q => q); go_simp))
          try simp only [Act.put, List.setIfInBounds_toArray, List.set_cons_zero, List.set_cons_succ]
          refine path_do (i := 17) rfl ?_
          go_wp2_with ((first | (go_at_call 28; go_loud (refine (fsame_ok ds A2 VA cap2 vc _ (HV.out.2.2.2.1.same HK.out) (HV.out.2.2.1.same HK.out) hdl).mono ?_; rintro e w6 ⟨rfl, hs⟩; have HK := Lib.hid (HK.out.trans hs); clear hs)) | (go_at_call 21; go_loud (refine (lq_state st (HV.out.2.2.2.2.lq.keep HK.out) HST.out.1).mono ?_; rintro e w6 ⟨rfl, _, hs⟩; have HK := Lib.hid (HK.out.trans hs); clear hs)) | (go_at_call 15; go_loud (refine (lq_action act (HV.out.2.2.2.2.lq.keep HK.out) HST.out.2.1).mono ?_; rintro e w6 ⟨rfl, _, hs⟩; have HK := Lib.hid (HK.out.trans hs); clear hs)) | (go_at_call 29; go_loud (refine (mstate_ok st x' _ HST.out.2.2.1).mono ?_; rintro e w6 ⟨rfl, hs⟩; have HK := Lib.hid (HK.out.trans hs); clear hs)) | (go_at_call 30; go_loud (refine (maction_ok act x' _ HST.out.2.2.2).mono ?_; rintro e w6 ⟨rfl, hs⟩; have HK := Lib.hid (HK.out.trans hs); clear hs))))
          (first | refine ⟨.inr ?keep7_17, ?_⟩ | refine ⟨?keep7_17, ?_⟩)
          case keep7_17 => (exact HK.out)
          try simp only [Act.put, List.setIfInBounds_toArray, List.set_cons_zero, List.set_cons_succ]
          refine path_read (i := 18) (v := ?v7_18) rfl (by rfl) (fun _ _ _ h => h) ?hy7_18 ?_
          case hy7_18 => ((intro w hSw; (try dsimp only at hSw); go_simp) <;> (try with_reducible rfl))
          try simp only [Act.put, List.setIfInBounds_toArray, List.set_cons_zero, List.set_cons_succ]
          refine path_read (i := 19) (v := ?v7_19) rfl (by rfl) (fun _ _ _ h => h) ?hy7_19 ?_
          case hy7_19 => ((intro w hSw; (try dsimp only at hSw); go_simp) <;> (try with_reducible rfl))
          try simp only [Act.put, List.setIfInBounds_toArray, List.set_cons_zero, List.set_cons_succ]
          refine path_read (i := 20) (v := ?v7_20) rfl (by rfl) (fun _ _ _ h => h) ?hy7_20 ?_
          case hy7_20 => ((intro w hSw; (try dsimp only at hSw); go_simp) <;> (try with_reducible rfl))
          try simp only [Act.put, List.setIfInBounds_toArray, List.set_cons_zero, List.set_cons_succ]
          refine path_read (i := 21) (v := ?v7_21) rfl (by rfl) (fun _ _ _ h => h) ?hy7_21 ?_
          case hy7_21 => ((intro w hSw; (try dsimp only at hSw); go_simp) <;> (try with_reducible rfl))
          try simp only [Act.put, List.setIfInBounds_toArray, List.set_cons_zero, List.set_cons_succ]
          refine path_read (i := 22) (v := ?v7_22) rfl (by rfl) (fun _ _ _ h => h) ?hy7_22 ?_
          case hy7_22 => ((intro w hSw; (try dsimp only at hSw); go_simp) <;> (try with_reducible rfl))
          try simp only [Act.put, List.setIfInBounds_toArray, List.set_cons_zero, List.set_cons_succ]
          refine path_read (i := 23) (v := ?v7_23) rfl (by rfl) (fun _ _ _ h => h) ?hy7_23 ?_
          case hy7_23 => ((intro w hSw; (try dsimp only at hSw); go_simp) <;> (try with_reducible rfl))
          try simp only [Act.put, List.setIfInBounds_toArray, List.set_cons_zero, List.set_cons_succ]
          refine path_read (i := 24) (v := (.pointer (some ⟨b, 0, none⟩)) ) rfl (by rfl) (fun _ _ _ h => h) ?hy7_24 ?_
          case hy7_24 => (intro w hSw;  (have q := hSw.cell q1 (fun q => q); go_simp))
          try simp only [Act.put, List.setIfInBounds_toArray, List.set_cons_zero, List.set_cons_succ]
          refine path_read (i := 26) (v := (.agg x'.cells.toArray) ) rfl (by rfl) (fun _ _ _ h => h) ?hy7_26 ?_
          case hy7_26 => (intro w hSw;  exact exec_loadg rfl (VarAt.ldD (HV.out.2.2.2.2.vd.same hSw)))
          try simp only [Act.put, List.setIfInBounds_toArray, List.set_cons_zero, List.set_cons_succ]
          refine path_do (i := 25) rfl ?_
          go_wp2_with ((first | (go_at_call 28; go_loud (refine (fsame_ok ds A2 VA cap2 vc _ (HV.out.2.2.2.1.same HK.out) (HV.out.2.2.1.same HK.out) hdl).mono ?_; rintro e w6 ⟨rfl, hs⟩; have HK := Lib.hid (HK.out.trans hs); clear hs)) | (go_at_call 21; go_loud (refine (lq_state st (HV.out.2.2.2.2.lq.keep HK.out) HST.out.1).mono ?_; rintro e w6 ⟨rfl, _, hs⟩; have HK := Lib.hid (HK.out.trans hs); clear hs)) | (go_at_call 15; go_loud (refine (lq_action act (HV.out.2.2.2.2.lq.keep HK.out) HST.out.2.1).mono ?_; rintro e w6 ⟨rfl, _, hs⟩; have HK := Lib.hid (HK.out.trans hs); clear hs)) | (go_at_call 29; go_loud (refine (mstate_ok st x' _ HST.out.2.2.1).mono ?_; rintro e w6 ⟨rfl, hs⟩; have HK := Lib.hid (HK.out.trans hs); clear hs)) | (go_at_call 30; go_loud (refine (maction_ok act x' _ HST.out.2.2.2).mono ?_; rintro e w6 ⟨rfl, hs⟩; have HK := Lib.hid (HK.out.trans hs); clear hs))))
          (first | refine ⟨.inr ?keep7_25, ?_⟩ | refine ⟨?keep7_25, ?_⟩)
          case keep7_25 => (exact HK.out)
          try simp only [Act.put, List.setIfInBounds_toArray, List.set_cons_zero, List.set_cons_succ]
          refine path_do (i := 27) rfl ?_
          go_wp2_with ((first | (go_at_call 28; go_loud (refine (fsame_ok ds A2 VA cap2 vc _ (HV.out.2.2.2.1.same HK.out) (HV.out.2.2.1.same HK.out) hdl).mono ?_; rintro e w6 ⟨rfl, hs⟩; have HK := Lib.hid (HK.out.trans hs); clear hs)) | (go_at_call 21; go_loud (refine (lq_state st (HV.out.2.2.2.2.lq.keep HK.out) HST.out.1).mono ?_; rintro e w6 ⟨rfl, _, hs⟩; have HK := Lib.hid (HK.out.trans hs); clear hs)) | (go_at_call 15; go_loud (refine (lq_action act (HV.out.2.2.2.2.lq.keep HK.out) HST.out.2.1).mono ?_; rintro e w6 ⟨rfl, _, hs⟩; have HK := Lib.hid (HK.out.trans hs); clear hs)) | (go_at_call 29; go_loud (refine (mstate_ok st x' _ HST.out.2.2.1).mono ?_; rintro e w6 ⟨rfl, hs⟩; have HK := Lib.hid (HK.out.trans hs); clear hs)) | (go_at_call 30; go_loud (refine (maction_ok act x' _ HST.out.2.2.2).mono ?_; rintro e w6 ⟨rfl, hs⟩; have HK := Lib.hid (HK.out.trans hs); clear hs))))
          (first | refine ⟨.inr ?keep7_27, ?_⟩ | refine ⟨?keep7_27, ?_⟩)
          case keep7_27 => (exact HK.out)
          try simp only [Act.put, List.setIfInBounds_toArray, List.set_cons_zero, List.set_cons_succ]
          refine path_read (i := 28) (v := ?v7_28) rfl (by rfl) (fun _ _ _ h => h) ?hy7_28 ?_
          case hy7_28 => ((intro w hSw; (try dsimp only at hSw); go_simp) <;> (try with_reducible rfl))
          try simp only [Act.put, List.setIfInBounds_toArray, List.set_cons_zero, List.set_cons_succ]
          refine path_read (i := 29) (v := ?v7_29) rfl (by rfl) (fun _ _ _ h => h) ?hy7_29 ?_
          case hy7_29 => ((intro w hSw; (try dsimp only at hSw); go_simp) <;> (try with_reducible rfl))
          try simp only [Act.put, List.setIfInBounds_toArray, List.set_cons_zero, List.set_cons_succ]
          refine path_read (i := 30) (v := ?v7_30) rfl (by rfl) (fun _ _ _ h => h) ?hy7_30 ?_
          case hy7_30 => ((intro w hSw; (try dsimp only at hSw); go_simp) <;> (try with_reducible rfl))
          try simp only [Act.put, List.setIfInBounds_toArray, List.set_cons_zero, List.set_cons_succ]
          refine path_read (i := 31) (v := ?v7_31) rfl (by rfl) (fun _ _ _ h => h) ?hy7_31 ?_
          case hy7_31 => ((intro w hSw; (try dsimp only at hSw); go_simp) <;> (try with_reducible rfl))
          try simp only [Act.put, List.setIfInBounds_toArray, List.set_cons_zero, List.set_cons_succ]
          refine path_read (i := 32) (v := ?v7_32) rfl (by rfl) (fun _ _ _ h => h) ?hy7_32 ?_
          case hy7_32 => ((intro w hSw; (try dsimp only at hSw); go_simp) <;> (try with_reducible rfl))
          try simp only [Act.put, List.setIfInBounds_toArray, List.set_cons_zero, List.set_cons_succ]
          refine path_read (i := 33) (v := ?v7_33) rfl (by rfl) (fun _ _ _ h => h) ?hy7_33 ?_
          case hy7_33 => ((intro w hSw; (try dsimp only at hSw); go_simp) <;> (try with_reducible rfl))
          try simp only [Act.put, List.setIfInBounds_toArray, List.set_cons_zero, List.set_cons_succ]
          refine path_read (i := 34) (v := (.pointer (some ⟨b, 0, none⟩)) ) rfl (by rfl) (fun _ _ _ h => h) ?hy7_34 ?_
          case hy7_34 => (intro w hSw;  (have q := hSw.cell q1 (fun q => q); go_simp))
          try simp only [Act.put, List.setIfInBounds_toArray, List.set_cons_zero, List.set_cons_succ]
          refine path_read (i := 36) (v := (.agg x'.cells.toArray) ) rfl (by rfl) (fun _ _ _ h => h) ?hy7_36 ?_
          case hy7_36 => (intro w hSw;  exact exec_loadg rfl (VarAt.ldD (HV.out.2.2.2.2.vd.same hSw)))
          try simp only [Act.put, List.setIfInBounds_toArray, List.set_cons_zero, List.set_cons_succ]
          refine path_do (i := 35) rfl ?_
          go_wp2_with ((first | (go_at_call 28; go_loud (refine (fsame_ok ds A2 VA cap2 vc _ (HV.out.2.2.2.1.same HK.out) (HV.out.2.2.1.same HK.out) hdl).mono ?_; rintro e w6 ⟨rfl, hs⟩; have HK := Lib.hid (HK.out.trans hs); clear hs)) | (go_at_call 21; go_loud (refine (lq_state st (HV.out.2.2.2.2.lq.keep HK.out) HST.out.1).mono ?_; rintro e w6 ⟨rfl, _, hs⟩; have HK := Lib.hid (HK.out.trans hs); clear hs)) | (go_at_call 15; go_loud (refine (lq_action act (HV.out.2.2.2.2.lq.keep HK.out) HST.out.2.1).mono ?_; rintro e w6 ⟨rfl, _, hs⟩; have HK := Lib.hid (HK.out.trans hs); clear hs)) | (go_at_call 29; go_loud (refine (mstate_ok st x' _ HST.out.2.2.1).mono ?_; rintro e w6 ⟨rfl, hs⟩; have HK := Lib.hid (HK.out.trans hs); clear hs)) | (go_at_call 30; go_loud (refine (maction_ok act x' _ HST.out.2.2.2).mono ?_; rintro e w6 ⟨rfl, hs⟩; have HK := Lib.hid (HK.out.trans hs); clear hs))))
          (first | refine ⟨.inr ?keep7_35, ?_⟩ | refine ⟨?keep7_35, ?_⟩)
          case keep7_35 => (exact HK.out)
          try simp only [Act.put, List.setIfInBounds_toArray, List.set_cons_zero, List.set_cons_succ]
          refine path_do (i := 37) rfl ?_
          go_wp2_with ((first | (go_at_call 28; go_loud (refine (fsame_ok ds A2 VA cap2 vc _ (HV.out.2.2.2.1.same HK.out) (HV.out.2.2.1.same HK.out) hdl).mono ?_; rintro e w6 ⟨rfl, hs⟩; have HK := Lib.hid (HK.out.trans hs); clear hs)) | (go_at_call 21; go_loud (refine (lq_state st (HV.out.2.2.2.2.lq.keep HK.out) HST.out.1).mono ?_; rintro e w6 ⟨rfl, _, hs⟩; have HK := Lib.hid (HK.out.trans hs); clear hs)) | (go_at_call 15; go_loud (refine (lq_action act (HV.out.2.2.2.2.lq.keep HK.out) HST.out.2.1).mono ?_; rintro e w6 ⟨rfl, _, hs⟩; have HK := Lib.hid (HK.out.trans hs); clear hs)) | (go_at_call 29; go_loud (refine (mstate_ok st x' _ HST.out.2.2.1).mono ?_; rintro e w6 ⟨rfl, hs⟩; have HK := Lib.hid (HK.out.trans hs); clear hs)) | (go_at_call 30; go_loud (refine (maction_ok act x' _ HST.out.2.2.2).mono ?_; rintro e w6 ⟨rfl, hs⟩; have HK := Lib.hid (HK.out.trans hs); clear hs))))
          (first | refine ⟨.inr ?keep7_37, ?_⟩ | refine ⟨?keep7_37, ?_⟩)
          case keep7_37 => (exact HK.out)
          try simp only [Act.put, List.setIfInBounds_toArray, List.set_cons_zero, List.set_cons_succ]
          refine path_read (i := 38) (v := ?v7_38) rfl (by rfl) (fun _ _ _ h => h) ?hy7_38 ?_
          case hy7_38 => ((intro w hSw; (try dsimp only at hSw); go_simp) <;> (try with_reducible rfl))
          try simp only [Act.put, List.setIfInBounds_toArray, List.set_cons_zero, List.set_cons_succ]
          refine path_read (i := 39) (v := ?v7_39) rfl (by rfl) (fun _ _ _ h => h) ?hy7_39 ?_
          case hy7_39 => ((intro w hSw; (try dsimp only at hSw); go_simp) <;> (try with_reducible rfl))
          try simp only [Act.put, List.setIfInBounds_toArray, List.set_cons_zero, List.set_cons_succ]
          refine path_end ?_
          have s1 : IntKind.i64.wrap ((i : Int) + 1) = (i : Int) + 1 := IntWalk.i64_in _ (by omega)
          go_wp2
          go_roundw
          case rel => exact ⟨i + 1, F', L', d', last', x', rs', N', LA', ln', lc', le', by omega, rfl, by have := HSTEP.out; have := HB.out; omega, by have := HSTEP.out; have := HB.out; omega, by have := HCALL.out.2.2.2.2.2.2; have := HB.out; omega, HV.out.2.2.2.2.same HK.out⟩
          case measure => simp [intOf]; omega
      · have hii : ¬ (i : Int) < len := by omega
        go_wp2_with fail
        refine (example43_ok _).mono ?_
        rintro e w9 ⟨rfl, hs⟩
        have HS9 := Lib.hid hs
        clear hs
        go_wp2
        go_ret
        exact ⟨rfl, HI.out.lq.same.trans HS9.out⟩
end Go.Proofs.Yteolilggeaffaaa
