/- The walk of ClipboardPlays: for all arguments it returns true and leaves what was there as it was. (Printed by plays42.py.) -/
import Derived.Test.YtndldjopgbhphaaRunC42
import Derived.Test.YtndldjopgbhphaaPk50
import Derived.Test.YtndldjopgbhphaaFlowS
import Derived.Test.YtndldjopgbhphaaTree
import Derived.WalkMore
import Derived.Deep.LoopGhost
import Derived.Deep.DeepCutAuto
import Derived.Deep.CutBlock
import Derived.Deep.CutRange
set_option linter.unusedVariables false
set_option linter.unusedSimpArgs false
set_option maxRecDepth 100000
namespace Go.Proofs.Ytndldjopgbhphaa
open Go.RowKit

set_option maxHeartbeats 16000000 in
theorem ClipboardPlays_walk (A : Option Addr) (len cap : Nat) (l : List COp) (w : World) (h : COpsAt w A len l) :
    Calls Try.prog 6 #[.slice A len cap] w fun e w' => e = .returned (.bool true) ∧ Same w w' := by
  have HO := Lib.hid h
  have hlm := h.2.2
  unfold maxLen at hlm
  clear h
  go_enter Try.func6, Try.ntmps6
  go_wp2_with fail
  refine (heavy2_ok A len cap l w HO.out).mono ?_
  rintro e w1 ⟨v, rfl, rfl, hv⟩
  cases v
  · have hl80 := (hv rfl).1
    have HLT := Lib.hid (hv rfl).2
    clear hv
    go_wp2_with fail
    refine (ses_lognew _).mono ?_
    rintro e w1 ⟨rfl, hl1, hs1⟩
    have HL1 := Lib.hid (And.intro hl1 hs1)
    have hlz := lt_of_at hl1.1
    clear hl1 hs1
    go_wp2_with fail
    refine (rNew_ok _).mono ?_
    rintro e w2 ⟨rfl, hs2⟩
    have HL2 := Lib.hid (And.intro (HL1.out.1.chg hs2 (fun q => q)) (HL1.out.2.trans hs2))
    have hlz2 := Nat.lt_of_lt_of_le hlz hs2.size
    clear hs2
    go_upto_region 4 with (first | (refine wpl_alloc #[.int .i64 0, .slice none 0 0] _ (zeroRL _) rfl ?_) | (refine wpl_storeRow #[.int .i64 0, .slice none 0 0] rfl rfl (VarAt.new _ _ _) infoRL2 rfl (lgc_one _ _ _ _) ?_))
    try simp only [Act.put, List.setIfInBounds_toArray, List.set_cons_zero, List.set_cons_succ]
    have hv4 : VarAt ((w2.alloc (.cells #[.int .i64 0, .slice none 0 0] 58)).setRow w2.heap.size #[.int .i64 0, .slice none 0 0]) w2.heap.size 58 #[.int .i64 0, .slice none 0 0] := (VarAt.new _ _ _).put _
    have hs4 : Same w2 ((w2.alloc (.cells #[.int .i64 0, .slice none 0 0] 58)).setRow w2.heap.size #[.int .i64 0, .slice none 0 0]) := ((Chg.refl _ _).alloc _).setRow _ _ (fun q => absurd q (Nat.lt_irrefl _))
    generalize (w2.alloc (.cells #[.int .i64 0, .slice none 0 0] 58)).setRow w2.heap.size #[.int .i64 0, .slice none 0 0] = w4 at *
    have hlw : w.heap.size ≤ w2.heap.size := HL2.out.2.size
    obtain ⟨g4, hg4⟩ : ∃ g4, w2.heap.size = g4 := ⟨_, rfl⟩
    obtain ⟨lb, hlb⟩ : ∃ lb, w.heap.size = lb := ⟨_, rfl⟩
    rw [hg4] at hv4 hlw hlz2 ⊢
    rw [hlb] at hlw hlz2 ⊢
    have H4 := Lib.hid (And.intro hv4 (And.intro hs4 (And.intro hlw (And.intro hlz2 hlb))))
    have hlg : g4 < w4.heap.size := lt_of_at hv4
    have HL4 : Hid (LogAt w4 lb SLog.new ∧ Same w w4) := Lib.hid ⟨by rw [← hlb]; exact HL2.out.1.chg hs4 (fun q => q), HL2.out.2.trans hs4⟩
    clear hv4 hs4 hg4 hlw hlz hlz2 hlb HL1 HL2
    go_wp2_with fail
    refine (ses_new (w0 := w) HL4.out.1 (by have := H4.out.2.2.2.2; omega) HL4.out.2).mono ?_
    rintro e w5 ⟨b, R, rfl, hses, hs5, hnew⟩
    have hv4 := H4.out.1.same hs5
    have H5 := Lib.hid (And.intro hses (And.intro hv4 hnew))
    have hs5z := hs5.size
    clear hses hs5 hv4 hnew
    go_wp2_with fail
    refine (knew_ok _).mono ?_
    rintro e w6 ⟨rfl, hs6⟩
    have hs6z := hs6.size
    have H6 := Lib.hid (And.intro (H5.out.1.keep hs6) (H5.out.2.1.same hs6))
    clear hs6
    go_upto_region 5 with (first | (refine wpl_alloc #[.bool false, .int .i64 0, .int .i64 0, .slice none 0 0, .int .i64 0, .bool false, .int .u32 0, .int .i64 0, .slice none 0 0] _ (zeroKC _) rfl ?_) | (refine wpl_storeRow #[.bool false, .int .i64 0, .int .i64 0, .slice none 0 0, .int .i64 0, .bool false, .int .u32 0, .int .i64 0, .slice none 0 0] rfl rfl (VarAt.new _ _ _) infoKC2 rfl (KC.one _) ?_))
    try simp only [Act.put, List.setIfInBounds_toArray, List.set_cons_zero, List.set_cons_succ]
    have HI : Hid (RunH w ((w6.alloc (.cells #[.bool false, .int .i64 0, .int .i64 0, .slice none 0 0, .int .i64 0, .bool false, .int .u32 0, .int .i64 0, .slice none 0 0] 63)).setRow w6.heap.size KC.zero.cells.toArray) lb b g4 w6.heap.size R SLog.new CSt.new SLog.new CSt.new KC.zero [] 0 none 0 0 []) := by
      have hk : Same w6 ((w6.alloc (.cells #[.bool false, .int .i64 0, .int .i64 0, .slice none 0 0, .int .i64 0, .bool false, .int .u32 0, .int .i64 0, .slice none 0 0] 63)).setRow w6.heap.size KC.zero.cells.toArray) := ((Chg.refl _ _).alloc _).setRow _ _ (fun q => absurd q (Nat.lt_irrefl _))
      have e1 := H4.out.2.2.2.1
      have e2 := H4.out.2.2.2.2
      exact Lib.hid ⟨H6.out.1.keep hk, H6.out.2.same hk, (VarAt.new _ _ _).put _, rk_new _ _, RL.new _ _, ⟨fun q => by have := H5.out.2.2 _ q; omega, by omega⟩, ⟨fun q => absurd (H6.out.1.clip.lt _ q) (Nat.lt_irrefl _), by omega⟩, by omega, by omega⟩
    generalize (w6.alloc (.cells #[.bool false, .int .i64 0, .int .i64 0, .slice none 0 0, .int .i64 0, .bool false, .int .u32 0, .int .i64 0, .slice none 0 0] 63)).setRow w6.heap.size KC.zero.cells.toArray = w7 at *
    obtain ⟨g6, hg6⟩ : ∃ g6, w6.heap.size = g6 := ⟨_, rfl⟩
    rw [hg6] at HI ⊢
    clear hg6 H4 H5 H6 hs5z hs6z hlg HL4
    go_wp2
    go_loopg [7, 8] len (fun g v7 v8 wr => ∃ (i : Nat), i ≤ len ∧ g = len - i ∧ v8 = .int .i64 i ∧ ∃ (iss : Int) (R : Nat → Prop) (L : SLog) (c : CSt) (x : KC) (rs : List KFl) (N : Nat) (LA : Option Addr) (ln lc : Nat) (le : List Ent), v7 = .int .u32 iss ∧ RunH w wr lb b g4 g6 R L c L c x rs N LA ln lc le ∧ c.offers ≤ i ∧ c.flows.length ≤ i ∧ x.pn ≤ i ∧ N ≤ i)
    case atStart => exact ⟨0, by omega, by omega, rfl, 0, R, SLog.new, CSt.new, KC.zero, [], 0, none, 0, 0, [], rfl, HI.out, Nat.le_refl _, Nat.le_refl _, Nat.le_refl _, Nat.le_refl _⟩
    case round =>
      clear HI
      obtain ⟨i, hi, hg, rfl, iss, R, L, c, x, rs, N, LA, ln, lc, le, rfl, hst, hof, hfl, hpn, hN⟩ := hrel
      have HG := Lib.hid hg
      have HS := Lib.hid hst
      have HB := Lib.hid (And.intro hof (And.intro hfl (And.intro hpn hN)))
      clear hg hst hof hfl hpn hN
      by_cases hlt : i < len
      · have hii : (i : Int) < len := by omega
        obtain ⟨ab, ao, op, rfl, hab, hop, hok, c0, c1, c2, c3, c4⟩ := HO.out.at_ hlt
        have g0 := HS.out.ses.same.cell c0 (fun q => q)
        have g1 := HS.out.ses.same.cell c1 (fun q => q)
        have g2 := HS.out.ses.same.cell c2 (fun q => q)
        have g3 := HS.out.ses.same.cell c3 (fun q => q)
        have g4_ := HS.out.ses.same.cell c4 (fun q => q)
        have HX := Lib.hid (And.intro (HLT.out _ (List.mem_of_getElem? hop)) hok)
        clear c0 c1 c2 c3 c4 hok hop
        go_upto_region 13 with (fail)
        have hs1 : Same wr ((wr.alloc (.cells #[.int .i64 op.kind, .int .i64 op.client, .int .i64 op.n, .int .i64 op.acts, .slice op.A op.len op.cap] 49)).alloc (.cells #[.slice op.A op.len op.cap, .int .i64 op.acts] 36)) := ((Chg.refl _ _).alloc _).alloc _
        have hv9 : VarAt ((wr.alloc (.cells #[.int .i64 op.kind, .int .i64 op.client, .int .i64 op.n, .int .i64 op.acts, .slice op.A op.len op.cap] 49)).alloc (.cells #[.slice op.A op.len op.cap, .int .i64 op.acts] 36)) wr.heap.size 49 #[.int .i64 op.kind, .int .i64 op.client, .int .i64 op.n, .int .i64 op.acts, .slice op.A op.len op.cap] := (VarAt.new _ _ _).alloc _
        have hv10 : VarAt ((wr.alloc (.cells #[.int .i64 op.kind, .int .i64 op.client, .int .i64 op.n, .int .i64 op.acts, .slice op.A op.len op.cap] 49)).alloc (.cells #[.slice op.A op.len op.cap, .int .i64 op.acts] 36)) (wr.heap.size + 1) 36 #[.slice op.A op.len op.cap, .int .i64 op.acts] := VarAt.newk (by simp)
        generalize (wr.alloc (.cells #[.int .i64 op.kind, .int .i64 op.client, .int .i64 op.n, .int .i64 op.acts, .slice op.A op.len op.cap] 49)).alloc (.cells #[.slice op.A op.len op.cap, .int .i64 op.acts] 36) = wA at *
        obtain ⟨b9, e9⟩ : ∃ b9, wr.heap.size = b9 := ⟨_, rfl⟩
        obtain ⟨b10, e10⟩ : ∃ b10, wr.heap.size + 1 = b10 := ⟨_, rfl⟩
        rw [e10, e9]
        rw [e9] at hv9
        rw [e10] at hv10
        have HA : Hid (RunH w wA lb b g4 g6 R L c L c x rs N LA ln lc le ∧ VarAt wA b9 49 #[.int .i64 op.kind, .int .i64 op.client, .int .i64 op.n, .int .i64 op.acts, .slice op.A op.len op.cap] ∧ VarAt wA b10 36 #[.slice op.A op.len op.cap, .int .i64 op.acts] ∧ (∀ y, FC R lb g4 g6 y → y < b9) ∧ b10 = b9 + 1 ∧ w.heap.size ≤ b9) := Lib.hid ⟨HS.out.same hs1, hv9, hv10, fun y hy => by have := HS.out.lt y hy; omega, by omega, by rw [← e9]; exact HS.out.ses.same.size⟩
        have k0 : wA.cell? ⟨b9, 0, none⟩ = some (.int .i64 op.kind) := cell_at (C := [.int .i64 op.kind, .int .i64 op.client, .int .i64 op.n, .int .i64 op.acts, .slice op.A op.len op.cap]) hv9 0
        have lb9 := lt_of_at hv9
        clear hs1 hv9 hv10 e9 e10 g0 g1 g2 g3 g4_ hab
        go_upto_block 2 with fail
        go_cut [7, 11, 12, 13, 14, 15, 16, 17, 18, 19, 20, 21, 22, 23, 24] from 52 to 202 (fun v7 v11 v12 v13 v14 v15 v16 v17 v18 v19 v20 v21 v22 v23 v24 wx => ∃ (iss : Int) (R : Nat → Prop) (L : SLog) (c : CSt) (x : KC) (rs : List KFl) (N : Nat) (LA : Option Addr) (ln lc : Nat) (le : List Ent), v7 = .int .u32 iss ∧ RunH w wx lb b g4 g6 R L c L c x rs N LA ln lc le ∧ VarAt wx b9 49 #[.int .i64 op.kind, .int .i64 op.client, .int .i64 op.n, .int .i64 op.acts, .slice op.A op.len op.cap] ∧ c.offers ≤ i + 1 ∧ c.flows.length ≤ i + 1 ∧ x.pn ≤ i + 1 ∧ N ≤ i + 1)
        case first =>
          by_cases hk1 : op.kind = 1
          · as_aux_lemma =>
              have hbk : (op.kind == 1) = true := by simp [hk1]
              clear hk1
              have HKS : Hid (wA.heap.size ≤ wA.drew.heap.size) := Lib.hid (Nat.le_refl _)
              go_upto_region 20 with (fail)
              go_cut [11, 12] from 77 to 88 (fun va vb wx => ∃ (gn : Nat) (x2 : KC), va = .pointer (some ⟨gn, 0, none⟩) ∧ vb = .int .i64 (c.setE L op.client op.fs op.acts (quoteV iss op.n)) ∧ x2.pn = x.pn ∧ BoxR R lb g4 g6 wA wx (c.set L op.client op.fs op.acts (quoteV iss op.n)) x2 rs gn)
              case first =>
                have HK : Hid (Same wA wA.drew) := Lib.hid ((Chg.refl _ _).drew)
                refine region_tree (S := (fun w' => Same wA w')) 99 (.rd 0 (.rd 1 (.rd 2 (.rd 3 (.rd 4 (.rd 5 (.rd 6 (.fork 7 12 (.fork 8 12 (.rd 9 (.rd 10 (.rd 11 (.one 12 (.one 13 (.rd 14 .nil)))))) (.one 8 (.rd 9 (.rd 10 (.rd 11 (.one 13 (.rd 14 .nil))))))) (.one 7 (.one 8 (.rd 9 (.rd 10 (.rd 11 (.one 13 (.rd 14 .nil))))))))))))))) (by kernel_rfl) (by kernel_rfl) (by kernel_rfl) HK.out ?_
                refine tree_read (i := 0) (v := (.agg x.cells.toArray) ) rfl (by rfl) (fun _ _ _ h => h) ?hy27 ?_
                case hy27 => (intro w hSw;  exact exec_loadv rfl (run_load_kc (HA.out.1.vk.same hSw)))
                try simp only [Act.put, List.setIfInBounds_toArray, List.set_cons_zero, List.set_cons_succ]
                refine tree_read (i := 1) (v := (.agg #[.int .i64 N, .slice LA ln lc]) ) rfl (by rfl) (fun _ _ _ h => h) ?hy28 ?_
                case hy28 => (intro w hSw;  exact exec_loadv rfl (VarAt.ldL (N := N) (HA.out.1.vl.same hSw)))
                try simp only [Act.put, List.setIfInBounds_toArray, List.set_cons_zero, List.set_cons_succ]
                refine tree_read (i := 2) (v := ?v29) rfl (by rfl) (fun _ _ _ h => h) ?hy29 ?_
                case hy29 => ((intro w hSw; (try dsimp only at hSw); go_simp) <;> (try with_reducible rfl))
                try simp only [Act.put, List.setIfInBounds_toArray, List.set_cons_zero, List.set_cons_succ]
                refine tree_read (i := 3) (v := (.int .i64 op.client) ) rfl (by rfl) (fun _ _ _ h => h) ?hy30 ?_
                case hy30 => (intro w hSw;  (have q : w.cell? ⟨b9, 1, none⟩ = some (.int .i64 op.client) := cell_at (C := [.int .i64 op.kind, .int .i64 op.client, .int .i64 op.n, .int .i64 op.acts, .slice op.A op.len op.cap]) (HA.out.2.1.same hSw) 1; go_simp))
                try simp only [Act.put, List.setIfInBounds_toArray, List.set_cons_zero, List.set_cons_succ]
                refine tree_read (i := 4) (v := (.agg #[.slice op.A op.len op.cap, .int .i64 op.acts]) ) rfl (by rfl) (fun _ _ _ h => h) ?hy31 ?_
                case hy31 => (intro w hSw;  exact exec_loadv rfl (run_load_off (HA.out.2.2.1.same hSw)))
                try simp only [Act.put, List.setIfInBounds_toArray, List.set_cons_zero, List.set_cons_succ]
                refine tree_read (i := 5) (v := ?v32) rfl (by rfl) (fun _ _ _ h => h) ?hy32 ?_
                case hy32 => ((intro w hSw; (try dsimp only at hSw); go_simp) <;> (try with_reducible rfl))
                try simp only [Act.put, List.setIfInBounds_toArray, List.set_cons_zero, List.set_cons_succ]
                refine tree_read (i := 6) (v := (.agg #[.int .i64 op.kind, .int .i64 op.client, .int .i64 op.n, .int .i64 op.acts, .slice op.A op.len op.cap]) ) rfl (by rfl) (fun _ _ _ h => h) ?hy33 ?_
                case hy33 => (intro w hSw;  exact exec_loadv rfl (run_load_cop (HA.out.2.1.same hSw)))
                try simp only [Act.put, List.setIfInBounds_toArray, List.set_cons_zero, List.set_cons_succ]
                refine tree_fork (i := 7) (j := 12) rfl rfl ?_ ?_
                · go_wp2_with ((go_at_call 20; go_loud (refine (quoted_ok iss op.kind op.client op.n op.acts op.A op.len op.cap _).mono ?_; rintro e wq ⟨rfl, hs⟩; have HK := Lib.hid (HK.out.trans hs); (try (have VN := Lib.hid (VN.out.same hs))); (try (have HGN := Lib.hid (And.intro HGN.out.1 (Nat.lt_of_lt_of_le HGN.out.2 hs.size)))); clear hs)))
                  (first | refine ⟨.inr ?keep34, ?_⟩ | refine ⟨?keep34, ?_⟩)
                  case keep34 => (first | exact HK.out | exact FIN.out.2.2)
                  try simp only [Act.put, List.setIfInBounds_toArray, List.set_cons_zero, List.set_cons_succ]
                  refine tree_fork (i := 8) (j := 12) rfl rfl ?_ ?_
                  · go_wp2_with ((go_at_call 25; first | (have HF8 := Lib.hid (And.intro (HA.out.1.rkX HK.out (X := fun y => y = gn) (fun y q => by have := HGN.out.1; omega)) (And.intro (HA.out.1.rlX HK.out (X := fun y => y = gn) (fun y q => by have := HGN.out.1; omega)) (fun y (q : FC R lb g4 g6 y ∨ y = gn) => (show y < _ from by rcases q with q | q; exact Nat.lt_of_lt_of_le (HA.out.1.lt y q) HK.out.size; rw [q]; exact HGN.out.2)))); go_loud (refine (kset_any lc op.client op.A op.len op.cap op.fs op.acts (quoteV iss op.n) HF8.out.1 HF8.out.2.1 (by have := HB.out; omega) HF8.out.2.2 (show SArg _ op.A op.len op.cap op.fs from ⟨HX.out.2.2.2.2.2.1.same (HA.out.1.ses.same.trans HK.out), HX.out.2.2.2.2.2.2⟩) HX.out.1.2 HX.out.1.1).mono ?_; rintro e wk ⟨x2, rfl, hrk, hpn8, hs⟩; have HR8 := Lib.hid hrk; have HP8 := Lib.hid hpn8; have HK := Lib.hid (HK.out.trans hs); (try (have VN := Lib.hid (VN.out.same hs))); (try (have HGN := Lib.hid (And.intro HGN.out.1 (Nat.lt_of_lt_of_le HGN.out.2 hs.size)))); clear hrk hpn8 hs)) | (have HF8 := Lib.hid (And.intro (HA.out.1.rkX HK.out (X := fun y => False) (fun y q => q.elim)) (And.intro (HA.out.1.rlX HK.out (X := fun y => False) (fun y q => q.elim)) (fun y (q : FC R lb g4 g6 y ∨ False) => (show y < _ from by rcases q with q | q; exact Nat.lt_of_lt_of_le (HA.out.1.lt y q) HK.out.size; exact q.elim)))); go_loud (refine (kset_any lc op.client op.A op.len op.cap op.fs op.acts (quoteV iss op.n) HF8.out.1 HF8.out.2.1 (by have := HB.out; omega) HF8.out.2.2 (show SArg _ op.A op.len op.cap op.fs from ⟨HX.out.2.2.2.2.2.1.same (HA.out.1.ses.same.trans HK.out), HX.out.2.2.2.2.2.2⟩) HX.out.1.2 HX.out.1.1).mono ?_; rintro e wk ⟨x2, rfl, hrk, hpn8, hs⟩; have HR8 := Lib.hid hrk; have HP8 := Lib.hid hpn8; have HK := Lib.hid (HK.out.trans hs); (try (have VN := Lib.hid (VN.out.same hs))); (try (have HGN := Lib.hid (And.intro HGN.out.1 (Nat.lt_of_lt_of_le HGN.out.2 hs.size)))); clear hrk hpn8 hs))))
                    (first | refine ⟨.inr ?keep36, ?_⟩ | refine ⟨?keep36, ?_⟩)
                    case keep36 => (first | exact HK.out | exact FIN.out.2.2)
                    try simp only [Act.put, List.setIfInBounds_toArray, List.set_cons_zero, List.set_cons_succ]
                    refine tree_read (i := 9) (v := ?v38) rfl (by rfl) (fun _ _ _ h => h) ?hy38 ?_
                    case hy38 => ((intro w hSw; (try dsimp only at hSw); go_simp) <;> (try with_reducible rfl))
                    try simp only [Act.put, List.setIfInBounds_toArray, List.set_cons_zero, List.set_cons_succ]
                    refine tree_read (i := 10) (v := ?v39) rfl (by rfl) (fun _ _ _ h => h) ?hy39 ?_
                    case hy39 => ((intro w hSw; (try dsimp only at hSw); go_simp) <;> (try with_reducible rfl))
                    try simp only [Act.put, List.setIfInBounds_toArray, List.set_cons_zero, List.set_cons_succ]
                    refine tree_read (i := 11) (v := ?v40) rfl (by rfl) (fun _ _ _ h => h) ?hy40 ?_
                    case hy40 => ((intro w hSw; (try dsimp only at hSw); go_simp) <;> (try with_reducible rfl))
                    try simp only [Act.put, List.setIfInBounds_toArray, List.set_cons_zero, List.set_cons_succ]
                    refine tree_one (i := 12) rfl ?_
                    refine wpl_newK ?_
                    intro un gn hsn vn hgn hgnl
                    have HGN := Lib.hid (And.intro (Nat.le_trans HK.out.size hgn) hgnl)
                    have HK := Lib.hid (HK.out.trans hsn)
                    have VN := Lib.hid vn
                    (try (have HR8 := Lib.hid (RK.own HR8.out (F' := fun y => FC R lb g4 g6 y ∨ y = gn) (Own.of_same hsn (fun y q => by rcases q with q | q; exact .inl (.inl q); exact .inr (by omega))))))
                    clear hsn vn hgn hgnl
                    refine tree_next (.inr ?keep41) ?_
                    case keep41 => (first | exact HK.out | exact FIN.out.2.2)
                    try simp only [Act.put, List.setIfInBounds_toArray, List.set_cons_zero, List.set_cons_succ]
                    refine tree_one (i := 13) rfl ?_
                    have FIN := Lib.hid (box_end VN.out HR8.out HK.out HGN.out.1)
                    refine wpl_storeRow _ rfl rfl VN.out infoKC2 rfl (KC.one _) ?_
                    refine tree_next (.inr ?keep42) ?_
                    case keep42 => (first | exact HK.out | exact FIN.out.2.2)
                    try simp only [Act.put, List.setIfInBounds_toArray, List.set_cons_zero, List.set_cons_succ]
                    refine tree_read (i := 14) (v := ?v43) rfl (by rfl) (fun _ _ _ h => h) ?hy43 ?_
                    case hy43 => ((intro w hSw; (try dsimp only at hSw); go_simp) <;> (try with_reducible rfl))
                    try simp only [Act.put, List.setIfInBounds_toArray, List.set_cons_zero, List.set_cons_succ]
                    refine tree_end ?_
                    go_wp2_with fail
                    go_meet
                    case rel => exact ⟨gn, x2, rfl, rfl, HP8.out, FIN.out⟩
                  · refine wpl_newK ?_
                    intro un gn hsn vn hgn hgnl
                    have HGN := Lib.hid (And.intro (Nat.le_trans HK.out.size hgn) hgnl)
                    have HK := Lib.hid (HK.out.trans hsn)
                    have VN := Lib.hid vn
                    (try (have HR8 := Lib.hid (RK.own HR8.out (F' := fun y => FC R lb g4 g6 y ∨ y = gn) (Own.of_same hsn (fun y q => by rcases q with q | q; exact .inl (.inl q); exact .inr (by omega))))))
                    clear hsn vn hgn hgnl
                    refine tree_next (.inr ?keep43) ?_
                    case keep43 => (first | exact HK.out | exact FIN.out.2.2)
                    try simp only [Act.put, List.setIfInBounds_toArray, List.set_cons_zero, List.set_cons_succ]
                    refine tree_one (i := 8) rfl ?_
                    go_wp2_with ((go_at_call 25; first | (have HF8 := Lib.hid (And.intro (HA.out.1.rkX HK.out (X := fun y => y = gn) (fun y q => by have := HGN.out.1; omega)) (And.intro (HA.out.1.rlX HK.out (X := fun y => y = gn) (fun y q => by have := HGN.out.1; omega)) (fun y (q : FC R lb g4 g6 y ∨ y = gn) => (show y < _ from by rcases q with q | q; exact Nat.lt_of_lt_of_le (HA.out.1.lt y q) HK.out.size; rw [q]; exact HGN.out.2)))); go_loud (refine (kset_any lc op.client op.A op.len op.cap op.fs op.acts (quoteV iss op.n) HF8.out.1 HF8.out.2.1 (by have := HB.out; omega) HF8.out.2.2 (show SArg _ op.A op.len op.cap op.fs from ⟨HX.out.2.2.2.2.2.1.same (HA.out.1.ses.same.trans HK.out), HX.out.2.2.2.2.2.2⟩) HX.out.1.2 HX.out.1.1).mono ?_; rintro e wk ⟨x2, rfl, hrk, hpn8, hs⟩; have HR8 := Lib.hid hrk; have HP8 := Lib.hid hpn8; have HK := Lib.hid (HK.out.trans hs); (try (have VN := Lib.hid (VN.out.same hs))); (try (have HGN := Lib.hid (And.intro HGN.out.1 (Nat.lt_of_lt_of_le HGN.out.2 hs.size)))); clear hrk hpn8 hs)) | (have HF8 := Lib.hid (And.intro (HA.out.1.rkX HK.out (X := fun y => False) (fun y q => q.elim)) (And.intro (HA.out.1.rlX HK.out (X := fun y => False) (fun y q => q.elim)) (fun y (q : FC R lb g4 g6 y ∨ False) => (show y < _ from by rcases q with q | q; exact Nat.lt_of_lt_of_le (HA.out.1.lt y q) HK.out.size; exact q.elim)))); go_loud (refine (kset_any lc op.client op.A op.len op.cap op.fs op.acts (quoteV iss op.n) HF8.out.1 HF8.out.2.1 (by have := HB.out; omega) HF8.out.2.2 (show SArg _ op.A op.len op.cap op.fs from ⟨HX.out.2.2.2.2.2.1.same (HA.out.1.ses.same.trans HK.out), HX.out.2.2.2.2.2.2⟩) HX.out.1.2 HX.out.1.1).mono ?_; rintro e wk ⟨x2, rfl, hrk, hpn8, hs⟩; have HR8 := Lib.hid hrk; have HP8 := Lib.hid hpn8; have HK := Lib.hid (HK.out.trans hs); (try (have VN := Lib.hid (VN.out.same hs))); (try (have HGN := Lib.hid (And.intro HGN.out.1 (Nat.lt_of_lt_of_le HGN.out.2 hs.size)))); clear hrk hpn8 hs))))
                    (first | refine ⟨.inr ?keep44, ?_⟩ | refine ⟨?keep44, ?_⟩)
                    case keep44 => (first | exact HK.out | exact FIN.out.2.2)
                    try simp only [Act.put, List.setIfInBounds_toArray, List.set_cons_zero, List.set_cons_succ]
                    refine tree_read (i := 9) (v := ?v45) rfl (by rfl) (fun _ _ _ h => h) ?hy45 ?_
                    case hy45 => ((intro w hSw; (try dsimp only at hSw); go_simp) <;> (try with_reducible rfl))
                    try simp only [Act.put, List.setIfInBounds_toArray, List.set_cons_zero, List.set_cons_succ]
                    refine tree_read (i := 10) (v := ?v46) rfl (by rfl) (fun _ _ _ h => h) ?hy46 ?_
                    case hy46 => ((intro w hSw; (try dsimp only at hSw); go_simp) <;> (try with_reducible rfl))
                    try simp only [Act.put, List.setIfInBounds_toArray, List.set_cons_zero, List.set_cons_succ]
                    refine tree_read (i := 11) (v := ?v47) rfl (by rfl) (fun _ _ _ h => h) ?hy47 ?_
                    case hy47 => ((intro w hSw; (try dsimp only at hSw); go_simp) <;> (try with_reducible rfl))
                    try simp only [Act.put, List.setIfInBounds_toArray, List.set_cons_zero, List.set_cons_succ]
                    refine tree_one (i := 13) rfl ?_
                    have FIN := Lib.hid (box_end VN.out HR8.out HK.out HGN.out.1)
                    refine wpl_storeRow _ rfl rfl VN.out infoKC2 rfl (KC.one _) ?_
                    refine tree_next (.inr ?keep48) ?_
                    case keep48 => (first | exact HK.out | exact FIN.out.2.2)
                    try simp only [Act.put, List.setIfInBounds_toArray, List.set_cons_zero, List.set_cons_succ]
                    refine tree_read (i := 14) (v := ?v49) rfl (by rfl) (fun _ _ _ h => h) ?hy49 ?_
                    case hy49 => ((intro w hSw; (try dsimp only at hSw); go_simp) <;> (try with_reducible rfl))
                    try simp only [Act.put, List.setIfInBounds_toArray, List.set_cons_zero, List.set_cons_succ]
                    refine tree_end ?_
                    go_wp2_with fail
                    go_meet
                    case rel => exact ⟨gn, x2, rfl, rfl, HP8.out, FIN.out⟩
                · refine wpl_newK ?_
                  intro un gn hsn vn hgn hgnl
                  have HGN := Lib.hid (And.intro (Nat.le_trans HK.out.size hgn) hgnl)
                  have HK := Lib.hid (HK.out.trans hsn)
                  have VN := Lib.hid vn
                  (try (have HR8 := Lib.hid (RK.own HR8.out (F' := fun y => FC R lb g4 g6 y ∨ y = gn) (Own.of_same hsn (fun y q => by rcases q with q | q; exact .inl (.inl q); exact .inr (by omega))))))
                  clear hsn vn hgn hgnl
                  refine tree_next (.inr ?keep49) ?_
                  case keep49 => (first | exact HK.out | exact FIN.out.2.2)
                  try simp only [Act.put, List.setIfInBounds_toArray, List.set_cons_zero, List.set_cons_succ]
                  refine tree_one (i := 7) rfl ?_
                  go_wp2_with ((go_at_call 20; go_loud (refine (quoted_ok iss op.kind op.client op.n op.acts op.A op.len op.cap _).mono ?_; rintro e wq ⟨rfl, hs⟩; have HK := Lib.hid (HK.out.trans hs); (try (have VN := Lib.hid (VN.out.same hs))); (try (have HGN := Lib.hid (And.intro HGN.out.1 (Nat.lt_of_lt_of_le HGN.out.2 hs.size)))); clear hs)))
                  (first | refine ⟨.inr ?keep50, ?_⟩ | refine ⟨?keep50, ?_⟩)
                  case keep50 => (first | exact HK.out | exact FIN.out.2.2)
                  try simp only [Act.put, List.setIfInBounds_toArray, List.set_cons_zero, List.set_cons_succ]
                  refine tree_one (i := 8) rfl ?_
                  go_wp2_with ((go_at_call 25; first | (have HF8 := Lib.hid (And.intro (HA.out.1.rkX HK.out (X := fun y => y = gn) (fun y q => by have := HGN.out.1; omega)) (And.intro (HA.out.1.rlX HK.out (X := fun y => y = gn) (fun y q => by have := HGN.out.1; omega)) (fun y (q : FC R lb g4 g6 y ∨ y = gn) => (show y < _ from by rcases q with q | q; exact Nat.lt_of_lt_of_le (HA.out.1.lt y q) HK.out.size; rw [q]; exact HGN.out.2)))); go_loud (refine (kset_any lc op.client op.A op.len op.cap op.fs op.acts (quoteV iss op.n) HF8.out.1 HF8.out.2.1 (by have := HB.out; omega) HF8.out.2.2 (show SArg _ op.A op.len op.cap op.fs from ⟨HX.out.2.2.2.2.2.1.same (HA.out.1.ses.same.trans HK.out), HX.out.2.2.2.2.2.2⟩) HX.out.1.2 HX.out.1.1).mono ?_; rintro e wk ⟨x2, rfl, hrk, hpn8, hs⟩; have HR8 := Lib.hid hrk; have HP8 := Lib.hid hpn8; have HK := Lib.hid (HK.out.trans hs); (try (have VN := Lib.hid (VN.out.same hs))); (try (have HGN := Lib.hid (And.intro HGN.out.1 (Nat.lt_of_lt_of_le HGN.out.2 hs.size)))); clear hrk hpn8 hs)) | (have HF8 := Lib.hid (And.intro (HA.out.1.rkX HK.out (X := fun y => False) (fun y q => q.elim)) (And.intro (HA.out.1.rlX HK.out (X := fun y => False) (fun y q => q.elim)) (fun y (q : FC R lb g4 g6 y ∨ False) => (show y < _ from by rcases q with q | q; exact Nat.lt_of_lt_of_le (HA.out.1.lt y q) HK.out.size; exact q.elim)))); go_loud (refine (kset_any lc op.client op.A op.len op.cap op.fs op.acts (quoteV iss op.n) HF8.out.1 HF8.out.2.1 (by have := HB.out; omega) HF8.out.2.2 (show SArg _ op.A op.len op.cap op.fs from ⟨HX.out.2.2.2.2.2.1.same (HA.out.1.ses.same.trans HK.out), HX.out.2.2.2.2.2.2⟩) HX.out.1.2 HX.out.1.1).mono ?_; rintro e wk ⟨x2, rfl, hrk, hpn8, hs⟩; have HR8 := Lib.hid hrk; have HP8 := Lib.hid hpn8; have HK := Lib.hid (HK.out.trans hs); (try (have VN := Lib.hid (VN.out.same hs))); (try (have HGN := Lib.hid (And.intro HGN.out.1 (Nat.lt_of_lt_of_le HGN.out.2 hs.size)))); clear hrk hpn8 hs))))
                  (first | refine ⟨.inr ?keep51, ?_⟩ | refine ⟨?keep51, ?_⟩)
                  case keep51 => (first | exact HK.out | exact FIN.out.2.2)
                  try simp only [Act.put, List.setIfInBounds_toArray, List.set_cons_zero, List.set_cons_succ]
                  refine tree_read (i := 9) (v := ?v52) rfl (by rfl) (fun _ _ _ h => h) ?hy52 ?_
                  case hy52 => ((intro w hSw; (try dsimp only at hSw); go_simp) <;> (try with_reducible rfl))
                  try simp only [Act.put, List.setIfInBounds_toArray, List.set_cons_zero, List.set_cons_succ]
                  refine tree_read (i := 10) (v := ?v53) rfl (by rfl) (fun _ _ _ h => h) ?hy53 ?_
                  case hy53 => ((intro w hSw; (try dsimp only at hSw); go_simp) <;> (try with_reducible rfl))
                  try simp only [Act.put, List.setIfInBounds_toArray, List.set_cons_zero, List.set_cons_succ]
                  refine tree_read (i := 11) (v := ?v54) rfl (by rfl) (fun _ _ _ h => h) ?hy54 ?_
                  case hy54 => ((intro w hSw; (try dsimp only at hSw); go_simp) <;> (try with_reducible rfl))
                  try simp only [Act.put, List.setIfInBounds_toArray, List.set_cons_zero, List.set_cons_succ]
                  refine tree_one (i := 13) rfl ?_
                  have FIN := Lib.hid (box_end VN.out HR8.out HK.out HGN.out.1)
                  refine wpl_storeRow _ rfl rfl VN.out infoKC2 rfl (KC.one _) ?_
                  refine tree_next (.inr ?keep55) ?_
                  case keep55 => (first | exact HK.out | exact FIN.out.2.2)
                  try simp only [Act.put, List.setIfInBounds_toArray, List.set_cons_zero, List.set_cons_succ]
                  refine tree_read (i := 14) (v := ?v56) rfl (by rfl) (fun _ _ _ h => h) ?hy56 ?_
                  case hy56 => ((intro w hSw; (try dsimp only at hSw); go_simp) <;> (try with_reducible rfl))
                  try simp only [Act.put, List.setIfInBounds_toArray, List.set_cons_zero, List.set_cons_succ]
                  refine tree_end ?_
                  go_wp2_with fail
                  go_meet
                  case rel => exact ⟨gn, x2, rfl, rfl, HP8.out, FIN.out⟩
              case rest =>
                obtain ⟨gn, x2, rfl, rfl, hpn2, hbx⟩ := hcut
                rename World => wx
                have hld := run_load_kc hbx.1
                have hvk := HA.out.1.vk.same hbx.2.2
                have hset := (HA.out.1.same hbx.2.2).setK hbx.2.1
                have hs9 := hset.2.at_ (HA.out.2.1.same hbx.2.2) (fun q => by have q2 : b9 = g6 := q; have := HA.out.2.2.2.1 g6 (.inr (.inr (.inr rfl))); omega)
                have hs10 := hset.2.at_ (HA.out.2.2.1.same hbx.2.2) (fun q => by have q2 : b10 = g6 := q; have := HA.out.2.2.2.1 g6 (.inr (.inr (.inr rfl))); have := HA.out.2.2.2.2.1; omega)
                have HS2 := Lib.hid (And.intro hset.1 (And.intro hs9 (And.intro hs10 hpn2)))
                clear hbx hset hs9 hs10 hpn2 k0 lb9
                go_upto_region 22 with (first | (refine wpl_loadv _ _ _ rfl hld ?_) | (refine wpl_storeRow _ rfl rfl hvk infoKC2 rfl (KC.one _) ?_))
                try simp only [Act.put, List.setIfInBounds_toArray, List.set_cons_zero, List.set_cons_succ]
                clear hld hvk
                generalize wx.setRow g6 x2.cells.toArray = wB at *
                have S9 : Hid (VarAt wB.drew b9 49 #[.int .i64 op.kind, .int .i64 op.client, .int .i64 op.n, .int .i64 op.acts, .slice op.A op.len op.cap] ∧ VarAt wB.drew b10 36 #[.slice op.A op.len op.cap, .int .i64 op.acts]) := Lib.hid ⟨VarAt.drew HS2.out.2.1, VarAt.drew HS2.out.2.2.1⟩
                have HK : Hid (Same wB wB.drew) := Lib.hid ((Chg.refl _ _).drew)
                refine region_path (S := (fun w' => VarAt w' b9 49 #[.int .i64 op.kind, .int .i64 op.client, .int .i64 op.n, .int .i64 op.acts, .slice op.A op.len op.cap] ∧ VarAt w' b10 36 #[.slice op.A op.len op.cap, .int .i64 op.acts])) 99 [(0, true), (1, true), (2, true), (3, true), (4, true), (5, true), (8, true), (6, false), (7, false), (9, true)] (by kernel_rfl) (by kernel_rfl) (by kernel_rfl) S9.out ?_
                refine path_read (i := 0) (v := ?v57_0) rfl (by rfl) (fun _ _ _ h => h) ?hy57_0 ?_
                case hy57_0 => ((intro w hSw; (try dsimp only at hSw); go_simp) <;> (try with_reducible rfl))
                try simp only [Act.put, List.setIfInBounds_toArray, List.set_cons_zero, List.set_cons_succ]
                refine path_read (i := 1) (v := ?v57_1) rfl (by rfl) (fun _ _ _ h => h) ?hy57_1 ?_
                case hy57_1 => ((intro w hSw; (try dsimp only at hSw); go_simp) <;> (try with_reducible rfl))
                try simp only [Act.put, List.setIfInBounds_toArray, List.set_cons_zero, List.set_cons_succ]
                refine path_read (i := 2) (v := (.int .i64 op.client) ) rfl (by rfl) (fun _ _ _ h => h) ?hy57_2 ?_
                case hy57_2 => (intro w hSw;  (have q : w.cell? ⟨b9, 1, none⟩ = some (.int .i64 op.client) := cell_at (C := [.int .i64 op.kind, .int .i64 op.client, .int .i64 op.n, .int .i64 op.acts, .slice op.A op.len op.cap]) hSw.1 1; go_simp))
                try simp only [Act.put, List.setIfInBounds_toArray, List.set_cons_zero, List.set_cons_succ]
                refine path_read (i := 3) (v := (.agg #[.slice op.A op.len op.cap, .int .i64 op.acts]) ) rfl (by rfl) (fun _ _ _ h => h) ?hy57_3 ?_
                case hy57_3 => (intro w hSw;  exact exec_loadv rfl (run_load_off hSw.2))
                try simp only [Act.put, List.setIfInBounds_toArray, List.set_cons_zero, List.set_cons_succ]
                refine path_read (i := 4) (v := ?v57_4) rfl (by rfl) (fun _ _ _ h => h) ?hy57_4 ?_
                case hy57_4 => ((intro w hSw; (try dsimp only at hSw); go_simp) <;> (try with_reducible rfl))
                try simp only [Act.put, List.setIfInBounds_toArray, List.set_cons_zero, List.set_cons_succ]
                refine path_read (i := 5) (v := (.agg #[.int .i64 op.kind, .int .i64 op.client, .int .i64 op.n, .int .i64 op.acts, .slice op.A op.len op.cap]) ) rfl (by rfl) (fun _ _ _ h => h) ?hy57_5 ?_
                case hy57_5 => (intro w hSw;  exact exec_loadv rfl (run_load_cop hSw.1))
                try simp only [Act.put, List.setIfInBounds_toArray, List.set_cons_zero, List.set_cons_succ]
                refine path_read (i := 8) (v := ?v57_8) rfl (by rfl) (fun _ _ _ h => h) ?hy57_8 ?_
                case hy57_8 => ((intro w hSw; (try dsimp only at hSw); go_simp) <;> (try with_reducible rfl))
                try simp only [Act.put, List.setIfInBounds_toArray, List.set_cons_zero, List.set_cons_succ]
                refine path_do (i := 6) rfl ?_
                go_wp2_with ((go_at_call 20; go_loud (refine (quoted_ok iss op.kind op.client op.n op.acts op.A op.len op.cap _).mono ?_; rintro e wq ⟨rfl, hs⟩; have HK := Lib.hid (HK.out.trans hs); have S9 := Lib.hid (And.intro (S9.out.1.same hs) (S9.out.2.same hs)); clear hs)))
                (first | refine ⟨.inr ?keep57_6, ?_⟩ | refine ⟨?keep57_6, ?_⟩)
                case keep57_6 => (exact S9.out)
                try simp only [Act.put, List.setIfInBounds_toArray, List.set_cons_zero, List.set_cons_succ]
                refine path_do (i := 7) rfl ?_
                go_wp2_with ((go_at_call 15; go_loud (refine (ses_set _ _ op.client op.acts (quoteV iss op.n) op.A op.len op.cap op.fs (HS2.out.1.ses.keep HK.out) (show SArg _ op.A op.len op.cap op.fs from ⟨HX.out.2.2.2.2.2.1.same ((HS2.out.1.ses.keep HK.out).same), HX.out.2.2.2.2.2.2⟩) (acc_off HX.out.2 (HS2.out.1.ses.keep HK.out)) rfl rfl).mono ?_; rintro e wp ⟨R', rfl, hsp, hown⟩; have S9 := Lib.hid (And.intro (hown.chg.at_ S9.out.1 (fun q => by have := HA.out.2.2.2.1 b9 (.inl q); omega)) (hown.chg.at_ S9.out.2 (fun q => by have := HA.out.2.2.2.1 b10 (.inl q); have := HA.out.2.2.2.2.1; omega))); have HEND := Lib.hid ((HS2.out.1.same HK.out).prog hsp hown); clear hsp hown)))
                (first | refine ⟨.inr ?keep57_7, ?_⟩ | refine ⟨?keep57_7, ?_⟩)
                case keep57_7 => (exact S9.out)
                try simp only [Act.put, List.setIfInBounds_toArray, List.set_cons_zero, List.set_cons_succ]
                refine path_read (i := 9) (v := ?v57_9) rfl (by rfl) (fun _ _ _ h => h) ?hy57_9 ?_
                case hy57_9 => ((intro w hSw; (try dsimp only at hSw); go_simp) <;> (try with_reducible rfl))
                try simp only [Act.put, List.setIfInBounds_toArray, List.set_cons_zero, List.set_cons_succ]
                refine path_end ?_
                go_wp2_with fail
                go_meet
                case rel => exact ⟨iss, R', L, _, x2, rs, N, LA, ln, lc, le, rfl, HEND.out, S9.out.1, by have := HB.out; rw [(set_keep c L op.client op.fs op.acts (quoteV iss op.n)).1]; omega, by have := HB.out; rw [(set_keep c L op.client op.fs op.acts (quoteV iss op.n)).2]; omega, by have := HB.out; have := HS2.out.2.2.2; omega, by have := HB.out; omega⟩
          · have hb1 : (op.kind == 1) = false := by simp [hk1]
            by_cases hk2 : op.kind = 2
            · as_aux_lemma =>
                have hbk : (op.kind == 2) = true := by simp [hk2]
                clear hk2
                have HKS : Hid (wA.heap.size ≤ wA.drew.heap.size) := Lib.hid (Nat.le_refl _)
                go_upto_region 25 with (fail)
                go_cut [13, 14] from 102 to 112 (fun va vb wx => ∃ (gn : Nat) (x2 : KC), va = .pointer (some ⟨gn, 0, none⟩) ∧ vb = .int .i64 (c.clrE L op.client (quoteV iss op.n)) ∧ x2.pn = x.pn ∧ BoxR R lb g4 g6 wA wx (c.clear L op.client (quoteV iss op.n)) x2 rs gn)
                case first =>
                  have HK : Hid (Same wA wA.drew) := Lib.hid ((Chg.refl _ _).drew)
                  refine region_tree (S := (fun w' => Same wA w')) 99 (.rd 0 (.rd 1 (.rd 2 (.rd 3 (.rd 4 (.rd 5 (.fork 6 11 (.fork 7 11 (.rd 8 (.rd 9 (.rd 10 (.one 11 (.one 12 (.rd 13 .nil)))))) (.one 7 (.rd 8 (.rd 9 (.rd 10 (.one 12 (.rd 13 .nil))))))) (.one 6 (.one 7 (.rd 8 (.rd 9 (.rd 10 (.one 12 (.rd 13 .nil)))))))))))))) (by kernel_rfl) (by kernel_rfl) (by kernel_rfl) HK.out ?_
                  refine tree_read (i := 0) (v := (.agg x.cells.toArray) ) rfl (by rfl) (fun _ _ _ h => h) ?hy58 ?_
                  case hy58 => (intro w hSw;  exact exec_loadv rfl (run_load_kc (HA.out.1.vk.same hSw)))
                  try simp only [Act.put, List.setIfInBounds_toArray, List.set_cons_zero, List.set_cons_succ]
                  refine tree_read (i := 1) (v := (.agg #[.int .i64 N, .slice LA ln lc]) ) rfl (by rfl) (fun _ _ _ h => h) ?hy59 ?_
                  case hy59 => (intro w hSw;  exact exec_loadv rfl (VarAt.ldL (N := N) (HA.out.1.vl.same hSw)))
                  try simp only [Act.put, List.setIfInBounds_toArray, List.set_cons_zero, List.set_cons_succ]
                  refine tree_read (i := 2) (v := ?v60) rfl (by rfl) (fun _ _ _ h => h) ?hy60 ?_
                  case hy60 => ((intro w hSw; (try dsimp only at hSw); go_simp) <;> (try with_reducible rfl))
                  try simp only [Act.put, List.setIfInBounds_toArray, List.set_cons_zero, List.set_cons_succ]
                  refine tree_read (i := 3) (v := (.int .i64 op.client) ) rfl (by rfl) (fun _ _ _ h => h) ?hy61 ?_
                  case hy61 => (intro w hSw;  (have q : w.cell? ⟨b9, 1, none⟩ = some (.int .i64 op.client) := cell_at (C := [.int .i64 op.kind, .int .i64 op.client, .int .i64 op.n, .int .i64 op.acts, .slice op.A op.len op.cap]) (HA.out.2.1.same hSw) 1; go_simp))
                  try simp only [Act.put, List.setIfInBounds_toArray, List.set_cons_zero, List.set_cons_succ]
                  refine tree_read (i := 4) (v := ?v62) rfl (by rfl) (fun _ _ _ h => h) ?hy62 ?_
                  case hy62 => ((intro w hSw; (try dsimp only at hSw); go_simp) <;> (try with_reducible rfl))
                  try simp only [Act.put, List.setIfInBounds_toArray, List.set_cons_zero, List.set_cons_succ]
                  refine tree_read (i := 5) (v := (.agg #[.int .i64 op.kind, .int .i64 op.client, .int .i64 op.n, .int .i64 op.acts, .slice op.A op.len op.cap]) ) rfl (by rfl) (fun _ _ _ h => h) ?hy63 ?_
                  case hy63 => (intro w hSw;  exact exec_loadv rfl (run_load_cop (HA.out.2.1.same hSw)))
                  try simp only [Act.put, List.setIfInBounds_toArray, List.set_cons_zero, List.set_cons_succ]
                  refine tree_fork (i := 6) (j := 11) rfl rfl ?_ ?_
                  · go_wp2_with ((go_at_call 20; go_loud (refine (quoted_ok iss op.kind op.client op.n op.acts op.A op.len op.cap _).mono ?_; rintro e wq ⟨rfl, hs⟩; have HK := Lib.hid (HK.out.trans hs); (try (have VN := Lib.hid (VN.out.same hs))); (try (have HGN := Lib.hid (And.intro HGN.out.1 (Nat.lt_of_lt_of_le HGN.out.2 hs.size)))); clear hs)))
                    (first | refine ⟨.inr ?keep64, ?_⟩ | refine ⟨?keep64, ?_⟩)
                    case keep64 => (first | exact HK.out | exact FIN.out.2.2)
                    try simp only [Act.put, List.setIfInBounds_toArray, List.set_cons_zero, List.set_cons_succ]
                    refine tree_fork (i := 7) (j := 11) rfl rfl ?_ ?_
                    · go_wp2_with ((go_at_call 26; first | (have HF8 := Lib.hid (And.intro (HA.out.1.rkX HK.out (X := fun y => y = gn) (fun y q => by have := HGN.out.1; omega)) (And.intro (HA.out.1.rlX HK.out (X := fun y => y = gn) (fun y q => by have := HGN.out.1; omega)) (fun y (q : FC R lb g4 g6 y ∨ y = gn) => (show y < _ from by rcases q with q | q; exact Nat.lt_of_lt_of_le (HA.out.1.lt y q) HK.out.size; rw [q]; exact HGN.out.2)))); go_loud (refine (kclear_any lc op.client (quoteV iss op.n) HF8.out.1 HF8.out.2.1 (by have := HB.out; omega)).mono ?_; rintro e wk ⟨x2, rfl, hrk, hpn8, hs⟩; have HR8 := Lib.hid hrk; have HP8 := Lib.hid hpn8; have HK := Lib.hid (HK.out.trans hs); (try (have VN := Lib.hid (VN.out.same hs))); (try (have HGN := Lib.hid (And.intro HGN.out.1 (Nat.lt_of_lt_of_le HGN.out.2 hs.size)))); clear hrk hpn8 hs)) | (have HF8 := Lib.hid (And.intro (HA.out.1.rkX HK.out (X := fun y => False) (fun y q => q.elim)) (And.intro (HA.out.1.rlX HK.out (X := fun y => False) (fun y q => q.elim)) (fun y (q : FC R lb g4 g6 y ∨ False) => (show y < _ from by rcases q with q | q; exact Nat.lt_of_lt_of_le (HA.out.1.lt y q) HK.out.size; exact q.elim)))); go_loud (refine (kclear_any lc op.client (quoteV iss op.n) HF8.out.1 HF8.out.2.1 (by have := HB.out; omega)).mono ?_; rintro e wk ⟨x2, rfl, hrk, hpn8, hs⟩; have HR8 := Lib.hid hrk; have HP8 := Lib.hid hpn8; have HK := Lib.hid (HK.out.trans hs); (try (have VN := Lib.hid (VN.out.same hs))); (try (have HGN := Lib.hid (And.intro HGN.out.1 (Nat.lt_of_lt_of_le HGN.out.2 hs.size)))); clear hrk hpn8 hs))))
                      (first | refine ⟨.inr ?keep66, ?_⟩ | refine ⟨?keep66, ?_⟩)
                      case keep66 => (first | exact HK.out | exact FIN.out.2.2)
                      try simp only [Act.put, List.setIfInBounds_toArray, List.set_cons_zero, List.set_cons_succ]
                      refine tree_read (i := 8) (v := ?v68) rfl (by rfl) (fun _ _ _ h => h) ?hy68 ?_
                      case hy68 => ((intro w hSw; (try dsimp only at hSw); go_simp) <;> (try with_reducible rfl))
                      try simp only [Act.put, List.setIfInBounds_toArray, List.set_cons_zero, List.set_cons_succ]
                      refine tree_read (i := 9) (v := ?v69) rfl (by rfl) (fun _ _ _ h => h) ?hy69 ?_
                      case hy69 => ((intro w hSw; (try dsimp only at hSw); go_simp) <;> (try with_reducible rfl))
                      try simp only [Act.put, List.setIfInBounds_toArray, List.set_cons_zero, List.set_cons_succ]
                      refine tree_read (i := 10) (v := ?v70) rfl (by rfl) (fun _ _ _ h => h) ?hy70 ?_
                      case hy70 => ((intro w hSw; (try dsimp only at hSw); go_simp) <;> (try with_reducible rfl))
                      try simp only [Act.put, List.setIfInBounds_toArray, List.set_cons_zero, List.set_cons_succ]
                      refine tree_one (i := 11) rfl ?_
                      refine wpl_newK ?_
                      intro un gn hsn vn hgn hgnl
                      have HGN := Lib.hid (And.intro (Nat.le_trans HK.out.size hgn) hgnl)
                      have HK := Lib.hid (HK.out.trans hsn)
                      have VN := Lib.hid vn
                      (try (have HR8 := Lib.hid (RK.own HR8.out (F' := fun y => FC R lb g4 g6 y ∨ y = gn) (Own.of_same hsn (fun y q => by rcases q with q | q; exact .inl (.inl q); exact .inr (by omega))))))
                      clear hsn vn hgn hgnl
                      refine tree_next (.inr ?keep71) ?_
                      case keep71 => (first | exact HK.out | exact FIN.out.2.2)
                      try simp only [Act.put, List.setIfInBounds_toArray, List.set_cons_zero, List.set_cons_succ]
                      refine tree_one (i := 12) rfl ?_
                      have FIN := Lib.hid (box_end VN.out HR8.out HK.out HGN.out.1)
                      refine wpl_storeRow _ rfl rfl VN.out infoKC2 rfl (KC.one _) ?_
                      refine tree_next (.inr ?keep72) ?_
                      case keep72 => (first | exact HK.out | exact FIN.out.2.2)
                      try simp only [Act.put, List.setIfInBounds_toArray, List.set_cons_zero, List.set_cons_succ]
                      refine tree_read (i := 13) (v := ?v73) rfl (by rfl) (fun _ _ _ h => h) ?hy73 ?_
                      case hy73 => ((intro w hSw; (try dsimp only at hSw); go_simp) <;> (try with_reducible rfl))
                      try simp only [Act.put, List.setIfInBounds_toArray, List.set_cons_zero, List.set_cons_succ]
                      refine tree_end ?_
                      go_wp2_with fail
                      go_meet
                      case rel => exact ⟨gn, x2, rfl, rfl, HP8.out, FIN.out⟩
                    · refine wpl_newK ?_
                      intro un gn hsn vn hgn hgnl
                      have HGN := Lib.hid (And.intro (Nat.le_trans HK.out.size hgn) hgnl)
                      have HK := Lib.hid (HK.out.trans hsn)
                      have VN := Lib.hid vn
                      (try (have HR8 := Lib.hid (RK.own HR8.out (F' := fun y => FC R lb g4 g6 y ∨ y = gn) (Own.of_same hsn (fun y q => by rcases q with q | q; exact .inl (.inl q); exact .inr (by omega))))))
                      clear hsn vn hgn hgnl
                      refine tree_next (.inr ?keep73) ?_
                      case keep73 => (first | exact HK.out | exact FIN.out.2.2)
                      try simp only [Act.put, List.setIfInBounds_toArray, List.set_cons_zero, List.set_cons_succ]
                      refine tree_one (i := 7) rfl ?_
                      go_wp2_with ((go_at_call 26; first | (have HF8 := Lib.hid (And.intro (HA.out.1.rkX HK.out (X := fun y => y = gn) (fun y q => by have := HGN.out.1; omega)) (And.intro (HA.out.1.rlX HK.out (X := fun y => y = gn) (fun y q => by have := HGN.out.1; omega)) (fun y (q : FC R lb g4 g6 y ∨ y = gn) => (show y < _ from by rcases q with q | q; exact Nat.lt_of_lt_of_le (HA.out.1.lt y q) HK.out.size; rw [q]; exact HGN.out.2)))); go_loud (refine (kclear_any lc op.client (quoteV iss op.n) HF8.out.1 HF8.out.2.1 (by have := HB.out; omega)).mono ?_; rintro e wk ⟨x2, rfl, hrk, hpn8, hs⟩; have HR8 := Lib.hid hrk; have HP8 := Lib.hid hpn8; have HK := Lib.hid (HK.out.trans hs); (try (have VN := Lib.hid (VN.out.same hs))); (try (have HGN := Lib.hid (And.intro HGN.out.1 (Nat.lt_of_lt_of_le HGN.out.2 hs.size)))); clear hrk hpn8 hs)) | (have HF8 := Lib.hid (And.intro (HA.out.1.rkX HK.out (X := fun y => False) (fun y q => q.elim)) (And.intro (HA.out.1.rlX HK.out (X := fun y => False) (fun y q => q.elim)) (fun y (q : FC R lb g4 g6 y ∨ False) => (show y < _ from by rcases q with q | q; exact Nat.lt_of_lt_of_le (HA.out.1.lt y q) HK.out.size; exact q.elim)))); go_loud (refine (kclear_any lc op.client (quoteV iss op.n) HF8.out.1 HF8.out.2.1 (by have := HB.out; omega)).mono ?_; rintro e wk ⟨x2, rfl, hrk, hpn8, hs⟩; have HR8 := Lib.hid hrk; have HP8 := Lib.hid hpn8; have HK := Lib.hid (HK.out.trans hs); (try (have VN := Lib.hid (VN.out.same hs))); (try (have HGN := Lib.hid (And.intro HGN.out.1 (Nat.lt_of_lt_of_le HGN.out.2 hs.size)))); clear hrk hpn8 hs))))
                      (first | refine ⟨.inr ?keep74, ?_⟩ | refine ⟨?keep74, ?_⟩)
                      case keep74 => (first | exact HK.out | exact FIN.out.2.2)
                      try simp only [Act.put, List.setIfInBounds_toArray, List.set_cons_zero, List.set_cons_succ]
                      refine tree_read (i := 8) (v := ?v75) rfl (by rfl) (fun _ _ _ h => h) ?hy75 ?_
                      case hy75 => ((intro w hSw; (try dsimp only at hSw); go_simp) <;> (try with_reducible rfl))
                      try simp only [Act.put, List.setIfInBounds_toArray, List.set_cons_zero, List.set_cons_succ]
                      refine tree_read (i := 9) (v := ?v76) rfl (by rfl) (fun _ _ _ h => h) ?hy76 ?_
                      case hy76 => ((intro w hSw; (try dsimp only at hSw); go_simp) <;> (try with_reducible rfl))
                      try simp only [Act.put, List.setIfInBounds_toArray, List.set_cons_zero, List.set_cons_succ]
                      refine tree_read (i := 10) (v := ?v77) rfl (by rfl) (fun _ _ _ h => h) ?hy77 ?_
                      case hy77 => ((intro w hSw; (try dsimp only at hSw); go_simp) <;> (try with_reducible rfl))
                      try simp only [Act.put, List.setIfInBounds_toArray, List.set_cons_zero, List.set_cons_succ]
                      refine tree_one (i := 12) rfl ?_
                      have FIN := Lib.hid (box_end VN.out HR8.out HK.out HGN.out.1)
                      refine wpl_storeRow _ rfl rfl VN.out infoKC2 rfl (KC.one _) ?_
                      refine tree_next (.inr ?keep78) ?_
                      case keep78 => (first | exact HK.out | exact FIN.out.2.2)
                      try simp only [Act.put, List.setIfInBounds_toArray, List.set_cons_zero, List.set_cons_succ]
                      refine tree_read (i := 13) (v := ?v79) rfl (by rfl) (fun _ _ _ h => h) ?hy79 ?_
                      case hy79 => ((intro w hSw; (try dsimp only at hSw); go_simp) <;> (try with_reducible rfl))
                      try simp only [Act.put, List.setIfInBounds_toArray, List.set_cons_zero, List.set_cons_succ]
                      refine tree_end ?_
                      go_wp2_with fail
                      go_meet
                      case rel => exact ⟨gn, x2, rfl, rfl, HP8.out, FIN.out⟩
                  · refine wpl_newK ?_
                    intro un gn hsn vn hgn hgnl
                    have HGN := Lib.hid (And.intro (Nat.le_trans HK.out.size hgn) hgnl)
                    have HK := Lib.hid (HK.out.trans hsn)
                    have VN := Lib.hid vn
                    (try (have HR8 := Lib.hid (RK.own HR8.out (F' := fun y => FC R lb g4 g6 y ∨ y = gn) (Own.of_same hsn (fun y q => by rcases q with q | q; exact .inl (.inl q); exact .inr (by omega))))))
                    clear hsn vn hgn hgnl
                    refine tree_next (.inr ?keep79) ?_
                    case keep79 => (first | exact HK.out | exact FIN.out.2.2)
                    try simp only [Act.put, List.setIfInBounds_toArray, List.set_cons_zero, List.set_cons_succ]
                    refine tree_one (i := 6) rfl ?_
                    go_wp2_with ((go_at_call 20; go_loud (refine (quoted_ok iss op.kind op.client op.n op.acts op.A op.len op.cap _).mono ?_; rintro e wq ⟨rfl, hs⟩; have HK := Lib.hid (HK.out.trans hs); (try (have VN := Lib.hid (VN.out.same hs))); (try (have HGN := Lib.hid (And.intro HGN.out.1 (Nat.lt_of_lt_of_le HGN.out.2 hs.size)))); clear hs)))
                    (first | refine ⟨.inr ?keep80, ?_⟩ | refine ⟨?keep80, ?_⟩)
                    case keep80 => (first | exact HK.out | exact FIN.out.2.2)
                    try simp only [Act.put, List.setIfInBounds_toArray, List.set_cons_zero, List.set_cons_succ]
                    refine tree_one (i := 7) rfl ?_
                    go_wp2_with ((go_at_call 26; first | (have HF8 := Lib.hid (And.intro (HA.out.1.rkX HK.out (X := fun y => y = gn) (fun y q => by have := HGN.out.1; omega)) (And.intro (HA.out.1.rlX HK.out (X := fun y => y = gn) (fun y q => by have := HGN.out.1; omega)) (fun y (q : FC R lb g4 g6 y ∨ y = gn) => (show y < _ from by rcases q with q | q; exact Nat.lt_of_lt_of_le (HA.out.1.lt y q) HK.out.size; rw [q]; exact HGN.out.2)))); go_loud (refine (kclear_any lc op.client (quoteV iss op.n) HF8.out.1 HF8.out.2.1 (by have := HB.out; omega)).mono ?_; rintro e wk ⟨x2, rfl, hrk, hpn8, hs⟩; have HR8 := Lib.hid hrk; have HP8 := Lib.hid hpn8; have HK := Lib.hid (HK.out.trans hs); (try (have VN := Lib.hid (VN.out.same hs))); (try (have HGN := Lib.hid (And.intro HGN.out.1 (Nat.lt_of_lt_of_le HGN.out.2 hs.size)))); clear hrk hpn8 hs)) | (have HF8 := Lib.hid (And.intro (HA.out.1.rkX HK.out (X := fun y => False) (fun y q => q.elim)) (And.intro (HA.out.1.rlX HK.out (X := fun y => False) (fun y q => q.elim)) (fun y (q : FC R lb g4 g6 y ∨ False) => (show y < _ from by rcases q with q | q; exact Nat.lt_of_lt_of_le (HA.out.1.lt y q) HK.out.size; exact q.elim)))); go_loud (refine (kclear_any lc op.client (quoteV iss op.n) HF8.out.1 HF8.out.2.1 (by have := HB.out; omega)).mono ?_; rintro e wk ⟨x2, rfl, hrk, hpn8, hs⟩; have HR8 := Lib.hid hrk; have HP8 := Lib.hid hpn8; have HK := Lib.hid (HK.out.trans hs); (try (have VN := Lib.hid (VN.out.same hs))); (try (have HGN := Lib.hid (And.intro HGN.out.1 (Nat.lt_of_lt_of_le HGN.out.2 hs.size)))); clear hrk hpn8 hs))))
                    (first | refine ⟨.inr ?keep81, ?_⟩ | refine ⟨?keep81, ?_⟩)
                    case keep81 => (first | exact HK.out | exact FIN.out.2.2)
                    try simp only [Act.put, List.setIfInBounds_toArray, List.set_cons_zero, List.set_cons_succ]
                    refine tree_read (i := 8) (v := ?v82) rfl (by rfl) (fun _ _ _ h => h) ?hy82 ?_
                    case hy82 => ((intro w hSw; (try dsimp only at hSw); go_simp) <;> (try with_reducible rfl))
                    try simp only [Act.put, List.setIfInBounds_toArray, List.set_cons_zero, List.set_cons_succ]
                    refine tree_read (i := 9) (v := ?v83) rfl (by rfl) (fun _ _ _ h => h) ?hy83 ?_
                    case hy83 => ((intro w hSw; (try dsimp only at hSw); go_simp) <;> (try with_reducible rfl))
                    try simp only [Act.put, List.setIfInBounds_toArray, List.set_cons_zero, List.set_cons_succ]
                    refine tree_read (i := 10) (v := ?v84) rfl (by rfl) (fun _ _ _ h => h) ?hy84 ?_
                    case hy84 => ((intro w hSw; (try dsimp only at hSw); go_simp) <;> (try with_reducible rfl))
                    try simp only [Act.put, List.setIfInBounds_toArray, List.set_cons_zero, List.set_cons_succ]
                    refine tree_one (i := 12) rfl ?_
                    have FIN := Lib.hid (box_end VN.out HR8.out HK.out HGN.out.1)
                    refine wpl_storeRow _ rfl rfl VN.out infoKC2 rfl (KC.one _) ?_
                    refine tree_next (.inr ?keep85) ?_
                    case keep85 => (first | exact HK.out | exact FIN.out.2.2)
                    try simp only [Act.put, List.setIfInBounds_toArray, List.set_cons_zero, List.set_cons_succ]
                    refine tree_read (i := 13) (v := ?v86) rfl (by rfl) (fun _ _ _ h => h) ?hy86 ?_
                    case hy86 => ((intro w hSw; (try dsimp only at hSw); go_simp) <;> (try with_reducible rfl))
                    try simp only [Act.put, List.setIfInBounds_toArray, List.set_cons_zero, List.set_cons_succ]
                    refine tree_end ?_
                    go_wp2_with fail
                    go_meet
                    case rel => exact ⟨gn, x2, rfl, rfl, HP8.out, FIN.out⟩
                case rest =>
                  obtain ⟨gn, x2, rfl, rfl, hpn2, hbx⟩ := hcut
                  rename World => wx
                  have hld := run_load_kc hbx.1
                  have hvk := HA.out.1.vk.same hbx.2.2
                  have hset := (HA.out.1.same hbx.2.2).setK hbx.2.1
                  have hs9 := hset.2.at_ (HA.out.2.1.same hbx.2.2) (fun q => by have q2 : b9 = g6 := q; have := HA.out.2.2.2.1 g6 (.inr (.inr (.inr rfl))); omega)
                  have hs10 := hset.2.at_ (HA.out.2.2.1.same hbx.2.2) (fun q => by have q2 : b10 = g6 := q; have := HA.out.2.2.2.1 g6 (.inr (.inr (.inr rfl))); have := HA.out.2.2.2.2.1; omega)
                  have HS2 := Lib.hid (And.intro hset.1 (And.intro hs9 (And.intro hs10 hpn2)))
                  clear hbx hset hs9 hs10 hpn2 k0 lb9
                  go_upto_region 27 with (first | (refine wpl_loadv _ _ _ rfl hld ?_) | (refine wpl_storeRow _ rfl rfl hvk infoKC2 rfl (KC.one _) ?_))
                  try simp only [Act.put, List.setIfInBounds_toArray, List.set_cons_zero, List.set_cons_succ]
                  clear hld hvk
                  generalize wx.setRow g6 x2.cells.toArray = wB at *
                  have S9 : Hid (VarAt wB.drew b9 49 #[.int .i64 op.kind, .int .i64 op.client, .int .i64 op.n, .int .i64 op.acts, .slice op.A op.len op.cap] ∧ VarAt wB.drew b10 36 #[.slice op.A op.len op.cap, .int .i64 op.acts]) := Lib.hid ⟨VarAt.drew HS2.out.2.1, VarAt.drew HS2.out.2.2.1⟩
                  have HK : Hid (Same wB wB.drew) := Lib.hid ((Chg.refl _ _).drew)
                  refine region_path (S := (fun w' => VarAt w' b9 49 #[.int .i64 op.kind, .int .i64 op.client, .int .i64 op.n, .int .i64 op.acts, .slice op.A op.len op.cap] ∧ VarAt w' b10 36 #[.slice op.A op.len op.cap, .int .i64 op.acts])) 99 [(0, true), (1, true), (2, true), (3, true), (4, true), (7, true), (5, false), (6, false), (8, true)] (by kernel_rfl) (by kernel_rfl) (by kernel_rfl) S9.out ?_
                  refine path_read (i := 0) (v := ?v87_0) rfl (by rfl) (fun _ _ _ h => h) ?hy87_0 ?_
                  case hy87_0 => ((intro w hSw; (try dsimp only at hSw); go_simp) <;> (try with_reducible rfl))
                  try simp only [Act.put, List.setIfInBounds_toArray, List.set_cons_zero, List.set_cons_succ]
                  refine path_read (i := 1) (v := ?v87_1) rfl (by rfl) (fun _ _ _ h => h) ?hy87_1 ?_
                  case hy87_1 => ((intro w hSw; (try dsimp only at hSw); go_simp) <;> (try with_reducible rfl))
                  try simp only [Act.put, List.setIfInBounds_toArray, List.set_cons_zero, List.set_cons_succ]
                  refine path_read (i := 2) (v := (.int .i64 op.client) ) rfl (by rfl) (fun _ _ _ h => h) ?hy87_2 ?_
                  case hy87_2 => (intro w hSw;  (have q : w.cell? ⟨b9, 1, none⟩ = some (.int .i64 op.client) := cell_at (C := [.int .i64 op.kind, .int .i64 op.client, .int .i64 op.n, .int .i64 op.acts, .slice op.A op.len op.cap]) hSw.1 1; go_simp))
                  try simp only [Act.put, List.setIfInBounds_toArray, List.set_cons_zero, List.set_cons_succ]
                  refine path_read (i := 3) (v := ?v87_3) rfl (by rfl) (fun _ _ _ h => h) ?hy87_3 ?_
                  case hy87_3 => ((intro w hSw; (try dsimp only at hSw); go_simp) <;> (try with_reducible rfl))
                  try simp only [Act.put, List.setIfInBounds_toArray, List.set_cons_zero, List.set_cons_succ]
                  refine path_read (i := 4) (v := (.agg #[.int .i64 op.kind, .int .i64 op.client, .int .i64 op.n, .int .i64 op.acts, .slice op.A op.len op.cap]) ) rfl (by rfl) (fun _ _ _ h => h) ?hy87_4 ?_
                  case hy87_4 => (intro w hSw;  exact exec_loadv rfl (run_load_cop hSw.1))
                  try simp only [Act.put, List.setIfInBounds_toArray, List.set_cons_zero, List.set_cons_succ]
                  refine path_read (i := 7) (v := ?v87_7) rfl (by rfl) (fun _ _ _ h => h) ?hy87_7 ?_
                  case hy87_7 => ((intro w hSw; (try dsimp only at hSw); go_simp) <;> (try with_reducible rfl))
                  try simp only [Act.put, List.setIfInBounds_toArray, List.set_cons_zero, List.set_cons_succ]
                  refine path_do (i := 5) rfl ?_
                  go_wp2_with ((go_at_call 20; go_loud (refine (quoted_ok iss op.kind op.client op.n op.acts op.A op.len op.cap _).mono ?_; rintro e wq ⟨rfl, hs⟩; have HK := Lib.hid (HK.out.trans hs); have S9 := Lib.hid (And.intro (S9.out.1.same hs) (S9.out.2.same hs)); clear hs)))
                  (first | refine ⟨.inr ?keep87_5, ?_⟩ | refine ⟨?keep87_5, ?_⟩)
                  case keep87_5 => (exact S9.out)
                  try simp only [Act.put, List.setIfInBounds_toArray, List.set_cons_zero, List.set_cons_succ]
                  refine path_do (i := 6) rfl ?_
                  go_wp2_with ((go_at_call 27; go_loud (refine (ses_clear _ _ op.client (quoteV iss op.n) (HS2.out.1.ses.keep HK.out) rfl rfl).mono ?_; rintro e wp ⟨R', rfl, hsp, hown⟩; have S9 := Lib.hid (And.intro (hown.chg.at_ S9.out.1 (fun q => by have := HA.out.2.2.2.1 b9 (.inl q); omega)) (hown.chg.at_ S9.out.2 (fun q => by have := HA.out.2.2.2.1 b10 (.inl q); have := HA.out.2.2.2.2.1; omega))); have HEND := Lib.hid ((HS2.out.1.same HK.out).prog hsp hown); clear hsp hown)))
                  (first | refine ⟨.inr ?keep87_6, ?_⟩ | refine ⟨?keep87_6, ?_⟩)
                  case keep87_6 => (exact S9.out)
                  try simp only [Act.put, List.setIfInBounds_toArray, List.set_cons_zero, List.set_cons_succ]
                  refine path_read (i := 8) (v := ?v87_8) rfl (by rfl) (fun _ _ _ h => h) ?hy87_8 ?_
                  case hy87_8 => ((intro w hSw; (try dsimp only at hSw); go_simp) <;> (try with_reducible rfl))
                  try simp only [Act.put, List.setIfInBounds_toArray, List.set_cons_zero, List.set_cons_succ]
                  refine path_end ?_
                  go_wp2_with fail
                  go_meet
                  case rel => exact ⟨iss, R', L, _, x2, rs, N, LA, ln, lc, le, rfl, HEND.out, S9.out.1, by have := HB.out; rw [(clear_keep c L op.client (quoteV iss op.n)).1]; omega, by have := HB.out; rw [(clear_keep c L op.client (quoteV iss op.n)).2]; omega, by have := HB.out; have := HS2.out.2.2.2; omega, by have := HB.out; omega⟩
            · have hb2 : (op.kind == 2) = false := by simp [hk2]
              by_cases hk3 : op.kind = 3
              · as_aux_lemma =>
                  have hbk : (op.kind == 3) = true := by simp [hk3]
                  clear hk3
                  have k1 : wA.cell? ⟨b9, 1, none⟩ = some (.int .i64 op.client) := cell_at (C := [.int .i64 op.kind, .int .i64 op.client, .int .i64 op.n, .int .i64 op.acts, .slice op.A op.len op.cap]) HA.out.2.1 1
                  have hldm := run_load_kc HA.out.1.vk
                  go_wp2_with (first | (refine wpl_loadv _ _ _ rfl hldm ?_))
                  refine (kfocus_any op.client HA.out.1.rk (by have := HB.out; omega)).mono ?_
                  rintro e w2 ⟨x2, v, rfl, hrk, hpn2, hfv, hs⟩
                  clear hldm
                  rcases hfv with ⟨h1, rfl⟩ | ⟨h1, gd, rfl, hdv, hgd⟩
                  · as_aux_lemma =>
                    have hs5 : Same w2 ((w2.alloc (.cells #[.bool false, .int .i64 0, .int .i64 0, .slice none 0 0, .int .i64 0, .bool false, .int .u32 0, .int .i64 0, .slice none 0 0] 63)).setRow w2.heap.size x2.cells.toArray) := ((Chg.refl _ _).alloc _).setRow _ _ (fun q => absurd q (Nat.lt_irrefl _))
                    have hld := run_load_kc (x := x2) ((VarAt.new w2 63 #[.bool false, .int .i64 0, .int .i64 0, .slice none 0 0, .int .i64 0, .bool false, .int .u32 0, .int .i64 0, .slice none 0 0]).put x2.cells.toArray)
                    have hvk := HA.out.1.vk.same (hs.trans hs5)
                    have hset := (HA.out.1.same (hs.trans hs5)).setK (hrk.same hs5)
                    have hs9 := hset.2.at_ (HA.out.2.1.same (hs.trans hs5)) (fun q => by have q2 : b9 = g6 := q; have := HA.out.2.2.2.1 g6 (.inr (.inr (.inr rfl))); omega)
                    have HS2 := Lib.hid (And.intro hset.1 (And.intro hs9 hpn2))
                    clear hset hs9 hpn2 hs hrk hs5 k0 k1
                    go_upto_region 32 with (first | (refine wpl_alloc #[.bool false, .int .i64 0, .int .i64 0, .slice none 0 0, .int .i64 0, .bool false, .int .u32 0, .int .i64 0, .slice none 0 0] _ (zeroKC _) rfl ?_) | (refine wpl_storeRow #[.bool false, .int .i64 0, .int .i64 0, .slice none 0 0, .int .i64 0, .bool false, .int .u32 0, .int .i64 0, .slice none 0 0] rfl rfl (VarAt.new _ _ _) infoKC2 rfl (KC.one _) ?_) | (refine wpl_loadv _ _ _ rfl hld ?_) | (refine wpl_storeRow x.cells.toArray rfl rfl hvk infoKC2 rfl (KC.one _) ?_))
                    try simp only [Act.put, List.setIfInBounds_toArray, List.set_cons_zero, List.set_cons_succ]
                    clear hld hvk
                    generalize ((w2.alloc (.cells #[.bool false, .int .i64 0, .int .i64 0, .slice none 0 0, .int .i64 0, .bool false, .int .u32 0, .int .i64 0, .slice none 0 0] 63)).setRow w2.heap.size x2.cells.toArray).setRow g6 x2.cells.toArray = wB at *
                    have k1 : wB.cell? ⟨b9, 1, none⟩ = some (.int .i64 op.client) := cell_at (C := [.int .i64 op.kind, .int .i64 op.client, .int .i64 op.n, .int .i64 op.acts, .slice op.A op.len op.cap]) HS2.out.2.1 1
                    have lb9 := lt_of_at HS2.out.2.1
                    go_wp2_with fail
                    refine (ses_focus0 (c.foc op.client) op.client HS2.out.1.ses (by have := HB.out; omega) h1 rfl).mono ?_
                    rintro e wp ⟨R', rfl, hsp, hown⟩
                    have S9 := Lib.hid (hown.chg.at_ HS2.out.2.1 (fun q => by have := HA.out.2.2.2.1 b9 (.inl q); omega))
                    have HEND := Lib.hid (HS2.out.1.prog hsp hown)
                    clear hsp hown k1 lb9
                    go_wp2_with fail
                    refine region_path (S := (fun w' => True)) 99 [(0, true), (1, true), (2, true), (3, true), (4, true), (5, true), (6, true), (7, true), (8, true), (9, true), (10, true), (11, true), (12, true), (13, true), (14, true), (15, true), (16, true), (17, true), (18, true)] (by kernel_rfl) (by kernel_rfl) (by kernel_rfl) trivial ?_
                    refine path_read (i := 0) (v := ?v88_0) rfl (by rfl) (fun _ _ _ h => h) ?hy88_0 ?_
                    case hy88_0 => ((intro w hSw; (try dsimp only at hSw); go_simp) <;> (try with_reducible rfl))
                    try simp only [Act.put, List.setIfInBounds_toArray, List.set_cons_zero, List.set_cons_succ]
                    refine path_read (i := 1) (v := ?v88_1) rfl (by rfl) (fun _ _ _ h => h) ?hy88_1 ?_
                    case hy88_1 => ((intro w hSw; (try dsimp only at hSw); go_simp) <;> (try with_reducible rfl))
                    try simp only [Act.put, List.setIfInBounds_toArray, List.set_cons_zero, List.set_cons_succ]
                    refine path_read (i := 2) (v := ?v88_2) rfl (by rfl) (fun _ _ _ h => h) ?hy88_2 ?_
                    case hy88_2 => ((intro w hSw; (try dsimp only at hSw); go_simp) <;> (try with_reducible rfl))
                    try simp only [Act.put, List.setIfInBounds_toArray, List.set_cons_zero, List.set_cons_succ]
                    refine path_read (i := 3) (v := ?v88_3) rfl (by rfl) (fun _ _ _ h => h) ?hy88_3 ?_
                    case hy88_3 => ((intro w hSw; (try dsimp only at hSw); go_simp) <;> (try with_reducible rfl))
                    try simp only [Act.put, List.setIfInBounds_toArray, List.set_cons_zero, List.set_cons_succ]
                    refine path_read (i := 4) (v := ?v88_4) rfl (by rfl) (fun _ _ _ h => h) ?hy88_4 ?_
                    case hy88_4 => ((intro w hSw; (try dsimp only at hSw); go_simp) <;> (try with_reducible rfl))
                    try simp only [Act.put, List.setIfInBounds_toArray, List.set_cons_zero, List.set_cons_succ]
                    refine path_read (i := 5) (v := ?v88_5) rfl (by rfl) (fun _ _ _ h => h) ?hy88_5 ?_
                    case hy88_5 => ((intro w hSw; (try dsimp only at hSw); go_simp) <;> (try with_reducible rfl))
                    try simp only [Act.put, List.setIfInBounds_toArray, List.set_cons_zero, List.set_cons_succ]
                    refine path_read (i := 6) (v := ?v88_6) rfl (by rfl) (fun _ _ _ h => h) ?hy88_6 ?_
                    case hy88_6 => ((intro w hSw; (try dsimp only at hSw); go_simp) <;> (try with_reducible rfl))
                    try simp only [Act.put, List.setIfInBounds_toArray, List.set_cons_zero, List.set_cons_succ]
                    refine path_read (i := 7) (v := ?v88_7) rfl (by rfl) (fun _ _ _ h => h) ?hy88_7 ?_
                    case hy88_7 => ((intro w hSw; (try dsimp only at hSw); go_simp) <;> (try with_reducible rfl))
                    try simp only [Act.put, List.setIfInBounds_toArray, List.set_cons_zero, List.set_cons_succ]
                    refine path_read (i := 8) (v := ?v88_8) rfl (by rfl) (fun _ _ _ h => h) ?hy88_8 ?_
                    case hy88_8 => ((intro w hSw; (try dsimp only at hSw); go_simp) <;> (try with_reducible rfl))
                    try simp only [Act.put, List.setIfInBounds_toArray, List.set_cons_zero, List.set_cons_succ]
                    refine path_read (i := 9) (v := ?v88_9) rfl (by rfl) (fun _ _ _ h => h) ?hy88_9 ?_
                    case hy88_9 => ((intro w hSw; (try dsimp only at hSw); go_simp) <;> (try with_reducible rfl))
                    try simp only [Act.put, List.setIfInBounds_toArray, List.set_cons_zero, List.set_cons_succ]
                    refine path_pass (i := 10) rfl (by rfl) (fun _ _ _ h => h) ?_
                    try simp only [Act.put, List.setIfInBounds_toArray, List.set_cons_zero, List.set_cons_succ]
                    refine path_pass (i := 11) rfl (by rfl) (fun _ _ _ h => h) ?_
                    try simp only [Act.put, List.setIfInBounds_toArray, List.set_cons_zero, List.set_cons_succ]
                    refine path_pass (i := 12) rfl (by rfl) (fun _ _ _ h => h) ?_
                    try simp only [Act.put, List.setIfInBounds_toArray, List.set_cons_zero, List.set_cons_succ]
                    refine path_pass (i := 13) rfl (by rfl) (fun _ _ _ h => h) ?_
                    try simp only [Act.put, List.setIfInBounds_toArray, List.set_cons_zero, List.set_cons_succ]
                    refine path_pass (i := 14) rfl (by rfl) (fun _ _ _ h => h) ?_
                    try simp only [Act.put, List.setIfInBounds_toArray, List.set_cons_zero, List.set_cons_succ]
                    refine path_pass (i := 15) rfl (by rfl) (fun _ _ _ h => h) ?_
                    try simp only [Act.put, List.setIfInBounds_toArray, List.set_cons_zero, List.set_cons_succ]
                    refine path_pass (i := 16) rfl (by rfl) (fun _ _ _ h => h) ?_
                    try simp only [Act.put, List.setIfInBounds_toArray, List.set_cons_zero, List.set_cons_succ]
                    refine path_read (i := 17) (v := ?v88_17) rfl (by rfl) (fun _ _ _ h => h) ?hy88_17 ?_
                    case hy88_17 => ((intro w hSw; (try dsimp only at hSw); go_simp) <;> (try with_reducible rfl))
                    try simp only [Act.put, List.setIfInBounds_toArray, List.set_cons_zero, List.set_cons_succ]
                    refine path_read (i := 18) (v := ?v88_18) rfl (by rfl) (fun _ _ _ h => h) ?hy88_18 ?_
                    case hy88_18 => ((intro w hSw; (try dsimp only at hSw); go_simp) <;> (try with_reducible rfl))
                    try simp only [Act.put, List.setIfInBounds_toArray, List.set_cons_zero, List.set_cons_succ]
                    refine path_end ?_
                    go_wp2_with fail
                    go_meet
                    case rel => exact ⟨iss, R', L, _, x2, rs, N, LA, ln, lc, le, rfl, HEND.out.same ((Chg.refl _ _).drew), VarAt.drew S9.out, by have := HB.out; have := (foc_keep c op.client).1; omega, by have := HB.out; rw [(foc_keep c op.client).2]; omega, by have := HB.out; have := HS2.out.2.2; omega, by have := HB.out; omega⟩
                  · as_aux_lemma =>
                    obtain ⟨cd, hcd⟩ : ∃ cd, c.focCode = cd := ⟨_, rfl⟩
                    rw [hcd] at hdv
                    have hs5 : Same w2 ((w2.alloc (.cells #[.bool false, .int .i64 0, .int .i64 0, .slice none 0 0, .int .i64 0, .bool false, .int .u32 0, .int .i64 0, .slice none 0 0] 63)).setRow w2.heap.size x2.cells.toArray) := ((Chg.refl _ _).alloc _).setRow _ _ (fun q => absurd q (Nat.lt_irrefl _))
                    have hld := run_load_kc (x := x2) ((VarAt.new w2 63 #[.bool false, .int .i64 0, .int .i64 0, .slice none 0 0, .int .i64 0, .bool false, .int .u32 0, .int .i64 0, .slice none 0 0]).put x2.cells.toArray)
                    have hvk := HA.out.1.vk.same (hs.trans hs5)
                    have hset := (HA.out.1.same (hs.trans hs5)).setK (hrk.same hs5)
                    have hs9 := hset.2.at_ (HA.out.2.1.same (hs.trans hs5)) (fun q => by have q2 : b9 = g6 := q; have := HA.out.2.2.2.1 g6 (.inr (.inr (.inr rfl))); omega)
                    have HS2 := Lib.hid (And.intro hset.1 (And.intro hs9 hpn2))
                    have HD : Hid (VarAt (((w2.alloc (.cells #[.bool false, .int .i64 0, .int .i64 0, .slice none 0 0, .int .i64 0, .bool false, .int .u32 0, .int .i64 0, .slice none 0 0] 63)).setRow w2.heap.size x2.cells.toArray).setRow g6 x2.cells.toArray) gd 44 #[.int .i64 op.client, .int .i64 0, .int .i64 18, .int .i64 0, .int .i64 0, .int .i64 0, .int .i64 cd, .int .i64 0, .int .u32 0] ∧ ¬ R gd) := Lib.hid ⟨hset.2.at_ (VarAt.same hdv hs5) (fun q => by have q2 : gd = g6 := q; have := HA.out.2.2.2.1 g6 (.inr (.inr (.inr rfl))); have := lt_of_at HA.out.2.1; omega), fun q => by have := HA.out.2.2.2.1 gd (.inl q); have := lt_of_at HA.out.2.1; omega⟩
                    clear hdv
                    clear hset hs9 hpn2 hs hrk hs5 k0 k1
                    go_upto_region 32 with (first | (refine wpl_alloc #[.bool false, .int .i64 0, .int .i64 0, .slice none 0 0, .int .i64 0, .bool false, .int .u32 0, .int .i64 0, .slice none 0 0] _ (zeroKC _) rfl ?_) | (refine wpl_storeRow #[.bool false, .int .i64 0, .int .i64 0, .slice none 0 0, .int .i64 0, .bool false, .int .u32 0, .int .i64 0, .slice none 0 0] rfl rfl (VarAt.new _ _ _) infoKC2 rfl (KC.one _) ?_) | (refine wpl_loadv _ _ _ rfl hld ?_) | (refine wpl_storeRow x.cells.toArray rfl rfl hvk infoKC2 rfl (KC.one _) ?_))
                    try simp only [Act.put, List.setIfInBounds_toArray, List.set_cons_zero, List.set_cons_succ]
                    clear hld hvk
                    generalize ((w2.alloc (.cells #[.bool false, .int .i64 0, .int .i64 0, .slice none 0 0, .int .i64 0, .bool false, .int .u32 0, .int .i64 0, .slice none 0 0] 63)).setRow w2.heap.size x2.cells.toArray).setRow g6 x2.cells.toArray = wB at *
                    have k1 : wB.cell? ⟨b9, 1, none⟩ = some (.int .i64 op.client) := cell_at (C := [.int .i64 op.kind, .int .i64 op.client, .int .i64 op.n, .int .i64 op.acts, .slice op.A op.len op.cap]) HS2.out.2.1 1
                    have lb9 := lt_of_at HS2.out.2.1
                    go_wp2_with fail
                    refine (ses_focus (c.foc op.client) op.client cd HS2.out.1.ses (by have := HB.out; omega) (by omega) hcd rfl).mono ?_
                    rintro e wp ⟨R', g2, rfl, hat2, hg2, hn2, hsp, hown⟩
                    have hat2 : VarAt wp g2 44 #[.int .i64 op.client, .int .i64 0, .int .i64 18, .int .i64 0, .int .i64 0, .int .i64 0, .int .i64 cd, .int .i64 0, .int .u32 0] := hat2
                    have HD2 := Lib.hid (And.intro (VarAt.drew (hown.chg.at_ HD.out.1 HD.out.2)) (VarAt.drew hat2))
                    have S9 := Lib.hid (hown.chg.at_ HS2.out.2.1 (fun q => by have := HA.out.2.2.2.1 b9 (.inl q); omega))
                    have HEND := Lib.hid (HS2.out.1.prog hsp hown)
                    have hgl1 := lt_of_at HD2.out.1
                    have hgl2 := lt_of_at HD2.out.2
                    have hne : ∀ w, (binOp .neq 44 (.agg #[.int .i64 op.client, .int .i64 0, .int .i64 18, .int .i64 0, .int .i64 0, .int .i64 0, .int .i64 cd, .int .i64 0, .int .u32 0]) (.agg #[.int .i64 op.client, .int .i64 0, .int .i64 18, .int .i64 0, .int .i64 0, .int .i64 0, .int .i64 cd, .int .i64 0, .int .u32 0])).run Try.prog w = .ok (.bool false) w := fun w => by
                      have := neq_deliv op.client 0 18 0 0 0 cd cd 0 0 w
                      simpa [delivCells] using this
                    clear hsp hown k1 lb9 hat2 hg2 hn2 hcd
                    go_wp2_with fail
                    refine region_path (S := (fun w' => VarAt w' gd 44 #[.int .i64 op.client, .int .i64 0, .int .i64 18, .int .i64 0, .int .i64 0, .int .i64 0, .int .i64 cd, .int .i64 0, .int .u32 0] ∧ VarAt w' g2 44 #[.int .i64 op.client, .int .i64 0, .int .i64 18, .int .i64 0, .int .i64 0, .int .i64 0, .int .i64 cd, .int .i64 0, .int .u32 0])) 99 [(0, true), (1, true), (2, true), (3, true), (4, true), (5, true), (6, true), (7, true), (8, true), (9, true), (10, true), (11, true), (12, true), (13, true), (14, true), (15, true), (16, true), (17, true), (18, true)] (by kernel_rfl) (by kernel_rfl) (by kernel_rfl) HD2.out ?_
                    refine path_read (i := 0) (v := ?v89_0) rfl (by rfl) (fun _ _ _ h => h) ?hy89_0 ?_
                    case hy89_0 => ((intro w hSw; (try dsimp only at hSw); go_simp) <;> (try with_reducible rfl))
                    try simp only [Act.put, List.setIfInBounds_toArray, List.set_cons_zero, List.set_cons_succ]
                    refine path_read (i := 1) (v := ?v89_1) rfl (by rfl) (fun _ _ _ h => h) ?hy89_1 ?_
                    case hy89_1 => ((intro w hSw; (try dsimp only at hSw); go_simp) <;> (try with_reducible rfl))
                    try simp only [Act.put, List.setIfInBounds_toArray, List.set_cons_zero, List.set_cons_succ]
                    refine path_read (i := 2) (v := ?v89_2) rfl (by rfl) (fun _ _ _ h => h) ?hy89_2 ?_
                    case hy89_2 => ((intro w hSw; (try dsimp only at hSw); go_simp) <;> (try with_reducible rfl))
                    try simp only [Act.put, List.setIfInBounds_toArray, List.set_cons_zero, List.set_cons_succ]
                    refine path_read (i := 3) (v := ?v89_3) rfl (by rfl) (fun _ _ _ h => h) ?hy89_3 ?_
                    case hy89_3 => ((intro w hSw; (try dsimp only at hSw); go_simp) <;> (try with_reducible rfl))
                    try simp only [Act.put, List.setIfInBounds_toArray, List.set_cons_zero, List.set_cons_succ]
                    refine path_read (i := 4) (v := ?v89_4) rfl (by rfl) (fun _ _ _ h => h) ?hy89_4 ?_
                    case hy89_4 => ((intro w hSw; (try dsimp only at hSw); go_simp) <;> (try with_reducible rfl))
                    try simp only [Act.put, List.setIfInBounds_toArray, List.set_cons_zero, List.set_cons_succ]
                    refine path_read (i := 5) (v := ?v89_5) rfl (by rfl) (fun _ _ _ h => h) ?hy89_5 ?_
                    case hy89_5 => ((intro w hSw; (try dsimp only at hSw); go_simp) <;> (try with_reducible rfl))
                    try simp only [Act.put, List.setIfInBounds_toArray, List.set_cons_zero, List.set_cons_succ]
                    refine path_read (i := 6) (v := ?v89_6) rfl (by rfl) (fun _ _ _ h => h) ?hy89_6 ?_
                    case hy89_6 => ((intro w hSw; (try dsimp only at hSw); go_simp) <;> (try with_reducible rfl))
                    try simp only [Act.put, List.setIfInBounds_toArray, List.set_cons_zero, List.set_cons_succ]
                    refine path_read (i := 7) (v := ?v89_7) rfl (by rfl) (fun _ _ _ h => h) ?hy89_7 ?_
                    case hy89_7 => ((intro w hSw; (try dsimp only at hSw); go_simp) <;> (try with_reducible rfl))
                    try simp only [Act.put, List.setIfInBounds_toArray, List.set_cons_zero, List.set_cons_succ]
                    refine path_read (i := 8) (v := ?v89_8) rfl (by rfl) (fun _ _ _ h => h) ?hy89_8 ?_
                    case hy89_8 => ((intro w hSw; (try dsimp only at hSw); go_simp) <;> (try with_reducible rfl))
                    try simp only [Act.put, List.setIfInBounds_toArray, List.set_cons_zero, List.set_cons_succ]
                    refine path_read (i := 9) (v := ?v89_9) rfl (by rfl) (fun _ _ _ h => h) ?hy89_9 ?_
                    case hy89_9 => ((intro w hSw; (try dsimp only at hSw); go_simp) <;> (try with_reducible rfl))
                    try simp only [Act.put, List.setIfInBounds_toArray, List.set_cons_zero, List.set_cons_succ]
                    refine path_read (i := 10) (v := ?v89_10) rfl (by rfl) (fun _ _ _ h => h) ?hy89_10 ?_
                    case hy89_10 => ((intro w hSw; (try dsimp only at hSw); go_simp) <;> (try with_reducible rfl))
                    try simp only [Act.put, List.setIfInBounds_toArray, List.set_cons_zero, List.set_cons_succ]
                    refine path_read (i := 11) (v := ?v89_11) rfl (by rfl) (fun _ _ _ h => h) ?hy89_11 ?_
                    case hy89_11 => ((intro w hSw; (try dsimp only at hSw); go_simp) <;> (try with_reducible rfl))
                    try simp only [Act.put, List.setIfInBounds_toArray, List.set_cons_zero, List.set_cons_succ]
                    refine path_read (i := 12) (v := (.agg #[.int .i64 op.client, .int .i64 0, .int .i64 18, .int .i64 0, .int .i64 0, .int .i64 0, .int .i64 cd, .int .i64 0, .int .u32 0]) ) rfl (by rfl) (fun _ _ _ h => h) ?hy89_12 ?_
                    case hy89_12 => (intro w hSw;  exact exec_loadv rfl (run_load_dv hSw.1))
                    try simp only [Act.put, List.setIfInBounds_toArray, List.set_cons_zero, List.set_cons_succ]
                    refine path_read (i := 13) (v := ?v89_13) rfl (by rfl) (fun _ _ _ h => h) ?hy89_13 ?_
                    case hy89_13 => ((intro w hSw; (try dsimp only at hSw); go_simp) <;> (try with_reducible rfl))
                    try simp only [Act.put, List.setIfInBounds_toArray, List.set_cons_zero, List.set_cons_succ]
                    refine path_read (i := 14) (v := ?v89_14) rfl (by rfl) (fun _ _ _ h => h) ?hy89_14 ?_
                    case hy89_14 => ((intro w hSw; (try dsimp only at hSw); go_simp) <;> (try with_reducible rfl))
                    try simp only [Act.put, List.setIfInBounds_toArray, List.set_cons_zero, List.set_cons_succ]
                    refine path_read (i := 15) (v := (.agg #[.int .i64 op.client, .int .i64 0, .int .i64 18, .int .i64 0, .int .i64 0, .int .i64 0, .int .i64 cd, .int .i64 0, .int .u32 0]) ) rfl (by rfl) (fun _ _ _ h => h) ?hy89_15 ?_
                    case hy89_15 => (intro w hSw;  exact exec_loadv rfl (run_load_dv hSw.2))
                    try simp only [Act.put, List.setIfInBounds_toArray, List.set_cons_zero, List.set_cons_succ]
                    refine path_read (i := 16) (v := ?v89_16) rfl (by rfl) (fun _ _ _ h => h) ?hy89_16 ?_
                    case hy89_16 => ((intro w hSw; (try dsimp only at hSw); go_simp) <;> (try with_reducible rfl))
                    try simp only [Act.put, List.setIfInBounds_toArray, List.set_cons_zero, List.set_cons_succ]
                    refine path_read (i := 17) (v := ?v89_17) rfl (by rfl) (fun _ _ _ h => h) ?hy89_17 ?_
                    case hy89_17 => ((intro w hSw; (try dsimp only at hSw); go_simp) <;> (try with_reducible rfl))
                    try simp only [Act.put, List.setIfInBounds_toArray, List.set_cons_zero, List.set_cons_succ]
                    refine path_read (i := 18) (v := ?v89_18) rfl (by rfl) (fun _ _ _ h => h) ?hy89_18 ?_
                    case hy89_18 => ((intro w hSw; (try dsimp only at hSw); go_simp) <;> (try with_reducible rfl))
                    try simp only [Act.put, List.setIfInBounds_toArray, List.set_cons_zero, List.set_cons_succ]
                    refine path_end ?_
                    go_wp2_with fail
                    go_meet
                    case rel => exact ⟨iss, R', L, _, x2, rs, N, LA, ln, lc, le, rfl, HEND.out.same ((Chg.refl _ _).drew), VarAt.drew S9.out, by have := HB.out; have := (foc_keep c op.client).1; omega, by have := HB.out; rw [(foc_keep c op.client).2]; omega, by have := HB.out; have := HS2.out.2.2; omega, by have := HB.out; omega⟩
              · have hb3 : (op.kind == 3) = false := by simp [hk3]
                by_cases hk4 : op.kind = 4
                · as_aux_lemma =>
                    have hbk : (op.kind == 4) = true := by simp [hk4]
                    clear hk4
                    have HKS : Hid (wA.heap.size ≤ wA.drew.heap.size) := Lib.hid (Nat.le_refl _)
                    obtain ⟨vr, hvr⟩ : ∃ vr, c.rcvE op.client (fmtV op.fs) op.n = vr := ⟨_, rfl⟩
                    have HVR := Lib.hid hvr
                    clear hvr
                    go_upto_region 36 with (fail)
                    go_cut [18, 19, 20] from 158 to 169 (fun va vi vb wx => ∃ (gn : Nat) (x2 : KC) (ix : Int) (rs2 : List KFl), va = .pointer (some ⟨gn, 0, none⟩) ∧ vi = .int .i64 ix ∧ vb = .int .i64 vr ∧ x2.pn ≤ x.pn + 1 ∧ BoxR R lb g4 g6 wA wx c x2 rs2 gn)
                    case first =>
                      have HK : Hid (Same wA wA.drew) := Lib.hid ((Chg.refl _ _).drew)
                      refine region_tree (S := (fun w' => Same wA w')) 99 (.rd 0 (.rd 1 (.rd 2 (.rd 3 (.rd 5 (.rd 6 (.fork 4 12 (.fork 7 12 (.rd 8 (.rd 9 (.rd 10 (.rd 11 (.one 12 (.one 13 (.rd 14 (.rd 15 .nil)))))))) (.one 7 (.rd 8 (.rd 9 (.rd 10 (.rd 11 (.one 13 (.rd 14 (.rd 15 .nil))))))))) (.one 4 (.one 7 (.rd 8 (.rd 9 (.rd 10 (.rd 11 (.one 13 (.rd 14 (.rd 15 .nil)))))))))))))))) (by kernel_rfl) (by kernel_rfl) (by kernel_rfl) HK.out ?_
                      refine tree_read (i := 0) (v := (.agg x.cells.toArray) ) rfl (by rfl) (fun _ _ _ h => h) ?hy90 ?_
                      case hy90 => (intro w hSw;  exact exec_loadv rfl (run_load_kc (HA.out.1.vk.same hSw)))
                      try simp only [Act.put, List.setIfInBounds_toArray, List.set_cons_zero, List.set_cons_succ]
                      refine tree_read (i := 1) (v := ?v91) rfl (by rfl) (fun _ _ _ h => h) ?hy91 ?_
                      case hy91 => ((intro w hSw; (try dsimp only at hSw); go_simp) <;> (try with_reducible rfl))
                      try simp only [Act.put, List.setIfInBounds_toArray, List.set_cons_zero, List.set_cons_succ]
                      refine tree_read (i := 2) (v := (.int .i64 op.client) ) rfl (by rfl) (fun _ _ _ h => h) ?hy92 ?_
                      case hy92 => (intro w hSw;  (have q : w.cell? ⟨b9, 1, none⟩ = some (.int .i64 op.client) := cell_at (C := [.int .i64 op.kind, .int .i64 op.client, .int .i64 op.n, .int .i64 op.acts, .slice op.A op.len op.cap]) (HA.out.2.1.same hSw) 1; go_simp))
                      try simp only [Act.put, List.setIfInBounds_toArray, List.set_cons_zero, List.set_cons_succ]
                      refine tree_read (i := 3) (v := (.agg #[.int .i64 op.kind, .int .i64 op.client, .int .i64 op.n, .int .i64 op.acts, .slice op.A op.len op.cap]) ) rfl (by rfl) (fun _ _ _ h => h) ?hy93 ?_
                      case hy93 => (intro w hSw;  exact exec_loadv rfl (run_load_cop (HA.out.2.1.same hSw)))
                      try simp only [Act.put, List.setIfInBounds_toArray, List.set_cons_zero, List.set_cons_succ]
                      refine tree_read (i := 5) (v := ?v94) rfl (by rfl) (fun _ _ _ h => h) ?hy94 ?_
                      case hy94 => ((intro w hSw; (try dsimp only at hSw); go_simp) <;> (try with_reducible rfl))
                      try simp only [Act.put, List.setIfInBounds_toArray, List.set_cons_zero, List.set_cons_succ]
                      refine tree_read (i := 6) (v := (.int .i64 op.n) ) rfl (by rfl) (fun _ _ _ h => h) ?hy95 ?_
                      case hy95 => (intro w hSw;  (have q : w.cell? ⟨b9, 2, none⟩ = some (.int .i64 op.n) := cell_at (C := [.int .i64 op.kind, .int .i64 op.client, .int .i64 op.n, .int .i64 op.acts, .slice op.A op.len op.cap]) (HA.out.2.1.same hSw) 2; go_simp))
                      try simp only [Act.put, List.setIfInBounds_toArray, List.set_cons_zero, List.set_cons_succ]
                      refine tree_fork (i := 4) (j := 12) rfl rfl ?_ ?_
                      · go_wp2_with ((go_at_call 30; go_loud (refine (format_ok op.kind op.client op.n op.acts op.A op.len op.cap op.fs _ (HX.out.2.2.2.2.2.1.same (HA.out.1.ses.same.trans HK.out)) (by have := HX.out.1.1; omega)).mono ?_; rintro e wq ⟨rfl, hs⟩; have HK := Lib.hid (HK.out.trans hs); (try (have VN := Lib.hid (VN.out.same hs))); (try (have HGN := Lib.hid (And.intro HGN.out.1 (Nat.lt_of_lt_of_le HGN.out.2 hs.size)))); clear hs)))
                        (first | refine ⟨.inr ?keep96, ?_⟩ | refine ⟨?keep96, ?_⟩)
                        case keep96 => (first | exact HK.out | exact FIN.out.2.2)
                        try simp only [Act.put, List.setIfInBounds_toArray, List.set_cons_zero, List.set_cons_succ]
                        refine tree_fork (i := 7) (j := 12) rfl rfl ?_ ?_
                        · go_wp2_with ((go_at_call 29; first | (have HF8 := Lib.hid (And.intro (HA.out.1.rkX HK.out (X := fun y => y = gn) (fun y q => by have := HGN.out.1; omega)) (And.intro (HA.out.1.rlX HK.out (X := fun y => y = gn) (fun y q => by have := HGN.out.1; omega)) (fun y (q : FC R lb g4 g6 y ∨ y = gn) => (show y < _ from by rcases q with q | q; exact Nat.lt_of_lt_of_le (HA.out.1.lt y q) HK.out.size; rw [q]; exact HGN.out.2)))); go_loud (refine (kreceive_any2 op.client (fmtV op.fs) op.n HF8.out.1 HF8.out.2.2 (by have := HB.out; omega)).mono ?_; rintro e wk ⟨x2, ix, rs2, rfl, hrk, hpn8, hs⟩; have HR8 := Lib.hid hrk; have HP8 := Lib.hid hpn8; have HK := Lib.hid (HK.out.trans hs); (try (have VN := Lib.hid (VN.out.same hs))); (try (have HGN := Lib.hid (And.intro HGN.out.1 (Nat.lt_of_lt_of_le HGN.out.2 hs.size)))); clear hrk hpn8 hs)) | (have HF8 := Lib.hid (And.intro (HA.out.1.rkX HK.out (X := fun y => False) (fun y q => q.elim)) (And.intro (HA.out.1.rlX HK.out (X := fun y => False) (fun y q => q.elim)) (fun y (q : FC R lb g4 g6 y ∨ False) => (show y < _ from by rcases q with q | q; exact Nat.lt_of_lt_of_le (HA.out.1.lt y q) HK.out.size; exact q.elim)))); go_loud (refine (kreceive_any2 op.client (fmtV op.fs) op.n HF8.out.1 HF8.out.2.2 (by have := HB.out; omega)).mono ?_; rintro e wk ⟨x2, ix, rs2, rfl, hrk, hpn8, hs⟩; have HR8 := Lib.hid hrk; have HP8 := Lib.hid hpn8; have HK := Lib.hid (HK.out.trans hs); (try (have VN := Lib.hid (VN.out.same hs))); (try (have HGN := Lib.hid (And.intro HGN.out.1 (Nat.lt_of_lt_of_le HGN.out.2 hs.size)))); clear hrk hpn8 hs))))
                          (first | refine ⟨.inr ?keep98, ?_⟩ | refine ⟨?keep98, ?_⟩)
                          case keep98 => (first | exact HK.out | exact FIN.out.2.2)
                          try simp only [Act.put, List.setIfInBounds_toArray, List.set_cons_zero, List.set_cons_succ]
                          refine tree_read (i := 8) (v := ?v100) rfl (by rfl) (fun _ _ _ h => h) ?hy100 ?_
                          case hy100 => ((intro w hSw; (try dsimp only at hSw); go_simp) <;> (try with_reducible rfl))
                          try simp only [Act.put, List.setIfInBounds_toArray, List.set_cons_zero, List.set_cons_succ]
                          refine tree_read (i := 9) (v := ?v101) rfl (by rfl) (fun _ _ _ h => h) ?hy101 ?_
                          case hy101 => ((intro w hSw; (try dsimp only at hSw); go_simp) <;> (try with_reducible rfl))
                          try simp only [Act.put, List.setIfInBounds_toArray, List.set_cons_zero, List.set_cons_succ]
                          refine tree_read (i := 10) (v := ?v102) rfl (by rfl) (fun _ _ _ h => h) ?hy102 ?_
                          case hy102 => ((intro w hSw; (try dsimp only at hSw); go_simp) <;> (try with_reducible rfl))
                          try simp only [Act.put, List.setIfInBounds_toArray, List.set_cons_zero, List.set_cons_succ]
                          refine tree_read (i := 11) (v := ?v103) rfl (by rfl) (fun _ _ _ h => h) ?hy103 ?_
                          case hy103 => ((intro w hSw; (try dsimp only at hSw); go_simp) <;> (try with_reducible rfl))
                          try simp only [Act.put, List.setIfInBounds_toArray, List.set_cons_zero, List.set_cons_succ]
                          refine tree_one (i := 12) rfl ?_
                          refine wpl_newK ?_
                          intro un gn hsn vn hgn hgnl
                          have HGN := Lib.hid (And.intro (Nat.le_trans HK.out.size hgn) hgnl)
                          have HK := Lib.hid (HK.out.trans hsn)
                          have VN := Lib.hid vn
                          (try (have HR8 := Lib.hid (RK.own HR8.out (F' := fun y => FC R lb g4 g6 y ∨ y = gn) (Own.of_same hsn (fun y q => by rcases q with q | q; exact .inl (.inl q); exact .inr (by omega))))))
                          clear hsn vn hgn hgnl
                          refine tree_next (.inr ?keep104) ?_
                          case keep104 => (first | exact HK.out | exact FIN.out.2.2)
                          try simp only [Act.put, List.setIfInBounds_toArray, List.set_cons_zero, List.set_cons_succ]
                          refine tree_one (i := 13) rfl ?_
                          have FIN := Lib.hid (box_end VN.out HR8.out HK.out HGN.out.1)
                          refine wpl_storeRow _ rfl rfl VN.out infoKC2 rfl (KC.one _) ?_
                          refine tree_next (.inr ?keep105) ?_
                          case keep105 => (first | exact HK.out | exact FIN.out.2.2)
                          try simp only [Act.put, List.setIfInBounds_toArray, List.set_cons_zero, List.set_cons_succ]
                          refine tree_read (i := 14) (v := ?v106) rfl (by rfl) (fun _ _ _ h => h) ?hy106 ?_
                          case hy106 => ((intro w hSw; (try dsimp only at hSw); go_simp) <;> (try with_reducible rfl))
                          try simp only [Act.put, List.setIfInBounds_toArray, List.set_cons_zero, List.set_cons_succ]
                          refine tree_read (i := 15) (v := ?v107) rfl (by rfl) (fun _ _ _ h => h) ?hy107 ?_
                          case hy107 => ((intro w hSw; (try dsimp only at hSw); go_simp) <;> (try with_reducible rfl))
                          try simp only [Act.put, List.setIfInBounds_toArray, List.set_cons_zero, List.set_cons_succ]
                          refine tree_end ?_
                          go_wp2_with fail
                          go_meet
                          case rel => exact ⟨gn, x2, ix, rs2, rfl, rfl, by rw [HVR.out], HP8.out, FIN.out⟩
                        · refine wpl_newK ?_
                          intro un gn hsn vn hgn hgnl
                          have HGN := Lib.hid (And.intro (Nat.le_trans HK.out.size hgn) hgnl)
                          have HK := Lib.hid (HK.out.trans hsn)
                          have VN := Lib.hid vn
                          (try (have HR8 := Lib.hid (RK.own HR8.out (F' := fun y => FC R lb g4 g6 y ∨ y = gn) (Own.of_same hsn (fun y q => by rcases q with q | q; exact .inl (.inl q); exact .inr (by omega))))))
                          clear hsn vn hgn hgnl
                          refine tree_next (.inr ?keep107) ?_
                          case keep107 => (first | exact HK.out | exact FIN.out.2.2)
                          try simp only [Act.put, List.setIfInBounds_toArray, List.set_cons_zero, List.set_cons_succ]
                          refine tree_one (i := 7) rfl ?_
                          go_wp2_with ((go_at_call 29; first | (have HF8 := Lib.hid (And.intro (HA.out.1.rkX HK.out (X := fun y => y = gn) (fun y q => by have := HGN.out.1; omega)) (And.intro (HA.out.1.rlX HK.out (X := fun y => y = gn) (fun y q => by have := HGN.out.1; omega)) (fun y (q : FC R lb g4 g6 y ∨ y = gn) => (show y < _ from by rcases q with q | q; exact Nat.lt_of_lt_of_le (HA.out.1.lt y q) HK.out.size; rw [q]; exact HGN.out.2)))); go_loud (refine (kreceive_any2 op.client (fmtV op.fs) op.n HF8.out.1 HF8.out.2.2 (by have := HB.out; omega)).mono ?_; rintro e wk ⟨x2, ix, rs2, rfl, hrk, hpn8, hs⟩; have HR8 := Lib.hid hrk; have HP8 := Lib.hid hpn8; have HK := Lib.hid (HK.out.trans hs); (try (have VN := Lib.hid (VN.out.same hs))); (try (have HGN := Lib.hid (And.intro HGN.out.1 (Nat.lt_of_lt_of_le HGN.out.2 hs.size)))); clear hrk hpn8 hs)) | (have HF8 := Lib.hid (And.intro (HA.out.1.rkX HK.out (X := fun y => False) (fun y q => q.elim)) (And.intro (HA.out.1.rlX HK.out (X := fun y => False) (fun y q => q.elim)) (fun y (q : FC R lb g4 g6 y ∨ False) => (show y < _ from by rcases q with q | q; exact Nat.lt_of_lt_of_le (HA.out.1.lt y q) HK.out.size; exact q.elim)))); go_loud (refine (kreceive_any2 op.client (fmtV op.fs) op.n HF8.out.1 HF8.out.2.2 (by have := HB.out; omega)).mono ?_; rintro e wk ⟨x2, ix, rs2, rfl, hrk, hpn8, hs⟩; have HR8 := Lib.hid hrk; have HP8 := Lib.hid hpn8; have HK := Lib.hid (HK.out.trans hs); (try (have VN := Lib.hid (VN.out.same hs))); (try (have HGN := Lib.hid (And.intro HGN.out.1 (Nat.lt_of_lt_of_le HGN.out.2 hs.size)))); clear hrk hpn8 hs))))
                          (first | refine ⟨.inr ?keep108, ?_⟩ | refine ⟨?keep108, ?_⟩)
                          case keep108 => (first | exact HK.out | exact FIN.out.2.2)
                          try simp only [Act.put, List.setIfInBounds_toArray, List.set_cons_zero, List.set_cons_succ]
                          refine tree_read (i := 8) (v := ?v109) rfl (by rfl) (fun _ _ _ h => h) ?hy109 ?_
                          case hy109 => ((intro w hSw; (try dsimp only at hSw); go_simp) <;> (try with_reducible rfl))
                          try simp only [Act.put, List.setIfInBounds_toArray, List.set_cons_zero, List.set_cons_succ]
                          refine tree_read (i := 9) (v := ?v110) rfl (by rfl) (fun _ _ _ h => h) ?hy110 ?_
                          case hy110 => ((intro w hSw; (try dsimp only at hSw); go_simp) <;> (try with_reducible rfl))
                          try simp only [Act.put, List.setIfInBounds_toArray, List.set_cons_zero, List.set_cons_succ]
                          refine tree_read (i := 10) (v := ?v111) rfl (by rfl) (fun _ _ _ h => h) ?hy111 ?_
                          case hy111 => ((intro w hSw; (try dsimp only at hSw); go_simp) <;> (try with_reducible rfl))
                          try simp only [Act.put, List.setIfInBounds_toArray, List.set_cons_zero, List.set_cons_succ]
                          refine tree_read (i := 11) (v := ?v112) rfl (by rfl) (fun _ _ _ h => h) ?hy112 ?_
                          case hy112 => ((intro w hSw; (try dsimp only at hSw); go_simp) <;> (try with_reducible rfl))
                          try simp only [Act.put, List.setIfInBounds_toArray, List.set_cons_zero, List.set_cons_succ]
                          refine tree_one (i := 13) rfl ?_
                          have FIN := Lib.hid (box_end VN.out HR8.out HK.out HGN.out.1)
                          refine wpl_storeRow _ rfl rfl VN.out infoKC2 rfl (KC.one _) ?_
                          refine tree_next (.inr ?keep113) ?_
                          case keep113 => (first | exact HK.out | exact FIN.out.2.2)
                          try simp only [Act.put, List.setIfInBounds_toArray, List.set_cons_zero, List.set_cons_succ]
                          refine tree_read (i := 14) (v := ?v114) rfl (by rfl) (fun _ _ _ h => h) ?hy114 ?_
                          case hy114 => ((intro w hSw; (try dsimp only at hSw); go_simp) <;> (try with_reducible rfl))
                          try simp only [Act.put, List.setIfInBounds_toArray, List.set_cons_zero, List.set_cons_succ]
                          refine tree_read (i := 15) (v := ?v115) rfl (by rfl) (fun _ _ _ h => h) ?hy115 ?_
                          case hy115 => ((intro w hSw; (try dsimp only at hSw); go_simp) <;> (try with_reducible rfl))
                          try simp only [Act.put, List.setIfInBounds_toArray, List.set_cons_zero, List.set_cons_succ]
                          refine tree_end ?_
                          go_wp2_with fail
                          go_meet
                          case rel => exact ⟨gn, x2, ix, rs2, rfl, rfl, by rw [HVR.out], HP8.out, FIN.out⟩
                      · refine wpl_newK ?_
                        intro un gn hsn vn hgn hgnl
                        have HGN := Lib.hid (And.intro (Nat.le_trans HK.out.size hgn) hgnl)
                        have HK := Lib.hid (HK.out.trans hsn)
                        have VN := Lib.hid vn
                        (try (have HR8 := Lib.hid (RK.own HR8.out (F' := fun y => FC R lb g4 g6 y ∨ y = gn) (Own.of_same hsn (fun y q => by rcases q with q | q; exact .inl (.inl q); exact .inr (by omega))))))
                        clear hsn vn hgn hgnl
                        refine tree_next (.inr ?keep115) ?_
                        case keep115 => (first | exact HK.out | exact FIN.out.2.2)
                        try simp only [Act.put, List.setIfInBounds_toArray, List.set_cons_zero, List.set_cons_succ]
                        refine tree_one (i := 4) rfl ?_
                        go_wp2_with ((go_at_call 30; go_loud (refine (format_ok op.kind op.client op.n op.acts op.A op.len op.cap op.fs _ (HX.out.2.2.2.2.2.1.same (HA.out.1.ses.same.trans HK.out)) (by have := HX.out.1.1; omega)).mono ?_; rintro e wq ⟨rfl, hs⟩; have HK := Lib.hid (HK.out.trans hs); (try (have VN := Lib.hid (VN.out.same hs))); (try (have HGN := Lib.hid (And.intro HGN.out.1 (Nat.lt_of_lt_of_le HGN.out.2 hs.size)))); clear hs)))
                        (first | refine ⟨.inr ?keep116, ?_⟩ | refine ⟨?keep116, ?_⟩)
                        case keep116 => (first | exact HK.out | exact FIN.out.2.2)
                        try simp only [Act.put, List.setIfInBounds_toArray, List.set_cons_zero, List.set_cons_succ]
                        refine tree_one (i := 7) rfl ?_
                        go_wp2_with ((go_at_call 29; first | (have HF8 := Lib.hid (And.intro (HA.out.1.rkX HK.out (X := fun y => y = gn) (fun y q => by have := HGN.out.1; omega)) (And.intro (HA.out.1.rlX HK.out (X := fun y => y = gn) (fun y q => by have := HGN.out.1; omega)) (fun y (q : FC R lb g4 g6 y ∨ y = gn) => (show y < _ from by rcases q with q | q; exact Nat.lt_of_lt_of_le (HA.out.1.lt y q) HK.out.size; rw [q]; exact HGN.out.2)))); go_loud (refine (kreceive_any2 op.client (fmtV op.fs) op.n HF8.out.1 HF8.out.2.2 (by have := HB.out; omega)).mono ?_; rintro e wk ⟨x2, ix, rs2, rfl, hrk, hpn8, hs⟩; have HR8 := Lib.hid hrk; have HP8 := Lib.hid hpn8; have HK := Lib.hid (HK.out.trans hs); (try (have VN := Lib.hid (VN.out.same hs))); (try (have HGN := Lib.hid (And.intro HGN.out.1 (Nat.lt_of_lt_of_le HGN.out.2 hs.size)))); clear hrk hpn8 hs)) | (have HF8 := Lib.hid (And.intro (HA.out.1.rkX HK.out (X := fun y => False) (fun y q => q.elim)) (And.intro (HA.out.1.rlX HK.out (X := fun y => False) (fun y q => q.elim)) (fun y (q : FC R lb g4 g6 y ∨ False) => (show y < _ from by rcases q with q | q; exact Nat.lt_of_lt_of_le (HA.out.1.lt y q) HK.out.size; exact q.elim)))); go_loud (refine (kreceive_any2 op.client (fmtV op.fs) op.n HF8.out.1 HF8.out.2.2 (by have := HB.out; omega)).mono ?_; rintro e wk ⟨x2, ix, rs2, rfl, hrk, hpn8, hs⟩; have HR8 := Lib.hid hrk; have HP8 := Lib.hid hpn8; have HK := Lib.hid (HK.out.trans hs); (try (have VN := Lib.hid (VN.out.same hs))); (try (have HGN := Lib.hid (And.intro HGN.out.1 (Nat.lt_of_lt_of_le HGN.out.2 hs.size)))); clear hrk hpn8 hs))))
                        (first | refine ⟨.inr ?keep117, ?_⟩ | refine ⟨?keep117, ?_⟩)
                        case keep117 => (first | exact HK.out | exact FIN.out.2.2)
                        try simp only [Act.put, List.setIfInBounds_toArray, List.set_cons_zero, List.set_cons_succ]
                        refine tree_read (i := 8) (v := ?v118) rfl (by rfl) (fun _ _ _ h => h) ?hy118 ?_
                        case hy118 => ((intro w hSw; (try dsimp only at hSw); go_simp) <;> (try with_reducible rfl))
                        try simp only [Act.put, List.setIfInBounds_toArray, List.set_cons_zero, List.set_cons_succ]
                        refine tree_read (i := 9) (v := ?v119) rfl (by rfl) (fun _ _ _ h => h) ?hy119 ?_
                        case hy119 => ((intro w hSw; (try dsimp only at hSw); go_simp) <;> (try with_reducible rfl))
                        try simp only [Act.put, List.setIfInBounds_toArray, List.set_cons_zero, List.set_cons_succ]
                        refine tree_read (i := 10) (v := ?v120) rfl (by rfl) (fun _ _ _ h => h) ?hy120 ?_
                        case hy120 => ((intro w hSw; (try dsimp only at hSw); go_simp) <;> (try with_reducible rfl))
                        try simp only [Act.put, List.setIfInBounds_toArray, List.set_cons_zero, List.set_cons_succ]
                        refine tree_read (i := 11) (v := ?v121) rfl (by rfl) (fun _ _ _ h => h) ?hy121 ?_
                        case hy121 => ((intro w hSw; (try dsimp only at hSw); go_simp) <;> (try with_reducible rfl))
                        try simp only [Act.put, List.setIfInBounds_toArray, List.set_cons_zero, List.set_cons_succ]
                        refine tree_one (i := 13) rfl ?_
                        have FIN := Lib.hid (box_end VN.out HR8.out HK.out HGN.out.1)
                        refine wpl_storeRow _ rfl rfl VN.out infoKC2 rfl (KC.one _) ?_
                        refine tree_next (.inr ?keep122) ?_
                        case keep122 => (first | exact HK.out | exact FIN.out.2.2)
                        try simp only [Act.put, List.setIfInBounds_toArray, List.set_cons_zero, List.set_cons_succ]
                        refine tree_read (i := 14) (v := ?v123) rfl (by rfl) (fun _ _ _ h => h) ?hy123 ?_
                        case hy123 => ((intro w hSw; (try dsimp only at hSw); go_simp) <;> (try with_reducible rfl))
                        try simp only [Act.put, List.setIfInBounds_toArray, List.set_cons_zero, List.set_cons_succ]
                        refine tree_read (i := 15) (v := ?v124) rfl (by rfl) (fun _ _ _ h => h) ?hy124 ?_
                        case hy124 => ((intro w hSw; (try dsimp only at hSw); go_simp) <;> (try with_reducible rfl))
                        try simp only [Act.put, List.setIfInBounds_toArray, List.set_cons_zero, List.set_cons_succ]
                        refine tree_end ?_
                        go_wp2_with fail
                        go_meet
                        case rel => exact ⟨gn, x2, ix, rs2, rfl, rfl, by rw [HVR.out], HP8.out, FIN.out⟩
                    case rest =>
                      obtain ⟨gn, x2, ix, rs2, rfl, rfl, rfl, hpn2, hbx⟩ := hcut
                      rename World => wx
                      have hld := run_load_kc hbx.1
                      have hvk := HA.out.1.vk.same hbx.2.2
                      have hset := (HA.out.1.same hbx.2.2).setK hbx.2.1
                      have hs9 := hset.2.at_ (HA.out.2.1.same hbx.2.2) (fun q => by have q2 : b9 = g6 := q; have := HA.out.2.2.2.1 g6 (.inr (.inr (.inr rfl))); omega)
                      have HS2 := Lib.hid (And.intro hset.1 (And.intro hs9 hpn2))
                      clear hbx hset hs9 hpn2 k0 lb9
                      go_upto_region 38 with (first | (refine wpl_loadv _ _ _ rfl hld ?_) | (refine wpl_storeRow _ rfl rfl hvk infoKC2 rfl (KC.one _) ?_))
                      try simp only [Act.put, List.setIfInBounds_toArray, List.set_cons_zero, List.set_cons_succ]
                      clear hld hvk
                      generalize wx.setRow g6 x2.cells.toArray = wB at *
                      have S9 : Hid (VarAt wB.drew b9 49 #[.int .i64 op.kind, .int .i64 op.client, .int .i64 op.n, .int .i64 op.acts, .slice op.A op.len op.cap]) := Lib.hid VarAt.drew HS2.out.2.1
                      have HK : Hid (Same wB wB.drew) := Lib.hid ((Chg.refl _ _).drew)
                      by_cases hv0 : vr = 0
                      · as_aux_lemma =>
                        subst hv0
                        refine region_path (S := (fun w' => VarAt w' b9 49 #[.int .i64 op.kind, .int .i64 op.client, .int .i64 op.n, .int .i64 op.acts, .slice op.A op.len op.cap])) 99 [(0, true), (1, true), (2, true), (3, true), (5, true), (6, true), (4, false), (7, false), (8, true), (9, true), (10, true), (11, true), (12, true)] (by kernel_rfl) (by kernel_rfl) (by kernel_rfl) S9.out ?_
                        refine path_read (i := 0) (v := ?v125_0) rfl (by rfl) (fun _ _ _ h => h) ?hy125_0 ?_
                        case hy125_0 => ((intro w hSw; (try dsimp only at hSw); go_simp) <;> (try with_reducible rfl))
                        try simp only [Act.put, List.setIfInBounds_toArray, List.set_cons_zero, List.set_cons_succ]
                        refine path_read (i := 1) (v := ?v125_1) rfl (by rfl) (fun _ _ _ h => h) ?hy125_1 ?_
                        case hy125_1 => ((intro w hSw; (try dsimp only at hSw); go_simp) <;> (try with_reducible rfl))
                        try simp only [Act.put, List.setIfInBounds_toArray, List.set_cons_zero, List.set_cons_succ]
                        refine path_read (i := 2) (v := (.int .i64 op.client) ) rfl (by rfl) (fun _ _ _ h => h) ?hy125_2 ?_
                        case hy125_2 => (intro w hSw;  (have q : w.cell? ⟨b9, 1, none⟩ = some (.int .i64 op.client) := cell_at (C := [.int .i64 op.kind, .int .i64 op.client, .int .i64 op.n, .int .i64 op.acts, .slice op.A op.len op.cap]) hSw 1; go_simp))
                        try simp only [Act.put, List.setIfInBounds_toArray, List.set_cons_zero, List.set_cons_succ]
                        refine path_read (i := 3) (v := (.agg #[.int .i64 op.kind, .int .i64 op.client, .int .i64 op.n, .int .i64 op.acts, .slice op.A op.len op.cap]) ) rfl (by rfl) (fun _ _ _ h => h) ?hy125_3 ?_
                        case hy125_3 => (intro w hSw;  exact exec_loadv rfl (run_load_cop hSw))
                        try simp only [Act.put, List.setIfInBounds_toArray, List.set_cons_zero, List.set_cons_succ]
                        refine path_read (i := 5) (v := ?v125_5) rfl (by rfl) (fun _ _ _ h => h) ?hy125_5 ?_
                        case hy125_5 => ((intro w hSw; (try dsimp only at hSw); go_simp) <;> (try with_reducible rfl))
                        try simp only [Act.put, List.setIfInBounds_toArray, List.set_cons_zero, List.set_cons_succ]
                        refine path_read (i := 6) (v := (.int .i64 op.n) ) rfl (by rfl) (fun _ _ _ h => h) ?hy125_6 ?_
                        case hy125_6 => (intro w hSw;  (have q : w.cell? ⟨b9, 2, none⟩ = some (.int .i64 op.n) := cell_at (C := [.int .i64 op.kind, .int .i64 op.client, .int .i64 op.n, .int .i64 op.acts, .slice op.A op.len op.cap]) hSw 2; go_simp))
                        try simp only [Act.put, List.setIfInBounds_toArray, List.set_cons_zero, List.set_cons_succ]
                        refine path_do (i := 4) rfl ?_
                        go_wp2_with ((go_at_call 30; go_loud (refine (format_ok op.kind op.client op.n op.acts op.A op.len op.cap op.fs _ (HX.out.2.2.2.2.2.1.same (HS2.out.1.ses.same.trans HK.out)) (by have := HX.out.1.1; omega)).mono ?_; rintro e wq ⟨rfl, hs⟩; have HK := Lib.hid (HK.out.trans hs); have S9 := Lib.hid (S9.out.same hs); clear hs)))
                        (first | refine ⟨.inr ?keep125_4, ?_⟩ | refine ⟨?keep125_4, ?_⟩)
                        case keep125_4 => (exact S9.out)
                        try simp only [Act.put, List.setIfInBounds_toArray, List.set_cons_zero, List.set_cons_succ]
                        refine path_do (i := 7) rfl ?_
                        go_wp2_with ((go_at_call 22; go_loud (refine (ses_rcv op.client op.n (fmtV op.fs) (HS2.out.1.ses.keep HK.out) HVR.out (by have := HB.out; omega)).mono ?_; rintro e wp ⟨R', pb, Rp, rfl, hsp, hown⟩; have S9 := Lib.hid (hown.chg.at_ S9.out (fun q => by have := HA.out.2.2.2.1 b9 (.inl q); omega)); have HEND := Lib.hid (((HS2.out.1.same HK.out).prog hsp hown).flows (c.flows ++ [⟨pb, Rp, PSt.new op.n, c.owner, op.client, true⟩])); clear hsp hown)))
                        (first | refine ⟨.inr ?keep125_7, ?_⟩ | refine ⟨?keep125_7, ?_⟩)
                        case keep125_7 => (exact S9.out)
                        try simp only [Act.put, List.setIfInBounds_toArray, List.set_cons_zero, List.set_cons_succ]
                        refine path_read (i := 8) (v := ?v125_8) rfl (by rfl) (fun _ _ _ h => h) ?hy125_8 ?_
                        case hy125_8 => ((intro w hSw; (try dsimp only at hSw); go_simp) <;> (try with_reducible rfl))
                        try simp only [Act.put, List.setIfInBounds_toArray, List.set_cons_zero, List.set_cons_succ]
                        refine path_read (i := 9) (v := ?v125_9) rfl (by rfl) (fun _ _ _ h => h) ?hy125_9 ?_
                        case hy125_9 => ((intro w hSw; (try dsimp only at hSw); go_simp) <;> (try with_reducible rfl))
                        try simp only [Act.put, List.setIfInBounds_toArray, List.set_cons_zero, List.set_cons_succ]
                        refine path_read (i := 10) (v := ?v125_10) rfl (by rfl) (fun _ _ _ h => h) ?hy125_10 ?_
                        case hy125_10 => ((intro w hSw; (try dsimp only at hSw); go_simp) <;> (try with_reducible rfl))
                        try simp only [Act.put, List.setIfInBounds_toArray, List.set_cons_zero, List.set_cons_succ]
                        refine path_read (i := 11) (v := ?v125_11) rfl (by rfl) (fun _ _ _ h => h) ?hy125_11 ?_
                        case hy125_11 => ((intro w hSw; (try dsimp only at hSw); go_simp) <;> (try with_reducible rfl))
                        try simp only [Act.put, List.setIfInBounds_toArray, List.set_cons_zero, List.set_cons_succ]
                        refine path_read (i := 12) (v := ?v125_12) rfl (by rfl) (fun _ _ _ h => h) ?hy125_12 ?_
                        case hy125_12 => ((intro w hSw; (try dsimp only at hSw); go_simp) <;> (try with_reducible rfl))
                        try simp only [Act.put, List.setIfInBounds_toArray, List.set_cons_zero, List.set_cons_succ]
                        refine path_end ?_
                        go_wp2_with fail
                        go_meet
                        case rel => exact ⟨iss, R', L, _, x2, rs2, N, LA, ln, lc, le, rfl, HEND.out, S9.out, by have := HB.out; show c.offers ≤ _; omega, by have := HB.out; simp; omega, by have := HB.out; have := HS2.out.2.2; omega, by have := HB.out; omega⟩
                      · as_aux_lemma =>
                        have hvb : (vr == 0) = false := by simp [hv0]
                        have HV0 := Lib.hid hv0
                        clear hv0
                        refine region_path (S := (fun w' => VarAt w' b9 49 #[.int .i64 op.kind, .int .i64 op.client, .int .i64 op.n, .int .i64 op.acts, .slice op.A op.len op.cap])) 99 [(0, true), (1, true), (2, true), (3, true), (5, true), (6, true), (4, false), (7, false), (8, true), (9, true), (10, true), (11, true), (12, true)] (by kernel_rfl) (by kernel_rfl) (by kernel_rfl) S9.out ?_
                        refine path_read (i := 0) (v := ?v126_0) rfl (by rfl) (fun _ _ _ h => h) ?hy126_0 ?_
                        case hy126_0 => ((intro w hSw; (try dsimp only at hSw); go_simp) <;> (try with_reducible rfl))
                        try simp only [Act.put, List.setIfInBounds_toArray, List.set_cons_zero, List.set_cons_succ]
                        refine path_read (i := 1) (v := ?v126_1) rfl (by rfl) (fun _ _ _ h => h) ?hy126_1 ?_
                        case hy126_1 => ((intro w hSw; (try dsimp only at hSw); go_simp) <;> (try with_reducible rfl))
                        try simp only [Act.put, List.setIfInBounds_toArray, List.set_cons_zero, List.set_cons_succ]
                        refine path_read (i := 2) (v := (.int .i64 op.client) ) rfl (by rfl) (fun _ _ _ h => h) ?hy126_2 ?_
                        case hy126_2 => (intro w hSw;  (have q : w.cell? ⟨b9, 1, none⟩ = some (.int .i64 op.client) := cell_at (C := [.int .i64 op.kind, .int .i64 op.client, .int .i64 op.n, .int .i64 op.acts, .slice op.A op.len op.cap]) hSw 1; go_simp))
                        try simp only [Act.put, List.setIfInBounds_toArray, List.set_cons_zero, List.set_cons_succ]
                        refine path_read (i := 3) (v := (.agg #[.int .i64 op.kind, .int .i64 op.client, .int .i64 op.n, .int .i64 op.acts, .slice op.A op.len op.cap]) ) rfl (by rfl) (fun _ _ _ h => h) ?hy126_3 ?_
                        case hy126_3 => (intro w hSw;  exact exec_loadv rfl (run_load_cop hSw))
                        try simp only [Act.put, List.setIfInBounds_toArray, List.set_cons_zero, List.set_cons_succ]
                        refine path_read (i := 5) (v := ?v126_5) rfl (by rfl) (fun _ _ _ h => h) ?hy126_5 ?_
                        case hy126_5 => ((intro w hSw; (try dsimp only at hSw); go_simp) <;> (try with_reducible rfl))
                        try simp only [Act.put, List.setIfInBounds_toArray, List.set_cons_zero, List.set_cons_succ]
                        refine path_read (i := 6) (v := (.int .i64 op.n) ) rfl (by rfl) (fun _ _ _ h => h) ?hy126_6 ?_
                        case hy126_6 => (intro w hSw;  (have q : w.cell? ⟨b9, 2, none⟩ = some (.int .i64 op.n) := cell_at (C := [.int .i64 op.kind, .int .i64 op.client, .int .i64 op.n, .int .i64 op.acts, .slice op.A op.len op.cap]) hSw 2; go_simp))
                        try simp only [Act.put, List.setIfInBounds_toArray, List.set_cons_zero, List.set_cons_succ]
                        refine path_do (i := 4) rfl ?_
                        go_wp2_with ((go_at_call 30; go_loud (refine (format_ok op.kind op.client op.n op.acts op.A op.len op.cap op.fs _ (HX.out.2.2.2.2.2.1.same (HS2.out.1.ses.same.trans HK.out)) (by have := HX.out.1.1; omega)).mono ?_; rintro e wq ⟨rfl, hs⟩; have HK := Lib.hid (HK.out.trans hs); have S9 := Lib.hid (S9.out.same hs); clear hs)))
                        (first | refine ⟨.inr ?keep126_4, ?_⟩ | refine ⟨?keep126_4, ?_⟩)
                        case keep126_4 => (exact S9.out)
                        try simp only [Act.put, List.setIfInBounds_toArray, List.set_cons_zero, List.set_cons_succ]
                        refine path_do (i := 7) rfl ?_
                        go_wp2_with ((go_at_call 22; go_loud (refine (ses_rcv_no vr op.client op.n (fmtV op.fs) (HS2.out.1.ses.keep HK.out) HVR.out HV0.out).mono ?_; rintro e wp ⟨rfl, rfl⟩)))
                        (first | refine ⟨.inr ?keep126_7, ?_⟩ | refine ⟨?keep126_7, ?_⟩)
                        case keep126_7 => (exact S9.out)
                        try simp only [Act.put, List.setIfInBounds_toArray, List.set_cons_zero, List.set_cons_succ]
                        refine path_read (i := 8) (v := ?v126_8) rfl (by rfl) (fun _ _ _ h => h) ?hy126_8 ?_
                        case hy126_8 => ((intro w hSw; (try dsimp only at hSw); go_simp) <;> (try with_reducible rfl))
                        try simp only [Act.put, List.setIfInBounds_toArray, List.set_cons_zero, List.set_cons_succ]
                        refine path_read (i := 9) (v := ?v126_9) rfl (by rfl) (fun _ _ _ h => h) ?hy126_9 ?_
                        case hy126_9 => ((intro w hSw; (try dsimp only at hSw); go_simp) <;> (try with_reducible rfl))
                        try simp only [Act.put, List.setIfInBounds_toArray, List.set_cons_zero, List.set_cons_succ]
                        refine path_read (i := 10) (v := ?v126_10) rfl (by rfl) (fun _ _ _ h => h) ?hy126_10 ?_
                        case hy126_10 => ((intro w hSw; (try dsimp only at hSw); go_simp) <;> (try with_reducible rfl))
                        try simp only [Act.put, List.setIfInBounds_toArray, List.set_cons_zero, List.set_cons_succ]
                        refine path_read (i := 11) (v := ?v126_11) rfl (by rfl) (fun _ _ _ h => h) ?hy126_11 ?_
                        case hy126_11 => ((intro w hSw; (try dsimp only at hSw); go_simp) <;> (try with_reducible rfl))
                        try simp only [Act.put, List.setIfInBounds_toArray, List.set_cons_zero, List.set_cons_succ]
                        refine path_read (i := 12) (v := ?v126_12) rfl (by rfl) (fun _ _ _ h => h) ?hy126_12 ?_
                        case hy126_12 => ((intro w hSw; (try dsimp only at hSw); go_simp) <;> (try with_reducible rfl))
                        try simp only [Act.put, List.setIfInBounds_toArray, List.set_cons_zero, List.set_cons_succ]
                        refine path_end ?_
                        go_wp2_with fail
                        go_meet
                        case rel => exact ⟨iss, R, L, c, x2, rs2, N, LA, ln, lc, le, rfl, HS2.out.1.same HK.out, S9.out, by have := HB.out; omega, by have := HB.out; omega, by have := HB.out; have := HS2.out.2.2; omega, by have := HB.out; omega⟩
                · have hb4 : (op.kind == 4) = false := by simp [hk4]
                  by_cases hk5 : op.kind = 5
                  · as_aux_lemma =>
                      have hbk : (op.kind == 5) = true := by simp [hk5]
                      clear hk5
                      have k1 : wA.cell? ⟨b9, 1, none⟩ = some (.int .i64 op.client) := cell_at (C := [.int .i64 op.kind, .int .i64 op.client, .int .i64 op.n, .int .i64 op.acts, .slice op.A op.len op.cap]) HA.out.2.1 1
                      have hldm := run_load_kc HA.out.1.vk
                      go_wp2_with (first | (refine wpl_loadv _ _ _ rfl hldm ?_))
                      refine (kgone_any op.client HA.out.1.rk HA.out.1.lt (by have := HB.out; omega)).mono ?_
                      rintro e w2 ⟨x2, rs2, rfl, hrk, hpn2, hs⟩
                      have hvk := HA.out.1.vk.same hs
                      have hset := (HA.out.1.same hs).setK hrk
                      have hs9 := hset.2.at_ (HA.out.2.1.same hs) (fun q => by have q2 : b9 = g6 := q; have := HA.out.2.2.2.1 g6 (.inr (.inr (.inr rfl))); omega)
                      have HS2 := Lib.hid (And.intro hset.1 (And.intro hs9 hpn2))
                      clear hset hs9 hpn2 hs hrk k0 k1 hldm lb9
                      go_upto_region 43 with (first | (refine wpl_storeRow x.cells.toArray rfl rfl hvk infoKC2 rfl (KC.one _) ?_))
                      try simp only [Act.put, List.setIfInBounds_toArray, List.set_cons_zero, List.set_cons_succ]
                      clear hvk
                      generalize w2.setRow g6 x2.cells.toArray = wB at *
                      have k1 : wB.cell? ⟨b9, 1, none⟩ = some (.int .i64 op.client) := cell_at (C := [.int .i64 op.kind, .int .i64 op.client, .int .i64 op.n, .int .i64 op.acts, .slice op.A op.len op.cap]) HS2.out.2.1 1
                      have lb9 := lt_of_at HS2.out.2.1
                      go_wp2_with fail
                      refine (ses_gone (c.gone op.client) op.client HS2.out.1.ses rfl).mono ?_
                      rintro e wp ⟨R', rfl, hsp, hown⟩
                      have S9 := Lib.hid (hown.chg.at_ HS2.out.2.1 (fun q => by have := HA.out.2.2.2.1 b9 (.inl q); omega))
                      have HEND := Lib.hid (HS2.out.1.prog hsp hown)
                      clear hsp hown k1 lb9
                      go_wp2_with fail
                      go_meet
                      case rel => exact ⟨iss, R', L, _, x2, rs2, N, LA, ln, lc, le, rfl, HEND.out, S9.out, by have := HB.out; rw [(gone_keep c op.client).1]; omega, by have := HB.out; rw [(gone_keep c op.client).2]; omega, by have := HB.out; have := HS2.out.2.2; omega, by have := HB.out; omega⟩
                  · have hb5 : (op.kind == 5) = false := by simp [hk5]
                    as_aux_lemma =>
                      have k1 : wA.cell? ⟨b9, 1, none⟩ = some (.int .i64 op.client) := cell_at (C := [.int .i64 op.kind, .int .i64 op.client, .int .i64 op.n, .int .i64 op.acts, .slice op.A op.len op.cap]) HA.out.2.1 1
                      have k2 : wA.cell? ⟨b9, 2, none⟩ = some (.int .i64 op.n) := cell_at (C := [.int .i64 op.kind, .int .i64 op.client, .int .i64 op.n, .int .i64 op.acts, .slice op.A op.len op.cap]) HA.out.2.1 2
                      have hldm := VarAt.ldL (N := N) HA.out.1.vl
                      unfold lgc at hldm
                      go_wp2_with (first | (refine wpl_loadv _ _ _ rfl hldm ?_))
                      refine (kissue_any lc op.client 1 _ HA.out.1.rl (by have := HB.out; omega) HA.out.1.lt HX.out.2.2.1.2 (by omega)).mono ?_
                      rintro e w2 ⟨N2, LA2, ln2, lc2, le2, rfl, hrl, hN2, hs⟩
                      have hs5 : Same w2 ((w2.alloc (.cells #[.int .i64 0, .slice none 0 0] 58)).setRow w2.heap.size #[.int .i64 N2, .slice LA2 ln2 lc2]) := ((Chg.refl _ _).alloc _).setRow _ _ (fun q => absurd q (Nat.lt_irrefl _))
                      have hld := VarAt.ldL (N := N2) ((VarAt.new w2 58 #[.int .i64 0, .slice none 0 0]).put #[.int .i64 N2, .slice LA2 ln2 lc2])
                      unfold lgc at hld
                      have hvl := HA.out.1.vl.same (hs.trans hs5)
                      have hset := (HA.out.1.same (hs.trans hs5)).setL (lc2 := lc2) (hrl.same hs5)
                      have hs9 := hset.2.at_ (HA.out.2.1.same (hs.trans hs5)) (fun q => by have q2 : b9 = g4 := q; have := HA.out.2.2.2.1 g4 (.inr (.inr (.inl rfl))); omega)
                      have HS2 := Lib.hid (And.intro hset.1 (And.intro hs9 hN2))
                      clear hset hs9 hN2 hs hrl hs5 k0 k1 k2 hldm lb9
                      go_upto_region 16 with (first | (refine wpl_alloc #[.int .i64 0, .slice none 0 0] _ (zeroRL _) rfl ?_) | (refine wpl_storeRow #[.int .i64 0, .slice none 0 0] rfl rfl (VarAt.new _ _ _) infoRL2 rfl (lgc_one _ _ _ _) ?_) | (refine wpl_loadv _ _ _ rfl hld ?_) | (refine wpl_storeRow #[.int .i64 N, .slice LA ln lc] rfl rfl hvl infoRL2 rfl (lgc_one _ _ _ _) ?_))
                      try simp only [Act.put, List.setIfInBounds_toArray, List.set_cons_zero, List.set_cons_succ]
                      clear hld hvl
                      generalize ((w2.alloc (.cells #[.int .i64 0, .slice none 0 0] 58)).setRow w2.heap.size #[.int .i64 N2, .slice LA2 ln2 lc2]).setRow g4 #[.int .i64 N2, .slice LA2 ln2 lc2] = wB at *
                      have k1 : wB.cell? ⟨b9, 1, none⟩ = some (.int .i64 op.client) := cell_at (C := [.int .i64 op.kind, .int .i64 op.client, .int .i64 op.n, .int .i64 op.acts, .slice op.A op.len op.cap]) HS2.out.2.1 1
                      have k2 : wB.cell? ⟨b9, 2, none⟩ = some (.int .i64 op.n) := cell_at (C := [.int .i64 op.kind, .int .i64 op.client, .int .i64 op.n, .int .i64 op.acts, .slice op.A op.len op.cap]) HS2.out.2.1 2
                      have lb9 := lt_of_at HS2.out.2.1
                      go_wp2_with fail
                      refine (ses_issue _ _ op.client 1 _ HS2.out.1.ses HX.out.2.2.1.2 (by omega) rfl rfl).mono ?_
                      rintro e wp ⟨rfl, hsp, hk⟩
                      have S9 := Lib.hid (hk.at_ HS2.out.2.1 (fun q => by have q2 : b9 = lb := q; have := HA.out.2.2.2.1 lb (.inr (.inl rfl)); omega))
                      have HEND := Lib.hid (HS2.out.1.log hsp hk)
                      clear hsp hk k1 k2 lb9
                      go_wp2
                      all_goals
                        go_meet
                        exact ⟨_, R, _, c, x, rs, N2, LA2, ln2, lc2, le2, rfl, HEND.out, S9.out, by have := HB.out; omega, by have := HB.out; omega, by have := HB.out; omega, by have := HB.out; have := HS2.out.2.2; omega⟩
        case rest =>
          obtain ⟨iss', R', L', c', x', rs', N', LA', ln', lc', le', rfl, hst, hv9, hbd⟩ := hcut
          rename World => wx
          have HRR := Lib.hid (And.intro hst (And.intro hv9 hbd))
          clear hst hv9 hbd HS HB HA k0 lb9
          obtain ⟨ow, how⟩ : ∃ ow, c'.owner = ow := ⟨_, rfl⟩
          obtain ⟨f1, hf1⟩ : ∃ f1, c'.sees op.client = f1 := ⟨_, rfl⟩
          obtain ⟨f2, hf2⟩ : ∃ f2, c'.sees 2 = f2 := ⟨_, rfl⟩
          have HV := Lib.hid (And.intro how (And.intro hf1 hf2))
          have HFL := Lib.hid (see_len HRR.out.1.rk hf1)
          have HFL2 := Lib.hid (see_len HRR.out.1.rk hf2)
          clear how hf1 hf2
          have HK : Hid (Same wx wx.drew) := Lib.hid ((Chg.refl _ _).drew)
          go_upto_region 44 with (fail)
          refine region_path (S := (fun w' => Same wx w')) 99 [(0, true), (2, true), (1, false), (3, false), (4, true), (5, true), (6, true), (7, true), (8, true), (10, true), (11, true), (12, true), (9, false), (13, false), (14, false), (15, true), (16, true), (17, true), (18, true), (20, true), (19, false), (21, false), (22, false), (23, true), (24, true)] (by kernel_rfl) (by kernel_rfl) (by kernel_rfl) HK.out ?_
          refine path_read (i := 0) (v := ?v127_0) rfl (by rfl) (fun _ _ _ h => h) ?hy127_0 ?_
          case hy127_0 => ((intro w hSw; (try dsimp only at hSw); go_simp) <;> (try with_reducible rfl))
          try simp only [Act.put, List.setIfInBounds_toArray, List.set_cons_zero, List.set_cons_succ]
          refine path_read (i := 2) (v := (.agg x'.cells.toArray) ) rfl (by rfl) (fun _ _ _ h => h) ?hy127_2 ?_
          case hy127_2 => (intro w hSw;  exact exec_loadv rfl (run_load_kc (HRR.out.1.vk.same hSw)))
          try simp only [Act.put, List.setIfInBounds_toArray, List.set_cons_zero, List.set_cons_succ]
          refine path_do (i := 1) rfl ?_
          go_wp2_with ((go_at_call 17; go_loud (refine (ses_owner ow (HRR.out.1.ses.keep HK.out) HV.out.1).mono ?_; rintro e w2 ⟨rfl, rfl⟩)))
          (first | refine ⟨.inr ?keep127_1, ?_⟩ | refine ⟨?keep127_1, ?_⟩)
          case keep127_1 => (exact HK.out)
          try simp only [Act.put, List.setIfInBounds_toArray, List.set_cons_zero, List.set_cons_succ]
          refine path_do (i := 3) rfl ?_
          go_wp2_with ((go_at_call 34; go_loud (refine (kowner_ok ow x' _ (HRR.out.1.rk.ho.trans HV.out.1)).mono ?_; rintro e w3 ⟨rfl, hs⟩; have HK := Lib.hid (HK.out.trans hs); clear hs)))
          (first | refine ⟨.inr ?keep127_3, ?_⟩ | refine ⟨?keep127_3, ?_⟩)
          case keep127_3 => (exact HK.out)
          try simp only [Act.put, List.setIfInBounds_toArray, List.set_cons_zero, List.set_cons_succ]
          refine path_read (i := 4) (v := ?v127_4) rfl (by rfl) (fun _ _ _ h => h) ?hy127_4 ?_
          case hy127_4 => ((intro w hSw; (try dsimp only at hSw); go_simp) <;> (try with_reducible rfl))
          try simp only [Act.put, List.setIfInBounds_toArray, List.set_cons_zero, List.set_cons_succ]
          refine path_read (i := 5) (v := ?v127_5) rfl (by rfl) (fun _ _ _ h => h) ?hy127_5 ?_
          case hy127_5 => ((intro w hSw; (try dsimp only at hSw); go_simp) <;> (try with_reducible rfl))
          try simp only [Act.put, List.setIfInBounds_toArray, List.set_cons_zero, List.set_cons_succ]
          refine path_read (i := 6) (v := ?v127_6) rfl (by rfl) (fun _ _ _ h => h) ?hy127_6 ?_
          case hy127_6 => ((intro w hSw; (try dsimp only at hSw); go_simp) <;> (try with_reducible rfl))
          try simp only [Act.put, List.setIfInBounds_toArray, List.set_cons_zero, List.set_cons_succ]
          refine path_read (i := 7) (v := ?v127_7) rfl (by rfl) (fun _ _ _ h => h) ?hy127_7 ?_
          case hy127_7 => ((intro w hSw; (try dsimp only at hSw); go_simp) <;> (try with_reducible rfl))
          try simp only [Act.put, List.setIfInBounds_toArray, List.set_cons_zero, List.set_cons_succ]
          refine path_read (i := 8) (v := (.int .i64 op.client) ) rfl (by rfl) (fun _ _ _ h => h) ?hy127_8 ?_
          case hy127_8 => (intro w hSw;  (have q : w.cell? ⟨b9, 1, none⟩ = some (.int .i64 op.client) := cell_at (C := [.int .i64 op.kind, .int .i64 op.client, .int .i64 op.n, .int .i64 op.acts, .slice op.A op.len op.cap]) (HRR.out.2.1.same hSw) 1; go_simp))
          try simp only [Act.put, List.setIfInBounds_toArray, List.set_cons_zero, List.set_cons_succ]
          refine path_read (i := 10) (v := (.agg x'.cells.toArray) ) rfl (by rfl) (fun _ _ _ h => h) ?hy127_10 ?_
          case hy127_10 => (intro w hSw;  exact exec_loadv rfl (run_load_kc (HRR.out.1.vk.same hSw)))
          try simp only [Act.put, List.setIfInBounds_toArray, List.set_cons_zero, List.set_cons_succ]
          refine path_read (i := 11) (v := ?v127_11) rfl (by rfl) (fun _ _ _ h => h) ?hy127_11 ?_
          case hy127_11 => ((intro w hSw; (try dsimp only at hSw); go_simp) <;> (try with_reducible rfl))
          try simp only [Act.put, List.setIfInBounds_toArray, List.set_cons_zero, List.set_cons_succ]
          refine path_read (i := 12) (v := (.int .i64 op.client) ) rfl (by rfl) (fun _ _ _ h => h) ?hy127_12 ?_
          case hy127_12 => (intro w hSw;  (have q : w.cell? ⟨b9, 1, none⟩ = some (.int .i64 op.client) := cell_at (C := [.int .i64 op.kind, .int .i64 op.client, .int .i64 op.n, .int .i64 op.acts, .slice op.A op.len op.cap]) (HRR.out.2.1.same hSw) 1; go_simp))
          try simp only [Act.put, List.setIfInBounds_toArray, List.set_cons_zero, List.set_cons_succ]
          refine path_do (i := 9) rfl ?_
          go_wp2_with ((go_at_call 21; go_loud (refine (ses_formats f1 op.client f1.length (HRR.out.1.ses.keep HK.out) HV.out.2.1 rfl).mono ?_; rintro e w4 ⟨A1, cap1, rfl, hsa, hs, _⟩; have HK := Lib.hid (HK.out.trans hs); have HT1 := Lib.hid hsa.1; clear hs hsa)))
          (first | refine ⟨.inr ?keep127_9, ?_⟩ | refine ⟨?keep127_9, ?_⟩)
          case keep127_9 => (exact HK.out)
          try simp only [Act.put, List.setIfInBounds_toArray, List.set_cons_zero, List.set_cons_succ]
          refine path_do (i := 13) rfl ?_
          go_wp2_with ((go_at_call 36; go_loud (refine (kformats_any op.client f1 (HRR.out.1.rk.same HK.out) HV.out.2.1).mono ?_; rintro e w5 ⟨A2, cap2, rfl, hsa, hs⟩; have HK := Lib.hid (HK.out.trans hs); have HT1 := Lib.hid (HT1.out.same hs); have HT2 := Lib.hid hsa; clear hs hsa)))
          (first | refine ⟨.inr ?keep127_13, ?_⟩ | refine ⟨?keep127_13, ?_⟩)
          case keep127_13 => (exact HK.out)
          try simp only [Act.put, List.setIfInBounds_toArray, List.set_cons_zero, List.set_cons_succ]
          refine path_do (i := 14) rfl ?_
          go_wp2_with ((go_at_call 35; go_loud (refine (texts_ok A1 A2 f1.length cap1 cap2 f1 _ HT1.out HT2.out HFL.out).mono ?_; rintro e w6 ⟨rfl, hs⟩; have HK := Lib.hid (HK.out.trans hs); clear hs)))
          (first | refine ⟨.inr ?keep127_14, ?_⟩ | refine ⟨?keep127_14, ?_⟩)
          case keep127_14 => (exact HK.out)
          try simp only [Act.put, List.setIfInBounds_toArray, List.set_cons_zero, List.set_cons_succ]
          refine path_read (i := 15) (v := ?v127_15) rfl (by rfl) (fun _ _ _ h => h) ?hy127_15 ?_
          case hy127_15 => ((intro w hSw; (try dsimp only at hSw); go_simp) <;> (try with_reducible rfl))
          try simp only [Act.put, List.setIfInBounds_toArray, List.set_cons_zero, List.set_cons_succ]
          refine path_read (i := 16) (v := ?v127_16) rfl (by rfl) (fun _ _ _ h => h) ?hy127_16 ?_
          case hy127_16 => ((intro w hSw; (try dsimp only at hSw); go_simp) <;> (try with_reducible rfl))
          try simp only [Act.put, List.setIfInBounds_toArray, List.set_cons_zero, List.set_cons_succ]
          refine path_read (i := 17) (v := ?v127_17) rfl (by rfl) (fun _ _ _ h => h) ?hy127_17 ?_
          case hy127_17 => ((intro w hSw; (try dsimp only at hSw); go_simp) <;> (try with_reducible rfl))
          try simp only [Act.put, List.setIfInBounds_toArray, List.set_cons_zero, List.set_cons_succ]
          refine path_read (i := 18) (v := ?v127_18) rfl (by rfl) (fun _ _ _ h => h) ?hy127_18 ?_
          case hy127_18 => ((intro w hSw; (try dsimp only at hSw); go_simp) <;> (try with_reducible rfl))
          try simp only [Act.put, List.setIfInBounds_toArray, List.set_cons_zero, List.set_cons_succ]
          refine path_read (i := 20) (v := (.agg x'.cells.toArray) ) rfl (by rfl) (fun _ _ _ h => h) ?hy127_20 ?_
          case hy127_20 => (intro w hSw;  exact exec_loadv rfl (run_load_kc (HRR.out.1.vk.same hSw)))
          try simp only [Act.put, List.setIfInBounds_toArray, List.set_cons_zero, List.set_cons_succ]
          refine path_do (i := 19) rfl ?_
          go_wp2_with ((go_at_call 21; go_loud (refine (ses_formats f2 2 f2.length (HRR.out.1.ses.keep HK.out) HV.out.2.2 rfl).mono ?_; rintro e w7 ⟨A3, cap3, rfl, hsa, hs, _⟩; have HK := Lib.hid (HK.out.trans hs); have HT3 := Lib.hid hsa.1; clear hs hsa)))
          (first | refine ⟨.inr ?keep127_19, ?_⟩ | refine ⟨?keep127_19, ?_⟩)
          case keep127_19 => (exact HK.out)
          try simp only [Act.put, List.setIfInBounds_toArray, List.set_cons_zero, List.set_cons_succ]
          refine path_do (i := 21) rfl ?_
          go_wp2_with ((go_at_call 36; go_loud (refine (kformats_any 2 f2 (HRR.out.1.rk.same HK.out) HV.out.2.2).mono ?_; rintro e w8 ⟨A4, cap4, rfl, hsa, hs⟩; have HK := Lib.hid (HK.out.trans hs); have HT3 := Lib.hid (HT3.out.same hs); have HT4 := Lib.hid hsa; clear hs hsa)))
          (first | refine ⟨.inr ?keep127_21, ?_⟩ | refine ⟨?keep127_21, ?_⟩)
          case keep127_21 => (exact HK.out)
          try simp only [Act.put, List.setIfInBounds_toArray, List.set_cons_zero, List.set_cons_succ]
          refine path_do (i := 22) rfl ?_
          go_wp2_with ((go_at_call 35; go_loud (refine (texts_ok A3 A4 f2.length cap3 cap4 f2 _ HT3.out HT4.out HFL2.out).mono ?_; rintro e w9 ⟨rfl, hs⟩; have HK := Lib.hid (HK.out.trans hs); clear hs)))
          (first | refine ⟨.inr ?keep127_22, ?_⟩ | refine ⟨?keep127_22, ?_⟩)
          case keep127_22 => (exact HK.out)
          try simp only [Act.put, List.setIfInBounds_toArray, List.set_cons_zero, List.set_cons_succ]
          refine path_read (i := 23) (v := ?v127_23) rfl (by rfl) (fun _ _ _ h => h) ?hy127_23 ?_
          case hy127_23 => ((intro w hSw; (try dsimp only at hSw); go_simp) <;> (try with_reducible rfl))
          try simp only [Act.put, List.setIfInBounds_toArray, List.set_cons_zero, List.set_cons_succ]
          refine path_read (i := 24) (v := ?v127_24) rfl (by rfl) (fun _ _ _ h => h) ?hy127_24 ?_
          case hy127_24 => ((intro w hSw; (try dsimp only at hSw); go_simp) <;> (try with_reducible rfl))
          try simp only [Act.put, List.setIfInBounds_toArray, List.set_cons_zero, List.set_cons_succ]
          refine path_end ?_
          go_wp2
          go_roundg (len - (i + 1))
          case measure => have := HG.out; omega
          case rel => exact ⟨i + 1, by omega, by rfl, by go_num, iss', R', L', c', x', rs', N', LA', ln', lc', le', rfl, HRR.out.1.same HK.out, HRR.out.2.2⟩
      · have hii : ¬ (i : Int) < len := by omega
        go_wp2_with fail
        refine (example42_ok _).mono ?_
        rintro e w9 ⟨rfl, hs⟩
        have HS9 := Lib.hid hs
        clear hs
        go_wp2
        go_ret
        exact ⟨rfl, HS.out.ses.same.trans HS9.out⟩
  · clear hv
    go_wp2_with fail
    refine (example42_ok _).mono ?_
    rintro e w1 ⟨rfl, hs⟩
    have HS := Lib.hid hs
    clear hs
    go_wp2
    go_ret
    exact ⟨rfl, HS.out⟩
end Go.Proofs.Ytndldjopgbhphaa
