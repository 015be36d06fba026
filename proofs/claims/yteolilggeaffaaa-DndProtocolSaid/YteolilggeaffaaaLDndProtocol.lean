/- The walk of DndProtocol: for all arguments it returns true and leaves what was there as it was. -/
import Derived.Test.YteolilggeaffaaaSess43
import Derived.WalkMore
import Derived.Deep.LoopGhost
set_option linter.unusedVariables false
set_option linter.unusedSimpArgs false
set_option maxRecDepth 100000
namespace Go.Proofs.Yteolilggeaffaaa
open Go.RowKit

set_option maxHeartbeats 16000000 in
theorem DndProtocol_walk (A : Option Addr) (len cap : Nat) (l : List DOp) (w : World) (h : DOpsAt w A len l) :
    Calls Try.prog 6 #[.slice A len cap] w fun e w' => e = .returned (.bool true) ∧ Same w w' := by
  have HO := Lib.hid h
  have hlm := h.2.2
  unfold maxLen at hlm
  clear h
  go_enter Try.func6, Try.ntmps6
  go_wp2_with fail
  refine (lq_start _).mono ?_
  rintro e w1 ⟨sb, lb, b, F, rfl, hl⟩
  have HL := Lib.hid hl
  clear hl
  go_wp2_with fail
  refine (light43_ok A len cap l _ (HO.out.same HL.out.same)).mono ?_
  rintro e w2 ⟨v, rfl, rfl, hlt⟩
  cases v
  · clear hlt
    go_wp2_with fail
    refine (example43_ok _).mono ?_
    rintro e w9 ⟨rfl, hs⟩
    have HS9 := Lib.hid hs
    clear hs
    go_wp2
    go_ret
    exact ⟨rfl, HL.out.same.trans HS9.out⟩
  · have hl40 := (hlt rfl).1
    clear hlt
    go_wp2
    go_loopw [5, 6, 7, 8, 9] (fun v5 v6 v7 v8 v9 wr => ∃ (i : Nat) (p : PrS) (F : Nat → Prop) (L : SLog) (d : DSt) (last : Int), i ≤ len ∧ v5 = .int .i64 p.cl ∧ v6 = .int .i64 p.su ∧ v7 = .int .i64 p.of_ ∧ v8 = .bool p.ac ∧ v9 = .int .i64 i ∧ PrI p d ∧ d.offers ≤ i ∧ d.flows.length ≤ i ∧ LQ w wr F sb lb b L d last) (fun _ _ _ _ v9 _ => len - (intOf v9).toNat)
    case atStart => exact ⟨0, ⟨0, 0, 0, false⟩, F, SLog.new, DSt.new, 0, by omega, rfl, rfl, rfl, rfl, rfl, ⟨rfl, fun q => by have q2 : (0 : Int) = 1 := q; omega, fun _ => ⟨rfl, rfl⟩⟩, Nat.le_refl _, Nat.le_refl _, HL.out⟩
    case round =>
      obtain ⟨i, p, F, L, d, last, hi, rfl, rfl, rfl, rfl, rfl, hpi, hof, hfl, hl⟩ := hrel
      rename World => wo
      have HPI := Lib.hid hpi
      have HB := Lib.hid (And.intro hof hfl)
      have HL := Lib.hid hl
      clear hpi hof hfl hl
      by_cases hlt : i < len
      · have hii : (i : Int) < len := by omega
        obtain ⟨g, o, x, rfl, hgw, hxi, hok, hc⟩ := HO.out.at_ hlt
        have HX := Lib.hid (And.intro hxi hok)
        have HC := Lib.hid hc
        clear hxi hok hc
        have hs1 := HL.out.cell1
        have hsl := HL.out.slt
        go_wp2_with fail
        have HL := Lib.hid (HL.out.keep ((Chg.refl (fun _ => False) _).drew))
        obtain ⟨st, hst⟩ : ∃ st, d.state = st := ⟨_, rfl⟩
        obtain ⟨act, hact⟩ : ∃ act, d.act = act := ⟨_, rfl⟩
        have HST := Lib.hid (And.intro hst hact)
        clear hst hact
        have hcel := HL.out.cell1
        refine region_path (S := (fun w' => w'.cell? ⟨sb, 1, none⟩ = some (.pointer (some ⟨b, 0, none⟩)))) 99 [(0, true), (1, true), (2, true), (3, true), (5, true), (6, true), (7, true), (8, true), (4, false), (9, false), (10, true), (11, true)] (by kernel_rfl) (by kernel_rfl) (by kernel_rfl) hcel ?_
        refine path_read (i := 0) (v := ?v1_0) rfl (by rfl) (fun _ _ _ h => h) ?hy1_0 ?_
        case hy1_0 => ((intro w hSw; (try dsimp only at hSw); go_simp) <;> (try with_reducible rfl))
        try simp only [Act.put, List.setIfInBounds_toArray, List.set_cons_zero, List.set_cons_succ]
        refine path_read (i := 1) (v := ?v1_1) rfl (by rfl) (fun _ _ _ h => h) ?hy1_1 ?_
        case hy1_1 => ((intro w hSw; (try dsimp only at hSw); go_simp) <;> (try with_reducible rfl))
        try simp only [Act.put, List.setIfInBounds_toArray, List.set_cons_zero, List.set_cons_succ]
        refine path_read (i := 2) (v := ?v1_2) rfl (by rfl) (fun _ _ _ h => h) ?hy1_2 ?_
        case hy1_2 => ((intro w hSw; (try dsimp only at hSw); go_simp) <;> (try with_reducible rfl))
        try simp only [Act.put, List.setIfInBounds_toArray, List.set_cons_zero, List.set_cons_succ]
        refine path_read (i := 3) (v := ?v1_3) rfl (by rfl) (fun _ _ _ h => h) ?hy1_3 ?_
        case hy1_3 => ((intro w hSw; (try dsimp only at hSw); go_simp) <;> (try with_reducible rfl))
        try simp only [Act.put, List.setIfInBounds_toArray, List.set_cons_zero, List.set_cons_succ]
        refine path_read (i := 5) (v := ?v1_5) rfl (by rfl) (fun _ _ _ h => h) ?hy1_5 ?_
        case hy1_5 => ((intro w hSw; (try dsimp only at hSw); go_simp) <;> (try with_reducible rfl))
        try simp only [Act.put, List.setIfInBounds_toArray, List.set_cons_zero, List.set_cons_succ]
        refine path_read (i := 6) (v := ?v1_6) rfl (by rfl) (fun _ _ _ h => h) ?hy1_6 ?_
        case hy1_6 => ((intro w hSw; (try dsimp only at hSw); go_simp) <;> (try with_reducible rfl))
        try simp only [Act.put, List.setIfInBounds_toArray, List.set_cons_zero, List.set_cons_succ]
        refine path_read (i := 7) (v := ?v1_7) rfl (by rfl) (fun _ _ _ h => h) ?hy1_7 ?_
        case hy1_7 => ((intro w hSw; (try dsimp only at hSw); go_simp) <;> (try with_reducible rfl))
        try simp only [Act.put, List.setIfInBounds_toArray, List.set_cons_zero, List.set_cons_succ]
        refine path_read (i := 8) (v := ?v1_8) rfl (by rfl) (fun _ _ _ h => h) ?hy1_8 ?_
        case hy1_8 => ((intro w hSw; (try dsimp only at hSw); go_simp) <;> (try with_reducible rfl))
        try simp only [Act.put, List.setIfInBounds_toArray, List.set_cons_zero, List.set_cons_succ]
        refine path_do (i := 4) rfl ?_
        go_wp2_with ((first | (go_at_call 21; go_loud (refine (lq_state st HL.out HST.out.1).mono ?_; rintro e w3 ⟨rfl, hl, _⟩; have HL := Lib.hid hl; clear hl)) | (go_at_call 15; go_loud (refine (lq_action act HL.out HST.out.2).mono ?_; rintro e w3 ⟨rfl, hl, _⟩; have HL := Lib.hid hl; clear hl))))
        (first | refine ⟨.inr ?keep1_4, ?_⟩ | refine ⟨?keep1_4, ?_⟩)
        case keep1_4 => (exact HL.out.cell1)
        try simp only [Act.put, List.setIfInBounds_toArray, List.set_cons_zero, List.set_cons_succ]
        refine path_do (i := 9) rfl ?_
        go_wp2_with ((first | (go_at_call 21; go_loud (refine (lq_state st HL.out HST.out.1).mono ?_; rintro e w3 ⟨rfl, hl, _⟩; have HL := Lib.hid hl; clear hl)) | (go_at_call 15; go_loud (refine (lq_action act HL.out HST.out.2).mono ?_; rintro e w3 ⟨rfl, hl, _⟩; have HL := Lib.hid hl; clear hl))))
        (first | refine ⟨.inr ?keep1_9, ?_⟩ | refine ⟨?keep1_9, ?_⟩)
        case keep1_9 => (exact HL.out.cell1)
        try simp only [Act.put, List.setIfInBounds_toArray, List.set_cons_zero, List.set_cons_succ]
        refine path_read (i := 10) (v := ?v1_10) rfl (by rfl) (fun _ _ _ h => h) ?hy1_10 ?_
        case hy1_10 => ((intro w hSw; (try dsimp only at hSw); go_simp) <;> (try with_reducible rfl))
        try simp only [Act.put, List.setIfInBounds_toArray, List.set_cons_zero, List.set_cons_succ]
        refine path_read (i := 11) (v := ?v1_11) rfl (by rfl) (fun _ _ _ h => h) ?hy1_11 ?_
        case hy1_11 => ((intro w hSw; (try dsimp only at hSw); go_simp) <;> (try with_reducible rfl))
        try simp only [Act.put, List.setIfInBounds_toArray, List.set_cons_zero, List.set_cons_succ]
        refine path_end ?_
        clear hcel hs1 hsl
        have hcc := fun j v hv => HL.out.same.cell (HC.out j v hv) (fun q => q)
        have c0 := hcc 0 _ rfl
        rw [Nat.add_zero] at c0
        have c1 := hcc 1 _ rfl
        have c2 := hcc 2 _ rfl
        have c3 := hcc 3 _ rfl
        have c4 := hcc 4 _ rfl
        have c5 := hcc 5 _ rfl
        have c6 := hcc 6 _ rfl
        have c7 := hcc 7 _ rfl
        have c8 := hcc 8 _ rfl
        have c9 := hcc 9 _ rfl
        have c10 := hcc 10 _ rfl
        have c11 := hcc 11 _ rfl
        have hgw3 := Nat.lt_of_lt_of_le hgw HL.out.same.size
        clear hcc
        go_wp2_with fail
        have hofi : d.offers < 1000000 ∧ d.flows.length < 1000 := by have := HB.out; omega
        refine (call_any x HX.out.2 HL.out hofi.1 hofi.2).mono ?_
        rintro e w4 ⟨d', L', last', ds, ok, er, hstep, v, F', rfl, hout, hl, hown⟩
        obtain ⟨A2, cap2, rfl, hcap, hmax, hrows⟩ := out_rows hout
        have HPR := Lib.hid (pr_step ⟨HL.out.logok.last0, HL.out.logok.last1⟩ HPI.out hstep)
        have HFEW := Lib.hid (step_few hstep)
        have HL := Lib.hid hl
        have hdl : ds.length ≤ 9223372036854775807 := by unfold maxLen at hmax; omega
        clear hstep hout hl hown c0 c1 c2 c3 c4 c5 c6 c7 c8 c9 c10 c11 hgw3 hofi hcap hmax
        go_upto_region 13 with (fail)
        have hk4 := (Chg.refl (fun _ => False) w4).alloc (.cells #[.slice A2 ds.length cap2, .bool ok, .int .i64 er] 63)
        have hr4 := at_new w4 (.cells #[.slice A2 ds.length cap2, .bool ok, .int .i64 er] 63)
        generalize w4.alloc (.cells #[.slice A2 ds.length cap2, .bool ok, .int .i64 er] 63) = w5 at *
        have HL := Lib.hid (HL.out.keep hk4)
        obtain ⟨r0, r1, r2⟩ := res_cells hr4
        have HR4 := Lib.hid hr4
        have hrl := lt_of_at hr4
        have HROWS : Hid (0 < ds.length → ∃ g, A2 = some ⟨g, 0, none⟩ ∧ g < w5.heap.size ∧ ∀ (i : Nat) x, ds[i]? = some x → ∀ j u, x.cells[j]? = some u → w5.cell? ⟨g, i * 9 + j, none⟩ = some u) := Lib.hid (fun q => by
          obtain ⟨g2, e1, _, e2, e3⟩ := hrows q
          exact ⟨g2, e1, Nat.lt_of_lt_of_le e2 hk4.size, fun i x hx j u hu => hk4.cell (e3 i x hx j u hu) (fun q => q)⟩)
        have hcc := fun j v hv => HL.out.same.cell (HC.out j v hv) (fun q => q)
        have c0 := hcc 0 _ rfl
        rw [Nat.add_zero] at c0
        have c9 := hcc 9 _ rfl
        have hgw3 := Nat.lt_of_lt_of_le hgw HL.out.same.size
        clear hcc hk4 hr4 hrows
        go_cut [57] from 47 to 58 (fun v57 wx => v57 = .bool (decide (x.kind = 3 ∧ er = 0)) ∧ wx = w5)
        case first =>
          by_cases h3 : x.kind = 3
          · by_cases h0 : er = 0
            · have hq : decide (x.kind = 3 ∧ er = 0) = true := decide_eq_true ⟨h3, h0⟩
              have hkb : (x.kind == 3) = true := by simp [h3]
              have heb : (er == 0) = true := by simp [h0]
              have HQ := Lib.hid hq
              clear h3 h0 hq
              go_wp2_with fail
              go_meet
              case rel => rw [HQ.out]; exact ⟨rfl, rfl⟩
            · have hq : decide (x.kind = 3 ∧ er = 0) = false := decide_eq_false (fun q => h0 q.2)
              have hkb : (x.kind == 3) = true := by simp [h3]
              have heb : (er == 0) = false := by simp [h0]
              have HQ := Lib.hid hq
              clear h3 h0 hq
              go_wp2_with fail
              go_meet
              case rel => rw [HQ.out]; exact ⟨rfl, rfl⟩
          · have hq : decide (x.kind = 3 ∧ er = 0) = false := decide_eq_false (fun q => h3 q.1)
            have hkb : (x.kind == 3) = false := by simp [h3]
            have HQ := Lib.hid hq
            clear h3 hq
            go_wp2_with fail
            go_meet
            case rel => rw [HQ.out]; exact ⟨rfl, rfl⟩
        case rest =>
          obtain ⟨rfl, e⟩ := hcut
          have e := e.symm
          subst e
          go_upto_if 57 with (fail)
          go_cut [8, 57] from 58 to 64 (fun v8 v57 wx => v8 = .bool (p.acc x er).ac ∧ wx = w5)
          case first =>
            by_cases hq : x.kind = 3 ∧ er = 0
            · have ha : (p.acc x er).ac = !decide (x.f = ByteArray.empty) := by unfold PrS.acc; rw [if_pos hq]
              have HA := Lib.hid ha
              rw [decide_eq_true hq]
              clear ha hq
              by_cases hf : x.f = ByteArray.empty
              · have HFE := Lib.hid hf
                rw [hf] at c9
                have hem : ByteArray.empty.toList = [] := toList_nil
                clear hf
                go_wp2_with fail
                go_meet
                case rel => rw [HA.out, HFE.out]; exact ⟨rfl, rfl⟩
              · have h2e : ¬ x.f = ⟨#[]⟩ := hf
                have hne := toList_ne h2e
                have hne2 : ¬ x.f.toList = [] := toList_cons h2e
                have hne4 : x.f.toList.isEmpty = false := toList_emp h2e
                have HFE := Lib.hid hf
                clear hf h2e
                go_wp2_with fail
                go_meet
                case rel => rw [HA.out, decide_eq_false HFE.out]; exact ⟨rfl, rfl⟩
            · have ha : p.acc x er = p := if_neg hq
              have HA := Lib.hid ha
              rw [decide_eq_false hq]
              clear ha hq
              go_wp2_with fail
              go_meet
              case rel => rw [HA.out]; exact ⟨rfl, rfl⟩
          case rest =>
            obtain ⟨rfl, e⟩ := hcut
            have e := e.symm
            subst e
            have hpe : p.cl = (p.acc x er).cl ∧ p.su = (p.acc x er).su ∧ p.of_ = (p.acc x er).of_ := by unfold PrS.acc; split <;> exact ⟨rfl, rfl, rfl⟩
            rw [hpe.1, hpe.2.1, hpe.2.2]
            have HOF : Hid ((p.acc x er).of_ = d.offers) := Lib.hid (by rw [← hpe.2.2]; exact HPI.out.1)
            generalize p.acc x er = p1 at *
            clear hpe c0 c9 hgw3
            go_wp2
            go_loopw [5, 6, 7, 8, 13] (fun v5 v6 v7 v8 v13 wr => ∃ k : Nat, k ≤ ds.length ∧ v13 = .int .i64 k ∧ v5 = .int .i64 (p1.run (ds.take k)).cl ∧ v6 = .int .i64 (p1.run (ds.take k)).su ∧ v7 = .int .i64 (p1.run (ds.take k)).of_ ∧ v8 = .bool (p1.run (ds.take k)).ac ∧ Same w5 wr) (fun _ _ _ _ v13 _ => ds.length - (intOf v13).toNat)
            case atStart => exact ⟨0, by omega, rfl, rfl, rfl, rfl, rfl, Chg.refl _ _⟩
            case round =>
              obtain ⟨k, hk, rfl, rfl, rfl, rfl, rfl, hs⟩ := hrel
              have HS := Lib.hid hs
              obtain ⟨p2, hp2⟩ : ∃ p2, p1.run (ds.take k) = p2 := ⟨_, rfl⟩
              rw [hp2]
              have HP2 := Lib.hid hp2
              have r0 := hs.cell r0 (fun q => q)
              have r1 := hs.cell r1 (fun q => q)
              have r2 := hs.cell r2 (fun q => q)
              have hrl := Nat.lt_of_lt_of_le hrl hs.size
              clear hs hp2
              by_cases hkl : k < ds.length
              · have hki : (k : Int) < ds.length := by omega
                obtain ⟨g2, hA2, hgl2, hcy⟩ := HROWS.out (by omega)
                obtain ⟨y, hy⟩ : ∃ y, ds[k]? = some y := ⟨_, List.getElem?_eq_getElem hkl⟩
                have HY := Lib.hid hy
                have hcy := hcy k y hy
                subst hA2
                have y0 := HS.out.cell (hcy 0 _ rfl) (fun q => q)
                have y1 := HS.out.cell (hcy 1 _ rfl) (fun q => q)
                have y2 := HS.out.cell (hcy 2 _ rfl) (fun q => q)
                have y3 := HS.out.cell (hcy 3 _ rfl) (fun q => q)
                have y4 := HS.out.cell (hcy 4 _ rfl) (fun q => q)
                have y5 := HS.out.cell (hcy 5 _ rfl) (fun q => q)
                have y6 := HS.out.cell (hcy 6 _ rfl) (fun q => q)
                have y7 := HS.out.cell (hcy 7 _ rfl) (fun q => q)
                have y8 := HS.out.cell (hcy 8 _ rfl) (fun q => q)
                rw [Nat.add_zero] at y0
                have hgl3 := Nat.lt_of_lt_of_le hgl2 HS.out.size
                have hg := HPR.out.1 k y hy
                rw [HP2.out, HST.out.1, HST.out.2] at hg
                clear hy hcy hgl2
                obtain ⟨hst1, hcase⟩ := hg
                subst hst1
                rcases hcase with ⟨e14, e0, ecode, eser⟩ | ⟨hk3, ec, es, en⟩
                · as_aux_lemma =>
                    have hbd := run_bd p1 ds k y HY.out
                    rw [HP2.out] at hbd
                    have HNX : Hid (p1.run (ds.take (k + 1)) = ⟨y.c, y.s, p2.of_ + 1, false⟩) := Lib.hid (by rw [run_succ _ _ _ _ HY.out, HP2.out]; unfold PrS.next; rw [if_pos e14])
                    have s1 : IntKind.i64.wrap (p2.of_ + 1) = p2.of_ + 1 := IntWalk.i64_in _ (by have h1 := HPR.out.2.1; have h2 := HOF.out; have h3 := HFEW.out.1; have h4 := HB.out.1; unfold PrS.next at hbd; rw [if_pos e14] at hbd; have h5 : p2.of_ + 1 ≤ (p1.run ds).of_ := hbd.2; omega)
                    have hsb : (p2.su == 0) = true := by simp [e0]
                    have hsc : (p2.su != 0) = false := by simp [e0]
                    have hse : (y.ser == 0) = false := by simp [eser]
                    have hsf : (y.ser != 0) = true := by simp [eser]
                    rw [e14] at y2
                    rw [ecode] at y6
                    clear e14 e0 ecode eser hbd
                    go_upto_region 27 with (fail)
                    have hz := at_new wr (.cells #[.int .i64 y.c, .int .i64 y.s, .int .i64 14, .int .i64 y.t, .int .i64 y.x, .int .i64 y.y, .int .i64 (p2.of_ + 1), .int .i64 y.val, .int .u32 y.ser] 72)
                    have hza : Same wr (wr.alloc (.cells #[.int .i64 y.c, .int .i64 y.s, .int .i64 14, .int .i64 y.t, .int .i64 y.x, .int .i64 y.y, .int .i64 (p2.of_ + 1), .int .i64 y.val, .int .u32 y.ser] 72)) := (Chg.refl _ _).alloc _
                    generalize wr.alloc (.cells #[.int .i64 y.c, .int .i64 y.s, .int .i64 14, .int .i64 y.t, .int .i64 y.x, .int .i64 y.y, .int .i64 (p2.of_ + 1), .int .i64 y.val, .int .u32 y.ser] 72) = wz at *
                    have HZA := Lib.hid hza
                    have z0 := (Chg.refl (fun _ => False) wz).drew.cell (cell_at (C := [.int .i64 y.c, .int .i64 y.s, .int .i64 14, .int .i64 y.t, .int .i64 y.x, .int .i64 y.y, .int .i64 (p2.of_ + 1), .int .i64 y.val, .int .u32 y.ser]) hz 0) (fun q => q)
                    have z1 := (Chg.refl (fun _ => False) wz).drew.cell (cell_at (C := [.int .i64 y.c, .int .i64 y.s, .int .i64 14, .int .i64 y.t, .int .i64 y.x, .int .i64 y.y, .int .i64 (p2.of_ + 1), .int .i64 y.val, .int .u32 y.ser]) hz 1) (fun q => q)
                    have z0' : wz.drew.cell? ⟨wr.heap.size, 0, none⟩ = some (.int .i64 y.c) := z0
                    have z1' : wz.drew.cell? ⟨wr.heap.size, 1, none⟩ = some (.int .i64 y.s) := z1
                    clear hz hza z0 z1
                    refine region_path (S := (fun w' => w'.cell? ⟨wr.heap.size, 0, none⟩ = some (.int .i64 y.c) ∧ w'.cell? ⟨wr.heap.size, 1, none⟩ = some (.int .i64 y.s))) 99 [(0, true), (1, true), (2, true), (3, true), (4, true), (5, true), (6, true)] (by kernel_rfl) (by kernel_rfl) (by kernel_rfl) (⟨z0', z1'⟩) ?_
                    refine path_read (i := 0) (v := ?v2_0) rfl (by rfl) (fun _ _ _ h => h) ?hy2_0 ?_
                    case hy2_0 => ((intro w hSw; (try dsimp only at hSw); go_simp) <;> (try with_reducible rfl))
                    try simp only [Act.put, List.setIfInBounds_toArray, List.set_cons_zero, List.set_cons_succ]
                    refine path_read (i := 1) (v := ?v2_1) rfl (by rfl) (fun _ _ _ h => h) ?hy2_1 ?_
                    case hy2_1 => ((intro w hSw; (try dsimp only at hSw); go_simp) <;> (try with_reducible rfl))
                    try simp only [Act.put, List.setIfInBounds_toArray, List.set_cons_zero, List.set_cons_succ]
                    refine path_read (i := 2) (v := ?v2_2) rfl (by rfl) (fun _ _ _ h => h) ?hy2_2 ?_
                    case hy2_2 => ((intro w hSw; (try dsimp only at hSw); go_simp) <;> (try with_reducible rfl))
                    try simp only [Act.put, List.setIfInBounds_toArray, List.set_cons_zero, List.set_cons_succ]
                    refine path_read (i := 3) (v := ?v2_3) rfl (by rfl) (fun _ _ _ h => h) ?hy2_3 ?_
                    case hy2_3 => ((intro w hSw; (try dsimp only at hSw); go_simp) <;> (try with_reducible rfl))
                    try simp only [Act.put, List.setIfInBounds_toArray, List.set_cons_zero, List.set_cons_succ]
                    refine path_read (i := 4) (v := ?v2_4) rfl (by rfl) (fun _ _ _ h => h) ?hy2_4 ?_
                    case hy2_4 => ((intro w hSw; (try dsimp only at hSw); go_simp) <;> (try with_reducible rfl))
                    try simp only [Act.put, List.setIfInBounds_toArray, List.set_cons_zero, List.set_cons_succ]
                    refine path_read (i := 5) (v := ?v2_5) rfl (by rfl) (fun _ _ _ h => h) ?hy2_5 ?_
                    case hy2_5 => ((intro w hSw; (try dsimp only at hSw); go_simp) <;> (try with_reducible rfl))
                    try simp only [Act.put, List.setIfInBounds_toArray, List.set_cons_zero, List.set_cons_succ]
                    refine path_read (i := 6) (v := ?v2_6) rfl (by rfl) (fun _ _ _ h => h) ?hy2_6 ?_
                    case hy2_6 => ((intro w hSw; (try dsimp only at hSw); go_simp) <;> (try with_reducible rfl))
                    try simp only [Act.put, List.setIfInBounds_toArray, List.set_cons_zero, List.set_cons_succ]
                    refine path_end ?_
                    go_wp2
                    go_roundw
                    case rel => exact ⟨k + 1, by omega, by go_num, by rw [HNX.out], by rw [HNX.out], by rw [HNX.out], by rw [HNX.out], (HS.out.trans HZA.out).drew⟩
                    case measure => simp [intOf]; omega
                · rw [ec] at y0
                  rw [es] at y1
                  have hsb : (p2.su == 0) = false := by simp [en]
                  have hsc : (p2.su != 0) = true := by simp [en]
                  clear ec es en
                  rcases hk3 with ek | ek | ⟨ek, eac, eact, eok, est⟩
                  · as_aux_lemma =>
                      have HNX : Hid (p1.run (ds.take (k + 1)) = p2) := Lib.hid (by rw [run_succ _ _ _ _ HY.out, HP2.out]; unfold PrS.next; rw [if_neg (by rw [ek]; decide)]; rw [if_pos ek])
                      rw [ek] at y2
                      clear ek
                      go_wp2
                      go_roundw
                      case rel => exact ⟨k + 1, by omega, by go_num, by rw [HNX.out], by rw [HNX.out], by rw [HNX.out], by rw [HNX.out], (HS.out.alloc _)⟩
                      case measure => simp [intOf]; omega
                  · as_aux_lemma =>
                      have HNX : Hid (p1.run (ds.take (k + 1)) = ⟨0, 0, p2.of_, p2.ac⟩) := Lib.hid (by rw [run_succ _ _ _ _ HY.out, HP2.out]; unfold PrS.next; rw [if_neg (by rw [ek]; decide)]; rw [if_neg (by rw [ek]; decide)])
                      rw [ek] at y2
                      clear ek
                      go_wp2
                      go_roundw
                      case rel => exact ⟨k + 1, by omega, by go_num, by rw [HNX.out], by rw [HNX.out], by rw [HNX.out], by rw [HNX.out], (HS.out.alloc _)⟩
                      case measure => simp [intOf]; omega
                  · as_aux_lemma =>
                      subst eok
                      have HNX : Hid (p1.run (ds.take (k + 1)) = ⟨0, 0, p2.of_, p2.ac⟩) := Lib.hid (by rw [run_succ _ _ _ _ HY.out, HP2.out]; unfold PrS.next; rw [if_neg (by rw [ek]; decide)]; rw [if_neg (by rw [ek]; decide)])
                      rw [ek] at y2
                      clear ek
                      have hab : (act == 0) = false := by simp [eact]
                      have hac2 : (act != 0) = true := by simp [eact]
                      have HAC := Lib.hid eac
                      have k1 := (HL.out.keep HS.out).cell1
                      have k2 := (HL.out.keep HS.out).slt
                      clear eact
                      go_wp2_with fail
                      refine (lq_state 2 (HL.out.keep (HS.out.alloc _)) est).mono ?_
                      rintro e w6 ⟨rfl, _, hs6⟩
                      have HS6 := Lib.hid hs6
                      clear hs6 k1 k2
                      go_wp2
                      go_roundw
                      case rel => exact ⟨k + 1, by omega, by go_num, by rw [HNX.out], by rw [HNX.out], by rw [HNX.out], by rw [HNX.out]; exact (congrArg Value.bool HAC.out).symm, (HS.out.alloc _).trans HS6.out⟩
                      case measure => simp [intOf]; omega
              · have hki : ¬ (k : Int) < ds.length := by omega
                have hke : k = ds.length := by omega
                have HRUN : Hid (p1.run ds = p2) := Lib.hid (by rw [← HP2.out, hke, List.take_length])
                clear hke
                have k1 := (HL.out.keep HS.out).cell1
                have k2 := (HL.out.keep HS.out).slt
                obtain ⟨st2, hst2⟩ : ∃ st2, d'.state = st2 := ⟨_, rfl⟩
                have HST2 := Lib.hid hst2
                clear hst2
                go_wp2_with fail
                refine (lq_state st2 (HL.out.keep HS.out) HST2.out).mono ?_
                rintro e w6 ⟨rfl, hl6, _⟩
                have HL6 := Lib.hid hl6
                clear hl6 k1 k2
                have HREL : Hid (∃ (i' : Nat) (p : PrS) (F : Nat → Prop) (L : SLog) (d : DSt) (last : Int), i' ≤ len ∧ (Value.int .i64 p2.cl) = .int .i64 p.cl ∧ (Value.int .i64 p2.su) = .int .i64 p.su ∧ (Value.int .i64 p2.of_) = .int .i64 p.of_ ∧ (Value.bool p2.ac) = .bool p.ac ∧ (Value.int .i64 ((i : Int) + 1)) = .int .i64 i' ∧ PrI p d ∧ d.offers ≤ i' ∧ d.flows.length ≤ i' ∧ LQ w w6 F sb lb b L d last) := Lib.hid ⟨i + 1, p2, F', L', d', last', by omega, rfl, rfl, rfl, rfl, rfl, by rw [← HRUN.out]; exact HPR.out.2, by have := HFEW.out; have := HB.out; omega, by have := HFEW.out; have := HB.out; omega, HL6.out⟩
                have s1 : IntKind.i64.wrap ((i : Int) + 1) = (i : Int) + 1 := IntWalk.i64_in _ (by omega)
                by_cases h1 : st2 = 1
                · have hb1 : (st2 == 1) = true := by simp [h1]
                  have hb2 : (st2 != 1) = false := by simp [h1]
                  clear h1
                  go_wp2
                  go_roundw
                  case rel => exact HREL.out
                  case measure => simp [intOf]; omega
                · have hsu : p2.su = 0 := by rw [← HRUN.out]; exact (HPR.out.2.2.2 (by rw [HST2.out]; exact h1)).2
                  have hb1 : (st2 == 1) = false := by simp [h1]
                  have hb2 : (st2 != 1) = true := by simp [h1]
                  have hs1 : (p2.su == 0) = true := by simp [hsu]
                  have hs2 : (p2.su != 0) = false := by simp [hsu]
                  clear h1 hsu
                  go_wp2
                  go_roundw
                  case rel => exact HREL.out
                  case measure => simp [intOf]; omega
      · have hii : ¬ (i : Int) < len := by omega
        go_wp2_with fail
        refine (example43_ok _).mono ?_
        rintro e w9 ⟨rfl, hs⟩
        have HS9 := Lib.hid hs
        clear hs
        go_wp2
        go_ret
        exact ⟨rfl, HL.out.same.trans HS9.out⟩
end Go.Proofs.Yteolilggeaffaaa
