/- The walk of DndStart: for all arguments it returns true and leaves what was there as it was. -/
import Derived.Test.YteolilggeaffaaaStart43
import Derived.WalkMore
import Derived.Deep.LoopGhost
set_option linter.unusedVariables false
set_option linter.unusedSimpArgs false
set_option maxRecDepth 100000
namespace Go.Proofs.Yteolilggeaffaaa
open Go.RowKit

theorem dops_at2 (w : World) (kind client surface nn other px py tm back acts : Int) (fo : ByteArray) (A : Option Addr) (len cap : Nat) (fs : List ByteArray) (h : DOp.ok w ⟨kind, client, surface, nn, other, px, py, tm, back, fo, ⟨A, len, cap, fs, acts⟩⟩) :
    DOpsAt (w.alloc (.cells #[.int .i64 kind, .int .i64 client, .int .i64 surface, .int .i64 nn, .int .i64 other, .int .i64 px, .int .i64 py, .int .i64 tm, .int .u32 back, .string fo, .slice A len cap, .int .i64 acts] 67)) (some ⟨w.heap.size, 0, none⟩) 1 [⟨kind, client, surface, nn, other, px, py, tm, back, fo, ⟨A, len, cap, fs, acts⟩⟩] :=
  dops_one _ h
theorem startE_new {L : SLog} {c s i n acts : Int} {fs : List ByteArray} (h1 : 1 ≤ c) (h2 : 1 ≤ s) (h3 : 0 ≤ i) : DSt.startE DSt.new L c s i fs acts n = if checkV fs acts ≠ 0 then checkV fs acts else if validD L c s n then 0 else 13 := by
  unfold DSt.startE
  rw [if_neg (by omega), if_neg (by decide)]
theorem begin_again (L : SLog) (c s i : Int) (fs fs2 : List ByteArray) (acts n : Int) (h : 1 ≤ c ∧ 1 ≤ s ∧ 0 ≤ i) : DSt.startE (DSt.begin DSt.new fs acts) L c s i fs2 acts n = 14 ∧ DSt.start (DSt.begin DSt.new fs acts) L c s i fs2 acts n = DSt.begin DSt.new fs acts := by
  have e : DSt.startE (DSt.begin DSt.new fs acts) L c s i fs2 acts n = 14 := by
    unfold DSt.startE
    rw [if_neg (by omega), if_pos (by show (1 : Int) ≠ 0; omega)]
  exact ⟨e, by unfold DSt.start; rw [if_neg (by rw [e]; decide)]⟩
set_option maxHeartbeats 16000000 in
theorem DndStart_walk (A : Option Addr) (len cap : Nat) (l : List DOp) (x : DOp) (w : World) (h : DOpsAt w A len l) (hx : x.ok w) :
    Calls Try.prog 7 #[.slice A len cap, .agg x.cells.toArray] w fun e w' => e = .returned (.bool true) ∧ Same w w' := by
  obtain ⟨kind, client, surface, nn, other, px, py, tm, back, fo, ⟨A2, len2, cap2, fs, acts⟩⟩ := x
  have HO := Lib.hid h
  have HX := Lib.hid hx
  have HA : Hid (SArg w A2 len2 cap2 fs) := Lib.hid hx.2.2.2.2.2.2.2.2.2.2.1
  have HBD : Hid (client ≤ 9223372036854775807 ∧ surface ≤ 9223372036854775807) := Lib.hid ⟨hx.2.1.2, hx.2.2.1.2⟩
  have hlm := h.2.2
  unfold maxLen at hlm
  clear h hx
  show Calls Try.prog 7 #[.slice A len cap, .agg #[.int .i64 kind, .int .i64 client, .int .i64 surface, .int .i64 nn, .int .i64 other, .int .i64 px, .int .i64 py, .int .i64 tm, .int .u32 back, .string fo, .slice A2 len2 cap2, .int .i64 acts]] w _
  have HW := Lib.hid ((Chg.refl (fun _ => False) w).alloc (.cells #[.int .i64 kind, .int .i64 client, .int .i64 surface, .int .i64 nn, .int .i64 other, .int .i64 px, .int .i64 py, .int .i64 tm, .int .u32 back, .string fo, .slice A2 len2 cap2, .int .i64 acts] 67))
  have HBX0 := Lib.hid (at_new w (.cells #[.int .i64 kind, .int .i64 client, .int .i64 surface, .int .i64 nn, .int .i64 other, .int .i64 px, .int .i64 py, .int .i64 tm, .int .u32 back, .string fo, .slice A2 len2 cap2, .int .i64 acts] 67))
  go_enter Try.func7, Try.ntmps7
  go_wp2_with fail
  refine (lq_start _).mono ?_
  rintro e w1 ⟨sb, lb, b, F, rfl, hl⟩
  have HL0 := Lib.hid hl
  have HBX := Lib.hid (hl.same.at_ HBX0.out (fun q => q))
  have HAL : Hid (SArg (w.alloc (.cells #[.int .i64 kind, .int .i64 client, .int .i64 surface, .int .i64 nn, .int .i64 other, .int .i64 px, .int .i64 py, .int .i64 tm, .int .u32 back, .string fo, .slice A2 len2 cap2, .int .i64 acts] 67)) A2 len2 cap2 fs) := Lib.hid (HA.out.same HW.out)
  clear hl
  go_wp2_with fail
  refine (light43_ok A len cap l _ (HO.out.same (HW.out.trans HL0.out.same))).mono ?_
  rintro e w2 ⟨v, rfl, rfl, hlt⟩
  cases v
  · clear hlt
    have HSAME := HW.out.trans HL0.out.same
    go_wp2_with fail
    refine (example43_ok _).mono ?_
    rintro e w9 ⟨rfl, hs⟩
    have HS9 := Lib.hid hs
    clear hs
    go_wp2
    go_ret
    exact ⟨rfl, HSAME.trans HS9.out⟩
  · have hl40 := (hlt rfl).1
    clear hlt
    obtain ⟨b0, b1, b2, b3, b4, b5, b6, b7, b8, b9, b10, b11⟩ := opc HBX.out
    have hbl := lt_of_at HBX.out
    go_wp2_with fail
    refine (light43_ok _ 1 1 _ _ (dops_at2 w1 kind client surface nn other px py tm back acts fo A2 len2 cap2 fs (HX.out.same (HW.out.trans HL0.out.same)))).mono ?_
    rintro e w3 ⟨v, rfl, rfl, hlt2⟩
    have HL := Lib.hid (HL0.out.keep ((Chg.refl (fun _ => False) w1).alloc (.cells #[.int .i64 kind, .int .i64 client, .int .i64 surface, .int .i64 nn, .int .i64 other, .int .i64 px, .int .i64 py, .int .i64 tm, .int .u32 back, .string fo, .slice A2 len2 cap2, .int .i64 acts] 67)))
    have hbx2 := ((Chg.refl (fun _ => False) w1).alloc (.cells #[.int .i64 kind, .int .i64 client, .int .i64 surface, .int .i64 nn, .int .i64 other, .int .i64 px, .int .i64 py, .int .i64 tm, .int .u32 back, .string fo, .slice A2 len2 cap2, .int .i64 acts] 67)).at_ HBX.out (fun q => q)
    generalize w1.alloc (.cells #[.int .i64 kind, .int .i64 client, .int .i64 surface, .int .i64 nn, .int .i64 other, .int .i64 px, .int .i64 py, .int .i64 tm, .int .u32 back, .string fo, .slice A2 len2 cap2, .int .i64 acts] 67) = w3 at *
    have HBX := Lib.hid hbx2
    clear b0 b1 b2 b3 b4 b5 b6 b7 b8 b9 b10 b11 hbl hbx2
    obtain ⟨b0, b1, b2, b3, b4, b5, b6, b7, b8, b9, b10, b11⟩ := opc HBX.out
    have hbl := lt_of_at HBX.out
    cases v
    · clear hlt2
      have HSAME := HW.out.trans HL.out.same
      go_wp2_with fail
      refine (example43_ok _).mono ?_
      rintro e w9 ⟨rfl, hs⟩
      have HS9 := Lib.hid hs
      clear hs
      go_wp2
      go_ret
      exact ⟨rfl, HSAME.trans HS9.out⟩
    · have HFS : Hid (∀ f ∈ fs, f.size ≤ 100) := Lib.hid (((hlt2 rfl).2 _ (List.mem_singleton.2 rfl)).2.2)
      clear hlt2
      by_cases hc1 : client < 1
      · have HSAME := HW.out.trans HL.out.same
        go_wp2_with fail
        refine (example43_ok _).mono ?_
        rintro e w9 ⟨rfl, hs⟩
        have HS9 := Lib.hid hs
        clear hs
        go_wp2
        go_ret
        exact ⟨rfl, HSAME.trans HS9.out⟩
      · by_cases hs1 : surface < 1
        · have HSAME := HW.out.trans HL.out.same
          go_wp2_with fail
          refine (example43_ok _).mono ?_
          rintro e w9 ⟨rfl, hs⟩
          have HS9 := Lib.hid hs
          clear hs
          go_wp2
          go_ret
          exact ⟨rfl, HSAME.trans HS9.out⟩
        · by_cases ho1 : other < 0
          · have HSAME := HW.out.trans HL.out.same
            go_wp2_with fail
            refine (example43_ok _).mono ?_
            rintro e w9 ⟨rfl, hs⟩
            have HS9 := Lib.hid hs
            clear hs
            go_wp2
            go_ret
            exact ⟨rfl, HSAME.trans HS9.out⟩
          · have KEEP : Hid (∀ w' : World, ∀ {F L d last}, LQ (w.alloc (.cells #[.int .i64 kind, .int .i64 client, .int .i64 surface, .int .i64 nn, .int .i64 other, .int .i64 px, .int .i64 py, .int .i64 tm, .int .u32 back, .string fo, .slice A2 len2 cap2, .int .i64 acts] 67)) w' F sb lb b L d last → w'.cell? ⟨sb, 1, none⟩ = some (.pointer (some ⟨b, 0, none⟩)) ∧ w'.cell? ⟨w.heap.size, 1, none⟩ = some (.int .i64 client) ∧ w'.cell? ⟨w.heap.size, 2, none⟩ = some (.int .i64 surface) ∧ w'.cell? ⟨w.heap.size, 4, none⟩ = some (.int .i64 other) ∧ w'.cell? ⟨w.heap.size, 10, none⟩ = some (.slice A2 len2 cap2) ∧ w'.cell? ⟨w.heap.size, 11, none⟩ = some (.int .i64 acts)) := Lib.hid (fun w' _ _ _ _ h1 => by
              have e := opc (h1.same.at_ HBX0.out (fun q => q))
              exact ⟨h1.cell1, e.2.1, e.2.2.1, e.2.2.2.2.1, e.2.2.2.2.2.2.2.2.2.2.1, e.2.2.2.2.2.2.2.2.2.2.2⟩)
            go_wp2
            clear b0 b1 b2 b3 b4 b5 b6 b7 b8 b9 b10 b11
            go_loopw [7, 8, 9] (fun v7 v8 v9 wr => ∃ (i : Nat) (N : Nat) (g : Nat → Ent) (lst at_ : Int) (F : Nat → Prop) (L : SLog), i ≤ len ∧ N ≤ i ∧ v7 = .int .u32 lst ∧ v8 = .int .i64 at_ ∧ v9 = .int .i64 i ∧ LI L N g client lst at_ ∧ LQ (w.alloc (.cells #[.int .i64 kind, .int .i64 client, .int .i64 surface, .int .i64 nn, .int .i64 other, .int .i64 px, .int .i64 py, .int .i64 tm, .int .u32 back, .string fo, .slice A2 len2 cap2, .int .i64 acts] 67)) wr F sb lb b L DSt.new N) (fun _ _ v9 _ => len - (intOf v9).toNat)
            case atStart => exact ⟨0, 0, _, 0, 0, F, SLog.new, by omega, by omega, rfl, rfl, rfl, li_new client, HL.out⟩
            case round =>
              obtain ⟨i, N, g, lst, at_, F, L, hi, hNi, rfl, rfl, rfl, hli, hl⟩ := hrel
              have HLI := Lib.hid hli
              have HL := Lib.hid hl
              have HNI := Lib.hid hNi
              clear hli hl hNi
              by_cases hlt : i < len
              · have hii : (i : Int) < len := by omega
                obtain ⟨g1, o, y, rfl, hgw, hyi, hok, hc⟩ := HO.out.at_ hlt
                have HY := Lib.hid (And.intro hyi hok)
                have hcc := fun j v hv => (HW.out.trans HL.out.same).cell (hc j v hv) (fun q => q)
                have c0 := hcc 0 _ rfl
                have c1 := hcc 1 _ rfl
                have c2 := hcc 2 _ rfl
                have c3 := hcc 3 _ rfl
                have c4 := hcc 4 _ rfl
                have c5 := hcc 5 _ rfl
                have c6 := hcc 6 _ rfl
                have c7 := hcc 7 _ rfl
                have c8 := hcc 8 _ rfl
                have c9 := hcc 9 _ rfl
                have c10 := hcc 10 _ rfl
                have c11 := hcc 11 _ rfl
                rw [Nat.add_zero] at c0
                have hgw3 := Nat.lt_of_lt_of_le hgw (HW.out.trans HL.out.same).size
                clear hcc hc hyi hok
                have s2 := HL.out.cell2
                have s1 := HL.out.cell1
                have sl := HL.out.slt
                have HL0Y := Lib.hid HL.out.lo
                have HL := Lib.hid (HL.out.keep ((Chg.refl (fun _ => False) wr).alloc (.cells #[.int .i64 0, .int .i64 y.client, .int .i64 y.surface, .int .i64 y.n, .int .i64 y.other, .int .i64 y.x, .int .i64 y.y, .int .i64 y.time, .int .u32 y.back, .string y.f, .slice y.o.A y.o.len y.o.cap, .int .i64 y.o.acts] 67)))
                have HYZ := Lib.hid (at_new wr (.cells #[.int .i64 0, .int .i64 y.client, .int .i64 y.surface, .int .i64 y.n, .int .i64 y.other, .int .i64 y.x, .int .i64 y.y, .int .i64 y.time, .int .u32 y.back, .string y.f, .slice y.o.A y.o.len y.o.cap, .int .i64 y.o.acts] 67))
                have HFY : Hid (¬ F wr.heap.size) := Lib.hid (fun q => by have := (HL0Y.out wr.heap.size q).2; omega)
                go_wp2_with fail
                refine (call0 y.client y.surface y.n y.other y.x y.y y.time y.back y.o.acts y.f y.o.A y.o.len y.o.cap HL.out HY.out.2.2.1.2 HY.out.2.2.2.1.2).mono ?_
                rintro e w4 ⟨v, F', rfl, _, hl, hown⟩
                obtain ⟨N', g', hN', hlast, hli'⟩ := li_step HLI.out (by have := HNI.out; omega) y.client y.surface y.n HY.out.2.2.1.2 HY.out.2.2.2.1.2
                rw [hlast] at hl hli'
                have HLI2 := Lib.hid hli'
                have HN2 := Lib.hid hN'
                have HL2 := Lib.hid hl
                have yz := opc (hown.chg.at_ HYZ.out HFY.out)
                have zl := lt_of_at (hown.chg.at_ HYZ.out HFY.out)
                obtain ⟨_, z1, z2, z3, _⟩ := yz
                have t1 := hl.cell1
                have t2 := hl.cell2
                have tl := hl.slt
                have xc := (KEEP.out _ hl).2.1
                have xl : w.heap.size < w4.heap.size := Nat.lt_of_lt_of_le (by simp) hl.same.size
                clear hlast hl hown hli' hN' c0 c1 c2 c3 c4 c5 c6 c7 c8 c9 c10 c11 hgw3 s2 s1 sl
                have s1w : IntKind.i64.wrap ((i : Int) + 1) = (i : Int) + 1 := IntWalk.i64_in _ (by omega)
                by_cases hn : (N' : Int) = N
                · have e1 : ((N' : Int) == N) = true := by simp [hn]
                  have e2 : ((N' : Int) != N) = false := by simp [hn]
                  have HN := Lib.hid hn
                  clear hn
                  go_wp2
                  go_roundw
                  case rel => exact ⟨i + 1, N', g', lst, at_, F', _, by omega, by have := HN2.out; have := HNI.out; omega, rfl, rfl, by go_num, by have q := HLI2.out; rw [if_neg (fun r => r.1 HN.out), if_neg (fun r => r.1 HN.out)] at q; exact q, HL2.out⟩
                  case measure => simp [intOf]; omega
                · have e1 : ((N' : Int) == N) = false := by simpa using hn
                  have e2 : ((N' : Int) != N) = true := by simpa using hn
                  have HN := Lib.hid hn
                  clear hn
                  by_cases hyc : y.client = client
                  · have e3 : (y.client == client) = true := by simp [hyc]
                    have HYC := Lib.hid hyc
                    clear hyc
                    by_cases hyn : y.n = 4
                    · have e4 : (y.n == 4) = true := by simp [hyn]
                      have HYN := Lib.hid hyn
                      clear hyn
                      go_wp2
                      go_roundw
                      case rel => exact ⟨i + 1, N', g', N', y.surface, F', _, by omega, by have := HN2.out; have := HNI.out; omega, rfl, rfl, by go_num, by have q := HLI2.out; rw [if_pos ⟨HN.out, HYC.out, HYN.out⟩, if_pos ⟨HN.out, HYC.out, HYN.out⟩] at q; exact q, HL2.out⟩
                      case measure => simp [intOf]; omega
                    · have e4 : (y.n == 4) = false := by simp [hyn]
                      have HYN := Lib.hid hyn
                      clear hyn
                      go_wp2
                      go_roundw
                      case rel => exact ⟨i + 1, N', g', lst, at_, F', _, by omega, by have := HN2.out; have := HNI.out; omega, rfl, rfl, by go_num, by have q := HLI2.out; rw [if_neg (fun r => HYN.out r.2.2), if_neg (fun r => HYN.out r.2.2)] at q; exact q, HL2.out⟩
                      case measure => simp [intOf]; omega
                  · have e3 : (y.client == client) = false := by simp [hyc]
                    have HYC := Lib.hid hyc
                    clear hyc
                    go_wp2
                    go_roundw
                    case rel => exact ⟨i + 1, N', g', lst, at_, F', _, by omega, by have := HN2.out; have := HNI.out; omega, rfl, rfl, by go_num, by have q := HLI2.out; rw [if_neg (fun r => HYC.out r.2.1), if_neg (fun r => HYC.out r.2.1)] at q; exact q, HL2.out⟩
                    case measure => simp [intOf]; omega
              · have hii : ¬ (i : Int) < len := by omega
                have h2c := HL.out.cell2
                have h2l := HL.out.slt
                have hxc := (opc (HL.out.same.at_ HBX0.out (fun q => q))).2.2.2.2.2.2.2.2.1
                have hxl : w.heap.size < wr.heap.size := Nat.lt_of_lt_of_le (by simp) HL.out.same.size
                go_wp2_with fail
                have HL := Lib.hid (HL.out.keep ((Chg.refl (fun _ => False) wr).drew))
                have hc2' := HL.out.cell2
                have hc8' := (opc (HL.out.same.at_ HBX0.out (fun q => q))).2.2.2.2.2.2.2.2.1
                refine region_path (S := (fun w' => w'.cell? ⟨sb, 2, none⟩ = some (.int .u32 (N : Int)) ∧ w'.cell? ⟨w.heap.size, 8, none⟩ = some (.int .u32 back))) 99 [(0, true), (1, true), (2, true), (3, true), (4, true), (5, true), (6, true), (7, true)] (by kernel_rfl) (by kernel_rfl) (by kernel_rfl) (⟨hc2', hc8'⟩) ?_
                refine path_read (i := 0) (v := ?v1_0) rfl (by rfl) (fun _ _ _ h => h) ?hy1_0 ?_
                case hy1_0 => ((intro w hSw; (try dsimp only at hSw); go_simp) <;> (try with_reducible rfl))
                try simp only [Act.put, List.setIfInBounds_toArray, List.set_cons_zero, List.set_cons_succ]
                refine path_read (i := 1) (v := ?v1_1) rfl (by rfl) (fun _ _ _ h => h) ?hy1_1 ?_
                case hy1_1 => ((intro w hSw; (try dsimp only at hSw); go_simp) <;> (try with_reducible rfl))
                try simp only [Act.put, List.setIfInBounds_toArray, List.set_cons_zero, List.set_cons_succ]
                refine path_read (i := 2) (v := ?v1_2) rfl (by rfl) (fun _ _ _ h => h) ?hy1_2 ?_
                case hy1_2 => ((intro w hSw; (try dsimp only at hSw); go_simp) <;> (try with_reducible rfl))
                try simp only [Act.put, List.setIfInBounds_toArray, List.set_cons_zero, List.set_cons_succ]
                refine path_read (i := 3) (v := ?v1_3) rfl (by rfl) (fun _ _ _ h => h) ?hy1_3 ?_
                case hy1_3 => ((intro w hSw; (try dsimp only at hSw); go_simp) <;> (try with_reducible rfl))
                try simp only [Act.put, List.setIfInBounds_toArray, List.set_cons_zero, List.set_cons_succ]
                refine path_read (i := 4) (v := ?v1_4) rfl (by rfl) (fun _ _ _ h => h) ?hy1_4 ?_
                case hy1_4 => ((intro w hSw; (try dsimp only at hSw); go_simp) <;> (try with_reducible rfl))
                try simp only [Act.put, List.setIfInBounds_toArray, List.set_cons_zero, List.set_cons_succ]
                refine path_read (i := 5) (v := ?v1_5) rfl (by rfl) (fun _ _ _ h => h) ?hy1_5 ?_
                case hy1_5 => ((intro w hSw; (try dsimp only at hSw); go_simp) <;> (try with_reducible rfl))
                try simp only [Act.put, List.setIfInBounds_toArray, List.set_cons_zero, List.set_cons_succ]
                refine path_read (i := 6) (v := ?v1_6) rfl (by rfl) (fun _ _ _ h => h) ?hy1_6 ?_
                case hy1_6 => ((intro w hSw; (try dsimp only at hSw); go_simp) <;> (try with_reducible rfl))
                try simp only [Act.put, List.setIfInBounds_toArray, List.set_cons_zero, List.set_cons_succ]
                refine path_read (i := 7) (v := ?v1_7) rfl (by rfl) (fun _ _ _ h => h) ?hy1_7 ?_
                case hy1_7 => ((intro w hSw; (try dsimp only at hSw); go_simp) <;> (try with_reducible rfl))
                try simp only [Act.put, List.setIfInBounds_toArray, List.set_cons_zero, List.set_cons_succ]
                refine path_end ?_
                clear h2c h2l hxc hxl hc2' hc8'
                generalize IntKind.u32.wrap ((N : Int) - back) = nq at *
                obtain ⟨ev, hev⟩ : ∃ ev, DSt.startE DSt.new L client surface other fs acts nq = ev := ⟨_, rfl⟩
                obtain ⟨d2, hd2⟩ : ∃ d2, DSt.start DSt.new L client surface other fs acts nq = d2 := ⟨_, rfl⟩
                have HEV := Lib.hid (And.intro hev hd2)
                have HEVN := Lib.hid (startE_new (L := L) (n := nq) (acts := acts) (fs := fs) (show 1 ≤ client by omega) (show 1 ≤ surface by omega) (show 0 ≤ other by omega))
                have HRG : Hid (1 ≤ client ∧ 1 ≤ surface ∧ 0 ≤ other) := Lib.hid ⟨by omega, by omega, by omega⟩
                have HVAL := Lib.hid (li_valid HLI.out (show 1 ≤ client by omega) surface nq)
                have HDN : Hid (ev ≠ 0 → d2 = DSt.new) := Lib.hid (fun q => by rw [← hd2]; unfold DSt.start; rw [if_neg (by rw [hev]; exact q)])
                have HDY : Hid (ev = 0 → d2 = DSt.begin DSt.new fs acts) := Lib.hid (fun q => by rw [← hd2]; unfold DSt.start; rw [if_pos (by rw [hev]; exact q)]; rfl)
                clear hev hd2
                generalize World.drew wr = wd at *
                have hk1 := HL.out.cell1
                have hk2 := HL.out.slt
                go_wp2_with fail
                have HL := Lib.hid (HL.out.keep ((Chg.refl (fun _ => False) _).drew))
                have hcel := KEEP.out _ HL.out
                refine region_path (S := (fun w' => w'.cell? ⟨sb, 1, none⟩ = some (.pointer (some ⟨b, 0, none⟩)) ∧ w'.cell? ⟨w.heap.size, 1, none⟩ = some (.int .i64 client) ∧ w'.cell? ⟨w.heap.size, 2, none⟩ = some (.int .i64 surface) ∧ w'.cell? ⟨w.heap.size, 4, none⟩ = some (.int .i64 other) ∧ w'.cell? ⟨w.heap.size, 10, none⟩ = some (.slice A2 len2 cap2) ∧ w'.cell? ⟨w.heap.size, 11, none⟩ = some (.int .i64 acts))) 99 [(0, true), (1, true), (2, true), (3, true), (4, true), (5, true), (6, true), (7, true), (8, true), (9, true), (10, true), (11, true), (13, true), (12, false), (14, false), (15, true)] (by kernel_rfl) (by kernel_rfl) (by kernel_rfl) hcel ?_
                refine path_read (i := 0) (v := ?v2_0) rfl (by rfl) (fun _ _ _ h => h) ?hy2_0 ?_
                case hy2_0 => ((intro w hSw; (try dsimp only at hSw); go_simp) <;> (try with_reducible rfl))
                try simp only [Act.put, List.setIfInBounds_toArray, List.set_cons_zero, List.set_cons_succ]
                refine path_read (i := 1) (v := ?v2_1) rfl (by rfl) (fun _ _ _ h => h) ?hy2_1 ?_
                case hy2_1 => ((intro w hSw; (try dsimp only at hSw); go_simp) <;> (try with_reducible rfl))
                try simp only [Act.put, List.setIfInBounds_toArray, List.set_cons_zero, List.set_cons_succ]
                refine path_read (i := 2) (v := ?v2_2) rfl (by rfl) (fun _ _ _ h => h) ?hy2_2 ?_
                case hy2_2 => ((intro w hSw; (try dsimp only at hSw); go_simp) <;> (try with_reducible rfl))
                try simp only [Act.put, List.setIfInBounds_toArray, List.set_cons_zero, List.set_cons_succ]
                refine path_read (i := 3) (v := ?v2_3) rfl (by rfl) (fun _ _ _ h => h) ?hy2_3 ?_
                case hy2_3 => ((intro w hSw; (try dsimp only at hSw); go_simp) <;> (try with_reducible rfl))
                try simp only [Act.put, List.setIfInBounds_toArray, List.set_cons_zero, List.set_cons_succ]
                refine path_read (i := 4) (v := ?v2_4) rfl (by rfl) (fun _ _ _ h => h) ?hy2_4 ?_
                case hy2_4 => ((intro w hSw; (try dsimp only at hSw); go_simp) <;> (try with_reducible rfl))
                try simp only [Act.put, List.setIfInBounds_toArray, List.set_cons_zero, List.set_cons_succ]
                refine path_read (i := 5) (v := ?v2_5) rfl (by rfl) (fun _ _ _ h => h) ?hy2_5 ?_
                case hy2_5 => ((intro w hSw; (try dsimp only at hSw); go_simp) <;> (try with_reducible rfl))
                try simp only [Act.put, List.setIfInBounds_toArray, List.set_cons_zero, List.set_cons_succ]
                refine path_read (i := 6) (v := ?v2_6) rfl (by rfl) (fun _ _ _ h => h) ?hy2_6 ?_
                case hy2_6 => ((intro w hSw; (try dsimp only at hSw); go_simp) <;> (try with_reducible rfl))
                try simp only [Act.put, List.setIfInBounds_toArray, List.set_cons_zero, List.set_cons_succ]
                refine path_read (i := 7) (v := ?v2_7) rfl (by rfl) (fun _ _ _ h => h) ?hy2_7 ?_
                case hy2_7 => ((intro w hSw; (try dsimp only at hSw); go_simp) <;> (try with_reducible rfl))
                try simp only [Act.put, List.setIfInBounds_toArray, List.set_cons_zero, List.set_cons_succ]
                refine path_read (i := 8) (v := ?v2_8) rfl (by rfl) (fun _ _ _ h => h) ?hy2_8 ?_
                case hy2_8 => ((intro w hSw; (try dsimp only at hSw); go_simp) <;> (try with_reducible rfl))
                try simp only [Act.put, List.setIfInBounds_toArray, List.set_cons_zero, List.set_cons_succ]
                refine path_read (i := 9) (v := ?v2_9) rfl (by rfl) (fun _ _ _ h => h) ?hy2_9 ?_
                case hy2_9 => ((intro w hSw; (try dsimp only at hSw); go_simp) <;> (try with_reducible rfl))
                try simp only [Act.put, List.setIfInBounds_toArray, List.set_cons_zero, List.set_cons_succ]
                refine path_read (i := 10) (v := ?v2_10) rfl (by rfl) (fun _ _ _ h => h) ?hy2_10 ?_
                case hy2_10 => ((intro w hSw; (try dsimp only at hSw); go_simp) <;> (try with_reducible rfl))
                try simp only [Act.put, List.setIfInBounds_toArray, List.set_cons_zero, List.set_cons_succ]
                refine path_read (i := 11) (v := ?v2_11) rfl (by rfl) (fun _ _ _ h => h) ?hy2_11 ?_
                case hy2_11 => ((intro w hSw; (try dsimp only at hSw); go_simp) <;> (try with_reducible rfl))
                try simp only [Act.put, List.setIfInBounds_toArray, List.set_cons_zero, List.set_cons_succ]
                refine path_read (i := 13) (v := ?v2_13) rfl (by rfl) (fun _ _ _ h => h) ?hy2_13 ?_
                case hy2_13 => ((intro w hSw; (try dsimp only at hSw); go_simp) <;> (try with_reducible rfl))
                try simp only [Act.put, List.setIfInBounds_toArray, List.set_cons_zero, List.set_cons_succ]
                refine path_do (i := 12) rfl ?_
                go_wp2_with ((first | (go_at_call 32; go_loud (refine (prog_ok A2 len2 cap2 acts _).mono ?_; rintro e w3 ⟨rfl, hk⟩; have HL := Lib.hid (HL.out.keep hk); clear hk)) | (go_at_call 31; go_loud (refine (lq_dstart d2 ev client surface other acts nq A2 len2 cap2 fs HL.out HAL.out HEV.out.1 HEV.out.2).mono ?_; rintro e w3 ⟨F2, rfl, hl, _⟩; have HL := Lib.hid hl; clear hl))))
                (first | refine ⟨.inr ?keep2_12, ?_⟩ | refine ⟨?keep2_12, ?_⟩)
                case keep2_12 => (exact KEEP.out _ HL.out)
                try simp only [Act.put, List.setIfInBounds_toArray, List.set_cons_zero, List.set_cons_succ]
                refine path_do (i := 14) rfl ?_
                go_wp2_with ((first | (go_at_call 32; go_loud (refine (prog_ok A2 len2 cap2 acts _).mono ?_; rintro e w3 ⟨rfl, hk⟩; have HL := Lib.hid (HL.out.keep hk); clear hk)) | (go_at_call 31; go_loud (refine (lq_dstart d2 ev client surface other acts nq A2 len2 cap2 fs HL.out HAL.out HEV.out.1 HEV.out.2).mono ?_; rintro e w3 ⟨F2, rfl, hl, _⟩; have HL := Lib.hid hl; clear hl))))
                (first | refine ⟨.inr ?keep2_14, ?_⟩ | refine ⟨?keep2_14, ?_⟩)
                case keep2_14 => (exact KEEP.out _ HL.out)
                try simp only [Act.put, List.setIfInBounds_toArray, List.set_cons_zero, List.set_cons_succ]
                refine path_read (i := 15) (v := ?v2_15) rfl (by rfl) (fun _ _ _ h => h) ?hy2_15 ?_
                case hy2_15 => ((intro w hSw; (try dsimp only at hSw); go_simp) <;> (try with_reducible rfl))
                try simp only [Act.put, List.setIfInBounds_toArray, List.set_cons_zero, List.set_cons_succ]
                refine path_end ?_
                clear hcel
                obtain ⟨cv, hcv⟩ : ∃ cv, checkV fs acts = cv := ⟨_, rfl⟩
                have HCV := Lib.hid hcv
                have hx10 := (KEEP.out _ HL.out).2.2.2.2.1
                have hx11 := (KEEP.out _ HL.out).2.2.2.2.2
                have hxl : w.heap.size < w3.heap.size := Nat.lt_of_lt_of_le (by simp) HL.out.same.size
                clear hcv hk1 hk2
                go_wp2_with fail
                refine (ucheck_v cv A2 len2 cap2 fs acts _ (HAL.out.same HL.out.same).1 HAL.out.2.1 HAL.out.2.2 (fun f hf => by have := HFS.out f hf; omega) HCV.out).mono ?_
                rintro e w4 ⟨rfl, hk⟩
                have HL := Lib.hid (HL.out.keep hk)
                clear hk hx10 hx11 hxl
                have hk1 := HL.out.cell1
                have hk2 := HL.out.slt
                have HEX : Hid (Same w w4) := Lib.hid (HW.out.trans HL.out.same)
                by_cases hcz : cv = 0
                · have e1 : (cv == 0) = true := by simp [hcz]
                  have e2 : (cv != 0) = false := by simp [hcz]
                  have HEV0 : Hid (ev = if decide (lst ≠ 0 ∧ nq = lst ∧ at_ = surface) = true then 0 else 13) := Lib.hid (by rw [← HEV.out.1, HEVN.out, HCV.out, if_neg (fun q => q hcz), HVAL.out])
                  have HCZ := Lib.hid hcz
                  clear hcz
                  go_upto_region 22 with (fail)
                  go_cut [15] from 131 to 144 (fun v15 wx => v15 = .bool (decide (lst ≠ 0 ∧ nq = lst ∧ at_ = surface)) ∧ wx = w4)
                  case first =>
                    have hx2 := (KEEP.out _ HL.out).2.2.1
                    have hxl : w.heap.size < w4.heap.size := Nat.lt_of_lt_of_le (by simp) HL.out.same.size
                    by_cases q1 : lst = 0
                    · have hq : decide (lst ≠ 0 ∧ nq = lst ∧ at_ = surface) = false := decide_eq_false (fun r => r.1 q1)
                      have g1 : (lst == 0) = true := by simp [q1]
                      have g2 : (lst != 0) = false := by simp [q1]
                      have HQ := Lib.hid hq
                      clear hq q1
                      go_wp2_with fail
                      go_meet
                      case rel => rw [HQ.out]; exact ⟨rfl, rfl⟩
                    · have g1 : (lst == 0) = false := by simp [q1]
                      have g2 : (lst != 0) = true := by simp [q1]
                      by_cases q2 : nq = lst
                      · have g3 : (nq == lst) = true := by simp [q2]
                        by_cases q3 : at_ = surface
                        · have hq : decide (lst ≠ 0 ∧ nq = lst ∧ at_ = surface) = true := decide_eq_true ⟨q1, q2, q3⟩
                          have g4 : (at_ == surface) = true := by simp [q3]
                          have HQ := Lib.hid hq
                          clear hq q1 q2 q3
                          go_wp2_with fail
                          go_meet
                          case rel => rw [HQ.out]; exact ⟨rfl, rfl⟩
                        · have hq : decide (lst ≠ 0 ∧ nq = lst ∧ at_ = surface) = false := decide_eq_false (fun r => q3 r.2.2)
                          have g4 : (at_ == surface) = false := by simp [q3]
                          have HQ := Lib.hid hq
                          clear hq q1 q2 q3
                          go_wp2_with fail
                          go_meet
                          case rel => rw [HQ.out]; exact ⟨rfl, rfl⟩
                      · have hq : decide (lst ≠ 0 ∧ nq = lst ∧ at_ = surface) = false := decide_eq_false (fun r => q2 r.2.1)
                        have g3 : (nq == lst) = false := by simp [q2]
                        have HQ := Lib.hid hq
                        clear hq q1 q2
                        go_wp2_with fail
                        go_meet
                        case rel => rw [HQ.out]; exact ⟨rfl, rfl⟩
                  case rest =>
                    obtain ⟨rfl, e⟩ := hcut
                    have e := e.symm
                    subst e
                    cases hq : decide (lst ≠ 0 ∧ nq = lst ∧ at_ = surface)
                    · have hev : ev = 13 := by have q := HEV0.out; rw [hq] at q; exact q
                      have hdn : d2 = DSt.new := HDN.out (by omega)
                      subst hev hdn
                      clear hq HEV0 e1 e2
                      go_wp2_with fail
                      have HL := Lib.hid (HL.out.keep ((Chg.refl (fun _ => False) _).drew))
                      have hcel := KEEP.out _ HL.out
                      refine region_path (S := (fun w' => w'.cell? ⟨sb, 1, none⟩ = some (.pointer (some ⟨b, 0, none⟩)) ∧ w'.cell? ⟨w.heap.size, 1, none⟩ = some (.int .i64 client) ∧ w'.cell? ⟨w.heap.size, 2, none⟩ = some (.int .i64 surface) ∧ w'.cell? ⟨w.heap.size, 4, none⟩ = some (.int .i64 other) ∧ w'.cell? ⟨w.heap.size, 10, none⟩ = some (.slice A2 len2 cap2) ∧ w'.cell? ⟨w.heap.size, 11, none⟩ = some (.int .i64 acts))) 99 [(0, true), (1, true), (2, true), (3, true), (4, true), (5, true), (6, true), (7, true), (8, true), (9, true), (10, true), (11, true), (13, true), (12, false), (14, false), (15, true)] (by kernel_rfl) (by kernel_rfl) (by kernel_rfl) hcel ?_
                      refine path_read (i := 0) (v := ?v3_0) rfl (by rfl) (fun _ _ _ h => h) ?hy3_0 ?_
                      case hy3_0 => ((intro w hSw; (try dsimp only at hSw); go_simp) <;> (try with_reducible rfl))
                      try simp only [Act.put, List.setIfInBounds_toArray, List.set_cons_zero, List.set_cons_succ]
                      refine path_read (i := 1) (v := ?v3_1) rfl (by rfl) (fun _ _ _ h => h) ?hy3_1 ?_
                      case hy3_1 => ((intro w hSw; (try dsimp only at hSw); go_simp) <;> (try with_reducible rfl))
                      try simp only [Act.put, List.setIfInBounds_toArray, List.set_cons_zero, List.set_cons_succ]
                      refine path_read (i := 2) (v := ?v3_2) rfl (by rfl) (fun _ _ _ h => h) ?hy3_2 ?_
                      case hy3_2 => ((intro w hSw; (try dsimp only at hSw); go_simp) <;> (try with_reducible rfl))
                      try simp only [Act.put, List.setIfInBounds_toArray, List.set_cons_zero, List.set_cons_succ]
                      refine path_read (i := 3) (v := ?v3_3) rfl (by rfl) (fun _ _ _ h => h) ?hy3_3 ?_
                      case hy3_3 => ((intro w hSw; (try dsimp only at hSw); go_simp) <;> (try with_reducible rfl))
                      try simp only [Act.put, List.setIfInBounds_toArray, List.set_cons_zero, List.set_cons_succ]
                      refine path_read (i := 4) (v := ?v3_4) rfl (by rfl) (fun _ _ _ h => h) ?hy3_4 ?_
                      case hy3_4 => ((intro w hSw; (try dsimp only at hSw); go_simp) <;> (try with_reducible rfl))
                      try simp only [Act.put, List.setIfInBounds_toArray, List.set_cons_zero, List.set_cons_succ]
                      refine path_read (i := 5) (v := ?v3_5) rfl (by rfl) (fun _ _ _ h => h) ?hy3_5 ?_
                      case hy3_5 => ((intro w hSw; (try dsimp only at hSw); go_simp) <;> (try with_reducible rfl))
                      try simp only [Act.put, List.setIfInBounds_toArray, List.set_cons_zero, List.set_cons_succ]
                      refine path_read (i := 6) (v := ?v3_6) rfl (by rfl) (fun _ _ _ h => h) ?hy3_6 ?_
                      case hy3_6 => ((intro w hSw; (try dsimp only at hSw); go_simp) <;> (try with_reducible rfl))
                      try simp only [Act.put, List.setIfInBounds_toArray, List.set_cons_zero, List.set_cons_succ]
                      refine path_read (i := 7) (v := ?v3_7) rfl (by rfl) (fun _ _ _ h => h) ?hy3_7 ?_
                      case hy3_7 => ((intro w hSw; (try dsimp only at hSw); go_simp) <;> (try with_reducible rfl))
                      try simp only [Act.put, List.setIfInBounds_toArray, List.set_cons_zero, List.set_cons_succ]
                      refine path_read (i := 8) (v := ?v3_8) rfl (by rfl) (fun _ _ _ h => h) ?hy3_8 ?_
                      case hy3_8 => ((intro w hSw; (try dsimp only at hSw); go_simp) <;> (try with_reducible rfl))
                      try simp only [Act.put, List.setIfInBounds_toArray, List.set_cons_zero, List.set_cons_succ]
                      refine path_read (i := 9) (v := ?v3_9) rfl (by rfl) (fun _ _ _ h => h) ?hy3_9 ?_
                      case hy3_9 => ((intro w hSw; (try dsimp only at hSw); go_simp) <;> (try with_reducible rfl))
                      try simp only [Act.put, List.setIfInBounds_toArray, List.set_cons_zero, List.set_cons_succ]
                      refine path_read (i := 10) (v := ?v3_10) rfl (by rfl) (fun _ _ _ h => h) ?hy3_10 ?_
                      case hy3_10 => ((intro w hSw; (try dsimp only at hSw); go_simp) <;> (try with_reducible rfl))
                      try simp only [Act.put, List.setIfInBounds_toArray, List.set_cons_zero, List.set_cons_succ]
                      refine path_read (i := 11) (v := ?v3_11) rfl (by rfl) (fun _ _ _ h => h) ?hy3_11 ?_
                      case hy3_11 => ((intro w hSw; (try dsimp only at hSw); go_simp) <;> (try with_reducible rfl))
                      try simp only [Act.put, List.setIfInBounds_toArray, List.set_cons_zero, List.set_cons_succ]
                      refine path_read (i := 13) (v := ?v3_13) rfl (by rfl) (fun _ _ _ h => h) ?hy3_13 ?_
                      case hy3_13 => ((intro w hSw; (try dsimp only at hSw); go_simp) <;> (try with_reducible rfl))
                      try simp only [Act.put, List.setIfInBounds_toArray, List.set_cons_zero, List.set_cons_succ]
                      refine path_do (i := 12) rfl ?_
                      go_wp2_with ((first | (go_at_call 32; go_loud (refine (prog_ok A2 len2 cap2 acts _).mono ?_; rintro e w3 ⟨rfl, hk⟩; have HL := Lib.hid (HL.out.keep hk); clear hk)) | (go_at_call 31; go_loud (refine (lq_dstart DSt.new 13 client surface other acts nq A2 len2 cap2 fs HL.out HAL.out (HEV.out.1) (HEV.out.2)).mono ?_; rintro e w3 ⟨F2, rfl, hl, _⟩; have HL := Lib.hid hl; clear hl))))
                      (first | refine ⟨.inr ?keep3_12, ?_⟩ | refine ⟨?keep3_12, ?_⟩)
                      case keep3_12 => (exact KEEP.out _ HL.out)
                      try simp only [Act.put, List.setIfInBounds_toArray, List.set_cons_zero, List.set_cons_succ]
                      refine path_do (i := 14) rfl ?_
                      go_wp2_with ((first | (go_at_call 32; go_loud (refine (prog_ok A2 len2 cap2 acts _).mono ?_; rintro e w3 ⟨rfl, hk⟩; have HL := Lib.hid (HL.out.keep hk); clear hk)) | (go_at_call 31; go_loud (refine (lq_dstart DSt.new 13 client surface other acts nq A2 len2 cap2 fs HL.out HAL.out (HEV.out.1) (HEV.out.2)).mono ?_; rintro e w3 ⟨F2, rfl, hl, _⟩; have HL := Lib.hid hl; clear hl))))
                      (first | refine ⟨.inr ?keep3_14, ?_⟩ | refine ⟨?keep3_14, ?_⟩)
                      case keep3_14 => (exact KEEP.out _ HL.out)
                      try simp only [Act.put, List.setIfInBounds_toArray, List.set_cons_zero, List.set_cons_succ]
                      refine path_read (i := 15) (v := ?v3_15) rfl (by rfl) (fun _ _ _ h => h) ?hy3_15 ?_
                      case hy3_15 => ((intro w hSw; (try dsimp only at hSw); go_simp) <;> (try with_reducible rfl))
                      try simp only [Act.put, List.setIfInBounds_toArray, List.set_cons_zero, List.set_cons_succ]
                      refine path_end ?_
                      clear hcel
                      have hk1 := HL.out.cell1
                      have hk2 := HL.out.slt
                      go_wp2_with fail
                      refine (lq_state 0 HL.out rfl).mono ?_
                      rintro e w5 ⟨rfl, hl, _⟩
                      have HL := Lib.hid hl
                      clear hl hk1 hk2
                      have hk1 := HL.out.cell1
                      have hk2 := HL.out.slt
                      go_wp2_with fail
                      refine (lq_action 0 HL.out rfl).mono ?_
                      rintro e w6 ⟨rfl, hl, _⟩
                      have HL := Lib.hid hl
                      have HSAME := HW.out.trans hl.same
                      clear hl hk1 hk2
                      go_wp2_with fail
                      refine (example43_ok _).mono ?_
                      rintro e w9 ⟨rfl, hs⟩
                      have HS9 := Lib.hid hs
                      clear hs
                      go_wp2
                      go_ret
                      exact ⟨rfl, HSAME.trans HS9.out⟩
                    · have hev : ev = 0 := by have q := HEV0.out; rw [hq] at q; exact q
                      have hdn : d2 = DSt.begin DSt.new fs acts := HDY.out hev
                      subst hev hdn
                      clear hq HEV0 e1 e2
                      go_wp2_with fail
                      have HL := Lib.hid (HL.out.keep ((Chg.refl (fun _ => False) _).drew))
                      have hcel := KEEP.out _ HL.out
                      refine region_path (S := (fun w' => w'.cell? ⟨sb, 1, none⟩ = some (.pointer (some ⟨b, 0, none⟩)) ∧ w'.cell? ⟨w.heap.size, 1, none⟩ = some (.int .i64 client) ∧ w'.cell? ⟨w.heap.size, 2, none⟩ = some (.int .i64 surface) ∧ w'.cell? ⟨w.heap.size, 4, none⟩ = some (.int .i64 other) ∧ w'.cell? ⟨w.heap.size, 10, none⟩ = some (.slice A2 len2 cap2) ∧ w'.cell? ⟨w.heap.size, 11, none⟩ = some (.int .i64 acts))) 99 [(0, true), (1, true), (2, true), (3, true), (4, true), (5, true), (6, true), (7, true), (8, true), (9, true), (10, true), (11, true), (13, true), (12, false), (14, false), (15, true)] (by kernel_rfl) (by kernel_rfl) (by kernel_rfl) hcel ?_
                      refine path_read (i := 0) (v := ?v4_0) rfl (by rfl) (fun _ _ _ h => h) ?hy4_0 ?_
                      case hy4_0 => ((intro w hSw; (try dsimp only at hSw); go_simp) <;> (try with_reducible rfl))
                      try simp only [Act.put, List.setIfInBounds_toArray, List.set_cons_zero, List.set_cons_succ]
                      refine path_read (i := 1) (v := ?v4_1) rfl (by rfl) (fun _ _ _ h => h) ?hy4_1 ?_
                      case hy4_1 => ((intro w hSw; (try dsimp only at hSw); go_simp) <;> (try with_reducible rfl))
                      try simp only [Act.put, List.setIfInBounds_toArray, List.set_cons_zero, List.set_cons_succ]
                      refine path_read (i := 2) (v := ?v4_2) rfl (by rfl) (fun _ _ _ h => h) ?hy4_2 ?_
                      case hy4_2 => ((intro w hSw; (try dsimp only at hSw); go_simp) <;> (try with_reducible rfl))
                      try simp only [Act.put, List.setIfInBounds_toArray, List.set_cons_zero, List.set_cons_succ]
                      refine path_read (i := 3) (v := ?v4_3) rfl (by rfl) (fun _ _ _ h => h) ?hy4_3 ?_
                      case hy4_3 => ((intro w hSw; (try dsimp only at hSw); go_simp) <;> (try with_reducible rfl))
                      try simp only [Act.put, List.setIfInBounds_toArray, List.set_cons_zero, List.set_cons_succ]
                      refine path_read (i := 4) (v := ?v4_4) rfl (by rfl) (fun _ _ _ h => h) ?hy4_4 ?_
                      case hy4_4 => ((intro w hSw; (try dsimp only at hSw); go_simp) <;> (try with_reducible rfl))
                      try simp only [Act.put, List.setIfInBounds_toArray, List.set_cons_zero, List.set_cons_succ]
                      refine path_read (i := 5) (v := ?v4_5) rfl (by rfl) (fun _ _ _ h => h) ?hy4_5 ?_
                      case hy4_5 => ((intro w hSw; (try dsimp only at hSw); go_simp) <;> (try with_reducible rfl))
                      try simp only [Act.put, List.setIfInBounds_toArray, List.set_cons_zero, List.set_cons_succ]
                      refine path_read (i := 6) (v := ?v4_6) rfl (by rfl) (fun _ _ _ h => h) ?hy4_6 ?_
                      case hy4_6 => ((intro w hSw; (try dsimp only at hSw); go_simp) <;> (try with_reducible rfl))
                      try simp only [Act.put, List.setIfInBounds_toArray, List.set_cons_zero, List.set_cons_succ]
                      refine path_read (i := 7) (v := ?v4_7) rfl (by rfl) (fun _ _ _ h => h) ?hy4_7 ?_
                      case hy4_7 => ((intro w hSw; (try dsimp only at hSw); go_simp) <;> (try with_reducible rfl))
                      try simp only [Act.put, List.setIfInBounds_toArray, List.set_cons_zero, List.set_cons_succ]
                      refine path_read (i := 8) (v := ?v4_8) rfl (by rfl) (fun _ _ _ h => h) ?hy4_8 ?_
                      case hy4_8 => ((intro w hSw; (try dsimp only at hSw); go_simp) <;> (try with_reducible rfl))
                      try simp only [Act.put, List.setIfInBounds_toArray, List.set_cons_zero, List.set_cons_succ]
                      refine path_read (i := 9) (v := ?v4_9) rfl (by rfl) (fun _ _ _ h => h) ?hy4_9 ?_
                      case hy4_9 => ((intro w hSw; (try dsimp only at hSw); go_simp) <;> (try with_reducible rfl))
                      try simp only [Act.put, List.setIfInBounds_toArray, List.set_cons_zero, List.set_cons_succ]
                      refine path_read (i := 10) (v := ?v4_10) rfl (by rfl) (fun _ _ _ h => h) ?hy4_10 ?_
                      case hy4_10 => ((intro w hSw; (try dsimp only at hSw); go_simp) <;> (try with_reducible rfl))
                      try simp only [Act.put, List.setIfInBounds_toArray, List.set_cons_zero, List.set_cons_succ]
                      refine path_read (i := 11) (v := ?v4_11) rfl (by rfl) (fun _ _ _ h => h) ?hy4_11 ?_
                      case hy4_11 => ((intro w hSw; (try dsimp only at hSw); go_simp) <;> (try with_reducible rfl))
                      try simp only [Act.put, List.setIfInBounds_toArray, List.set_cons_zero, List.set_cons_succ]
                      refine path_read (i := 13) (v := ?v4_13) rfl (by rfl) (fun _ _ _ h => h) ?hy4_13 ?_
                      case hy4_13 => ((intro w hSw; (try dsimp only at hSw); go_simp) <;> (try with_reducible rfl))
                      try simp only [Act.put, List.setIfInBounds_toArray, List.set_cons_zero, List.set_cons_succ]
                      refine path_do (i := 12) rfl ?_
                      go_wp2_with ((first | (go_at_call 32; go_loud (refine (prog_ok A2 len2 cap2 acts _).mono ?_; rintro e w3 ⟨rfl, hk⟩; have HL := Lib.hid (HL.out.keep hk); clear hk)) | (go_at_call 31; go_loud (refine (lq_dstart (DSt.begin DSt.new fs acts) 14 client surface other acts nq A2 len2 cap2 fs HL.out HAL.out (begin_again _ _ _ _ _ _ _ _ HRG.out).1 (begin_again _ _ _ _ _ _ _ _ HRG.out).2).mono ?_; rintro e w3 ⟨F2, rfl, hl, _⟩; have HL := Lib.hid hl; clear hl))))
                      (first | refine ⟨.inr ?keep4_12, ?_⟩ | refine ⟨?keep4_12, ?_⟩)
                      case keep4_12 => (exact KEEP.out _ HL.out)
                      try simp only [Act.put, List.setIfInBounds_toArray, List.set_cons_zero, List.set_cons_succ]
                      refine path_do (i := 14) rfl ?_
                      go_wp2_with ((first | (go_at_call 32; go_loud (refine (prog_ok A2 len2 cap2 acts _).mono ?_; rintro e w3 ⟨rfl, hk⟩; have HL := Lib.hid (HL.out.keep hk); clear hk)) | (go_at_call 31; go_loud (refine (lq_dstart (DSt.begin DSt.new fs acts) 14 client surface other acts nq A2 len2 cap2 fs HL.out HAL.out (begin_again _ _ _ _ _ _ _ _ HRG.out).1 (begin_again _ _ _ _ _ _ _ _ HRG.out).2).mono ?_; rintro e w3 ⟨F2, rfl, hl, _⟩; have HL := Lib.hid hl; clear hl))))
                      (first | refine ⟨.inr ?keep4_14, ?_⟩ | refine ⟨?keep4_14, ?_⟩)
                      case keep4_14 => (exact KEEP.out _ HL.out)
                      try simp only [Act.put, List.setIfInBounds_toArray, List.set_cons_zero, List.set_cons_succ]
                      refine path_read (i := 15) (v := ?v4_15) rfl (by rfl) (fun _ _ _ h => h) ?hy4_15 ?_
                      case hy4_15 => ((intro w hSw; (try dsimp only at hSw); go_simp) <;> (try with_reducible rfl))
                      try simp only [Act.put, List.setIfInBounds_toArray, List.set_cons_zero, List.set_cons_succ]
                      refine path_end ?_
                      clear hcel
                      have hk1 := HL.out.cell1
                      have hk2 := HL.out.slt
                      go_wp2_with fail
                      refine (lq_state 1 HL.out rfl).mono ?_
                      rintro e w5 ⟨rfl, hl, _⟩
                      have HL := Lib.hid hl
                      clear hl hk1 hk2
                      have hk1 := HL.out.cell1
                      have hk2 := HL.out.slt
                      go_wp2_with fail
                      refine (lq_action 0 HL.out rfl).mono ?_
                      rintro e w6 ⟨rfl, hl, _⟩
                      have HL := Lib.hid hl
                      have HSAME := HW.out.trans hl.same
                      clear hl hk1 hk2
                      go_wp2_with fail
                      refine (example43_ok _).mono ?_
                      rintro e w9 ⟨rfl, hs⟩
                      have HS9 := Lib.hid hs
                      clear hs
                      go_wp2
                      go_ret
                      exact ⟨rfl, HSAME.trans HS9.out⟩
                · have e1 : (cv == 0) = false := by simp [hcz]
                  have e2 : (cv != 0) = true := by simp [hcz]
                  have hevc : ev = cv := by rw [← HEV.out.1, HEVN.out, HCV.out, if_pos hcz]
                  have hdn : d2 = DSt.new := HDN.out (by rw [hevc]; exact hcz)
                  subst hevc hdn
                  clear hcz
                  go_wp2_with fail
                  refine (lq_state 0 HL.out rfl).mono ?_
                  rintro e w5 ⟨rfl, hl, _⟩
                  have HL := Lib.hid hl
                  have HSAME := HW.out.trans hl.same
                  clear hl hk1 hk2
                  go_wp2_with fail
                  refine (example43_ok _).mono ?_
                  rintro e w9 ⟨rfl, hs⟩
                  have HS9 := Lib.hid hs
                  clear hs
                  go_wp2
                  go_ret
                  exact ⟨rfl, HSAME.trans HS9.out⟩
end Go.Proofs.Yteolilggeaffaaa
