/- The walk of SerialRuns: for all arguments it returns true and leaves what was there as it was. -/
import Derived.Test.YtchodbcfncdmaaaAgree31d
import Derived.Test.YtchodbcfncdmaaaBuild31
set_option linter.unusedVariables false
set_option linter.unusedSimpArgs false
namespace Go.Proofs.Ytchodbcfncdmaaa
open Go.RowKit

theorem AgreeRet.mono {B base M M' : Nat} {w w' : World} {e : Ending} (h : AgreeRet B base M w e w') (hM : M ≤ M') : AgreeRet B base M' w e w' := by
  obtain ⟨L, N, l, A, n, cap, he, hr, hN, h3⟩ := h
  exact ⟨L, N, l, A, n, cap, he, hr, by omega, h3⟩
theorem agree_ok (A : Option Addr) (B N n cap base : Nat) (L : SLog) (l : List Ent) (x : LOp) (w : World) (hr : RelR L N l) (hL : LogAt w B L) (h : SlotsAt w base A n l) (hBb : B < base) (hb : base ≤ w.heap.size) (hx : x.ok) (hm0 : 0 ≤ x.many) (hm : N + x.many ≤ 700) :
    Calls Try.prog 20 #[.pointer (some ⟨B, 0, none⟩), .agg #[.int .i64 N, .slice A n cap], .int .u32 N, .agg x.cells.toArray] w fun e w' => AgreeRet B base (N + x.many.toNat) w e w' := by
  by_cases h0 : x.kind = 0
  · exact agree_issue A B N n cap base L l x w hr hL h hBb hb hx hm0 hm h0
  by_cases h1 : x.kind = 1
  · exact (agree_forget A B N n cap base L l x w hr hL h hBb hb hx (by omega) h1).mono fun e w' k => k.mono (by omega)
  by_cases h2 : x.kind = 2
  · exact (agree_check A B N n cap base L l x w hr hL h hBb hb hx (by omega) h2).mono fun e w' k => k.mono (by omega)
  by_cases h3 : x.kind = 3
  · exact (agree_find A B N n cap base L l x w hr hL h hBb hb hx (by omega) h3).mono fun e w' k => k.mono (by omega)
  exact (agree_latest A B N n cap base L l x w hr hL h hBb hb hx (by omega) ⟨h0, h1, h2, h3⟩).mono fun e w' k => k.mono (by omega)

def RunsRel (w : World) (B Y : Nat) (l : List LOp) (v5 v6 v7 : Value) (wr : World) : Prop :=
  ∃ (i N : Nat) (L : SLog) (ls : List Ent) (A : Option Addr) (n cap : Nat), i ≤ l.length ∧ v7 = .int .i64 i ∧ v5 = .int .u32 N ∧ v6 = .bool true ∧ RelR L N ls ∧ (N : Int) ≤ manySum (l.take i) ∧ LogAt wr B L ∧ SlotsAt wr (B + 1) A n ls ∧
    wr.heap[Y]? = some (.cells #[.int .i64 N, .slice A n cap] 42 (0, 0)) ∧ Same w wr

set_option maxRecDepth 100000 in
set_option maxHeartbeats 8000000 in
theorem SerialRuns_walk (A : Option Addr) (len cap : Nat) (l : List LOp) (w : World) (h : OpsAt w A len l) :
    Calls Try.prog 7 #[.slice A len cap] w fun e w' => e = .returned (.bool true) ∧ Same w w' := by
  have hlight := light_ok A len cap l w h
  by_cases hlb : lightB l = true
  · rw [hlb] at hlight
    obtain ⟨hl40, hmany, h700⟩ := light_facts hlb
    have hlen := h.1.1
    have hlen40 : len ≤ 40 := by omega
    have HL := Lib.hid hlight
    have HO := Lib.hid h
    have HM := Lib.hid (And.intro hmany h700)
    have HLEN := Lib.hid hlen
    clear hlight h hlb hl40 hmany h700 hlen
    go_enter Try.func7, Try.ntmps7
    go_wp2_with fail
    refine HL.out.mono ?_
    rintro e w' ⟨rfl, rfl⟩
    go_wp2_with fail
    refine (new_ok _).mono ?_
    rintro e w1 ⟨rfl, hL1, hs1, hlt1⟩
    generalize hB : w.heap.size = B at *
    have HL1 := Lib.hid hL1
    have HS1 := Lib.hid hs1
    clear hL1 hs1
    go_wp2_with fail
    refine (rNew_ok _).mono ?_
    rintro e w2 ⟨rfl, hs2⟩
    have HL2 := Lib.hid (HL1.out.chg hs2 (fun q => q))
    have HS2 := Lib.hid (HS1.out.trans hs2)
    have hlt2 : B < w2.heap.size := Nat.lt_of_lt_of_le hlt1 hs2.size
    have HB := Lib.hid hB
    clear hs2 hB
    go_wp2_with fail
    go_loopw [5, 6, 7] (fun v5 v6 v7 wr => RunsRel w B w2.heap.size l v5 v6 v7 wr) (fun _ _ v7 _ => len - (intOf v7).toNat)
    case atStart => exact ⟨0, 0, _, [], none, 0, 0, by omega, rfl, rfl, rfl, RelR.new, by simp [manySum], HL2.out.chg ((Chg.refl (fun _ => False) w2).alloc _) (fun q => q), SlotsAt.nil _ _, at_new _ _, HS2.out.alloc _⟩
    case round =>
      obtain ⟨i, N, L, ls, A1, n1, cap1, hi, rfl, rfl, rfl, hr, hN, hL, hA, hY, hs⟩ := hrel
      rw [HLEN.out] at hi
      have hBr : B < wr.heap.size := lt_of_at hL.1
      by_cases hlt3 : i < len
      · have hb0 : (0 : Int) ≤ (i : Int) := Int.natCast_nonneg _
        have hb2 : (i : Int) < len := by omega
        obtain ⟨b, o, x, rfl, hbw, hx, hc⟩ := HO.out.1.at_ hlt3
        have hbw' : b < B := by rw [← HB.out]; exact hbw
        have hxo := HO.out.2.1 x (List.mem_of_getElem? hx)
        have hmo := HM.out.1 x (List.mem_of_getElem? hx)
        have hsumle := manySum_take_le l HM.out.1 (i + 1)
        rw [sum_take_succ l i x hx] at hsumle
        have h7 := HM.out.2
        have HSUM := Lib.hid (sum_take_succ l i x hx)
        have hmo2 : 0 ≤ x.many ∧ x.many ≤ 300 := by simpa [manyOk] using hmo
        have hag := fun (w' : World) (hk : Same wr w') => agree_ok A1 B N n1 cap1 (B + 1) L ls x w' hr (hL.chg hk (fun q => q)) (hA.chg hk (fun _ _ _ _ q => q)) (by omega) (by have := hk.size; omega) hxo hmo2.1 (by omega)
        obtain ⟨k, m, c, s, e, ms, bk⟩ := x
        have c0 := hs.cell (hc 0 _ rfl) (fun q => q)
        have c1 := hs.cell (hc 1 _ rfl) (fun q => q)
        have c2 := hs.cell (hc 2 _ rfl) (fun q => q)
        have c3 := hs.cell (hc 3 _ rfl) (fun q => q)
        have c4 := hs.cell (hc 4 _ rfl) (fun q => q)
        have c5 := hs.cell (hc 5 _ rfl) (fun q => q)
        have c6 := hs.cell (hc 6 _ rfl) (fun q => q)
        rw [Nat.add_zero] at c0
        have y0 := cell_at (C := [.int .i64 N, .slice A1 n1 cap1]) hY 0
        have y1 := cell_at (C := [.int .i64 N, .slice A1 n1 cap1]) hY 1
        simp only [LOp.cells, List.getElem?_cons_zero, List.getElem?_cons_succ] at c0 c1 c2 c3 c4 c5 c6 hag y0 y1
        have HAG := Lib.hid hag
        have HY := Lib.hid hY
        have HS := Lib.hid hs
        have HNS := Lib.hid hN
        have hbB : b ≠ B := by omega
        have hbY : b ≠ w2.heap.size := by omega
        have hYB : w2.heap.size ≠ B := by omega
        clear hc hx hr hN hL hA hY hs hag hsumle h7 hxo hmo
        go_wp2_with fail
        refine region_path (S := (fun w' => w'.cell? ⟨b, o + i * 7, none⟩ = some (.int .i64 k) ∧ w'.cell? ⟨b, o + i * 7 + 1, none⟩ = some (.int .i64 m) ∧ w'.cell? ⟨b, o + i * 7 + 2, none⟩ = some (.int .i64 c) ∧ w'.cell? ⟨b, o + i * 7 + 3, none⟩ = some (.int .i64 s) ∧ w'.cell? ⟨b, o + i * 7 + 4, none⟩ = some (.int .i64 e) ∧ w'.cell? ⟨b, o + i * 7 + 5, none⟩ = some (.int .i64 ms) ∧ w'.cell? ⟨b, o + i * 7 + 6, none⟩ = some (.int .u32 bk))) 99 [(0, true), (2, true), (3, true), (4, true), (5, true), (6, true), (1, false), (7, false), (8, true), (9, true), (10, true), (11, true), (12, false), (13, true), (14, true)] (by kernel_rfl) (by kernel_rfl) (by kernel_rfl) ⟨c0, c1, c2, c3, c4, c5, c6⟩ ?_
        refine path_read (i := 0) (v := ?v1_0) rfl (by rfl) (fun _ _ _ h => h) ?hy1_0 ?_
        case hy1_0 => ((intro w hSw; (try dsimp only at hSw); go_simp) <;> (try with_reducible rfl))
        try simp only [Act.put, List.setIfInBounds_toArray, List.set_cons_zero, List.set_cons_succ]
        refine path_read (i := 2) (v := ?v1_2) rfl (by rfl) (fun _ _ _ h => h) ?hy1_2 ?_
        case hy1_2 => ((intro w hSw; (try dsimp only at hSw); go_simp) <;> (try with_reducible rfl))
        try simp only [Act.put, List.setIfInBounds_toArray, List.set_cons_zero, List.set_cons_succ]
        refine path_read (i := 3) (v := ?v1_3) rfl (by rfl) (fun _ _ _ h => h) ?hy1_3 ?_
        case hy1_3 => ((intro w hSw; (try dsimp only at hSw); go_simp) <;> (try with_reducible rfl))
        try simp only [Act.put, List.setIfInBounds_toArray, List.set_cons_zero, List.set_cons_succ]
        refine path_read (i := 4) (v := ?v1_4) rfl (by rfl) (fun _ _ _ h => h) ?hy1_4 ?_
        case hy1_4 => ((intro w hSw; (try dsimp only at hSw); go_simp) <;> (try with_reducible rfl))
        try simp only [Act.put, List.setIfInBounds_toArray, List.set_cons_zero, List.set_cons_succ]
        refine path_read (i := 5) (v := ?v1_5) rfl (by rfl) (fun _ _ _ h => h) ?hy1_5 ?_
        case hy1_5 => ((intro w hSw; (try dsimp only at hSw); go_simp) <;> (try with_reducible rfl))
        try simp only [Act.put, List.setIfInBounds_toArray, List.set_cons_zero, List.set_cons_succ]
        refine path_read (i := 6) (v := ?v1_6) rfl (by rfl) (fun _ _ _ h => h) ?hy1_6 ?_
        case hy1_6 => ((intro w hSw; (try dsimp only at hSw); go_simp) <;> (try with_reducible rfl))
        try simp only [Act.put, List.setIfInBounds_toArray, List.set_cons_zero, List.set_cons_succ]
        refine path_do (i := 1) rfl ?_
        go_wp2_with ((go_at_call 20; refine (HAG.out _ (Chg.refl (fun _ => False) wr).drew).mono ?_; rintro e3 w3 ⟨L3, N3, l3, A3, n3, cap3, rfl, hr3, hN3, hL3, hA3, hc3'⟩; have HC3 : Hid (Chg (fun x => x = B) wr w3) := Lib.hid ((Chg.refl (fun x => x = B) wr).drew.trans hc3'); have y03 := HC3.out.cell y0 hYB; have y13 := HC3.out.cell y1 hYB; have HY3 := Lib.hid (HC3.out.at_ HY.out hYB); have fY3 := frozen_at HY3.out; have HR3 := Lib.hid hr3; have HN3 := Lib.hid hN3; have HL3 := Lib.hid hL3; have HA3 := Lib.hid hA3; clear hr3 hN3 hL3 hA3 hc3'))
        refine ⟨.inr ?keep1_1, ?_⟩
        case keep1_1 => ((first | (exact ⟨(chg_set2 _ _ (Chg.refl _ _)).cell (HC3.out.cell c0 hbB) hbY, (chg_set2 _ _ (Chg.refl _ _)).cell (HC3.out.cell c1 hbB) hbY, (chg_set2 _ _ (Chg.refl _ _)).cell (HC3.out.cell c2 hbB) hbY, (chg_set2 _ _ (Chg.refl _ _)).cell (HC3.out.cell c3 hbB) hbY, (chg_set2 _ _ (Chg.refl _ _)).cell (HC3.out.cell c4 hbB) hbY, (chg_set2 _ _ (Chg.refl _ _)).cell (HC3.out.cell c5 hbB) hbY, (chg_set2 _ _ (Chg.refl _ _)).cell (HC3.out.cell c6 hbB) hbY⟩) | (exact ⟨HC3.out.cell c0 hbB, HC3.out.cell c1 hbB, HC3.out.cell c2 hbB, HC3.out.cell c3 hbB, HC3.out.cell c4 hbB, HC3.out.cell c5 hbB, HC3.out.cell c6 hbB⟩) | (exact ⟨c0, c1, c2, c3, c4, c5, c6⟩) | go_keep))
        try simp only [Act.put, List.setIfInBounds_toArray, List.set_cons_zero, List.set_cons_succ]
        refine path_do (i := 7) rfl ?_
        go_wp2_with ((go_at_call 20; refine (HAG.out _ (Chg.refl (fun _ => False) wr).drew).mono ?_; rintro e3 w3 ⟨L3, N3, l3, A3, n3, cap3, rfl, hr3, hN3, hL3, hA3, hc3'⟩; have HC3 : Hid (Chg (fun x => x = B) wr w3) := Lib.hid ((Chg.refl (fun x => x = B) wr).drew.trans hc3'); have y03 := HC3.out.cell y0 hYB; have y13 := HC3.out.cell y1 hYB; have HY3 := Lib.hid (HC3.out.at_ HY.out hYB); have fY3 := frozen_at HY3.out; have HR3 := Lib.hid hr3; have HN3 := Lib.hid hN3; have HL3 := Lib.hid hL3; have HA3 := Lib.hid hA3; clear hr3 hN3 hL3 hA3 hc3'))
        refine ⟨.inr ?keep1_7, ?_⟩
        case keep1_7 => ((first | (exact ⟨(chg_set2 _ _ (Chg.refl _ _)).cell (HC3.out.cell c0 hbB) hbY, (chg_set2 _ _ (Chg.refl _ _)).cell (HC3.out.cell c1 hbB) hbY, (chg_set2 _ _ (Chg.refl _ _)).cell (HC3.out.cell c2 hbB) hbY, (chg_set2 _ _ (Chg.refl _ _)).cell (HC3.out.cell c3 hbB) hbY, (chg_set2 _ _ (Chg.refl _ _)).cell (HC3.out.cell c4 hbB) hbY, (chg_set2 _ _ (Chg.refl _ _)).cell (HC3.out.cell c5 hbB) hbY, (chg_set2 _ _ (Chg.refl _ _)).cell (HC3.out.cell c6 hbB) hbY⟩) | (exact ⟨HC3.out.cell c0 hbB, HC3.out.cell c1 hbB, HC3.out.cell c2 hbB, HC3.out.cell c3 hbB, HC3.out.cell c4 hbB, HC3.out.cell c5 hbB, HC3.out.cell c6 hbB⟩) | (exact ⟨c0, c1, c2, c3, c4, c5, c6⟩) | go_keep))
        try simp only [Act.put, List.setIfInBounds_toArray, List.set_cons_zero, List.set_cons_succ]
        refine path_read (i := 8) (v := ?v1_8) rfl (by rfl) (fun _ _ _ h => h) ?hy1_8 ?_
        case hy1_8 => ((intro w hSw; (try dsimp only at hSw); go_simp) <;> (try with_reducible rfl))
        try simp only [Act.put, List.setIfInBounds_toArray, List.set_cons_zero, List.set_cons_succ]
        refine path_read (i := 9) (v := ?v1_9) rfl (by rfl) (fun _ _ _ h => h) ?hy1_9 ?_
        case hy1_9 => ((intro w hSw; (try dsimp only at hSw); go_simp) <;> (try with_reducible rfl))
        try simp only [Act.put, List.setIfInBounds_toArray, List.set_cons_zero, List.set_cons_succ]
        refine path_read (i := 10) (v := ?v1_10) rfl (by rfl) (fun _ _ _ h => h) ?hy1_10 ?_
        case hy1_10 => ((intro w hSw; (try dsimp only at hSw); go_simp) <;> (try with_reducible rfl))
        try simp only [Act.put, List.setIfInBounds_toArray, List.set_cons_zero, List.set_cons_succ]
        refine path_read (i := 11) (v := ?v1_11) rfl (by rfl) (fun _ _ _ h => h) ?hy1_11 ?_
        case hy1_11 => ((intro w hSw; (try dsimp only at hSw); go_simp) <;> (try with_reducible rfl))
        try simp only [Act.put, List.setIfInBounds_toArray, List.set_cons_zero, List.set_cons_succ]
        refine path_do (i := 12) rfl ?_
        go_wp2_with ((go_at_call 20; refine (HAG.out _ (Chg.refl (fun _ => False) wr).drew).mono ?_; rintro e3 w3 ⟨L3, N3, l3, A3, n3, cap3, rfl, hr3, hN3, hL3, hA3, hc3'⟩; have HC3 : Hid (Chg (fun x => x = B) wr w3) := Lib.hid ((Chg.refl (fun x => x = B) wr).drew.trans hc3'); have y03 := HC3.out.cell y0 hYB; have y13 := HC3.out.cell y1 hYB; have HY3 := Lib.hid (HC3.out.at_ HY.out hYB); have fY3 := frozen_at HY3.out; have HR3 := Lib.hid hr3; have HN3 := Lib.hid hN3; have HL3 := Lib.hid hL3; have HA3 := Lib.hid hA3; clear hr3 hN3 hL3 hA3 hc3'))
        refine ⟨.inr ?keep1_12, ?_⟩
        case keep1_12 => ((first | (exact ⟨(chg_set2 _ _ (Chg.refl _ _)).cell (HC3.out.cell c0 hbB) hbY, (chg_set2 _ _ (Chg.refl _ _)).cell (HC3.out.cell c1 hbB) hbY, (chg_set2 _ _ (Chg.refl _ _)).cell (HC3.out.cell c2 hbB) hbY, (chg_set2 _ _ (Chg.refl _ _)).cell (HC3.out.cell c3 hbB) hbY, (chg_set2 _ _ (Chg.refl _ _)).cell (HC3.out.cell c4 hbB) hbY, (chg_set2 _ _ (Chg.refl _ _)).cell (HC3.out.cell c5 hbB) hbY, (chg_set2 _ _ (Chg.refl _ _)).cell (HC3.out.cell c6 hbB) hbY⟩) | (exact ⟨HC3.out.cell c0 hbB, HC3.out.cell c1 hbB, HC3.out.cell c2 hbB, HC3.out.cell c3 hbB, HC3.out.cell c4 hbB, HC3.out.cell c5 hbB, HC3.out.cell c6 hbB⟩) | (exact ⟨c0, c1, c2, c3, c4, c5, c6⟩) | go_keep))
        try simp only [Act.put, List.setIfInBounds_toArray, List.set_cons_zero, List.set_cons_succ]
        refine path_read (i := 13) (v := ?v1_13) rfl (by rfl) (fun _ _ _ h => h) ?hy1_13 ?_
        case hy1_13 => ((intro w hSw; (try dsimp only at hSw); go_simp) <;> (try with_reducible rfl))
        try simp only [Act.put, List.setIfInBounds_toArray, List.set_cons_zero, List.set_cons_succ]
        refine path_read (i := 14) (v := ?v1_14) rfl (by rfl) (fun _ _ _ h => h) ?hy1_14 ?_
        case hy1_14 => ((intro w hSw; (try dsimp only at hSw); go_simp) <;> (try with_reducible rfl))
        try simp only [Act.put, List.setIfInBounds_toArray, List.set_cons_zero, List.set_cons_succ]
        refine path_end ?_
        go_wp2
        go_roundw
        case rel =>
          refine ⟨i + 1, N3, L3, l3, A3, n3, cap3, by rw [HLEN.out]; omega, by go_num, rfl, rfl, HR3.out, ?_, ?_, ?_, ?_, ?_⟩
          · rw [HSUM.out]
            have h1 := HN3.out
            have h2 := HNS.out
            show (N3 : Int) ≤ manySum (l.take i) + m
            omega
          · exact HL3.out.chg (chg_set2 _ _ (Chg.refl _ _)) (by omega)
          · exact HA3.out.chg (chg_set2 _ _ (Chg.refl _ _)) (fun b _ _ ⟨cur, fr, ht⟩ => ne_of_type ht HY3.out (by decide))
          · have := at_setCell (i := 0) (.int .i64 N3) (C := [.int .i64 N, .slice A1 n1 cap1]) HY3.out
            exact at_setCell (i := 1) (.slice A3 n3 cap3) (C := [.int .i64 N3, .slice A1 n1 cap1]) this
          · refine Chg.setCell (Chg.setCell ?_ _ _ (fun q => by simp at q; have := HB.out; omega)) _ _ (fun q => by simp at q; have := HB.out; omega)
            exact HS.out.then_ HC3.out (fun i hi q => by have := HB.out; omega)
        case measure => simp [intOf]; omega
      · have hb2 : ¬ (i : Int) < len := by omega
        have HS := Lib.hid hs
        clear hr hN hL hA hY hs
        go_wp2_with fail
        refine (example31_ok _).mono ?_
        rintro e7 w7 ⟨rfl, hs7⟩
        have HS7 := Lib.hid (HS.out.trans hs7)
        clear hs7
        go_wp2
        go_ret
        exact ⟨rfl, HS7.out⟩
  · have hlb' : lightB l = false := by simpa using hlb
    rw [hlb'] at hlight
    have HL := Lib.hid hlight
    clear hlight h hlb hlb'
    go_enter Try.func7, Try.ntmps7
    go_wp2_with fail
    refine HL.out.mono ?_
    rintro e w' ⟨rfl, rfl⟩
    go_wp2_with (first | (go_at_call 10; refine (example31_ok _).mono ?_; rintro e w1 ⟨rfl, hs⟩; have HS1 := Lib.hid hs; clear hs))
    go_ret
    exact ⟨rfl, HS1.out⟩
end Go.Proofs.Ytchodbcfncdmaaa
