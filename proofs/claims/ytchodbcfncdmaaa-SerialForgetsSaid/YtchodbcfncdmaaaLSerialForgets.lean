/- The walk of SerialForgets: for all arguments it returns true and leaves what was there as it was. -/
import Derived.Test.YtchodbcfncdmaaaBuild31
import Derived.Test.YtchodbcfncdmaaaEqEnt
set_option linter.unusedVariables false
set_option linter.unusedSimpArgs false
namespace Go.Proofs.Ytchodbcfncdmaaa
open Go.RowKit

set_option maxRecDepth 100000 in
set_option maxHeartbeats 4000000 in
theorem SerialForgets_walk (A : Option Addr) (len cap : Nat) (l : List LOp) (client back : Int) (w : World) (h : OpsAt w A len l) (hbk : 0 ≤ back ∧ back ≤ 4294967295) :
    Calls Try.prog 8 #[.slice A len cap, .int .i64 client, .int .u32 back] w fun e w' => e = .returned (.bool true) ∧ Same w w' := by
  have hlight := light_ok A len cap l w h
  by_cases hlb : lightB l = true
  · rw [hlb] at hlight
    obtain ⟨hl40, hmany, h700⟩ := light_facts hlb
    have hlen := h.1.1
    have hlen40 : len ≤ 40 := by omega
    have HL := Lib.hid hlight
    have HO := Lib.hid h
    have HM := Lib.hid (And.intro hmany h700)
    have HLEN := Lib.hid hlen
    clear hlight h hlb hl40 hmany h700 hlen
    go_enter Try.func8, Try.ntmps8
    go_wp2_with fail
    refine HL.out.mono ?_
    rintro e w' ⟨rfl, rfl⟩
    go_wp2_with fail
    refine (new_ok _).mono ?_
    rintro e w1 ⟨rfl, hL1, hs1, hlt1⟩
    generalize hB : w.heap.size = B at *
    have hBw : w.heap.size ≤ B := by omega
    have HL1 := Lib.hid hL1
    have HS1 := Lib.hid hs1
    clear hL1 hs1 hB
    go_wp2_with fail
    go_loopw [8, 9] (fun v8 v9 wr => BuildRel w B l v8 v9 wr) (fun _ v9 _ => len - (intOf v9).toNat)
    case atStart => exact ⟨0, 0, _, fun m => ⟨m, 1, 0, 0⟩, by omega, rfl, rfl, SLog.inv_new _ (fun m => rfl), by simp [manySum], HL1.out, HS1.out⟩
    case round =>
      obtain ⟨i, N, L, g, hi, rfl, rfl, hinv, hN, hL, hs⟩ := hrel
      rw [HLEN.out] at hi
      have hBr : B < wr.heap.size := lt_of_at hL.1
      by_cases hlt2 : i < len
      · have hb2 : (i : Int) < len := by omega
        obtain ⟨b, o, x, rfl, hbw, hx, hc⟩ := HO.out.1.at_ hlt2
        have hbB : b ≠ B := by omega
        have hxo := HO.out.2.1 x (List.mem_of_getElem? hx)
        have hmo := HM.out.1 x (List.mem_of_getElem? hx)
        have hsumle := manySum_take_le l HM.out.1 (i + 1)
        rw [sum_take_succ l i x hx] at hsumle
        have h7 := HM.out.2
        have HSUM := Lib.hid (sum_take_succ l i x hx)
        obtain ⟨k, m, c, s, e, ms, bk⟩ := x
        have c1w := hc 1 _ rfl
        have c2w := hc 2 _ rfl
        have c3w := hc 3 _ rfl
        have c4w := hc 4 _ rfl
        simp only at c1w c2w c3w c4w hsumle
        simp [manyOk] at hmo
        obtain ⟨_, _, hc2, hs2, he2, _, _⟩ := hxo
        simp only [i64ok] at hc2 hs2 he2
        have HC := Lib.hid (And.intro c1w (And.intro c2w (And.intro c3w c4w)))
        have HLr := Lib.hid hL
        have HS := Lib.hid hs
        have HI := Lib.hid hinv
        generalize hS : manySum (l.take i) = S at *
        clear hS
        have hm7 : S + m ≤ 700 := by omega
        clear hc hx hL hs hinv c1w c2w c3w c4w hsumle h7
        go_wp2
        obtain ⟨wo, rfl⟩ : ∃ wo : World, wo = wr := ⟨_, rfl⟩
        go_loopw [8, 10] (fun v8 v10 wr => BuildIn w B S m v8 v10 wr) (fun _ v10 _ => m.toNat - (intOf v10).toNat)
        case atStart => exact ⟨0, N, L, g, by omega, rfl, rfl, HI.out, by omega, HLr.out, HS.out⟩
        case round =>
          obtain ⟨k2, N2, L2, g2, hk2, rfl, rfl, hinv2, hN2, hL2, hss⟩ := hrel
          have hBr2 : B < wr.heap.size := lt_of_at hL2.1
          have c1 := hss.cell HC.out.1 (fun q => q)
          have c2 := hss.cell HC.out.2.1 (fun q => q)
          have c3 := hss.cell HC.out.2.2.1 (fun q => q)
          have c4 := hss.cell HC.out.2.2.2 (fun q => q)
          by_cases hk3 : (k2 : Int) < m
          · have HL2 := Lib.hid hL2
            have HS2 := Lib.hid hss
            have HI2 := Lib.hid hinv2
            clear hL2 hss hinv2
            go_wp2
            have hi0 : (0 : Int) ≤ (i : Int) := Int.natCast_nonneg _
            go_region_held3 (fun w' => w'.cell? ⟨b, o + i * 7 + 2, none⟩ = some (.int .i64 c) ∧ w'.cell? ⟨b, o + i * 7 + 3, none⟩ = some (.int .i64 s) ∧ w'.cell? ⟨b, o + i * 7 + 4, none⟩ = some (.int .i64 e))
              (first | go_keep | (exact ⟨q2, q3, q4⟩))
              ((go_at_call 12; refine (issue_ok _ _ _ _ _ _ (HL2.out.chg ((Chg.refl (fun _ => False) wr).drew) (fun q => q)) (by omega) (by omega)).mono ?_; rintro e2 w2 ⟨rfl, hL3, hs3⟩; have hs3' := (Chg.refl (fun x => x = B) wr).drew.trans hs3; have q2 := hs3'.cell c2 hbB; have q3 := hs3'.cell c3 hbB; have q4 := hs3'.cell c4 hbB; have HL3 := Lib.hid hL3; have HS3 := Lib.hid (HS2.out.then_ hs3' (fun i hi q => by omega)); clear hL3 hs3 hs3'))
            go_wp2
            go_roundw
            case rel =>
              obtain ⟨N3, g3, hinv3, hN3, he3⟩ := SLog.build_step HI2.out (by omega) c s e hc2.2 hs2.2
              exact ⟨k2 + 1, N3, _, g3, by omega, by go_num, by rw [he3], hinv3, by omega, HL3.out, HS3.out⟩
            case measure => simp [intOf]; omega
          · have hk4 : ¬ (k2 : Int) < m := hk3
            have HL2 := Lib.hid hL2
            have HS2 := Lib.hid hss
            have HI2 := Lib.hid hinv2
            clear hL2 hss hinv2
            go_wp2
            go_roundw
            case rel =>
              refine ⟨i + 1, N2, L2, g2, by rw [HLEN.out]; omega, by go_num, rfl, HI2.out, ?_, HL2.out, HS2.out⟩
              rw [HSUM.out]
              show (N2 : Int) ≤ S + m
              omega
            case measure => simp [intOf]; omega
      · have hb2 : ¬ (i : Int) < len := by omega
        have hN700 : N ≤ 700 := by
          have e : l.take i = l := List.take_of_length_le (by rw [HLEN.out]; omega)
          rw [e] at hN
          have := HM.out.2
          omega
        have HLr := Lib.hid hL
        have HS := Lib.hid hs
        have HI := Lib.hid hinv
        clear hL hs hinv hN
        have hlat0 := SLog.latest_forget L HI.out.ok client (-1)
        have hxok := SLog.find_ok HI.out.ok (((N : Int) - back) % 4294967296)
        have hfind := SLog.find_forget HI.out client (((N : Int) - back) % 4294967296)
        have hck0 : (L.forget client).find (((N : Int) - back) % 4294967296) = Ent.zero → (L.forget client).check (((N : Int) - back) % 4294967296) client (-1) = 13 := fun hh => SLog.check_none hh _ _
        go_wp2_with fail
        generalize hn : ((N : Int) - back) % 4294967296 = n at *
        have HN := Lib.hid hn
        clear hn
        obtain ⟨s, c, f, k, hx⟩ : ∃ s c f k, L.find n = ⟨s, c, f, k⟩ := ⟨_, _, _, _, rfl⟩
        rw [hx] at hfind hxok
        have HX := Lib.hid hx
        have HLAT := Lib.hid hlat0
        clear hx hlat0
        cases hc : (c != 0) with
        | true =>
          cases hcl : (c == client) with
          | true =>
            have hy : (L.forget client).find n = ⟨0, 0, 0, 0⟩ := by rw [hfind, if_pos (by simpa using hcl)]; rfl
            have HY := Lib.hid hy
            have HCK := Lib.hid (hck0 hy)
            clear hfind hxok hck0 hy
            go_wp2_with fail
            refine (find_ok _ _ _ _ HLr.out).mono ?_
            rintro e2 w2 ⟨rfl, hs2⟩
            rw [HX.out]
            simp only [entRes]
            have hL2 := HLr.out.chg hs2 (fun q => q)
            have HS2 := Lib.hid (HS.out.trans hs2)
            have hB2 : B < w2.heap.size := lt_of_at hL2.1
            have hne2 : w2.heap.size ≠ B := by omega
            have HL2 := Lib.hid (fun o => hL2.chg ((Chg.refl (fun _ => False) w2).alloc o) (fun q => q))
            clear hs2 hL2
            go_wp2_with fail
            refine (forget_ok _ _ _ L (HL2.out _)).mono ?_
            rintro e3 w3 ⟨rfl, hL3, hs3⟩
            have d0 := hs3.cell (b := w2.heap.size) (o := 0) (x := .int .u32 s) (by simp) hne2
            have d1 := hs3.cell (b := w2.heap.size) (o := 1) (x := .int .i64 c) (by simp) hne2
            have d2 := hs3.cell (b := w2.heap.size) (o := 2) (x := .int .i64 f) (by simp) hne2
            have d3 := hs3.cell (b := w2.heap.size) (o := 3) (x := .int .i64 k) (by simp) hne2
            have HL3 := Lib.hid hL3
            have HS3 := Lib.hid ((HS2.out.alloc _).then_ hs3 (fun i hi q => by omega))
            have hz3 : w2.heap.size < w3.heap.size := by have := hs3.size; simp at this; omega
            clear hs3 hL3
            go_wp2_with fail
            refine (find_ok _ _ _ _ HL3.out).mono ?_
            rintro e4 w4 ⟨rfl, hs4⟩
            rw [HY.out]
            simp only [entRes]
            replace d0 := hs4.cell d0 (fun q => q)
            replace d1 := hs4.cell d1 (fun q => q)
            replace d2 := hs4.cell d2 (fun q => q)
            replace d3 := hs4.cell d3 (fun q => q)
            have hL4 := HL3.out.chg hs4 (fun q => q)
            have HL4 := Lib.hid (fun o => hL4.chg ((Chg.refl (fun _ => False) w4).alloc o) (fun q => q))
            have HS4 := Lib.hid (HS3.out.trans hs4)
            have hz4 : w2.heap.size < w4.heap.size := Nat.lt_of_lt_of_le hz3 hs4.size
            clear hs4 hL4
            have ge := guard_entry
            have eqs := eql_same 0 0 0 0
            go_wp2_with fail
            refine (check_ok _ _ _ _ _ _ (HL4.out _)).mono ?_
            rintro e5 w5 ⟨rfl, hs5⟩
            rw [HCK.out]
            have hL5 := (HL4.out _).chg hs5 (fun q => q)
            have HL5 := Lib.hid hL5
            have HS5 := Lib.hid ((HS4.out.alloc _).trans hs5)
            clear hs5 hL5
            go_wp2_with fail
            refine (latest_ok _ _ _ _ _ HL5.out).mono ?_
            rintro e6 w6 ⟨rfl, hs6⟩
            rw [HLAT.out]
            go_wp2_with fail
            refine (example31_ok _).mono ?_
            rintro e7 w7 ⟨rfl, hs7⟩
            have HS7 := Lib.hid ((HS5.out.trans hs6).trans hs7)
            clear hs6 hs7
            go_wp2
            go_ret
            exact ⟨rfl, HS7.out⟩
          | false =>
            have hy : (L.forget client).find n = ⟨s, c, f, k⟩ := by rw [hfind, if_neg (by simpa using hcl)]
            have HY := Lib.hid hy
            clear hfind hxok hck0 hy
            go_wp2_with fail
            refine (find_ok _ _ _ _ HLr.out).mono ?_
            rintro e2 w2 ⟨rfl, hs2⟩
            rw [HX.out]
            simp only [entRes]
            have hL2 := HLr.out.chg hs2 (fun q => q)
            have HS2 := Lib.hid (HS.out.trans hs2)
            have hB2 : B < w2.heap.size := lt_of_at hL2.1
            have hne2 : w2.heap.size ≠ B := by omega
            have HL2 := Lib.hid (fun o => hL2.chg ((Chg.refl (fun _ => False) w2).alloc o) (fun q => q))
            clear hs2 hL2
            go_wp2_with fail
            refine (forget_ok _ _ _ L (HL2.out _)).mono ?_
            rintro e3 w3 ⟨rfl, hL3, hs3⟩
            have d0 := hs3.cell (b := w2.heap.size) (o := 0) (x := .int .u32 s) (by simp) hne2
            have d1 := hs3.cell (b := w2.heap.size) (o := 1) (x := .int .i64 c) (by simp) hne2
            have d2 := hs3.cell (b := w2.heap.size) (o := 2) (x := .int .i64 f) (by simp) hne2
            have d3 := hs3.cell (b := w2.heap.size) (o := 3) (x := .int .i64 k) (by simp) hne2
            have HL3 := Lib.hid hL3
            have HS3 := Lib.hid ((HS2.out.alloc _).then_ hs3 (fun i hi q => by omega))
            have hz3 : w2.heap.size < w3.heap.size := by have := hs3.size; simp at this; omega
            clear hs3 hL3
            go_wp2_with fail
            refine (find_ok _ _ _ _ HL3.out).mono ?_
            rintro e4 w4 ⟨rfl, hs4⟩
            rw [HY.out]
            simp only [entRes]
            replace d0 := hs4.cell d0 (fun q => q)
            replace d1 := hs4.cell d1 (fun q => q)
            replace d2 := hs4.cell d2 (fun q => q)
            replace d3 := hs4.cell d3 (fun q => q)
            have hL4 := HL3.out.chg hs4 (fun q => q)
            have HL4 := Lib.hid (fun o => hL4.chg ((Chg.refl (fun _ => False) w4).alloc o) (fun q => q))
            have HS4 := Lib.hid (HS3.out.trans hs4)
            have hz4 : w2.heap.size < w4.heap.size := Nat.lt_of_lt_of_le hz3 hs4.size
            clear hs4 hL4
            have ge := guard_entry
            have eqs := eql_same s c f k
            go_wp2_with fail
            refine (latest_ok _ _ _ _ _ (HL4.out _)).mono ?_
            rintro e6 w6 ⟨rfl, hs6⟩
            rw [HLAT.out]
            have HS6 := Lib.hid ((HS4.out.alloc _).trans hs6)
            clear hs6
            go_wp2_with fail
            refine (example31_ok _).mono ?_
            rintro e7 w7 ⟨rfl, hs7⟩
            have HS7 := Lib.hid (HS6.out.trans hs7)
            clear hs7
            go_wp2
            go_ret
            exact ⟨rfl, HS7.out⟩
        | false =>
          have hy : (L.forget client).find n = ⟨s, c, f, k⟩ := by
            rw [hfind]
            split
            · rcases hxok with h1 | h1
              · rw [h1]
              · simp at h1 hc; omega
            · rfl
          have HY := Lib.hid hy
          clear hfind hxok hck0 hy
          go_wp2_with fail
          refine (find_ok _ _ _ _ HLr.out).mono ?_
          rintro e2 w2 ⟨rfl, hs2⟩
          rw [HX.out]
          simp only [entRes]
          have hL2 := HLr.out.chg hs2 (fun q => q)
          have HS2 := Lib.hid (HS.out.trans hs2)
          have hB2 : B < w2.heap.size := lt_of_at hL2.1
          have hne2 : w2.heap.size ≠ B := by omega
          have HL2 := Lib.hid (fun o => hL2.chg ((Chg.refl (fun _ => False) w2).alloc o) (fun q => q))
          clear hs2 hL2
          go_wp2_with fail
          refine (forget_ok _ _ _ L (HL2.out _)).mono ?_
          rintro e3 w3 ⟨rfl, hL3, hs3⟩
          have d0 := hs3.cell (b := w2.heap.size) (o := 0) (x := .int .u32 s) (by simp) hne2
          have d1 := hs3.cell (b := w2.heap.size) (o := 1) (x := .int .i64 c) (by simp) hne2
          have d2 := hs3.cell (b := w2.heap.size) (o := 2) (x := .int .i64 f) (by simp) hne2
          have d3 := hs3.cell (b := w2.heap.size) (o := 3) (x := .int .i64 k) (by simp) hne2
          have HL3 := Lib.hid hL3
          have HS3 := Lib.hid ((HS2.out.alloc _).then_ hs3 (fun i hi q => by omega))
          have hz3 : w2.heap.size < w3.heap.size := by have := hs3.size; simp at this; omega
          clear hs3 hL3
          go_wp2_with fail
          refine (find_ok _ _ _ _ HL3.out).mono ?_
          rintro e4 w4 ⟨rfl, hs4⟩
          rw [HY.out]
          simp only [entRes]
          replace d0 := hs4.cell d0 (fun q => q)
          replace d1 := hs4.cell d1 (fun q => q)
          replace d2 := hs4.cell d2 (fun q => q)
          replace d3 := hs4.cell d3 (fun q => q)
          have hL4 := HL3.out.chg hs4 (fun q => q)
          have HL4 := Lib.hid (fun o => hL4.chg ((Chg.refl (fun _ => False) w4).alloc o) (fun q => q))
          have HS4 := Lib.hid (HS3.out.trans hs4)
          have hz4 : w2.heap.size < w4.heap.size := Nat.lt_of_lt_of_le hz3 hs4.size
          clear hs4 hL4
          have ge := guard_entry
          have eqs := eql_same s c f k
          go_wp2_with fail
          refine (latest_ok _ _ _ _ _ (HL4.out _)).mono ?_
          rintro e6 w6 ⟨rfl, hs6⟩
          rw [HLAT.out]
          have HS6 := Lib.hid ((HS4.out.alloc _).trans hs6)
          clear hs6
          go_wp2_with fail
          refine (example31_ok _).mono ?_
          rintro e7 w7 ⟨rfl, hs7⟩
          have HS7 := Lib.hid (HS6.out.trans hs7)
          clear hs7
          go_wp2
          go_ret
          exact ⟨rfl, HS7.out⟩
  · have hlb' : lightB l = false := by simpa using hlb
    rw [hlb'] at hlight
    have HL := Lib.hid hlight
    clear hlight h hlb hlb'
    go_enter Try.func8, Try.ntmps8
    go_wp2_with fail
    refine HL.out.mono ?_
    rintro e w' ⟨rfl, rfl⟩
    go_wp2_with (first | (go_at_call 10; refine (example31_ok _).mono ?_; rintro e w1 ⟨rfl, hs⟩; have HS1 := Lib.hid hs; clear hs))
    go_ret
    exact ⟨rfl, HS1.out⟩
end Go.Proofs.Ytchodbcfncdmaaa
