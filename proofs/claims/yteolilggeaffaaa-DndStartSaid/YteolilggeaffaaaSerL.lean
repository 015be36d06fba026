/- The walk of Latest. -/
import Derived.Test.YteolilggeaffaaaSerY
set_option linter.unusedVariables false
set_option linter.unusedSimpArgs false
set_option maxRecDepth 100000
namespace Go.Proofs.Yteolilggeaffaaa
open Go.RowKit

/-! ### Latest -/
theorem run_load_ent {w : World} {b : Nat} {L : SLog} (h : LogAt w b L) (i : Nat) (hi : i < 256) :
    (loadVar 124 ⟨b, 3 + i * 4, none⟩).run Try.prog w = .ok (.agg #[.int .u32 (EntsAt L i).s, .int .i64 (EntsAt L i).c, .int .i64 (EntsAt L i).f, .int .i64 (EntsAt L i).k]) w := by
  have hl : L.cells.length = 1027 := by
    unfold SLog.cells
    have := SLog.flat_len h.2
    unfold SLog.flat at this
    simp [this]
  have := run_loadMid (P := Try.prog) 124 (3 + i * 4) 4 _ h.1 infoEntry Try.underlying124 rfl (by omega)
  have e : (L.cells.drop (3 + i * 4)).take 4 = (EntsAt L i).cells := by
    have := SLog.flat_take h.2 hi
    unfold SLog.cells
    have e3 : 3 + i * 4 = i * 4 + 1 + 1 + 1 := by omega
    rw [e3]
    simp only [List.drop_succ_cons]
    exact this
  rw [e] at this
  exact this

theorem back_eq (a i : Nat) (ha : a < 256) (hi : i < 256) : (IntKind.i64.wrap (IntKind.i64.wrap (IntKind.i64.wrap ((a : Int) + 256) - 1) - (i : Int))).tmod 256 = (((a + 256 - 1 - i) % 256 : Nat) : Int) := by
  have e1 : IntKind.i64.wrap ((a : Int) + 256) = (a : Int) + 256 := IntWalk.i64_in _ (by omega)
  have e2 : IntKind.i64.wrap ((a : Int) + 256 - 1) = (a : Int) + 256 - 1 := IntWalk.i64_in _ (by omega)
  have e3 : IntKind.i64.wrap ((a : Int) + 256 - 1 - (i : Int)) = (a : Int) + 256 - 1 - (i : Int) := IntWalk.i64_in _ (by omega)
  rw [e1, e2, e3, Int.tmod_eq_emod_of_nonneg (by omega)]
  omega
def LatRel (w : World) (L : SLog) (client kinds : Int) (v : Value) (wr : World) : Prop :=
  ∃ i : Nat, i ≤ 256 ∧ v = .int .i64 i ∧ (∀ j, j < i → fitB (EntsAt L (L.back j)).c (EntsAt L (L.back j)).k client kinds = false) ∧ Same w wr

set_option maxRecDepth 100000 in
set_option maxHeartbeats 1000000 in
theorem latest_ok (b : Nat) (w : World) (client kinds : Int) (L : SLog) (h : LogAt w b L) :
    Calls Try.prog 112 #[.pointer (some ⟨b, 0, none⟩), .int .i64 client, .int .i64 kinds] w fun e w' => e = .returned (.int .u32 (L.latest client kinds)) ∧ Same w w' := by
  have h0 := h.c0
  have HL := Lib.hid h
  clear h
  go_enter Try.func112, Try.ntmps112
  go_wp2_with (first | (go_at_call 65; refine (usable_ok _ _ (by assumption)).mono ?_; rintro e w' ⟨rfl, rfl⟩))
  go_loopw [12] (fun v wr => LatRel w L client kinds v wr) (fun v _ => 256 - (intOf v).toNat)
  case atStart => exact ⟨0, by omega, rfl, fun j hj => by omega, Chg.refl _ w⟩
  case round =>
    obtain ⟨i, hi, rfl, hno, hsame⟩ := hrel
    have hL := HL.out.chg hsame (fun q => q)
    have c2 := hL.c2
    have HS := Lib.hid hsame
    have HN := Lib.hid hno
    have HR := Lib.hid hL
    have ha := hL.2.at_lt
    have ha' : (L.at_ : Int) < 256 := by omega
    clear hsame hno hL h0
    by_cases hlt2 : i < 256
    · have hb2 : (i : Int) < 256 := by omega
      have hback := back_eq L.at_ i ha hlt2
      have hlb : L.back i < 256 := Nat.mod_lt _ (by omega)
      have hbi : L.back i = (L.at_ + 256 - 1 - i) % 256 := rfl
      rw [← hbi] at hback
      have g0 := HR.out.e0 hlb
      have g1 := HR.out.e1 hlb
      have g2 := HR.out.e2 hlb
      have g3 := HR.out.e3 hlb
      have hek := (EntsAt_ok HR.out.2 (L.back i)).bounds
      have HX : Hid (EntsAt L (L.back i) = EntsAt L (L.back i)) := rfl
      clear hbi
      generalize hp : L.back i = p at *
      generalize he : EntsAt L p = x at *
      obtain ⟨s, c, f, k⟩ := x
      obtain ⟨_, _, _, _, _, _, hk0, hk1⟩ := hek
      simp only at hk0 hk1 g0 g1 g2 g3
      have HP := Lib.hid hp
      have HE := Lib.hid he
      have hp' : (p : Int) < 256 := by omega
      have HM := Lib.hid (fun w => matches_ok s c f k client kinds w hk0 hk1)
      clear hp he HX
      have hLn : b < wr.heap.size := lt_of_at HR.out.1
      cases hfit : fitB c k client kinds with
      | true =>
        rw [hfit] at HM
        have HFit := Lib.hid hfit
        clear hfit
        go_wp2
        go_region
        all_goals
          go_wp2_with (go_at_call 113; refine (HM.out _).mono ?_; rintro e w2 ⟨rfl, hs2⟩; have cx := hs2.cell (b := wr.heap.size) (o := 0) (x := .int .u32 s) (by simp) (fun q => q); have HS2 := Lib.hid hs2; clear hs2)
          go_ret
          have hfin : L.latest client kinds = s := by
            unfold SLog.latest
            rw [find_first (fun e => fitB e.c e.k client kinds) (fun i => EntsAt L (L.back i)) 256 i hlt2 HN.out (by rw [HP.out, HE.out]; exact HFit.out), HP.out, HE.out]
            rfl
          refine ⟨by rw [hfin]; rfl, Chg.trans ?_ HS2.out⟩
          repeat (first | (with_reducible refine Chg.drew ?_) | (with_reducible refine Chg.drewN ?_ _) | (with_reducible refine Chg.alloc ?_ _) | (with_reducible refine Chg.setCell ?_ _ _ ?_; rotate_left 1; · (intro q; first | (simp; done) | (exfalso; revert q; simp; done) | (exfalso; revert q; simp; omega) | (simp; omega))))
          exact HS.out
      | false =>
        rw [hfit] at HM
        have HFit := Lib.hid hfit
        clear hfit
        go_wp2
        go_region
        all_goals
          go_wp2_with (go_at_call 113; refine (HM.out _).mono ?_; rintro e w2 ⟨rfl, hs2⟩; have HS2 := Lib.hid hs2; clear hs2)
          go_roundw
          case rel =>
            refine ⟨i + 1, by omega, by go_num, fun j hj => ?_, Chg.trans ?_ HS2.out⟩
            · rcases Nat.lt_succ_iff_lt_or_eq.1 hj with h1 | rfl
              · exact HN.out j h1
              · rw [HP.out, HE.out]; exact HFit.out
            ·
              repeat (first | (with_reducible refine Chg.drew ?_) | (with_reducible refine Chg.drewN ?_ _) | (with_reducible refine Chg.alloc ?_ _) | (with_reducible refine Chg.setCell ?_ _ _ ?_; rotate_left 1; · (intro q; first | (simp; done) | (exfalso; revert q; simp; done) | (exfalso; revert q; simp; omega) | (simp; omega))))
              exact HS.out
          case measure => simp [intOf]; omega
    · have hb2 : ¬ (i : Int) < 256 := by omega
      go_wp2
      go_ret
      have hfin : L.latest client kinds = 0 := by
        unfold SLog.latest
        rw [find_nobody (fun e => fitB e.c e.k client kinds) (fun i => EntsAt L (L.back i)) 256 (fun j hj => HN.out j (by omega))]
        rfl
      exact ⟨by rw [hfin]; rfl, HS.out⟩
end Go.Proofs.Yteolilggeaffaaa
