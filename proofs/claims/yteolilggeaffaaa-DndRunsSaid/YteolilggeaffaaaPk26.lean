/- Parts of the walk, packed: M43d, M43e. -/
import Derived.Test.YteolilggeaffaaaPk25
set_option linter.unusedVariables false
set_option linter.unusedSimpArgs false
set_option maxRecDepth 100000
namespace Go.Proofs.Yteolilggeaffaaa
open Go.RowKit

def MD.setActE (x : MD) (client aa pp : Int) : Int := if x.acc 1 client ≠ 0 then x.acc 1 client else if setActOk aa pp then 0 else 2
def MD.setAct (x : MD) (client aa pp : Int) : MD := if x.setActE client aa pp = 0 then { x with a := aa, p := pp } else x
set_option maxHeartbeats 8000000 in
theorem msetact_ok (x : MD) (client aa pp : Int) (w : World) :
    Calls Try.prog 52 #[.agg x.cells.toArray, .int .i64 client, .int .i64 aa, .int .i64 pp] w fun e w' => e = .returned (.tuple #[.agg (x.setAct client aa pp).cells.toArray, .int .i64 (x.setActE client aa pp)]) ∧ Same w w' := by
  obtain ⟨va, hva⟩ : ∃ va, x.acc 1 client = va := ⟨_, rfl⟩
  have HA := Lib.hid (fun w => maccess_ok va x 1 client w hva)
  obtain ⟨ph, src, cl, tg, A, n, cap, acts, g, a, p, nm, tm, la, PA, pn, pc, fst⟩ := x
  by_cases h0 : va = 0
  · have e1 : MD.setActE ⟨ph, src, cl, tg, A, n, cap, acts, g, a, p, nm, tm, la, PA, pn, pc, fst⟩ client aa pp = if setActOk aa pp = true then 0 else 2 := by unfold MD.setActE; rw [hva, if_neg (fun q => q h0)]
    have HE := Lib.hid e1
    have HD : Hid (MD.setAct ⟨ph, src, cl, tg, A, n, cap, acts, g, a, p, nm, tm, la, PA, pn, pc, fst⟩ client aa pp = if setActOk aa pp = true then ⟨ph, src, cl, tg, A, n, cap, acts, g, aa, pp, nm, tm, la, PA, pn, pc, fst⟩ else ⟨ph, src, cl, tg, A, n, cap, acts, g, a, p, nm, tm, la, PA, pn, pc, fst⟩) := Lib.hid (by
      unfold MD.setAct
      rw [e1]
      cases setActOk aa pp <;> rfl)
    clear e1 hva
    subst h0
    unfold MD.cells at HA
    show Calls Try.prog 52 #[.agg #[.int .i64 ph, .int .i64 src, .int .i64 cl, .int .i64 tg, .slice A n cap, .int .i64 acts, .string g, .int .i64 a, .int .i64 p, .int .i64 nm, .bool tm, .int .i64 la, .slice PA pn pc, .int .i64 fst], .int .i64 client, .int .i64 aa, .int .i64 pp] w _
    go_enter Try.func52, Try.ntmps52
    go_wp2_with fail
    refine (HA.out _).mono ?_
    rintro e w2 ⟨rfl, rfl⟩
    have HS := Lib.hid ((((Chg.refl (fun _ => False) w).alloc (.cells #[.int .i64 ph, .int .i64 src, .int .i64 cl, .int .i64 tg, .slice A n cap, .int .i64 acts, .string g, .int .i64 a, .int .i64 p, .int .i64 nm, .bool tm, .int .i64 la, .slice PA pn pc, .int .i64 fst] 56)).alloc (.cells #[.int .i64 0, .int .i64 0, .int .i64 0, .int .i64 0, .slice none 0 0, .int .i64 0, .string ⟨#[]⟩, .int .i64 0, .int .i64 0, .int .i64 0, .bool false, .int .i64 0, .slice none 0 0, .int .i64 0] 56)).alloc (.cells #[.int .i64 ph, .int .i64 src, .int .i64 cl, .int .i64 tg, .slice A n cap, .int .i64 acts, .string g, .int .i64 a, .int .i64 p, .int .i64 nm, .bool tm, .int .i64 la, .slice PA pn pc, .int .i64 fst] 56))
    go_upto_region 4 with (fail)
    go_cut [11] from 19 to 29 (fun v11 wx => v11 = .bool (singleV pp) ∧ wx = ((w.alloc (.cells #[.int .i64 ph, .int .i64 src, .int .i64 cl, .int .i64 tg, .slice A n cap, .int .i64 acts, .string g, .int .i64 a, .int .i64 p, .int .i64 nm, .bool tm, .int .i64 la, .slice PA pn pc, .int .i64 fst] 56)).alloc (.cells #[.int .i64 0, .int .i64 0, .int .i64 0, .int .i64 0, .slice none 0 0, .int .i64 0, .string ⟨#[]⟩, .int .i64 0, .int .i64 0, .int .i64 0, .bool false, .int .i64 0, .slice none 0 0, .int .i64 0] 56)).alloc (.cells #[.int .i64 ph, .int .i64 src, .int .i64 cl, .int .i64 tg, .slice A n cap, .int .i64 acts, .string g, .int .i64 a, .int .i64 p, .int .i64 nm, .bool tm, .int .i64 la, .slice PA pn pc, .int .i64 fst] 56))
    case first =>
      by_cases h1 : pp = 1
      · subst h1
        go_wp2_with fail
        go_meet
        case rel => exact ⟨rfl, rfl⟩
      · by_cases h2 : pp = 2
        · subst h2
          go_wp2_with fail
          go_meet
          case rel => exact ⟨rfl, rfl⟩
        · by_cases h4 : pp = 4
          · subst h4
            go_wp2_with fail
            go_meet
            case rel => exact ⟨rfl, rfl⟩
          · have hs : singleV pp = false := by unfold singleV; simp [h1, h2, h4]
            have e1 : (pp == 1) = false := by simp [h1]
            have e2 : (pp == 2) = false := by simp [h2]
            have e4 : (pp == 4) = false := by simp [h4]
            have HSI := Lib.hid hs
            clear h1 h2 h4 hs
            go_wp2_with fail
            go_meet
            case rel => rw [HSI.out]; exact ⟨rfl, rfl⟩
    case rest =>
      obtain ⟨rfl, rfl⟩ := hcut
      go_upto_region 5 with (fail)
      go_cut [11, 48] from 29 to 49 (fun v11 v48 wx => v48 = .bool (!setActOk aa pp) ∧ wx = ((w.alloc (.cells #[.int .i64 ph, .int .i64 src, .int .i64 cl, .int .i64 tg, .slice A n cap, .int .i64 acts, .string g, .int .i64 a, .int .i64 p, .int .i64 nm, .bool tm, .int .i64 la, .slice PA pn pc, .int .i64 fst] 56)).alloc (.cells #[.int .i64 0, .int .i64 0, .int .i64 0, .int .i64 0, .slice none 0 0, .int .i64 0, .string ⟨#[]⟩, .int .i64 0, .int .i64 0, .int .i64 0, .bool false, .int .i64 0, .slice none 0 0, .int .i64 0] 56)).alloc (.cells #[.int .i64 ph, .int .i64 src, .int .i64 cl, .int .i64 tg, .slice A n cap, .int .i64 acts, .string g, .int .i64 a, .int .i64 p, .int .i64 nm, .bool tm, .int .i64 la, .slice PA pn pc, .int .i64 fst] 56))
      case first =>
        have HSE : Hid (setActOk aa pp = (decide (0 ≤ aa ∧ aa ≤ 7) && (decide (pp = 0) || (singleV pp && decide (bits .and .i64 aa pp ≠ 0))))) := Lib.hid rfl
        by_cases g0 : 0 ≤ aa
        · have hd0 : decide (aa < 0) = false := decide_eq_false (by omega)
          by_cases g7 : aa ≤ 7
          · have hd7 : decide (7 < aa) = false := decide_eq_false (by omega)
            by_cases hp : pp = 0
            · subst hp
              have HQ : Hid (setActOk aa 0 = true) := Lib.hid (by rw [HSE.out, decide_eq_true (And.intro g0 g7)]; rfl)
              go_wp2_with fail
              go_meet
              case rel => rw [HQ.out]; exact ⟨rfl, rfl⟩
            · have hpb : (pp == 0) = false := by simp [hp]
              have hpc : (pp != 0) = true := by simp [hp]
              cases hs : singleV pp
              · have HQ : Hid (setActOk aa pp = false) := Lib.hid (by rw [HSE.out, hs, decide_eq_false hp]; simp)
                clear hs hp
                go_wp2_with fail
                go_meet
                case rel => rw [HQ.out]; exact ⟨rfl, rfl⟩
              · by_cases hb : bits .and .i64 aa pp = 0
                · have HQ : Hid (setActOk aa pp = false) := Lib.hid (by rw [HSE.out, hs, decide_eq_false hp, decide_eq_false (show ¬ (bits .and .i64 aa pp ≠ 0) from fun q => q hb)]; simp)
                  have hbb : (bits .and .i64 aa pp != 0) = false := by simp [hb]
                  have hbc : (bits .and .i64 aa pp == 0) = true := by simp [hb]
                  clear hs hp hb
                  go_wp2_with fail
                  go_meet
                  case rel => rw [HQ.out]; exact ⟨rfl, rfl⟩
                · have HQ : Hid (setActOk aa pp = true) := Lib.hid (by rw [HSE.out, hs, decide_eq_false hp, decide_eq_true (show bits .and .i64 aa pp ≠ 0 from hb), decide_eq_true (And.intro g0 g7)]; rfl)
                  have hbb : (bits .and .i64 aa pp != 0) = true := by simp [hb]
                  have hbc : (bits .and .i64 aa pp == 0) = false := by simp [hb]
                  clear hs hp hb
                  go_wp2_with fail
                  go_meet
                  case rel => rw [HQ.out]; exact ⟨rfl, rfl⟩
          · have HQ : Hid (setActOk aa pp = false) := Lib.hid (by rw [HSE.out, decide_eq_false (fun q => g7 q.2)]; rfl)
            go_wp2_with fail
            go_meet
            case rel => rw [HQ.out]; exact ⟨rfl, rfl⟩
        · have HQ : Hid (setActOk aa pp = false) := Lib.hid (by rw [HSE.out, decide_eq_false (fun q => g0 q.1)]; rfl)
          go_wp2_with fail
          go_meet
          case rel => rw [HQ.out]; exact ⟨rfl, rfl⟩
      case rest =>
        obtain ⟨rfl, rfl⟩ := hcut
        cases hok : setActOk aa pp
        · have e1 : MD.setActE ⟨ph, src, cl, tg, A, n, cap, acts, g, a, p, nm, tm, la, PA, pn, pc, fst⟩ client aa pp = 2 := by rw [HE.out, hok]; rfl
          have e2 : MD.setAct ⟨ph, src, cl, tg, A, n, cap, acts, g, a, p, nm, tm, la, PA, pn, pc, fst⟩ client aa pp = ⟨ph, src, cl, tg, A, n, cap, acts, g, a, p, nm, tm, la, PA, pn, pc, fst⟩ := by rw [HD.out, hok]; rfl
          have HEE := Lib.hid (And.intro e1 e2)
          clear e1 e2 HE HD
          go_wp2
          rw [HEE.out.1, HEE.out.2]
          refine bodyPost_ret (results_cell_tmp Try.results52 rfl (run_load_md (x := ⟨ph, src, cl, tg, A, n, cap, acts, g, a, p, nm, tm, la, PA, pn, pc, fst⟩) (at_new3' _ _ _ _))) rfl ⟨rfl, (((Chg.refl _ _).alloc _).alloc _).alloc _⟩
        · have e1 : MD.setActE ⟨ph, src, cl, tg, A, n, cap, acts, g, a, p, nm, tm, la, PA, pn, pc, fst⟩ client aa pp = 0 := by rw [HE.out, hok]; rfl
          have e2 : MD.setAct ⟨ph, src, cl, tg, A, n, cap, acts, g, a, p, nm, tm, la, PA, pn, pc, fst⟩ client aa pp = ⟨ph, src, cl, tg, A, n, cap, acts, g, aa, pp, nm, tm, la, PA, pn, pc, fst⟩ := by rw [HD.out, hok]; rfl
          have HEE := Lib.hid (And.intro e1 e2)
          clear e1 e2 HE HD
          go_wp2
          rw [HEE.out.1, HEE.out.2]
          refine bodyPost_ret (results_cell_tmp Try.results52 rfl (run_load_md (x := ⟨ph, src, cl, tg, A, n, cap, acts, g, aa, pp, nm, tm, la, PA, pn, pc, fst⟩) (at_new3' _ _ _ _))) rfl ⟨rfl, (((Chg.refl _ _).alloc _).alloc _).alloc _⟩
  · have e1 : MD.setActE ⟨ph, src, cl, tg, A, n, cap, acts, g, a, p, nm, tm, la, PA, pn, pc, fst⟩ client aa pp = va := by unfold MD.setActE; rw [hva, if_pos h0]
    have e2 : MD.setAct ⟨ph, src, cl, tg, A, n, cap, acts, g, a, p, nm, tm, la, PA, pn, pc, fst⟩ client aa pp = ⟨ph, src, cl, tg, A, n, cap, acts, g, a, p, nm, tm, la, PA, pn, pc, fst⟩ := by unfold MD.setAct; rw [if_neg (by rw [e1]; exact h0)]
    have b1 : (va == 0) = false := by simp [h0]
    have b2 : (va != 0) = true := by simp [h0]
    rw [e1, e2]
    clear e1 e2 hva h0
    unfold MD.cells at *
    go_enter Try.func52, Try.ntmps52
    go_wp2_with fail
    refine (HA.out _).mono ?_
    rintro e w2 ⟨rfl, rfl⟩
    go_wp2
    refine bodyPost_ret (results_cell_tmp Try.results52 rfl (run_load_md (x := ⟨ph, src, cl, tg, A, n, cap, acts, g, a, p, nm, tm, la, PA, pn, pc, fst⟩) (at_new3' _ _ _ _))) rfl ⟨rfl, (((Chg.refl _ _).alloc _).alloc _).alloc _⟩
end Go.Proofs.Yteolilggeaffaaa

namespace Go.Proofs.Yteolilggeaffaaa
open Go.RowKit

def MD.zero : MD := ⟨0, 0, 0, 0, none, 0, 0, 0, ⟨#[]⟩, 0, 0, 0, false, 0, none, 0, 0, 0⟩
theorem mnew_ok (w : World) : Calls Try.prog 24 #[] w fun e w' => e = .returned (.agg MD.zero.cells.toArray) ∧ Same w w' := by
  go_enter Try.func24, Try.ntmps24
  go_wp2
  exact bodyPost_ret (results_cell1 Try.results24 rfl (run_load_md (x := MD.zero) (at_new _ _))) rfl ⟨rfl, (Chg.refl _ _).alloc _⟩
end Go.Proofs.Yteolilggeaffaaa
