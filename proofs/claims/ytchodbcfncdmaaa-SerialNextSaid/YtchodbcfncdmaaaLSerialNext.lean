/- The walk of SerialNext: for all arguments it returns true and leaves what was there as it was. -/
import Derived.Test.YtchodbcfncdmaaaLight31
import Derived.Test.YtchodbcfncdmaaaNewer
set_option linter.unusedVariables false
set_option linter.unusedSimpArgs false
namespace Go.Proofs.Ytchodbcfncdmaaa
open Go.RowKit

/-- What holds at the head of a round: x is the log in block B, last its last serial. -/
def NextRel (w : World) (B : Nat) (n : Nat) (v4 v5 : Value) (wr : World) : Prop :=
  ∃ (i : Nat) (L : SLog), i ≤ n ∧ v5 = .int .i64 i ∧ v4 = .int .u32 L.last ∧ LogAt wr B L ∧ L.last ≤ i ∧ Same w wr

theorem nxt_small {l : Int} (h : l ≤ 40) : nxt l = l + 1 := by unfold nxt; rw [if_neg (by omega)]
theorem forget_last (L : SLog) (c : Int) : (L.forget c).last = L.last := rfl
theorem newer_next (l : Int) (h0 : 0 ≤ l) (h1 : l ≤ 40) : newerB (l + 1) l = true := by
  rw [newerB_eq]
  have : (l + 1 - l) % 4294967296 = 1 := by omega
  rw [this]; rfl
theorem good_parts (c f k : Int) : good c f k = (decide (1 ≤ c) && decide (0 ≤ f) && decide (0 ≤ k) && decide (k ≤ 62)) := rfl

set_option maxRecDepth 100000 in
set_option maxHeartbeats 2000000 in
theorem SerialNext_walk (A : Option Addr) (len cap : Nat) (l : List LOp) (w : World) (h : OpsAt w A len l) :
    Calls Try.prog 5 #[.slice A len cap] w fun e w' => e = .returned (.bool true) ∧ Same w w' := by
  have hlight := light_ok A len cap l w h
  by_cases hlb : lightB l = true
  · rw [hlb] at hlight
    have hlen40 : len ≤ 40 := by
      unfold lightB at hlb
      simp only [Bool.and_eq_true, decide_eq_true_eq] at hlb
      have := h.1.1
      omega
    have HL := Lib.hid hlight
    have HO := Lib.hid h
    clear hlight h hlb
    go_enter Try.func5, Try.ntmps5
    go_wp2_with fail
    refine HL.out.mono ?_
    rintro e w' ⟨rfl, rfl⟩
    go_wp2_with fail
    refine (new_ok _).mono ?_
    rintro e w1 ⟨rfl, hL1, hs1, hlt1⟩
    generalize hB : w.heap.size = B at *
    have hBw : w.heap.size ≤ B := by omega
    have HB := Lib.hid hB
    have HL1 := Lib.hid hL1
    have HS1 := Lib.hid hs1
    clear hL1 hs1 hB
    go_wp2_with fail
    go_loopw [4, 5] (fun v4 v5 wr => NextRel w B len v4 v5 wr) (fun _ v5 _ => len - (intOf v5).toNat)
    case atStart => exact ⟨0, _, by omega, rfl, rfl, HL1.out, by simp [SLog.new], HS1.out⟩
    case round =>
      obtain ⟨i, L, hi, rfl, rfl, hL, hlast, hs⟩ := hrel
      have hl0 := hL.2.last0
      have hBr : B < wr.heap.size := lt_of_at hL.1
      by_cases hlt2 : i < len
      · have hb2 : (i : Int) < len := by omega
        obtain ⟨b, o, x, rfl, hbw, hx, hc⟩ := HO.out.1.at_ hlt2
        have hbB : b ≠ B := by omega
        have hxo := HO.out.2.1 x (List.mem_of_getElem? hx)
        obtain ⟨k, m, c, s, e, ms, bk⟩ := x
        have c0 := hs.cell (hc 0 _ rfl) (fun q => q)
        have c2 := hs.cell (hc 2 _ rfl) (fun q => q)
        have c3 := hs.cell (hc 3 _ rfl) (fun q => q)
        have c4 := hs.cell (hc 4 _ rfl) (fun q => q)
        simp only [Nat.add_zero] at c0
        simp only at c0 c2 c3 c4
        obtain ⟨_, _, hc2, hs2, he2, _, _⟩ := hxo
        simp only [i64ok] at hc2 hs2 he2
        have HLr := Lib.hid hL
        have HS := Lib.hid hs
        clear hc hx hL hs
        by_cases hk : (k == 1) = true
        · go_wp2_with (go_at_call 17; refine (forget_ok _ _ _ _ HLr.out).mono ?_; rintro e w2 ⟨rfl, hL2, hs2⟩; have HL2 := Lib.hid hL2; have HS2 := Lib.hid (HS.out.then_ hs2 (fun i hi q => by omega)); clear hL2 hs2)
          go_roundw
          case rel => exact ⟨i + 1, L.forget c, by omega, by go_num, rfl, HL2.out, by rw [forget_last]; omega, HS2.out⟩
          case measure => simp [intOf]; omega
        · have hk' : (k == 1) = false := by simpa using hk
          clear hk
          by_cases h1 : 1 ≤ c
          · by_cases h2 : 0 ≤ s
            · by_cases h3 : 0 ≤ e
              · by_cases h4 : e ≤ 62
                · have hg : good c s e = true := by simp [good]; omega
                  have hi1 : L.issueN c s e = L.last + 1 := by unfold SLog.issueN; rw [if_pos hg]; exact nxt_small (by omega)
                  have hi2 : (L.issue c s e).last = L.last + 1 := by unfold SLog.issue; rw [if_pos hg]; exact nxt_small (by omega)
                  have hne : (L.last + 1 != 0) = true := by rw [bne_iff_ne]; omega
                  have hnw := newer_next L.last hl0 (by omega)
                  have HI2 := Lib.hid hi2
                  have HNW := Lib.hid hnw
                  have hl1 : L.last + 1 ≤ 41 := by omega
                  clear hg hi2 hnw
                  go_wp2
                  refine wp_tail 16 (by kernel_rfl) (by kernel_rfl) ?_
                  simp only [List.take_succ_cons, List.take_zero, List.drop_succ_cons, List.drop_zero]
                  repeat still_step
                  try refine wpStill_nil ?_
                  go_wp2_with (first | (go_at_call 12; refine (issue_ok _ _ _ _ _ _ (HLr.out.chg ((Chg.refl (fun _ => False) wr).drew) (fun q => q)) (by omega) (by omega)).mono ?_; rintro e2 w2 ⟨rfl, hL2, hs2⟩; rw [hi1]; have hs2' := (Chg.refl (fun x => x = B) wr).drew.trans hs2; replace c2 := hs2'.cell c2 hbB; replace c3 := hs2'.cell c3 hbB; replace c4 := hs2'.cell c4 hbB; have HL2 := Lib.hid hL2; have HS2 := Lib.hid (HS.out.then_ hs2' (fun i hi q => by omega)); clear hL2 hs2 hs2') | (go_at_call 14; refine (newer_ok _ _ _).mono ?_; rintro e w3 ⟨rfl, rfl⟩; rw [HNW.out]))
                  go_roundw
                  case rel => exact ⟨i + 1, L.issue c s e, by omega, by go_num, by rw [HI2.out], HL2.out, by rw [HI2.out]; omega, HS2.out⟩
                  case measure => simp [intOf]; omega
                · have hg : good c s e = false := by simp [good]; omega
                  have hi1 : L.issueN c s e = 0 := by unfold SLog.issueN; rw [if_neg (by rw [hg]; decide)]
                  have hi2 : L.issue c s e = L := by unfold SLog.issue; rw [if_neg (by rw [hg]; decide)]
                  clear hg
                  go_wp2
                  refine wp_tail 16 (by kernel_rfl) (by kernel_rfl) ?_
                  simp only [List.take_succ_cons, List.take_zero, List.drop_succ_cons, List.drop_zero]
                  repeat still_step
                  try refine wpStill_nil ?_
                  go_wp2_with (first | (go_at_call 12; refine (issue_ok _ _ _ _ _ _ (HLr.out.chg ((Chg.refl (fun _ => False) wr).drew) (fun q => q)) (by omega) (by omega)).mono ?_; rintro e2 w2 ⟨rfl, hL2, hs2⟩; rw [hi1]; rw [hi2] at hL2; have hs2' := (Chg.refl (fun x => x = B) wr).drew.trans hs2; replace c2 := hs2'.cell c2 hbB; replace c3 := hs2'.cell c3 hbB; replace c4 := hs2'.cell c4 hbB; have HL2 := Lib.hid hL2; have HS2 := Lib.hid (HS.out.then_ hs2' (fun i hi q => by omega)); clear hL2 hs2 hs2'))
                  go_roundw
                  case rel => exact ⟨i + 1, L, by omega, by go_num, rfl, HL2.out, by omega, HS2.out⟩
                  case measure => simp [intOf]; omega
              · have hg : good c s e = false := by simp [good]; omega
                have hi1 : L.issueN c s e = 0 := by unfold SLog.issueN; rw [if_neg (by rw [hg]; decide)]
                have hi2 : L.issue c s e = L := by unfold SLog.issue; rw [if_neg (by rw [hg]; decide)]
                clear hg
                go_wp2
                refine wp_tail 16 (by kernel_rfl) (by kernel_rfl) ?_
                simp only [List.take_succ_cons, List.take_zero, List.drop_succ_cons, List.drop_zero]
                repeat still_step
                try refine wpStill_nil ?_
                go_wp2_with (first | (go_at_call 12; refine (issue_ok _ _ _ _ _ _ (HLr.out.chg ((Chg.refl (fun _ => False) wr).drew) (fun q => q)) (by omega) (by omega)).mono ?_; rintro e2 w2 ⟨rfl, hL2, hs2⟩; rw [hi1]; rw [hi2] at hL2; have hs2' := (Chg.refl (fun x => x = B) wr).drew.trans hs2; replace c2 := hs2'.cell c2 hbB; replace c3 := hs2'.cell c3 hbB; replace c4 := hs2'.cell c4 hbB; have HL2 := Lib.hid hL2; have HS2 := Lib.hid (HS.out.then_ hs2' (fun i hi q => by omega)); clear hL2 hs2 hs2'))
                go_roundw
                case rel => exact ⟨i + 1, L, by omega, by go_num, rfl, HL2.out, by omega, HS2.out⟩
                case measure => simp [intOf]; omega
            · have hg : good c s e = false := by simp [good]; omega
              have hi1 : L.issueN c s e = 0 := by unfold SLog.issueN; rw [if_neg (by rw [hg]; decide)]
              have hi2 : L.issue c s e = L := by unfold SLog.issue; rw [if_neg (by rw [hg]; decide)]
              clear hg
              go_wp2
              refine wp_tail 16 (by kernel_rfl) (by kernel_rfl) ?_
              simp only [List.take_succ_cons, List.take_zero, List.drop_succ_cons, List.drop_zero]
              repeat still_step
              try refine wpStill_nil ?_
              go_wp2_with (first | (go_at_call 12; refine (issue_ok _ _ _ _ _ _ (HLr.out.chg ((Chg.refl (fun _ => False) wr).drew) (fun q => q)) (by omega) (by omega)).mono ?_; rintro e2 w2 ⟨rfl, hL2, hs2⟩; rw [hi1]; rw [hi2] at hL2; have hs2' := (Chg.refl (fun x => x = B) wr).drew.trans hs2; replace c2 := hs2'.cell c2 hbB; replace c3 := hs2'.cell c3 hbB; replace c4 := hs2'.cell c4 hbB; have HL2 := Lib.hid hL2; have HS2 := Lib.hid (HS.out.then_ hs2' (fun i hi q => by omega)); clear hL2 hs2 hs2'))
              go_roundw
              case rel => exact ⟨i + 1, L, by omega, by go_num, rfl, HL2.out, by omega, HS2.out⟩
              case measure => simp [intOf]; omega
          · have hg : good c s e = false := by simp [good]; omega
            have hi1 : L.issueN c s e = 0 := by unfold SLog.issueN; rw [if_neg (by rw [hg]; decide)]
            have hi2 : L.issue c s e = L := by unfold SLog.issue; rw [if_neg (by rw [hg]; decide)]
            clear hg
            go_wp2
            refine wp_tail 16 (by kernel_rfl) (by kernel_rfl) ?_
            simp only [List.take_succ_cons, List.take_zero, List.drop_succ_cons, List.drop_zero]
            repeat still_step
            try refine wpStill_nil ?_
            go_wp2_with (first | (go_at_call 12; refine (issue_ok _ _ _ _ _ _ (HLr.out.chg ((Chg.refl (fun _ => False) wr).drew) (fun q => q)) (by omega) (by omega)).mono ?_; rintro e2 w2 ⟨rfl, hL2, hs2⟩; rw [hi1]; rw [hi2] at hL2; have hs2' := (Chg.refl (fun x => x = B) wr).drew.trans hs2; replace c2 := hs2'.cell c2 hbB; replace c3 := hs2'.cell c3 hbB; replace c4 := hs2'.cell c4 hbB; have HL2 := Lib.hid hL2; have HS2 := Lib.hid (HS.out.then_ hs2' (fun i hi q => by omega)); clear hL2 hs2 hs2'))
            go_roundw
            case rel => exact ⟨i + 1, L, by omega, by go_num, rfl, HL2.out, by omega, HS2.out⟩
            case measure => simp [intOf]; omega
      · have hb2 : ¬ (i : Int) < len := by omega
        have HS := Lib.hid hs
        clear hs hL
        go_wp2_with (first | (go_at_call 10; refine (example31_ok _).mono ?_; rintro e w1 ⟨rfl, hs⟩; have HS1 := Lib.hid hs; clear hs))
        go_ret
        exact ⟨rfl, HS.out.trans HS1.out⟩
  · have hlb' : lightB l = false := by simpa using hlb
    rw [hlb'] at hlight
    have HL := Lib.hid hlight
    clear hlight h hlb hlb'
    go_enter Try.func5, Try.ntmps5
    go_wp2_with fail
    refine HL.out.mono ?_
    rintro e w' ⟨rfl, rfl⟩
    go_wp2_with (first | (go_at_call 10; refine (example31_ok _).mono ?_; rintro e w1 ⟨rfl, hs⟩; have HS1 := Lib.hid hs; clear hs))
    go_ret
    exact ⟨rfl, HS1.out⟩
end Go.Proofs.Ytchodbcfncdmaaa
