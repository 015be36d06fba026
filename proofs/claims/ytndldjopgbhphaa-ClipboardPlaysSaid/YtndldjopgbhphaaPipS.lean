/- The walk of package transfer's Read: the loop. -/
import Derived.Test.YtndldjopgbhphaaPipR
set_option linter.unusedVariables false
set_option linter.unusedSimpArgs false
set_option maxRecDepth 100000
namespace Go.Proofs.Ytndldjopgbhphaa
open Go.RowKit

set_option maxRecDepth 100000 in
set_option maxHeartbeats 1000000 in
theorem pread_some (b : Nat) (w : World) (R : Nat → Prop) (q : PSt) (M : Nat) (h : PipeAt w b R q) (he0 : q.rdE M = 0) (hM : (M : Int) ≤ q.bs.length) :
    Calls Try.prog 43 #[.pointer (some ⟨b, 0, none⟩), .int .i64 M] w (ReadOut w b R q M) := by
  have HU := Lib.hid (pusable_at h)
  have hsum := h.ok.sum
  have hwin := h.ok.w1
  have hcr := h.ok.c0
  have c2 := h.c2
  have c3 := h.c3
  have c4 := h.c4
  have hM0 : 0 ≤ (M : Int) := Int.natCast_nonneg _
  have hz : (q.cn || (q.cl && q.bs.isEmpty)) = false := by
    unfold PSt.rdE at he0
    rw [if_neg (by omega)] at he0
    split at he0
    · cases he0
    · rename_i hc; exact (Bool.not_eq_true _).mp hc
  rw [Bool.or_eq_false_iff] at hz
  obtain ⟨hcn, hcl⟩ := hz
  rw [hcn] at c4
  have hh : ∃ c hA hn hcap hx vs ps, PipeHd w b c R q hA hn hcap hx vs ps := by
    rcases h with h | h
    · exact h
    · rw [hcn] at h; exact absurd h.2.1 (by simp)
  obtain ⟨c, hA, hn, hcap', hx', vs, ps, hh⟩ := hh
  have HH := Lib.hid hh
  have hl6 : q.bs.length ≤ 65536 := by omega
  have hKm : q.rdN M = M := by unfold PSt.rdN; rw [if_pos he0, Int.toNat_natCast]; omega
  have HKM := Lib.hid hKm
  have HE0 := Lib.hid he0
  have hbl0 : 0 ≤ (q.bs.length : Int) := Int.natCast_nonneg _
  have hbz : q.cl = true → ((q.bs.length : Int) == 0) = false := by
    intro e
    rw [e, Bool.true_and, List.isEmpty_eq_false_iff] at hcl
    have := List.length_pos_iff.2 hcl
    rw [beq_eq_false_iff_ne]
    omega
  clear h hh hsum hwin hcr hcn hcl hKm he0
  cases hcl : q.cl
  all_goals
    rw [hcl] at c3 hbz
    have HCL := Lib.hid hcl
    first
      | (have hbz2 := hbz rfl; clear hbz hcl)
      | clear hbz hcl
    go_enter Try.func43, Try.ntmps43
    go_wp2_with fail
    refine HU.out.mono ?_
    rintro e w' ⟨rfl, rfl⟩
    go_wp2
    go_loopw [6, 7] (fun v6 v7 wr => ReadRel w b c R q M v6 v7 wr) (fun _ v7 _ => (intOf v7).toNat)
    case atStart => exact ⟨0, by omega, by simp, World.ownsRow_nil _ _ _ _, ⟨hA, hn, hcap', hx', vs, ps, HH.out⟩, Chg.refl _ _⟩
    case round =>
      obtain ⟨k, hk, rfl, hown, ⟨hA0, hn0, hcap0, hx0, vs0, ps0, h0⟩, hc⟩ := hrel
      by_cases hlt : k < M
      · have HO := Lib.hid hown
        have HC := Lib.hid hc
        have HLT := Lib.hid HH.out.lt
        have h1 : (0 : Int) < (M : Int) - k := by omega
        have HF := Lib.hid (pfill_ok _ b c R _ hA0 hn0 hcap0 hx0 vs0 ps0 h0)
        clear hown hc h0
        go_wp2_with fail
        refine HF.out.mono ?_
        rintro e w1 ⟨rfl, hA1, hn1, hcap1, hx1, vs1, ps1, hh1, hne, hc1⟩
        have hpos : 0 < hn1 := by
          rcases Nat.eq_zero_or_pos hn1 with hz | hz
          · have := hne (List.length_eq_zero_iff.1 (by have := hh1.hd.1; omega))
            have h2 : (q.bs.drop k).length = 0 := by rw [show q.bs.drop k = [] from this]; rfl
            rw [List.length_drop] at h2
            omega
          · exact hz
        have c26 : w1.cell? ⟨b, 6, none⟩ = some (.slice hA1 hn1 hcap1) := by rw [cell_at hh1.at_]; rfl
        have HL2 : Hid (_ = _) := Lib.hid (pcells_len q k (by omega) (some c) (.slice hA1 hn1 hcap1))
        have HH1 := Lib.hid hh1
        have HC1 := Lib.hid (HC.out.trans hc1)
        have HOW := Lib.hid (HO.out.chgR hc1 HLT.out)
        have hn6 : hn1 ≤ 65536 := by
          have h1 := hh1.hd.1
          have h2 := hh1.bs
          have h3 : (q.bs.drop k).length = hx1.length + ps1.flatten.length := by rw [show q.bs.drop k = _ from h2, List.length_append]
          rw [List.length_drop] at h3
          omega
        have hcp : hn1 ≤ hcap1 := hh1.hd.2.1
        have hcm : hcap1 ≤ 9223372036854775807 := by have := hh1.hd.2.2.1; unfold maxLen at this; omega
        have HSZ := Lib.hid HC1.out.size
        clear hh1 hc1 hne c2 c3 c4
        try clear hbz2
        by_cases hmn : (M : Int) - k ≤ hn1
        · go_wp2_with (at_builtin; refine wpl_appendB w.heap.size _ k (q.bs.take k) HOW.out rfl hA1 (M - k) hcap1 (hx1.take (M - k)) rfl (HH1.out.hd.take (by omega)) (by omega) (by omega) HSZ.out ?_; intro g capg w2 hown hkk hg hlt2; have HOWN := Lib.hid hown; have HK := Lib.hid (chg_own HO.out hkk); have HH2 := Lib.hid (HH1.out.chg HK.out (fun x hx q => by have := HLT.out x hx; omega)); have d6 : w2.cell? ⟨b, 6, none⟩ = some (.slice hA1 hn1 hcap1) := by { rw [cell_at HH2.out.at_]; rfl }; have d2 : w2.cell? ⟨b, 2, none⟩ = some (.int .i64 ((q.bs.length : Int) - k)) := by { rw [cell_at HH2.out.at_]; exact HL2.out }; have fr2 := frozen_at HH2.out.at_; clear hown hkk hg hlt2 c26)
          go_roundw
          case rel =>
            have hfin := readrel_step (K := M) (j := (M - k)) (vw := 0) (vl := (q.bs.length : Int) - k - ((M : Int) - k)) (by omega) (by omega) (by omega) HC1.out HK.out HH2.out HOWN.out HLT.out (by omega) (by omega)
            rw [show k + (M - k) = M by omega] at hfin
            exact hfin
          case measure => simp [intOf]; omega
        · go_wp2_with (at_builtin; refine wpl_appendB w.heap.size _ k (q.bs.take k) HOW.out rfl hA1 hn1 hcap1 (hx1.take hn1) rfl (HH1.out.hd.take (by omega)) (by omega) (by omega) HSZ.out ?_; intro g capg w2 hown hkk hg hlt2; have HOWN := Lib.hid hown; have HK := Lib.hid (chg_own HO.out hkk); have HH2 := Lib.hid (HH1.out.chg HK.out (fun x hx q => by have := HLT.out x hx; omega)); have d6 : w2.cell? ⟨b, 6, none⟩ = some (.slice hA1 hn1 hcap1) := by { rw [cell_at HH2.out.at_]; rfl }; have d2 : w2.cell? ⟨b, 2, none⟩ = some (.int .i64 ((q.bs.length : Int) - k)) := by { rw [cell_at HH2.out.at_]; exact HL2.out }; have fr2 := frozen_at HH2.out.at_; clear hown hkk hg hlt2 c26)
          go_roundw
          case rel =>
            have hfin := readrel_step (K := M) (j := hn1) (vw := (M : Int) - k - hn1) (vl := (q.bs.length : Int) - k - hn1) (by omega) (by omega) (by omega) HC1.out HK.out HH2.out HOWN.out HLT.out (by omega) (by omega)
            rw [Nat.sub_self] at hfin
            exact hfin
          case measure => simp [intOf]; omega
      · have hKk : k = M := by omega
        have h1 : ¬ (0 : Int) < (M : Int) - k := by omega
        subst hKk
        have HF := Lib.hid (read_end HE0.out HKM.out hown ⟨hA0, hn0, hcap0, hx0, vs0, ps0, h0⟩ hc)
        clear hown hc h0 hlt c2 c3 c4
        go_wp2
        go_ret2
        exact HF.out

set_option maxRecDepth 100000 in
set_option maxHeartbeats 1000000 in
theorem pread_all (b : Nat) (w : World) (R : Nat → Prop) (q : PSt) (M : Nat) (h : PipeAt w b R q) (he0 : q.rdE M = 0) (hM : (q.bs.length : Int) < M) :
    Calls Try.prog 43 #[.pointer (some ⟨b, 0, none⟩), .int .i64 M] w (ReadOut w b R q M) := by
  have HU := Lib.hid (pusable_at h)
  have hsum := h.ok.sum
  have hwin := h.ok.w1
  have hcr := h.ok.c0
  have c2 := h.c2
  have c3 := h.c3
  have c4 := h.c4
  have hM0 : 0 ≤ (M : Int) := Int.natCast_nonneg _
  have hz : (q.cn || (q.cl && q.bs.isEmpty)) = false := by
    unfold PSt.rdE at he0
    rw [if_neg (by omega)] at he0
    split at he0
    · cases he0
    · rename_i hc; exact (Bool.not_eq_true _).mp hc
  rw [Bool.or_eq_false_iff] at hz
  obtain ⟨hcn, hcl⟩ := hz
  rw [hcn] at c4
  have hh : ∃ c hA hn hcap hx vs ps, PipeHd w b c R q hA hn hcap hx vs ps := by
    rcases h with h | h
    · exact h
    · rw [hcn] at h; exact absurd h.2.1 (by simp)
  obtain ⟨c, hA, hn, hcap', hx', vs, ps, hh⟩ := hh
  have HH := Lib.hid hh
  have hl6 : q.bs.length ≤ 65536 := by omega
  have hKm : q.rdN M = q.bs.length := by unfold PSt.rdN; rw [if_pos he0, Int.toNat_natCast]; omega
  have HKM := Lib.hid hKm
  have HE0 := Lib.hid he0
  have hbl0 : 0 ≤ (q.bs.length : Int) := Int.natCast_nonneg _
  have hbz : q.cl = true → ((q.bs.length : Int) == 0) = false := by
    intro e
    rw [e, Bool.true_and, List.isEmpty_eq_false_iff] at hcl
    have := List.length_pos_iff.2 hcl
    rw [beq_eq_false_iff_ne]
    omega
  clear h hh hsum hwin hcr hcn hcl hKm he0
  cases hcl : q.cl
  all_goals
    rw [hcl] at c3 hbz
    have HCL := Lib.hid hcl
    first
      | (have hbz2 := hbz rfl; clear hbz hcl)
      | clear hbz hcl
    go_enter Try.func43, Try.ntmps43
    go_wp2_with fail
    refine HU.out.mono ?_
    rintro e w' ⟨rfl, rfl⟩
    go_wp2
    go_loopw [6, 7] (fun v6 v7 wr => ReadRel w b c R q q.bs.length v6 v7 wr) (fun _ v7 _ => (intOf v7).toNat)
    case atStart => exact ⟨0, by omega, by simp, World.ownsRow_nil _ _ _ _, ⟨hA, hn, hcap', hx', vs, ps, HH.out⟩, Chg.refl _ _⟩
    case round =>
      obtain ⟨k, hk, rfl, hown, ⟨hA0, hn0, hcap0, hx0, vs0, ps0, h0⟩, hc⟩ := hrel
      by_cases hlt : k < q.bs.length
      · have HO := Lib.hid hown
        have HC := Lib.hid hc
        have HLT := Lib.hid HH.out.lt
        have h1 : (0 : Int) < (q.bs.length : Int) - k := by omega
        have HF := Lib.hid (pfill_ok _ b c R _ hA0 hn0 hcap0 hx0 vs0 ps0 h0)
        clear hown hc h0
        go_wp2_with fail
        refine HF.out.mono ?_
        rintro e w1 ⟨rfl, hA1, hn1, hcap1, hx1, vs1, ps1, hh1, hne, hc1⟩
        have hpos : 0 < hn1 := by
          rcases Nat.eq_zero_or_pos hn1 with hz | hz
          · have := hne (List.length_eq_zero_iff.1 (by have := hh1.hd.1; omega))
            have h2 : (q.bs.drop k).length = 0 := by rw [show q.bs.drop k = [] from this]; rfl
            rw [List.length_drop] at h2
            omega
          · exact hz
        have c26 : w1.cell? ⟨b, 6, none⟩ = some (.slice hA1 hn1 hcap1) := by rw [cell_at hh1.at_]; rfl
        have HL2 : Hid (_ = _) := Lib.hid (pcells_len q k (by omega) (some c) (.slice hA1 hn1 hcap1))
        have HH1 := Lib.hid hh1
        have HC1 := Lib.hid (HC.out.trans hc1)
        have HOW := Lib.hid (HO.out.chgR hc1 HLT.out)
        have hn6 : hn1 ≤ 65536 := by
          have h1 := hh1.hd.1
          have h2 := hh1.bs
          have h3 : (q.bs.drop k).length = hx1.length + ps1.flatten.length := by rw [show q.bs.drop k = _ from h2, List.length_append]
          rw [List.length_drop] at h3
          omega
        have hcp : hn1 ≤ hcap1 := hh1.hd.2.1
        have hcm : hcap1 ≤ 9223372036854775807 := by have := hh1.hd.2.2.1; unfold maxLen at this; omega
        have HSZ := Lib.hid HC1.out.size
        clear hh1 hc1 hne c2 c3 c4
        try clear hbz2
        by_cases hmn : (q.bs.length : Int) - k ≤ hn1
        · go_wp2_with (at_builtin; refine wpl_appendB w.heap.size _ k (q.bs.take k) HOW.out rfl hA1 (q.bs.length - k) hcap1 (hx1.take (q.bs.length - k)) rfl (HH1.out.hd.take (by omega)) (by omega) (by omega) HSZ.out ?_; intro g capg w2 hown hkk hg hlt2; have HOWN := Lib.hid hown; have HK := Lib.hid (chg_own HO.out hkk); have HH2 := Lib.hid (HH1.out.chg HK.out (fun x hx q => by have := HLT.out x hx; omega)); have d6 : w2.cell? ⟨b, 6, none⟩ = some (.slice hA1 hn1 hcap1) := by { rw [cell_at HH2.out.at_]; rfl }; have d2 : w2.cell? ⟨b, 2, none⟩ = some (.int .i64 ((q.bs.length : Int) - k)) := by { rw [cell_at HH2.out.at_]; exact HL2.out }; have fr2 := frozen_at HH2.out.at_; clear hown hkk hg hlt2 c26)
          go_roundw
          case rel =>
            have hfin := readrel_step (K := q.bs.length) (j := (q.bs.length - k)) (vw := 0) (vl := 0) (by omega) (by omega) (by omega) HC1.out HK.out HH2.out HOWN.out HLT.out (by omega) (by omega)
            rw [show k + (q.bs.length - k) = q.bs.length by omega] at hfin
            exact hfin
          case measure => simp [intOf]; omega
        · go_wp2_with (at_builtin; refine wpl_appendB w.heap.size _ k (q.bs.take k) HOW.out rfl hA1 hn1 hcap1 (hx1.take hn1) rfl (HH1.out.hd.take (by omega)) (by omega) (by omega) HSZ.out ?_; intro g capg w2 hown hkk hg hlt2; have HOWN := Lib.hid hown; have HK := Lib.hid (chg_own HO.out hkk); have HH2 := Lib.hid (HH1.out.chg HK.out (fun x hx q => by have := HLT.out x hx; omega)); have d6 : w2.cell? ⟨b, 6, none⟩ = some (.slice hA1 hn1 hcap1) := by { rw [cell_at HH2.out.at_]; rfl }; have d2 : w2.cell? ⟨b, 2, none⟩ = some (.int .i64 ((q.bs.length : Int) - k)) := by { rw [cell_at HH2.out.at_]; exact HL2.out }; have fr2 := frozen_at HH2.out.at_; clear hown hkk hg hlt2 c26)
          go_roundw
          case rel =>
            have hfin := readrel_step (K := q.bs.length) (j := hn1) (vw := (q.bs.length : Int) - k - hn1) (vl := (q.bs.length : Int) - k - hn1) (by omega) (by omega) (by omega) HC1.out HK.out HH2.out HOWN.out HLT.out (by omega) (by omega)
            rw [Nat.sub_self] at hfin
            exact hfin
          case measure => simp [intOf]; omega
      · have hKk : k = q.bs.length := by omega
        have h1 : ¬ (0 : Int) < (q.bs.length : Int) - k := by omega
        subst hKk
        have HF := Lib.hid (read_end HE0.out HKM.out hown ⟨hA0, hn0, hcap0, hx0, vs0, ps0, h0⟩ hc)
        clear hown hc h0 hlt c2 c3 c4
        go_wp2
        go_ret2
        exact HF.out

theorem pread_ok (b : Nat) (w : World) (R : Nat → Prop) (q : PSt) (m : Int) (h : PipeAt w b R q) :
    Calls Try.prog 43 #[.pointer (some ⟨b, 0, none⟩), .int .i64 m] w (ReadOut w b R q m) := by
  by_cases he : q.rdE m = 0
  · have h0 : ¬ m < 0 := by
      intro h6
      unfold PSt.rdE at he
      rw [if_pos h6] at he
      cases he
    obtain ⟨M, rfl⟩ : ∃ M : Nat, m = (M : Int) := ⟨m.toNat, by omega⟩
    by_cases hM : (M : Int) ≤ q.bs.length
    · exact pread_some b w R q M h he hM
    · exact pread_all b w R q M h he (by omega)
  · exact pread_bad b w R q m h he
end Go.Proofs.Ytndldjopgbhphaa
