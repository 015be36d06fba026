/- The walks of package dnd: SetActions, Finish. -/
import Derived.Test.YteolilggeaffaaaDragX
set_option linter.unusedVariables false
set_option linter.unusedSimpArgs false
set_option maxRecDepth 100000
namespace Go.Proofs.Yteolilggeaffaaa
open Go.RowKit

section
variable {w w' : World} {b lb : Nat} {R : Nat → Prop} {d : DSt}
theorem setAct_bad {client a p : Int} (h0 : d.acc client 1 = 0) (h : setActOk a p = false) : d.setActE client a p = 2 ∧ d.setAct client a p = d := by
  have e1 : d.setActE client a p = 2 := by unfold DSt.setActE; rw [h0, if_neg (fun q => q rfl), h, if_neg (by decide)]
  exact ⟨e1, by unfold DSt.setAct; rw [if_neg (by rw [e1]; decide)]⟩
theorem setAct_good {client a p : Int} (h0 : d.acc client 1 = 0) (h : setActOk a p = true) : d.setActE client a p = 0 ∧ d.setAct client a p = { d with ta := a, tp := p } := by
  have e1 : d.setActE client a p = 0 := by unfold DSt.setActE; rw [h0, if_neg (fun q => q rfl), h, if_pos rfl]
  exact ⟨e1, by unfold DSt.setAct; rw [if_pos e1]⟩
theorem setAct_no {client a p : Int} (h0 : ¬ d.acc client 1 = 0) : d.setActE client a p = d.acc client 1 ∧ d.setAct client a p = d := by
  have e1 : d.setActE client a p = d.acc client 1 := by unfold DSt.setActE; rw [if_pos h0]
  exact ⟨e1, by unfold DSt.setAct; rw [if_neg (by rw [e1]; exact h0)]⟩
set_option maxHeartbeats 4000000 in
theorem dsetact_ok (d' : DSt) (v client a p : Int) (h : DragAt w b lb R d) (hv : d.setActE client a p = v) (hd : d.setAct client a p = d') :
    Calls Try.prog 14 #[.pointer (some ⟨b, 0, none⟩), .int .i64 client, .int .i64 a, .int .i64 p] w (DIOut w b lb R d' v) := by
  obtain ⟨va, hva⟩ : ∃ va, d.acc client 1 = va := ⟨_, rfl⟩
  have HA := Lib.hid (daccess_ok va client 1 h hva)
  have HD := Lib.hid h
  obtain ⟨A, n, cap, PA, pn, pcap, h⟩ := h
  have HH := Lib.hid h
  have k7 := h.c7
  have k8 := h.c8
  have f1 := h.fr
  have hlt := h.lt b h.rb
  subst hv hd
  clear h
  by_cases h1 : va = 0
  · have h1s := hva.trans h1
    subst h1
    by_cases h2 : a < 0
    · obtain ⟨e1, e2⟩ := setAct_bad h1s (show setActOk a p = false by unfold setActOk; rw [decide_eq_false (by omega)]; rfl)
      rw [e1, e2]
      clear e1 e2 h1s hva
      go_enter Try.func14, Try.ntmps14
      go_wp2_with fail
      refine HA.out.mono ?_
      rintro e w' ⟨rfl, rfl⟩
      go_wp2
      all_goals (go_ret; exact ⟨rfl, HD.out, Chg.refl _ _⟩)
    · by_cases h3 : 7 < a
      · obtain ⟨e1, e2⟩ := setAct_bad h1s (show setActOk a p = false by unfold setActOk; rw [decide_eq_false (by omega)]; rfl)
        rw [e1, e2]
        clear e1 e2 h1s hva
        go_enter Try.func14, Try.ntmps14
        go_wp2_with fail
        refine HA.out.mono ?_
        rintro e w' ⟨rfl, rfl⟩
        go_wp2
        all_goals (go_ret; exact ⟨rfl, HD.out, Chg.refl _ _⟩)
      · rcases (show p = 0 ∨ p = 1 ∨ p = 2 ∨ p = 4 ∨ (p ≠ 0 ∧ p ≠ 1 ∧ p ≠ 2 ∧ p ≠ 4) by omega) with rfl | rfl | rfl | rfl | ⟨p0, p1, p2, p4⟩
        · obtain ⟨e1, e2⟩ := setAct_good h1s (show setActOk a 0 = true by unfold setActOk; rw [decide_eq_true (by omega)]; rfl)
          rw [e1, e2]
          clear e1 e2 h1s hva
          go_enter Try.func14, Try.ntmps14
          go_wp2_with fail
          refine HA.out.mono ?_
          rintro e w' ⟨rfl, rfl⟩
          go_wp2
          go_ret
          exact ⟨rfl, ⟨A, n, cap, PA, pn, pcap, HH.out.upd { d with ta := a, tp := 0 } rfl rfl rfl HH.out.offs (Chg.set2 (S := fun x => x = b) (Chg.refl _ w) b 7 8 _ _ rfl) (at_setCell (i := 8) _ (at_setCell (i := 7) _ HH.out.at_))⟩, Chg.set2 (S := fun x => x = b) (Chg.refl _ w) b 7 8 _ _ rfl⟩
        · obtain ⟨z, hz⟩ : ∃ z, bits .and .i64 a 1 = z := ⟨_, rfl⟩
          by_cases hz0 : z = 0
          · obtain ⟨e1, e2⟩ := setAct_bad h1s (show setActOk a 1 = false by unfold setActOk; rw [hz, hz0]; simp)
            rw [e1, e2]
            clear e1 e2 h1s hva
            subst hz0
            go_enter Try.func14, Try.ntmps14
            go_wp2_with fail
            refine HA.out.mono ?_
            rintro e w' ⟨rfl, rfl⟩
            go_wp2
            all_goals (go_ret; exact ⟨rfl, HD.out, Chg.refl _ _⟩)
          · obtain ⟨e1, e2⟩ := setAct_good h1s (show setActOk a 1 = true by unfold setActOk; rw [decide_eq_true (by omega), hz, decide_eq_true hz0]; rfl)
            rw [e1, e2]
            have hzb : (z == 0) = false := by simp [hz0]
            have hzc : (z != 0) = true := by simp [hz0]
            clear e1 e2 h1s hva
            go_enter Try.func14, Try.ntmps14
            go_wp2_with fail
            refine HA.out.mono ?_
            rintro e w' ⟨rfl, rfl⟩
            go_wp2
            go_ret
            exact ⟨rfl, ⟨A, n, cap, PA, pn, pcap, HH.out.upd { d with ta := a, tp := 1 } rfl rfl rfl HH.out.offs (Chg.set2 (S := fun x => x = b) (Chg.refl _ w) b 7 8 _ _ rfl) (at_setCell (i := 8) _ (at_setCell (i := 7) _ HH.out.at_))⟩, Chg.set2 (S := fun x => x = b) (Chg.refl _ w) b 7 8 _ _ rfl⟩
        · obtain ⟨z, hz⟩ : ∃ z, bits .and .i64 a 2 = z := ⟨_, rfl⟩
          by_cases hz0 : z = 0
          · obtain ⟨e1, e2⟩ := setAct_bad h1s (show setActOk a 2 = false by unfold setActOk; rw [hz, hz0]; simp)
            rw [e1, e2]
            clear e1 e2 h1s hva
            subst hz0
            go_enter Try.func14, Try.ntmps14
            go_wp2_with fail
            refine HA.out.mono ?_
            rintro e w' ⟨rfl, rfl⟩
            go_wp2
            all_goals (go_ret; exact ⟨rfl, HD.out, Chg.refl _ _⟩)
          · obtain ⟨e1, e2⟩ := setAct_good h1s (show setActOk a 2 = true by unfold setActOk; rw [decide_eq_true (by omega), hz, decide_eq_true hz0]; rfl)
            rw [e1, e2]
            have hzb : (z == 0) = false := by simp [hz0]
            have hzc : (z != 0) = true := by simp [hz0]
            clear e1 e2 h1s hva
            go_enter Try.func14, Try.ntmps14
            go_wp2_with fail
            refine HA.out.mono ?_
            rintro e w' ⟨rfl, rfl⟩
            go_wp2
            go_ret
            exact ⟨rfl, ⟨A, n, cap, PA, pn, pcap, HH.out.upd { d with ta := a, tp := 2 } rfl rfl rfl HH.out.offs (Chg.set2 (S := fun x => x = b) (Chg.refl _ w) b 7 8 _ _ rfl) (at_setCell (i := 8) _ (at_setCell (i := 7) _ HH.out.at_))⟩, Chg.set2 (S := fun x => x = b) (Chg.refl _ w) b 7 8 _ _ rfl⟩
        · obtain ⟨z, hz⟩ : ∃ z, bits .and .i64 a 4 = z := ⟨_, rfl⟩
          by_cases hz0 : z = 0
          · obtain ⟨e1, e2⟩ := setAct_bad h1s (show setActOk a 4 = false by unfold setActOk; rw [hz, hz0]; simp)
            rw [e1, e2]
            clear e1 e2 h1s hva
            subst hz0
            go_enter Try.func14, Try.ntmps14
            go_wp2_with fail
            refine HA.out.mono ?_
            rintro e w' ⟨rfl, rfl⟩
            go_wp2
            all_goals (go_ret; exact ⟨rfl, HD.out, Chg.refl _ _⟩)
          · obtain ⟨e1, e2⟩ := setAct_good h1s (show setActOk a 4 = true by unfold setActOk; rw [decide_eq_true (by omega), hz, decide_eq_true hz0]; rfl)
            rw [e1, e2]
            have hzb : (z == 0) = false := by simp [hz0]
            have hzc : (z != 0) = true := by simp [hz0]
            clear e1 e2 h1s hva
            go_enter Try.func14, Try.ntmps14
            go_wp2_with fail
            refine HA.out.mono ?_
            rintro e w' ⟨rfl, rfl⟩
            go_wp2
            go_ret
            exact ⟨rfl, ⟨A, n, cap, PA, pn, pcap, HH.out.upd { d with ta := a, tp := 4 } rfl rfl rfl HH.out.offs (Chg.set2 (S := fun x => x = b) (Chg.refl _ w) b 7 8 _ _ rfl) (at_setCell (i := 8) _ (at_setCell (i := 7) _ HH.out.at_))⟩, Chg.set2 (S := fun x => x = b) (Chg.refl _ w) b 7 8 _ _ rfl⟩
        · obtain ⟨e1, e2⟩ := setAct_bad h1s (show setActOk a p = false by unfold setActOk; rw [decide_eq_false p0, decide_eq_false p1, decide_eq_false p2, decide_eq_false p4]; simp)
          rw [e1, e2]
          have q0 : (p == 0) = false := by simp [p0]
          have q00 : (p != 0) = true := by simp [p0]
          have q1 : (p == 1) = false := by simp [p1]
          have q2 : (p == 2) = false := by simp [p2]
          have q4 : (p == 4) = false := by simp [p4]
          clear e1 e2 h1s hva
          go_enter Try.func14, Try.ntmps14
          go_wp2_with fail
          refine HA.out.mono ?_
          rintro e w' ⟨rfl, rfl⟩
          go_wp2
          all_goals (go_ret; exact ⟨rfl, HD.out, Chg.refl _ _⟩)
  · obtain ⟨e1, e2⟩ := setAct_no (a := a) (p := p) (show ¬ d.acc client 1 = 0 by rw [hva]; exact h1)
    rw [e1, e2, hva]
    have h1b : (va == 0) = false := by simp [h1]
    clear e1 e2 hva
    go_enter Try.func14, Try.ntmps14
    go_wp2_with fail
    refine HA.out.mono ?_
    rintro e w' ⟨rfl, rfl⟩
    go_wp2
    all_goals (go_ret; exact ⟨rfl, HD.out, Chg.refl _ _⟩)
/-! ### Finish -/
set_option maxHeartbeats 4000000 in
theorem dfinish_ok (d' : DSt) (v client : Int) (h : DragAt w b lb R d) (hv : d.finE client = v) (hd : d.fin client = d') :
    Calls Try.prog 18 #[.pointer (some ⟨b, 0, none⟩), .int .i64 client] w (DIOut w b lb R d' v) := by
  obtain ⟨va, hva⟩ : ∃ va, d.acc client 2 = va := ⟨_, rfl⟩
  have HA := Lib.hid (daccess_ok va client 2 h hva)
  have HE := Lib.hid (dend_ok h)
  have HD := Lib.hid h
  obtain ⟨A, n, cap, PA, pn, pcap, h⟩ := h
  have k12 := h.c12
  have hpn : pn = d.flows.length - d.old := by have := h.pl.1; simpa using this.symm
  have hol := h.oldl
  have hfew := h.few
  subst hv hd
  clear h
  by_cases h1 : va = 0
  · by_cases h2 : d.flows.length = d.old
    · have e1 : d.finE client = 14 := by unfold DSt.finE; rw [hva, if_neg (fun q => q h1), if_pos h2]
      have e2 : d.fin client = d := by unfold DSt.fin; rw [if_neg (by rw [e1]; decide)]
      rw [e1, e2]
      subst h1
      have hp0 : pn = 0 := by omega
      clear e1 e2 hva hpn hol hfew h2
      subst hp0
      go_enter Try.func18, Try.ntmps18
      go_wp2_with fail
      refine HA.out.mono ?_
      rintro e w' ⟨rfl, rfl⟩
      go_wp2
      all_goals (go_ret; exact ⟨rfl, HD.out, Chg.refl _ _⟩)
    · have e1 : d.finE client = 0 := by unfold DSt.finE; rw [hva, if_neg (fun q => q h1), if_neg h2]
      have e2 : d.fin client = d.endS := by unfold DSt.fin; rw [if_pos e1]
      rw [e1, e2]
      subst h1
      have hp0 : ¬ (pn : Int) = 0 := by omega
      have hp1 : ((pn : Int) == 0) = false := by simp; omega
      have hp2 : ¬ pn = 0 := by omega
      clear e1 e2 hva hpn hol hfew h2
      go_enter Try.func18, Try.ntmps18
      go_wp2_with fail
      refine HA.out.mono ?_
      rintro e w' ⟨rfl, rfl⟩
      go_wp2_with fail
      refine HE.out.mono ?_
      rintro e w1 ⟨rfl, hd, hk⟩
      have HX := Lib.hid (And.intro hd hk)
      clear hd hk
      go_wp2
      go_ret
      exact ⟨rfl, HX.out.1, HX.out.2⟩
  · have e1 : d.finE client = va := by unfold DSt.finE; rw [hva, if_pos h1]
    have e2 : d.fin client = d := by unfold DSt.fin; rw [if_neg (by rw [e1]; exact h1)]
    rw [e1, e2]
    have h1b : (va == 0) = false := by simp [h1]
    clear e1 e2 hva hpn hol hfew
    go_enter Try.func18, Try.ntmps18
    go_wp2_with fail
    refine HA.out.mono ?_
    rintro e w' ⟨rfl, rfl⟩
    go_wp2
    all_goals (go_ret; exact ⟨rfl, HD.out, Chg.refl _ _⟩)
end
end Go.Proofs.Yteolilggeaffaaa
