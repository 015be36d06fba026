/- Parts of the walk, packed: DragY, DragF. -/
import Derived.Test.YteolilggeaffaaaPk11
import Derived.Deep.AppendLies
import Derived.Deep.LoopGhost
set_option linter.unusedVariables false
set_option linter.unusedSimpArgs false
set_option maxRecDepth 100000
namespace Go.Proofs.Yteolilggeaffaaa
open Go.RowKit

section
variable {w w' : World} {b lb : Nat} {R : Nat → Prop} {d : DSt}
theorem setAct_bad {client a p : Int} (h0 : d.acc client 1 = 0) (h : setActOk a p = false) : d.setActE client a p = 2 ∧ d.setAct client a p = d := by
  have e1 : d.setActE client a p = 2 := by unfold DSt.setActE; rw [h0, if_neg (fun q => q rfl), h, if_neg (by decide)]
  exact ⟨e1, by unfold DSt.setAct; rw [if_neg (by rw [e1]; decide)]⟩
theorem setAct_good {client a p : Int} (h0 : d.acc client 1 = 0) (h : setActOk a p = true) : d.setActE client a p = 0 ∧ d.setAct client a p = { d with ta := a, tp := p } := by
  have e1 : d.setActE client a p = 0 := by unfold DSt.setActE; rw [h0, if_neg (fun q => q rfl), h, if_pos rfl]
  exact ⟨e1, by unfold DSt.setAct; rw [if_pos e1]⟩
theorem setAct_no {client a p : Int} (h0 : ¬ d.acc client 1 = 0) : d.setActE client a p = d.acc client 1 ∧ d.setAct client a p = d := by
  have e1 : d.setActE client a p = d.acc client 1 := by unfold DSt.setActE; rw [if_pos h0]
  exact ⟨e1, by unfold DSt.setAct; rw [if_neg (by rw [e1]; exact h0)]⟩
set_option maxHeartbeats 4000000 in
theorem dsetact_ok (d' : DSt) (v client a p : Int) (h : DragAt w b lb R d) (hv : d.setActE client a p = v) (hd : d.setAct client a p = d') :
    Calls Try.prog 14 #[.pointer (some ⟨b, 0, none⟩), .int .i64 client, .int .i64 a, .int .i64 p] w (DIOut w b lb R d' v) := by
  obtain ⟨va, hva⟩ : ∃ va, d.acc client 1 = va := ⟨_, rfl⟩
  have HA := Lib.hid (daccess_ok va client 1 h hva)
  have HD := Lib.hid h
  obtain ⟨A, n, cap, PA, pn, pcap, h⟩ := h
  have HH := Lib.hid h
  have k7 := h.c7
  have k8 := h.c8
  have f1 := h.fr
  have hlt := h.lt b h.rb
  subst hv hd
  clear h
  by_cases h1 : va = 0
  · have h1s := hva.trans h1
    subst h1
    by_cases h2 : a < 0
    · obtain ⟨e1, e2⟩ := setAct_bad h1s (show setActOk a p = false by unfold setActOk; rw [decide_eq_false (by omega)]; rfl)
      rw [e1, e2]
      clear e1 e2 h1s hva
      go_enter Try.func14, Try.ntmps14
      go_wp2_with fail
      refine HA.out.mono ?_
      rintro e w' ⟨rfl, rfl⟩
      go_wp2
      all_goals (go_ret; exact ⟨rfl, HD.out, Chg.refl _ _⟩)
    · by_cases h3 : 7 < a
      · obtain ⟨e1, e2⟩ := setAct_bad h1s (show setActOk a p = false by unfold setActOk; rw [decide_eq_false (by omega)]; rfl)
        rw [e1, e2]
        clear e1 e2 h1s hva
        go_enter Try.func14, Try.ntmps14
        go_wp2_with fail
        refine HA.out.mono ?_
        rintro e w' ⟨rfl, rfl⟩
        go_wp2
        all_goals (go_ret; exact ⟨rfl, HD.out, Chg.refl _ _⟩)
      · rcases (show p = 0 ∨ p = 1 ∨ p = 2 ∨ p = 4 ∨ (p ≠ 0 ∧ p ≠ 1 ∧ p ≠ 2 ∧ p ≠ 4) by omega) with rfl | rfl | rfl | rfl | ⟨p0, p1, p2, p4⟩
        · obtain ⟨e1, e2⟩ := setAct_good h1s (show setActOk a 0 = true by unfold setActOk; rw [decide_eq_true (by omega)]; rfl)
          rw [e1, e2]
          clear e1 e2 h1s hva
          go_enter Try.func14, Try.ntmps14
          go_wp2_with fail
          refine HA.out.mono ?_
          rintro e w' ⟨rfl, rfl⟩
          go_wp2
          go_ret
          exact ⟨rfl, ⟨A, n, cap, PA, pn, pcap, HH.out.upd { d with ta := a, tp := 0 } rfl rfl rfl HH.out.offs (Chg.set2 (S := fun x => x = b) (Chg.refl _ w) b 7 8 _ _ rfl) (at_setCell (i := 8) _ (at_setCell (i := 7) _ HH.out.at_))⟩, Chg.set2 (S := fun x => x = b) (Chg.refl _ w) b 7 8 _ _ rfl⟩
        · obtain ⟨z, hz⟩ : ∃ z, bits .and .i64 a 1 = z := ⟨_, rfl⟩
          by_cases hz0 : z = 0
          · obtain ⟨e1, e2⟩ := setAct_bad h1s (show setActOk a 1 = false by unfold setActOk; rw [hz, hz0]; simp)
            rw [e1, e2]
            clear e1 e2 h1s hva
            subst hz0
            go_enter Try.func14, Try.ntmps14
            go_wp2_with fail
            refine HA.out.mono ?_
            rintro e w' ⟨rfl, rfl⟩
            go_wp2
            all_goals (go_ret; exact ⟨rfl, HD.out, Chg.refl _ _⟩)
          · obtain ⟨e1, e2⟩ := setAct_good h1s (show setActOk a 1 = true by unfold setActOk; rw [decide_eq_true (by omega), hz, decide_eq_true hz0]; rfl)
            rw [e1, e2]
            have hzb : (z == 0) = false := by simp [hz0]
            have hzc : (z != 0) = true := by simp [hz0]
            clear e1 e2 h1s hva
            go_enter Try.func14, Try.ntmps14
            go_wp2_with fail
            refine HA.out.mono ?_
            rintro e w' ⟨rfl, rfl⟩
            go_wp2
            go_ret
            exact ⟨rfl, ⟨A, n, cap, PA, pn, pcap, HH.out.upd { d with ta := a, tp := 1 } rfl rfl rfl HH.out.offs (Chg.set2 (S := fun x => x = b) (Chg.refl _ w) b 7 8 _ _ rfl) (at_setCell (i := 8) _ (at_setCell (i := 7) _ HH.out.at_))⟩, Chg.set2 (S := fun x => x = b) (Chg.refl _ w) b 7 8 _ _ rfl⟩
        · obtain ⟨z, hz⟩ : ∃ z, bits .and .i64 a 2 = z := ⟨_, rfl⟩
          by_cases hz0 : z = 0
          · obtain ⟨e1, e2⟩ := setAct_bad h1s (show setActOk a 2 = false by unfold setActOk; rw [hz, hz0]; simp)
            rw [e1, e2]
            clear e1 e2 h1s hva
            subst hz0
            go_enter Try.func14, Try.ntmps14
            go_wp2_with fail
            refine HA.out.mono ?_
            rintro e w' ⟨rfl, rfl⟩
            go_wp2
            all_goals (go_ret; exact ⟨rfl, HD.out, Chg.refl _ _⟩)
          · obtain ⟨e1, e2⟩ := setAct_good h1s (show setActOk a 2 = true by unfold setActOk; rw [decide_eq_true (by omega), hz, decide_eq_true hz0]; rfl)
            rw [e1, e2]
            have hzb : (z == 0) = false := by simp [hz0]
            have hzc : (z != 0) = true := by simp [hz0]
            clear e1 e2 h1s hva
            go_enter Try.func14, Try.ntmps14
            go_wp2_with fail
            refine HA.out.mono ?_
            rintro e w' ⟨rfl, rfl⟩
            go_wp2
            go_ret
            exact ⟨rfl, ⟨A, n, cap, PA, pn, pcap, HH.out.upd { d with ta := a, tp := 2 } rfl rfl rfl HH.out.offs (Chg.set2 (S := fun x => x = b) (Chg.refl _ w) b 7 8 _ _ rfl) (at_setCell (i := 8) _ (at_setCell (i := 7) _ HH.out.at_))⟩, Chg.set2 (S := fun x => x = b) (Chg.refl _ w) b 7 8 _ _ rfl⟩
        · obtain ⟨z, hz⟩ : ∃ z, bits .and .i64 a 4 = z := ⟨_, rfl⟩
          by_cases hz0 : z = 0
          · obtain ⟨e1, e2⟩ := setAct_bad h1s (show setActOk a 4 = false by unfold setActOk; rw [hz, hz0]; simp)
            rw [e1, e2]
            clear e1 e2 h1s hva
            subst hz0
            go_enter Try.func14, Try.ntmps14
            go_wp2_with fail
            refine HA.out.mono ?_
            rintro e w' ⟨rfl, rfl⟩
            go_wp2
            all_goals (go_ret; exact ⟨rfl, HD.out, Chg.refl _ _⟩)
          · obtain ⟨e1, e2⟩ := setAct_good h1s (show setActOk a 4 = true by unfold setActOk; rw [decide_eq_true (by omega), hz, decide_eq_true hz0]; rfl)
            rw [e1, e2]
            have hzb : (z == 0) = false := by simp [hz0]
            have hzc : (z != 0) = true := by simp [hz0]
            clear e1 e2 h1s hva
            go_enter Try.func14, Try.ntmps14
            go_wp2_with fail
            refine HA.out.mono ?_
            rintro e w' ⟨rfl, rfl⟩
            go_wp2
            go_ret
            exact ⟨rfl, ⟨A, n, cap, PA, pn, pcap, HH.out.upd { d with ta := a, tp := 4 } rfl rfl rfl HH.out.offs (Chg.set2 (S := fun x => x = b) (Chg.refl _ w) b 7 8 _ _ rfl) (at_setCell (i := 8) _ (at_setCell (i := 7) _ HH.out.at_))⟩, Chg.set2 (S := fun x => x = b) (Chg.refl _ w) b 7 8 _ _ rfl⟩
        · obtain ⟨e1, e2⟩ := setAct_bad h1s (show setActOk a p = false by unfold setActOk; rw [decide_eq_false p0, decide_eq_false p1, decide_eq_false p2, decide_eq_false p4]; simp)
          rw [e1, e2]
          have q0 : (p == 0) = false := by simp [p0]
          have q00 : (p != 0) = true := by simp [p0]
          have q1 : (p == 1) = false := by simp [p1]
          have q2 : (p == 2) = false := by simp [p2]
          have q4 : (p == 4) = false := by simp [p4]
          clear e1 e2 h1s hva
          go_enter Try.func14, Try.ntmps14
          go_wp2_with fail
          refine HA.out.mono ?_
          rintro e w' ⟨rfl, rfl⟩
          go_wp2
          all_goals (go_ret; exact ⟨rfl, HD.out, Chg.refl _ _⟩)
  · obtain ⟨e1, e2⟩ := setAct_no (a := a) (p := p) (show ¬ d.acc client 1 = 0 by rw [hva]; exact h1)
    rw [e1, e2, hva]
    have h1b : (va == 0) = false := by simp [h1]
    clear e1 e2 hva
    go_enter Try.func14, Try.ntmps14
    go_wp2_with fail
    refine HA.out.mono ?_
    rintro e w' ⟨rfl, rfl⟩
    go_wp2
    all_goals (go_ret; exact ⟨rfl, HD.out, Chg.refl _ _⟩)
/-! ### Finish -/
set_option maxHeartbeats 4000000 in
theorem dfinish_ok (d' : DSt) (v client : Int) (h : DragAt w b lb R d) (hv : d.finE client = v) (hd : d.fin client = d') :
    Calls Try.prog 18 #[.pointer (some ⟨b, 0, none⟩), .int .i64 client] w (DIOut w b lb R d' v) := by
  obtain ⟨va, hva⟩ : ∃ va, d.acc client 2 = va := ⟨_, rfl⟩
  have HA := Lib.hid (daccess_ok va client 2 h hva)
  have HE := Lib.hid (dend_ok h)
  have HD := Lib.hid h
  obtain ⟨A, n, cap, PA, pn, pcap, h⟩ := h
  have k12 := h.c12
  have hpn : pn = d.flows.length - d.old := by have := h.pl.1; simpa using this.symm
  have hol := h.oldl
  have hfew := h.few
  subst hv hd
  clear h
  by_cases h1 : va = 0
  · by_cases h2 : d.flows.length = d.old
    · have e1 : d.finE client = 14 := by unfold DSt.finE; rw [hva, if_neg (fun q => q h1), if_pos h2]
      have e2 : d.fin client = d := by unfold DSt.fin; rw [if_neg (by rw [e1]; decide)]
      rw [e1, e2]
      subst h1
      have hp0 : pn = 0 := by omega
      clear e1 e2 hva hpn hol hfew h2
      subst hp0
      go_enter Try.func18, Try.ntmps18
      go_wp2_with fail
      refine HA.out.mono ?_
      rintro e w' ⟨rfl, rfl⟩
      go_wp2
      all_goals (go_ret; exact ⟨rfl, HD.out, Chg.refl _ _⟩)
    · have e1 : d.finE client = 0 := by unfold DSt.finE; rw [hva, if_neg (fun q => q h1), if_neg h2]
      have e2 : d.fin client = d.endS := by unfold DSt.fin; rw [if_pos e1]
      rw [e1, e2]
      subst h1
      have hp0 : ¬ (pn : Int) = 0 := by omega
      have hp1 : ((pn : Int) == 0) = false := by simp; omega
      have hp2 : ¬ pn = 0 := by omega
      clear e1 e2 hva hpn hol hfew h2
      go_enter Try.func18, Try.ntmps18
      go_wp2_with fail
      refine HA.out.mono ?_
      rintro e w' ⟨rfl, rfl⟩
      go_wp2_with fail
      refine HE.out.mono ?_
      rintro e w1 ⟨rfl, hd, hk⟩
      have HX := Lib.hid (And.intro hd hk)
      clear hd hk
      go_wp2
      go_ret
      exact ⟨rfl, HX.out.1, HX.out.2⟩
  · have e1 : d.finE client = va := by unfold DSt.finE; rw [hva, if_pos h1]
    have e2 : d.fin client = d := by unfold DSt.fin; rw [if_neg (by rw [e1]; exact h1)]
    rw [e1, e2]
    have h1b : (va == 0) = false := by simp [h1]
    clear e1 e2 hva hpn hol hfew
    go_enter Try.func18, Try.ntmps18
    go_wp2_with fail
    refine HA.out.mono ?_
    rintro e w' ⟨rfl, rfl⟩
    go_wp2
    all_goals (go_ret; exact ⟨rfl, HD.out, Chg.refl _ _⟩)
end
end Go.Proofs.Yteolilggeaffaaa

namespace Go.Proofs.Yteolilggeaffaaa
open Go.RowKit

theorem dflows_apart {l : List DFlow} (h : l.Pairwise fun x y => ∀ i, x.R i → ¬ y.R i) {i j : Nat} {x z : DFlow} (hi : l[i]? = some x) (hj : l[j]? = some z) (hne : i ≠ j) : ∀ a, x.R a → ¬ z.R a := by
  rw [List.pairwise_iff_getElem] at h
  obtain ⟨li, rfl⟩ := List.getElem?_eq_some_iff.1 hi
  obtain ⟨lj, rfl⟩ := List.getElem?_eq_some_iff.1 hj
  intro a h1 h2
  rcases Nat.lt_or_gt_of_ne hne with hlt | hlt
  · exact h i j li lj hlt a h1 h2
  · exact h j i lj li hlt a h2 h1
theorem dset_mem {l : List DFlow} {i : Nat} {x z : DFlow} {q2 : PSt} (hx : l[i]? = some x) (h : z ∈ l.set i { x with q := q2 }) : z = { x with q := q2 } ∨ ∃ j, j ≠ i ∧ l[j]? = some z := by
  obtain ⟨j, hj⟩ := List.mem_iff_getElem?.1 h
  rw [List.getElem?_set] at hj
  split at hj
  · split at hj
    · cases hj; exact .inl rfl
    · cases hj
  · rename_i hne
    exact .inr ⟨j, fun e => hne e.symm, hj⟩
theorem dset_ptr {l : List DFlow} {i : Nat} {x : DFlow} {q2 : PSt} (hx : l[i]? = some x) : (l.set i { x with q := q2 }).map DFlow.ptr = l.map DFlow.ptr := by
  apply List.ext_getElem?
  intro j
  rw [List.getElem?_map, List.getElem?_map, List.getElem?_set]
  by_cases e : i = j
  · subst e
    have := (List.getElem?_eq_some_iff.1 hx).1
    rw [if_pos rfl, if_pos this, hx]
    rfl
  · rw [if_neg e]
section
variable {w w' : World} {b lb : Nat} {R : Nat → Prop} {d : DSt} {A PA : Option Addr} {n cap pn pcap : Nat}
theorem DragHd.flow (h : DragHd w b lb R d A n cap PA pn pcap) {i : Nat} {x : DFlow} (hx : d.flows[i]? = some x) {q2 : PSt} (k : Chg x.R w w') (hp : PipeAt w' x.pb x.R q2) :
    DragHd w' b lb R { d with flows := d.flows.set i { x with q := q2 } } A n cap PA pn pcap := by
  have hxm := List.mem_of_getElem? hx
  have hsub := h.sub x hxm
  refine ⟨?_, ?_, ?_, ?_, ?_, ?_, ?_, ?_, h.rb, fun y hy => Nat.lt_of_lt_of_le (h.lt y hy) k.size, h.rl, Nat.lt_of_lt_of_le h.ll k.size, by simpa using h.few, h.offs, h.len, by simpa using h.oldl⟩
  · exact k.at_ h.at_ (fun q => (hsub b q).2 rfl)
  · exact h.fm.chg2 k (fun hn g o hA q => (h.fo hn g o hA).2.2.2 x hxm q)
  · intro hn g o hA
    have h1 := h.fo hn g o hA
    refine ⟨h1.1, h1.2.1, h1.2.2.1, fun z hz => ?_⟩
    rcases dset_mem hx hz with rfl | ⟨j, _, hj⟩
    · exact h1.2.2.2 x hxm
    · exact h1.2.2.2 z (List.mem_of_getElem? hj)
  · have h1 := row_chg h.pl k (fun y hy q => (h.lo y hy).2.2 x hxm q)
    rw [List.map_drop] at h1
    show w'.ownsRow 0 43 1 (.slice PA pn pcap) pn (((d.flows.set i { x with q := q2 }).drop d.old).map DFlow.ptr)
    rw [List.map_drop, dset_ptr hx]
    exact h1
  · intro g hg
    have h1 := h.lo g hg
    refine ⟨h1.1, h1.2.1, fun z hz => ?_⟩
    rcases dset_mem hx hz with rfl | ⟨j, _, hj⟩
    · exact h1.2.2 x hxm
    · exact h1.2.2 z (List.mem_of_getElem? hj)
  · intro z hz
    rcases dset_mem hx hz with rfl | ⟨j, hne, hj⟩
    · exact hp
    · exact (h.pipes z (List.mem_of_getElem? hj)).chg k (fun a ha q => dflows_apart h.apart hx hj (Ne.symm hne) a q ha)
  · intro z hz a ha
    rcases dset_mem hx hz with rfl | ⟨j, hne, hj⟩
    · exact hsub a ha
    · exact h.sub z (List.mem_of_getElem? hj) a ha
  · rw [List.pairwise_iff_getElem]
    intro i1 j1 l1 l2 hlt a
    have hl1 : i1 < d.flows.length := by simpa using l1
    have hl2 : j1 < d.flows.length := by simpa using l2
    have key : ∀ m (lm : m < (d.flows.set i { x with q := q2 }).length) (lm2 : m < d.flows.length), ((d.flows.set i { x with q := q2 })[m]'lm).R = (d.flows[m]'lm2).R := by
      intro m lm lm2
      rw [List.getElem_set]
      split
      · rename_i e
        subst e
        have := (List.getElem?_eq_some_iff.1 hx).2
        rw [← this]
      · rfl
    show ((d.flows.set i { x with q := q2 })[i1]'l1).R a → ¬ ((d.flows.set i { x with q := q2 })[j1]'l2).R a
    rw [key i1 l1 hl1, key j1 l2 hl2]
    exact (List.pairwise_iff_getElem.1 h.apart) i1 j1 hl1 hl2 hlt a

/-! ### Cancel -/
end
def DFlow.canc (x : DFlow) : DFlow := { x with q := x.q.cancel }
def DSt.canc (d : DSt) (k : Nat) : DSt := { d with flows := d.flows.mapIdx fun i x => if d.old ≤ i ∧ i < d.old + k then x.canc else x }
theorem canc_zero (d : DSt) : d.canc 0 = d := by
  unfold DSt.canc
  have : d.flows.mapIdx (fun i x => if d.old ≤ i ∧ i < d.old + 0 then x.canc else x) = d.flows := by
    apply List.ext_getElem?
    intro j
    rw [List.getElem?_mapIdx]
    cases d.flows[j]? with
    | none => rfl
    | some x => simp only [Option.map_some]; rw [if_neg (by omega)]
  rw [this]
theorem canc_at (d : DSt) (k : Nat) {x : DFlow} (hx : d.flows[d.old + k]? = some x) : (d.canc k).flows[d.old + k]? = some x := by
  show (d.flows.mapIdx _)[d.old + k]? = _
  rw [List.getElem?_mapIdx, hx]
  simp
theorem canc_succ (d : DSt) (k : Nat) {x : DFlow} (hx : d.flows[d.old + k]? = some x) : { d.canc k with flows := (d.canc k).flows.set (d.old + k) { x with q := x.q.cancel } } = d.canc (k + 1) := by
  unfold DSt.canc
  have : (d.flows.mapIdx (fun i x => if d.old ≤ i ∧ i < d.old + k then x.canc else x)).set (d.old + k) { x with q := x.q.cancel } = d.flows.mapIdx (fun i x => if d.old ≤ i ∧ i < d.old + (k + 1) then x.canc else x) := by
    apply List.ext_getElem?
    intro j
    rw [List.getElem?_set, List.getElem?_mapIdx, List.getElem?_mapIdx]
    by_cases e : d.old + k = j
    · subst e
      have := (List.getElem?_eq_some_iff.1 hx).1
      rw [if_pos rfl, if_pos (by simpa using this), hx]
      simp only [Option.map_some]
      rw [if_pos (by omega)]
      rfl
    · rw [if_neg e]
      cases d.flows[j]? with
      | none => rfl
      | some y =>
        simp only [Option.map_some]
        by_cases h2 : d.old ≤ j ∧ j < d.old + k
        · rw [if_pos h2, if_pos (by omega)]
        · rw [if_neg h2, if_neg (by omega)]
  rw [this]
def DSt.cancS (d : DSt) : DSt := if d.state = 2 then (d.canc (d.flows.length - d.old)).endS else d.endS
def DSt.cancO (d : DSt) : List (List Value) := if d.state = 1 then d.left else []
end Go.Proofs.Yteolilggeaffaaa
