/- The walk of Drop. -/
import Derived.Test.YteolilggeaffaaaDragC
import Derived.Deep.DeepCutAuto
set_option linter.unusedVariables false
set_option linter.unusedSimpArgs false
set_option maxRecDepth 100000
namespace Go.Proofs.Yteolilggeaffaaa
open Go.RowKit

def DSt.dropB (d : DSt) : Bool := decide (d.state = 1) && (!decide (d.tf = ByteArray.empty) && !decide (d.act = 0))
def DSt.dropS (d : DSt) : DSt := if d.state = 1 then (if d.dropB then { d with state := 2 } else d.cancS) else d
def DSt.dropO (d : DSt) : List (List Value) := if d.state = 1 then (if d.dropB then [delivC d.tc d.ts 17 0 0 0 0 0 0] else d.cancO) else []
def DDOut (w : World) (b lb : Nat) (R : Nat → Prop) (d' : DSt) (l : List (List Value)) (ok : Bool) (e : Ending) (w' : World) : Prop :=
  ∃ v, e = .returned (.tuple #[v, .bool ok]) ∧ OutAt w.heap.size w' v l ∧ DragAt w' b lb R d' ∧ Chg R w w'
section
variable {w w' : World} {b lb : Nat} {R : Nat → Prop} {d : DSt}
theorem drop_no (h : d.state ≠ 1) : d.dropS = d ∧ d.dropO = [] ∧ d.dropB = false := by
  refine ⟨by unfold DSt.dropS; rw [if_neg h], by unfold DSt.dropO; rw [if_neg h], by unfold DSt.dropB; rw [decide_eq_false h]; rfl⟩
theorem drop_un (h : d.state = 1) (h2 : d.dropB = false) : d.dropS = d.cancS ∧ d.dropO = d.cancO := by
  refine ⟨by unfold DSt.dropS; rw [if_pos h, h2, if_neg (by decide)], by unfold DSt.dropO; rw [if_pos h, h2, if_neg (by decide)]⟩
theorem drop_yes (h : d.state = 1) (h2 : d.dropB = true) : d.dropS = { d with state := 2 } ∧ d.dropO = [delivC d.tc d.ts 17 0 0 0 0 0 0] := by
  refine ⟨by unfold DSt.dropS; rw [if_pos h, h2, if_pos rfl], by unfold DSt.dropO; rw [if_pos h, h2, if_pos rfl]⟩
set_option maxHeartbeats 4000000 in
theorem ddrop_ok (d' : DSt) (l : List (List Value)) (ok : Bool) (h : DragAt w b lb R d) (hd : d.dropS = d') (hl : d.dropO = l) (hb : d.dropB = ok) : Calls Try.prog 16 #[.pointer (some ⟨b, 0, none⟩)] w (DDOut w b lb R d' l ok) := by
  have HD := Lib.hid h
  obtain ⟨A, n, cap, PA, pn, pcap, h⟩ := h
  have HH := Lib.hid h
  have HM := Lib.hid (dmade_ok b lb w h.c0)
  have k1 := h.c1
  have k4 := h.c4
  have k5 := h.c5
  have k6 := h.c6
  have f1 := h.fr
  have hlt := h.lt b h.rb
  have HRB := Lib.hid h.rb
  subst hd hl hb
  clear h
  by_cases h1 : d.state = 1
  · by_cases h2 : d.tf = ByteArray.empty
    · have hb : d.dropB = false := by unfold DSt.dropB; rw [decide_eq_true h2]; simp
      rw [(drop_un h1 hb).1, (drop_un h1 hb).2, hb]
      have hem : ByteArray.empty.toList = [] := toList_nil
      rw [h2] at k6
      clear hb
      go_enter Try.func16, Try.ntmps16
      go_wp2_with fail
      refine HM.out.mono ?_
      rintro e w' ⟨rfl, rfl⟩
      go_wp2_with fail
      refine (dcancel_ok d.cancS d.cancO HD.out rfl rfl).mono ?_
      rintro e w2 ⟨v, rfl, ho, hd, hk⟩
      have HE := Lib.hid (And.intro ho (And.intro hd hk))
      clear ho hd hk
      go_wp2
      go_ret2
      exact ⟨v, rfl, HE.out.1, HE.out.2.1, HE.out.2.2⟩
    · have h2e : ¬ d.tf = ⟨#[]⟩ := h2
      have hne := toList_ne h2e
      have hne2 : ¬ d.tf.toList = [] := toList_cons h2e
      have hne4 : d.tf.toList.isEmpty = false := toList_emp h2e
      obtain ⟨va, hva⟩ : ∃ va, d.act = va := ⟨_, rfl⟩
      have HA := Lib.hid (daction_ok va HD.out hva)
      by_cases h3 : va = 0
      · have hb : d.dropB = false := by unfold DSt.dropB; rw [hva, decide_eq_true h3]; simp
        rw [(drop_un h1 hb).1, (drop_un h1 hb).2, hb]
        subst h3
        clear hb hva
        go_enter Try.func16, Try.ntmps16
        go_wp2_with fail
        refine HM.out.mono ?_
        rintro e w' ⟨rfl, rfl⟩
        go_wp2_with fail
        refine HA.out.mono ?_
        rintro e w1 ⟨rfl, hs⟩
        have HS := Lib.hid hs
        clear hs k1 k4 k5 k6
        go_wp2_with fail
        refine (dcancel_ok d.cancS d.cancO (HD.out.same HS.out) rfl rfl).mono ?_
        rintro e w2 ⟨v, rfl, ho, hd, hk⟩
        have HE := Lib.hid (And.intro ho (And.intro hd hk))
        clear ho hd hk
        go_wp2
        go_ret2
        exact ⟨v, rfl, World.ownsRow.mono HE.out.1 HS.out.size, HE.out.2.1, (Chg.of_same HS.out).trans HE.out.2.2⟩
      · have hb : d.dropB = true := by unfold DSt.dropB; rw [hva, decide_eq_false h3, decide_eq_true h1, decide_eq_false h2]; rfl
        rw [(drop_yes h1 hb).1, (drop_yes h1 hb).2, hb]
        have h3b : (va == 0) = false := by simp [h3]
        clear hb hva
        go_enter Try.func16, Try.ntmps16
        go_wp2_with fail
        refine HM.out.mono ?_
        rintro e w' ⟨rfl, rfl⟩
        go_wp2_with fail
        refine HA.out.mono ?_
        rintro e w1 ⟨rfl, hs⟩
        have H1 := Lib.hid (HH.out.chg hs (fun _ _ q => q))
        have HS := Lib.hid hs
        have j4 := hs.cell k4 (fun q => q)
        have j5 := hs.cell k5 (fun q => q)
        have f2 := H1.out.fr
        have hlt2 := Nat.lt_of_lt_of_le hlt hs.size
        have j1 := H1.out.c1
        clear hs k1 k4 k5 k6
        go_upto_region 6 with (fail)
        have HU := Lib.hid (HH.out.chg HS.out (fun _ _ q => q) |>.upd { d with state := 2 } rfl rfl rfl HH.out.offs (Chg.setCell (Chg.refl _ w1) _ _ (fun _ => rfl)) (at_setCell (i := 1) (.int .i64 2) H1.out.at_))
        have HC := Lib.hid (Chg.trans (Chg.of_same HS.out) (Chg.setCell (Chg.refl R w1) ⟨b, 1, none⟩ (.int .i64 2) (fun _ => HRB.out)))
        have m4 := HU.out.c4
        have m5 := HU.out.c5
        generalize w1.setCell ⟨b, 1, none⟩ (.int .i64 2) = w2 at *
        clear j1 j4 j5 f2 hlt2
        refine region_path (S := (fun w' => w'.cell? ⟨b, 4, none⟩ = some (.int .i64 d.tc) ∧ w'.cell? ⟨b, 5, none⟩ = some (.int .i64 d.ts))) 99 [(0, true), (1, true), (2, true), (3, true), (4, true), (5, true), (6, true), (7, true), (8, true), (9, true), (10, true), (11, false), (12, true), (13, true)] (by kernel_rfl) (by kernel_rfl) (by kernel_rfl) ⟨m4, m5⟩ ?_
        refine path_read (i := 0) (v := ?v1_0) rfl (by rfl) (fun _ _ _ h => h) ?hy1_0 ?_
        case hy1_0 => ((intro w hSw; (try dsimp only at hSw); go_simp) <;> (try with_reducible rfl))
        try simp only [Act.put, List.setIfInBounds_toArray, List.set_cons_zero, List.set_cons_succ]
        refine path_read (i := 1) (v := ?v1_1) rfl (by rfl) (fun _ _ _ h => h) ?hy1_1 ?_
        case hy1_1 => ((intro w hSw; (try dsimp only at hSw); go_simp) <;> (try with_reducible rfl))
        try simp only [Act.put, List.setIfInBounds_toArray, List.set_cons_zero, List.set_cons_succ]
        refine path_read (i := 2) (v := ?v1_2) rfl (by rfl) (fun _ _ _ h => h) ?hy1_2 ?_
        case hy1_2 => ((intro w hSw; (try dsimp only at hSw); go_simp) <;> (try with_reducible rfl))
        try simp only [Act.put, List.setIfInBounds_toArray, List.set_cons_zero, List.set_cons_succ]
        refine path_read (i := 3) (v := ?v1_3) rfl (by rfl) (fun _ _ _ h => h) ?hy1_3 ?_
        case hy1_3 => ((intro w hSw; (try dsimp only at hSw); go_simp) <;> (try with_reducible rfl))
        try simp only [Act.put, List.setIfInBounds_toArray, List.set_cons_zero, List.set_cons_succ]
        refine path_read (i := 4) (v := ?v1_4) rfl (by rfl) (fun _ _ _ h => h) ?hy1_4 ?_
        case hy1_4 => ((intro w hSw; (try dsimp only at hSw); go_simp) <;> (try with_reducible rfl))
        try simp only [Act.put, List.setIfInBounds_toArray, List.set_cons_zero, List.set_cons_succ]
        refine path_read (i := 5) (v := ?v1_5) rfl (by rfl) (fun _ _ _ h => h) ?hy1_5 ?_
        case hy1_5 => ((intro w hSw; (try dsimp only at hSw); go_simp) <;> (try with_reducible rfl))
        try simp only [Act.put, List.setIfInBounds_toArray, List.set_cons_zero, List.set_cons_succ]
        refine path_read (i := 6) (v := ?v1_6) rfl (by rfl) (fun _ _ _ h => h) ?hy1_6 ?_
        case hy1_6 => ((intro w hSw; (try dsimp only at hSw); go_simp) <;> (try with_reducible rfl))
        try simp only [Act.put, List.setIfInBounds_toArray, List.set_cons_zero, List.set_cons_succ]
        refine path_read (i := 7) (v := ?v1_7) rfl (by rfl) (fun _ _ _ h => h) ?hy1_7 ?_
        case hy1_7 => ((intro w hSw; (try dsimp only at hSw); go_simp) <;> (try with_reducible rfl))
        try simp only [Act.put, List.setIfInBounds_toArray, List.set_cons_zero, List.set_cons_succ]
        refine path_read (i := 8) (v := ?v1_8) rfl (by rfl) (fun _ _ _ h => h) ?hy1_8 ?_
        case hy1_8 => ((intro w hSw; (try dsimp only at hSw); go_simp) <;> (try with_reducible rfl))
        try simp only [Act.put, List.setIfInBounds_toArray, List.set_cons_zero, List.set_cons_succ]
        refine path_read (i := 9) (v := ?v1_9) rfl (by rfl) (fun _ _ _ h => h) ?hy1_9 ?_
        case hy1_9 => ((intro w hSw; (try dsimp only at hSw); go_simp) <;> (try with_reducible rfl))
        try simp only [Act.put, List.setIfInBounds_toArray, List.set_cons_zero, List.set_cons_succ]
        refine path_read (i := 10) (v := ?v1_10) rfl (by rfl) (fun _ _ _ h => h) ?hy1_10 ?_
        case hy1_10 => ((intro w hSw; (try dsimp only at hSw); go_simp) <;> (try with_reducible rfl))
        try simp only [Act.put, List.setIfInBounds_toArray, List.set_cons_zero, List.set_cons_succ]
        refine path_do (i := 11) rfl ?_
        go_wp2_with (fail)
        (first | refine ⟨.inr ?keep1_11, ?_⟩ | refine ⟨?keep1_11, ?_⟩)
        case keep1_11 => (exact ⟨Chg.cell (S := fun _ => False) (u := w2) ((Chg.refl _ w2).drew.alloc _) m4 (fun q => q), Chg.cell (S := fun _ => False) (u := w2) ((Chg.refl _ w2).drew.alloc _) m5 (fun q => q)⟩)
        try simp only [Act.put, List.setIfInBounds_toArray, List.set_cons_zero, List.set_cons_succ]
        refine path_read (i := 12) (v := ?v1_12) rfl (by rfl) (fun _ _ _ h => h) ?hy1_12 ?_
        case hy1_12 => ((intro w hSw; (try dsimp only at hSw); go_simp) <;> (try with_reducible rfl))
        try simp only [Act.put, List.setIfInBounds_toArray, List.set_cons_zero, List.set_cons_succ]
        refine path_read (i := 13) (v := ?v1_13) rfl (by rfl) (fun _ _ _ h => h) ?hy1_13 ?_
        case hy1_13 => ((intro w hSw; (try dsimp only at hSw); go_simp) <;> (try with_reducible rfl))
        try simp only [Act.put, List.setIfInBounds_toArray, List.set_cons_zero, List.set_cons_succ]
        refine path_end ?_
        go_wp2
        go_ret2
        exact ⟨_, rfl, World.ownsRow.mono (out_one w2 d.tc d.ts 17 0 0 0 0 0 0) HC.out.size, ⟨A, n, cap, PA, pn, pcap, HU.out.chg ((Chg.refl (fun _ => False) w2).drew.alloc _) (fun _ _ q => q)⟩, (HC.out.trans (Chg.of_same ((Chg.refl (fun _ => False) w2).drew.alloc _)))⟩
  · rw [(drop_no h1).1, (drop_no h1).2.1, (drop_no h1).2.2]
    have h1b : (d.state == 1) = false := by simp [h1]
    have h1c : (d.state != 1) = true := by simp [h1]
    go_enter Try.func16, Try.ntmps16
    go_wp2_with fail
    refine HM.out.mono ?_
    rintro e w' ⟨rfl, rfl⟩
    go_wp2
    go_ret2
    exact ⟨_, rfl, World.ownsRow_nil _ _ _ _, HD.out, Chg.refl _ _⟩
end
end Go.Proofs.Yteolilggeaffaaa
