/- Trees of subsurfaces: Detach. -/
import Derived.Test.YtehcfeibfpgamaaSubH
import Derived.Test.YtehcfeibfpgamaaPath
import Derived.Laws.OwnMore
import Derived.Deep.Cut
set_option linter.unusedVariables false
set_option linter.unusedSimpArgs false
set_option maxRecDepth 100000
namespace Go.Proofs.Ytehcfeibfpgamaa
open Go.RowKit

def detR (S : Fo) (i : Int) : Fo × Int := if childE S i = 0 then (detS S i, 0) else (S, childE S i)
section
variable {w w' : World} {b bm : Nat} {nb : Int → Nat} {R R' Q : Nat → Prop} {S : Fo} {i p : Int} {n : Nd}
theorem Rest.same {xs : List Int} {v : Value} (h : Rest w xs i v w') : Same w w' := by obtain ⟨_, _, _, _, _, _, k⟩ := h; exact k
set_option maxHeartbeats 4000000 in
theorem ydetach (h : TAt w b bm nb R S) (i : Int) :
    Calls Try.prog 40 #[.pointer (some ⟨b, 0, none⟩), .int .i64 i] w (YOut w b bm R (detR S i).1 (.int .i64 (detR S i).2)) := by
  have HC := Lib.hid (ycheck1 h i)
  have HS := Lib.hid ((Chg.refl (fun _ => False) w).alloc (.cells #[.int .i64 i] 3))
  have H := Lib.hid h
  have T := h.same HS.out
  unfold detR childE
  generalize hW1 : w.alloc (.cells #[.int .i64 i] 3) = W1 at *
  have c1 := T.c1
  cases hi : hasB S i with
  | false =>
    rw [hi, if_neg (by simp)] at HC
    rw [if_neg (by simp), if_neg (by simp)]
    clear T h hi
    go_enter Try.func40, Try.ntmps40
    go_wp2_with fail
    refine HC.out.mono ?_
    rintro e w1 ⟨rfl, rfl⟩
    go_wp2
    go_ret
    exact ⟨rfl, nb, R, H.out.same HS.out, Own.of_same HS.out fun _ q => .inl q⟩
  | true =>
    rw [hi, if_pos rfl] at HC
    rw [if_pos rfl]
    have hl := T.look1 hi
    have hp := T.par hi
    have HI := Lib.hid hi
    by_cases h0 : parOf S i = 0
    · rw [if_pos h0, if_neg (show ¬ (16 : Int) = 0 by omega)]
      rw [h0] at hp
      clear T h hi h0
      go_enter Try.func40, Try.ntmps40
      go_wp2_with fail
      refine HC.out.mono ?_
      rintro e w1 ⟨rfl, rfl⟩
      go_wp2_with (refine wpl_lookup _ _ _ hl ?_)
      go_ret
      exact ⟨rfl, nb, R, H.out.same HS.out, Own.of_same HS.out fun _ q => .inl q⟩
    · rw [if_neg h0, if_pos rfl]
      have hz : (parOf S i == 0) = false := beq_eq_false_iff_ne.2 h0
      have hpp := H.out.ok.par_has h0
      have lp := T.look1 hpp
      have lp2 := (T.same ((Chg.refl _ W1).drew)).look1 hpp
      have HT := Lib.hid T
      have HP := Lib.hid hpp
      have HZ := Lib.hid h0
      clear T h hi h0 hpp
      go_enter Try.func40, Try.ntmps40
      go_wp2_with fail
      refine HC.out.mono ?_
      rintro e w1 ⟨rfl, rfl⟩
      go_wp2_with (refine wpl_lookup _ _ _ hl ?_)
      refine wp_still (by kernel_rfl) (by kernel_rfl) ?_
      repeat still_step
      try refine wpStill_nil ?_
      have TD := HT.out.same ((Chg.refl _ W1).drew)
      have HSD := Lib.hid (HS.out.drew)
      generalize W1.drew = wd at *
      clear hl lp lp2 hp c1 HC HT HS
      generalize hpe : parOf S i = p at *
      obtain ⟨ni, hni⟩ := has_get HI.out
      obtain ⟨np, hnp⟩ := has_get HP.out
      obtain ⟨vpi, vci, hai, hsi1, hsi2⟩ := TD.nd hni
      obtain ⟨vpp, vcp, hap, hsp1, hsp2⟩ := TD.nd hnp
      have hpi : p ≠ i := by rw [← hpe]; exact H.out.ok.par_ne i (H.out.ok.has_ne HI.out)
      have hne : nb p ≠ nb i := fun e => hpi (TD.inj p i HP.out HI.out e)
      have HPE := Lib.hid hpe
      clear hpe
      have p7 := cell_at hap 7
      have p8 := cell_at hap 8
      simp only [ncells, List.getElem?_cons_succ, List.getElem?_cons_zero] at p7 p8
      have HTD := Lib.hid TD
      have HNI := Lib.hid (And.intro hni (And.intro hai (And.intro hsi1 hsi2)))
      have HNP := Lib.hid (And.intro hnp (And.intro hap (And.intro hsp1 hsp2)))
      have hple : np.pend.length ≤ 1000 := Nat.le_trans (H.out.ok.pend_le (get_some hnp).1) H.out.few
      have hcle : np.cur.length ≤ 1000 := Nat.le_trans (H.out.ok.cur_le (get_some hnp).1) H.out.few
      clear TD hni hai hsi1 hsi2 hnp hap hsp1 hsp2
      go_wp2_with fail
      have hw7 := fun W (hW : Same wd W) => ywithout (w := W) (HNP.out.2.2.1.chg hW (fun _ _ q => q)) (by omega) (fun x hx => Nat.lt_of_lt_of_le (HTD.out.lt x hx) hW.size) i
      have hw8 := fun W (hW : Same wd W) => ywithout (w := W) (HNP.out.2.2.2.chg hW (fun _ _ q => q)) (by omega) (fun x hx => Nat.lt_of_lt_of_le (HTD.out.lt x hx) hW.size) i
      have HW7 := Lib.hid hw7
      have HW8 := Lib.hid hw8
      have hlp := HTD.out.nlt HP.out
      have hfp := HTD.out.fr HP.out
      have HAP := Lib.hid HNP.out.2.1
      clear hw7 hw8
      refine region_path (S := (fun w' => Same wd w' ∧ w'.cell? ⟨nb p, 7, none⟩ = some vpp ∧ w'.cell? ⟨nb p, 8, none⟩ = some vcp)) 18 [(0, true), (1, true), (2, true), (3, true), (4, true), (5, true), (6, true), (8, true), (9, true), (10, true), (11, true), (12, true), (13, true), (7, false), (14, false), (15, true), (16, false), (17, false), (18, false)] (by kernel_rfl) (by kernel_rfl) (by kernel_rfl) ⟨(Chg.refl _ wd).drew, p7, p8⟩ ?_
      have hs0 : Same wd wd.drew := (Chg.refl _ wd).drew; generalize wd.drew = wx at *
      refine path_read (i := 0) (v := ?v1_0) rfl (by rfl) (fun _ _ _ h => h) ?hy1_0 ?_
      case hy1_0 => ((intro w hSw; (try dsimp only at hSw); go_simp) <;> (try with_reducible rfl))
      try simp only [Act.put, List.setIfInBounds_toArray, List.set_cons_zero, List.set_cons_succ]
      refine path_read (i := 1) (v := ?v1_1) rfl (by rfl) (fun _ _ _ h => h) ?hy1_1 ?_
      case hy1_1 => ((intro w hSw; (try dsimp only at hSw); go_simp) <;> (try with_reducible rfl))
      try simp only [Act.put, List.setIfInBounds_toArray, List.set_cons_zero, List.set_cons_succ]
      refine path_read (i := 2) (v := ?v1_2) rfl (by rfl) (fun _ _ _ h => h) ?hy1_2 ?_
      case hy1_2 => ((intro w hSw; (try dsimp only at hSw); go_simp) <;> (try with_reducible rfl))
      try simp only [Act.put, List.setIfInBounds_toArray, List.set_cons_zero, List.set_cons_succ]
      refine path_read (i := 3) (v := ?v1_3) rfl (by rfl) (fun _ _ _ h => h) ?hy1_3 ?_
      case hy1_3 => ((intro w hSw; (try dsimp only at hSw); go_simp) <;> (try with_reducible rfl))
      try simp only [Act.put, List.setIfInBounds_toArray, List.set_cons_zero, List.set_cons_succ]
      refine path_read (i := 4) (v := ?v1_4) rfl (by rfl) (fun _ _ _ h => h) ?hy1_4 ?_
      case hy1_4 => ((intro w hSw; (try dsimp only at hSw); go_simp) <;> (try with_reducible rfl))
      try simp only [Act.put, List.setIfInBounds_toArray, List.set_cons_zero, List.set_cons_succ]
      refine path_read (i := 5) (v := ?v1_5) rfl (by rfl) (fun _ _ _ h => h) ?hy1_5 ?_
      case hy1_5 => ((intro w hSw; (try dsimp only at hSw); go_simp) <;> (try with_reducible rfl))
      try simp only [Act.put, List.setIfInBounds_toArray, List.set_cons_zero, List.set_cons_succ]
      refine path_read (i := 6) (v := ?v1_6) rfl (by rfl) (fun _ _ _ h => h) ?hy1_6 ?_
      case hy1_6 => ((intro w hSw; (try dsimp only at hSw); go_simp) <;> (try with_reducible rfl))
      try simp only [Act.put, List.setIfInBounds_toArray, List.set_cons_zero, List.set_cons_succ]
      refine path_read (i := 8) (v := ?v1_8) rfl (by rfl) (fun _ _ _ h => h) ?hy1_8 ?_
      case hy1_8 => ((intro w hSw; (try dsimp only at hSw); go_simp) <;> (try with_reducible rfl))
      try simp only [Act.put, List.setIfInBounds_toArray, List.set_cons_zero, List.set_cons_succ]
      refine path_read (i := 9) (v := ?v1_9) rfl (by rfl) (fun _ _ _ h => h) ?hy1_9 ?_
      case hy1_9 => ((intro w hSw; (try dsimp only at hSw); go_simp) <;> (try with_reducible rfl))
      try simp only [Act.put, List.setIfInBounds_toArray, List.set_cons_zero, List.set_cons_succ]
      refine path_read (i := 10) (v := ?v1_10) rfl (by rfl) (fun _ _ _ h => h) ?hy1_10 ?_
      case hy1_10 => ((intro w hSw; (try dsimp only at hSw); go_simp) <;> (try with_reducible rfl))
      try simp only [Act.put, List.setIfInBounds_toArray, List.set_cons_zero, List.set_cons_succ]
      refine path_read (i := 11) (v := ?v1_11) rfl (by rfl) (fun _ _ _ h => h) ?hy1_11 ?_
      case hy1_11 => ((intro w hSw; (try dsimp only at hSw); go_simp) <;> (try with_reducible rfl))
      try simp only [Act.put, List.setIfInBounds_toArray, List.set_cons_zero, List.set_cons_succ]
      refine path_read (i := 12) (v := ?v1_12) rfl (by rfl) (fun _ _ _ h => h) ?hy1_12 ?_
      case hy1_12 => ((intro w hSw; (try dsimp only at hSw); go_simp) <;> (try with_reducible rfl))
      try simp only [Act.put, List.setIfInBounds_toArray, List.set_cons_zero, List.set_cons_succ]
      refine path_read (i := 13) (v := ?v1_13) rfl (by rfl) (fun _ _ _ h => h) ?hy1_13 ?_
      case hy1_13 => ((intro w hSw; (try dsimp only at hSw); go_simp) <;> (try with_reducible rfl))
      try simp only [Act.put, List.setIfInBounds_toArray, List.set_cons_zero, List.set_cons_succ]
      refine path_do (i := 7) rfl ?_
      go_wp2_with ((go_at_call 53; refine (HW7.out _ hs0).mono ?_; rintro e w2 ⟨v2, rfl, g2, c2, rfl, hc2, hg2, ho2, hsm2⟩; have hs2 : Same wd w2 := hs0.trans hsm2; have HR2 := Lib.hid (And.intro hg2 ho2); clear hc2 hg2 ho2 hsm2))
      (first | refine ⟨.inr ?keep1_7, ?_⟩ | refine ⟨?keep1_7, ?_⟩)
      case keep1_7 => (first | exact ⟨hs3, hs3.cell p7 (fun q => q), hs3.cell p8 (fun q => q)⟩ | exact ⟨hs2, hs2.cell p7 (fun q => q), hs2.cell p8 (fun q => q)⟩)
      try simp only [Act.put, List.setIfInBounds_toArray, List.set_cons_zero, List.set_cons_succ]
      refine path_do (i := 14) rfl ?_
      go_wp2_with ((go_at_call 53; refine (HW8.out _ hs2).mono ?_; rintro e w3 ⟨v3, rfl, g3, c3, rfl, hc3, hg3, ho3, hsm3⟩; have hs3 : Same wd w3 := hs2.trans hsm3; have HR3 := Lib.hid (And.intro hg3 (And.intro ho3 hsm3)); have hat3 := hs3.at_ HAP.out (fun q => q); have f3 := frozen_at hat3; have l3 := lt_of_at hat3; have k7 := hs3.cell p7 (fun q => q); have k8 := hs3.cell p8 (fun q => q); clear hc3 hg3 ho3 hsm3 hat3))
      (first | refine ⟨.inr ?keep1_14, ?_⟩ | refine ⟨?keep1_14, ?_⟩)
      case keep1_14 => (first | exact ⟨hs3, hs3.cell p7 (fun q => q), hs3.cell p8 (fun q => q)⟩ | exact ⟨hs2, hs2.cell p7 (fun q => q), hs2.cell p8 (fun q => q)⟩)
      try simp only [Act.put, List.setIfInBounds_toArray, List.set_cons_zero, List.set_cons_succ]
      refine path_read (i := 15) (v := ?v1_15) rfl (by rfl) (fun _ _ _ h => h) ?hy1_15 ?_
      case hy1_15 => ((intro w hSw; (try dsimp only at hSw); go_simp) <;> (try with_reducible rfl))
      try simp only [Act.put, List.setIfInBounds_toArray, List.set_cons_zero, List.set_cons_succ]
      refine path_do (i := 16) rfl ?_
      go_wp2_with (fail)
      (first | refine ⟨.inr ?keep1_16, ?_⟩ | refine ⟨?keep1_16, ?_⟩)
      case keep1_16 => (first | exact ⟨hs3, hs3.cell p7 (fun q => q), hs3.cell p8 (fun q => q)⟩ | exact ⟨hs2, hs2.cell p7 (fun q => q), hs2.cell p8 (fun q => q)⟩)
      try simp only [Act.put, List.setIfInBounds_toArray, List.set_cons_zero, List.set_cons_succ]
      refine path_do (i := 17) rfl ?_
      go_wp2_with (fail)
      (first | refine ⟨.inr ?keep1_17, ?_⟩ | refine ⟨?keep1_17, ?_⟩)
      case keep1_17 => (first | exact ⟨hs3, hs3.cell p7 (fun q => q), hs3.cell p8 (fun q => q)⟩ | exact ⟨hs2, hs2.cell p7 (fun q => q), hs2.cell p8 (fun q => q)⟩)
      try simp only [Act.put, List.setIfInBounds_toArray, List.set_cons_zero, List.set_cons_succ]
      refine path_do (i := 18) rfl ?_
      go_wp2_with (fail)
      refine ⟨.inl (by first | rfl | trivial), ?_⟩
      refine path_end ?_
      have hi3 := hs3.at_ HNI.out.2.1 (fun q => q)
      have hp3 := hs3.at_ HNP.out.2.1 (fun q => q)
      have fi3 := frozen_at hi3
      have li3 := lt_of_at hi3
      have k0 := cell_at hi3 0
      simp only [ncells, List.getElem?_cons_succ, List.getElem?_cons_zero] at k0
      have HI3 := Lib.hid hi3
      have HP3 := Lib.hid hp3
      have HS3 := Lib.hid hs3
      have HS2 := Lib.hid (And.intro hs0 hs2)
      clear hi3 hp3 hs3 hs2 hs0 k7 k8 p7 p8 hlp hfp f3 l3
      go_wp2
      go_ret
      have hsD := HSD.out.size
      have hz0 := HS2.out.1.size
      have hz2 := HS2.out.2.size
      have kall : Chg (fun x => x = nb i ∨ x = nb p) wd (((w3.setCell ⟨nb p, 7, none⟩ (.slice (some ⟨g2, 0, none⟩) (rem i np.pend).length c2)).setCell ⟨nb p, 8, none⟩ (.slice (some ⟨g3, 0, none⟩) (rem i np.cur).length c3)).setCell ⟨nb i, 0, none⟩ (.int .i64 0)) :=
        (((Chg.of_same HS3.out).set2 (nb p) 7 8 _ _ (.inr rfl))).set1 (nb i) 0 _ (.inl rfl)
      have hint := HTD.out.nd_int HI.out
      have kint : ∀ x C, wd.heap[x]? = some (.cells C 3 (0, 0)) → ¬ (x = nb i ∨ x = nb p) := fun x C hx e => e.elim (hint x C hx) (HTD.out.nd_int HP.out x C hx)
      have k3 : Chg (fun x => x = nb i ∨ x = nb p) w3 (((w3.setCell ⟨nb p, 7, none⟩ (.slice (some ⟨g2, 0, none⟩) (rem i np.pend).length c2)).setCell ⟨nb p, 8, none⟩ (.slice (some ⟨g3, 0, none⟩) (rem i np.cur).length c3)).setCell ⟨nb i, 0, none⟩ (.int .i64 0)) :=
        ((Chg.refl (fun x => x = nb i ∨ x = nb p) w3).set2 (nb p) 7 8 _ _ (.inr rfl)).set1 (nb i) 0 _ (.inl rfl)
      have kint3 : ∀ x C, w3.heap[x]? = some (.cells C 3 (0, 0)) → ¬ (x = nb i ∨ x = nb p) := fun x C hx e => by
        rcases e with e | e
        · rw [e, HI3.out] at hx; simp at hx
        · rw [e, HP3.out] at hx; simp at hx
      obtain ⟨hg2, ho2⟩ := HR2.out
      obtain ⟨hg3, ho3, hs23⟩ := HR3.out
      have hl2 : g2 < w2.heap.size := (ho2.lt g2 rfl).2
      have hl3 : g3 < w3.heap.size := (ho3.lt g3 rfl).2
      have n2 : SlAt (((w3.setCell ⟨nb p, 7, none⟩ (.slice (some ⟨g2, 0, none⟩) (rem i np.pend).length c2)).setCell ⟨nb p, 8, none⟩ (.slice (some ⟨g3, 0, none⟩) (rem i np.cur).length c3)).setCell ⟨nb i, 0, none⟩ (.int .i64 0)) (fun x => R x ∨ x = g2 ∨ x = g3) (.slice (some ⟨g2, 0, none⟩) (rem i np.pend).length c2) (rem i np.pend) :=
        ((SlAt.of_own (R := fun x => R x ∨ x = g2 ∨ x = g3) ho2 (.inr (.inl rfl))).chg hs23 (fun _ _ q => q)).other k3 kint3
      have n3 : SlAt (((w3.setCell ⟨nb p, 7, none⟩ (.slice (some ⟨g2, 0, none⟩) (rem i np.pend).length c2)).setCell ⟨nb p, 8, none⟩ (.slice (some ⟨g3, 0, none⟩) (rem i np.cur).length c3)).setCell ⟨nb i, 0, none⟩ (.int .i64 0)) (fun x => R x ∨ x = g2 ∨ x = g3) (.slice (some ⟨g3, 0, none⟩) (rem i np.cur).length c3) (rem i np.cur) :=
        (SlAt.of_own (R := fun x => R x ∨ x = g2 ∨ x = g3) ho3 (.inr (.inr rfl))).other k3 kint3
      have hpe := HPE.out
      have hok := det_ok H.out.ok (i := i) (by rw [hpe]; exact HZ.out)
      unfold detS at hok ⊢
      rw [hpe] at hok ⊢
      refine ⟨rfl, nb, fun x => R x ∨ x = g2 ∨ x = g3, HTD.out.putG (detN i p) (detN_id i p) kall (fun e => e.elim (fun q => HTD.out.nd_b HI.out q.symm) (fun q => HTD.out.nd_b HP.out q.symm)) (fun e => e.elim (fun q => HTD.out.nd_bm HI.out q.symm) (fun q => HTD.out.nd_bm HP.out q.symm)) (fun x q => .inl q) ?_ hok ?_, ?_⟩
      · intro x hx
        have hk := k3.size
        have hs := hs23.size
        rcases hx with q | q | q
        · exact Nat.lt_of_lt_of_le (HTD.out.lt x q) kall.size
        · omega
        · omega
      · intro n hn
        have hg := get_of H.out.ok.ids hn
        unfold detN
        by_cases e1 : n.id = i
        · rw [if_pos e1]
          rw [e1, HNI.out.1] at hg
          cases hg
          rw [e1]
          exact ⟨vpi, vci, at_setCell (i := 0) _ (at_setCell_other _ (fun e => hne e.symm) (at_setCell_other _ (fun e => hne e.symm) HI3.out)), (HNI.out.2.2.1.other kall kint).mono (fun _ q => .inl q), (HNI.out.2.2.2.other kall kint).mono (fun _ q => .inl q)⟩
        · rw [if_neg e1]
          by_cases e2 : n.id = p
          · rw [if_pos e2]
            rw [e2, HNP.out.1] at hg
            cases hg
            rw [e2]
            exact ⟨_, _, at_setCell_other _ hne (at_setCell (i := 8) _ (at_setCell (i := 7) _ HP3.out)), n2, n3⟩
          · rw [if_neg e2]
            have hb : hasB S n.id = true := hasB_iff.2 (List.mem_map_of_mem hn)
            exact ((HTD.out.node n hn).other kall (fun q => q.elim (fun q => e1 (HTD.out.inj _ _ hb HI.out q)) (fun q => e2 (HTD.out.inj _ _ hb HP.out q))) kint).mono (fun _ q => .inl q)
      · exact ⟨(Chg.of_same (S := R) HSD.out).then_ kall (fun x _ e => e.elim (fun q => q ▸ H.out.rn _ HI.out) (fun q => q ▸ H.out.rn _ HP.out)), fun x hx => by rcases hx with q | q | q; exact .inl q; exact .inr (by omega); exact .inr (by omega)⟩
end
end Go.Proofs.Ytehcfeibfpgamaa
