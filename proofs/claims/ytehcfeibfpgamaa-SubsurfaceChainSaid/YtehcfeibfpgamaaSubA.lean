/- Trees of subsurfaces: Attach. -/
import Derived.Test.YtehcfeibfpgamaaSubH
import Derived.Laws.OwnMore
import Derived.Deep.Cut
set_option linter.unusedVariables false
set_option linter.unusedSimpArgs false
set_option maxRecDepth 100000
namespace Go.Proofs.Ytehcfeibfpgamaa
open Go.RowKit

section
variable {w w' : World} {b bm : Nat} {nb : Int → Nat} {R R' Q : Nat → Prop} {S : Fo} {i p : Int} {n : Nd}
def attW (w : World) (c : Nat) (p : Int) : World := (((((w.setCell ⟨c, 0, none⟩ (.int .i64 p)).setCell ⟨c, 1, none⟩ (.bool true)).setCell ⟨c, 3, none⟩ (.int .i64 0)).setCell ⟨c, 4, none⟩ (.int .i64 0)).setCell ⟨c, 5, none⟩ (.int .i64 0)).setCell ⟨c, 6, none⟩ (.int .i64 0)
theorem attW_chg (w : World) (c : Nat) (p : Int) : Chg (fun x => x = c) w (attW w c p) :=
  ((((((Chg.refl (fun x => x = c) w).set1 c 0 _ rfl).set1 c 1 _ rfl).set1 c 3 _ rfl).set1 c 4 _ rfl).set1 c 5 _ rfl).set1 c 6 _ rfl
theorem attW_at {c : Nat} {p : Int} {n : Nd} {vp vc : Value} (h : w.heap[c]? = some (.cells (ncells n vp vc).toArray 72 (0, 0))) :
    (attW w c p).heap[c]? = some (.cells (ncells { n with par := p, sync := true, px := 0, py := 0, cx := 0, cy := 0 } vp vc).toArray 72 (0, 0)) :=
  at_setCell (i := 6) _ (at_setCell (i := 5) _ (at_setCell (i := 4) _ (at_setCell (i := 3) _ (at_setCell (i := 1) _ (at_setCell (i := 0) _ h)))))
set_option maxHeartbeats 4000000 in
theorem yattach (h : TAt w b bm nb R S) (i p : Int) :
    Calls Try.prog 13 #[.pointer (some ⟨b, 0, none⟩), .int .i64 i, .int .i64 p] w (YOut w b bm R (attR S i p).1 (.int .i64 (attR S i p).2)) := by
  have HC := Lib.hid (ycheck2 h i p)
  have HS := Lib.hid ((Chg.refl (fun _ => False) w).alloc (.cells #[.int .i64 i, .int .i64 p] 3))
  have H := Lib.hid h
  unfold attR
  clear h
  by_cases hb : hasB S i = true ∧ hasB S p = true
  case neg =>
    rw [if_neg hb] at HC ⊢
    go_enter Try.func13, Try.ntmps13
    go_wp2_with fail
    refine HC.out.mono ?_
    rintro e w1 ⟨rfl, rfl⟩
    go_wp2
    go_ret
    exact ⟨rfl, nb, R, H.out.same HS.out, Own.of_same HS.out fun _ q => .inl q⟩
  rw [if_pos hb] at HC ⊢
  obtain ⟨hi, hp⟩ := hb
  have T := H.out.same HS.out
  generalize hW1 : w.alloc (.cells #[.int .i64 i, .int .i64 p] 3) = W1 at *
  have c1 := T.c1
  have hl := T.look1 hi
  have hpar := T.par hi
  have hi0 := T.ok.has_ne hi
  have HWI := Lib.hid (ywithin T p i hp hi0)
  have HI := Lib.hid hi
  have HP := Lib.hid hp
  by_cases h0 : parOf S i = 0
  case neg =>
    rw [if_pos (.inl h0)]
    have hb0 : (parOf S i != 0) = true := bne_iff_ne.2 h0
    clear T hi hp h0
    go_enter Try.func13, Try.ntmps13
    go_wp2_with fail
    refine HC.out.mono ?_
    rintro e w1 ⟨rfl, rfl⟩
    go_wp2_with (refine wpl_lookup _ _ _ hl ?_)
    go_ret
    exact ⟨rfl, nb, R, H.out.same HS.out, Own.of_same HS.out fun _ q => .inl q⟩
  cases hin : inP (parOf S) p i with
  | true =>
    rw [if_pos (.inr rfl)]
    rw [hin] at HWI
    rw [h0] at hpar
    clear T hi hp h0 hin
    go_enter Try.func13, Try.ntmps13
    go_wp2_with fail
    refine HC.out.mono ?_
    rintro e w1 ⟨rfl, rfl⟩
    go_wp2_with (refine wpl_lookup _ _ _ hl ?_)
    refine HWI.out.mono ?_
    rintro e w1 ⟨rfl, rfl⟩
    go_wp2
    go_ret
    exact ⟨rfl, nb, R, H.out.same HS.out, Own.of_same HS.out fun _ q => .inl q⟩
  | false =>
    rw [if_neg (by rw [h0]; simp)]
    rw [hin] at HWI
    rw [h0] at hpar
    have HPN := Lib.hid hin
    have HZ := Lib.hid h0
    have HK := Lib.hid (ychildren T p)
    have HT := Lib.hid T
    have hk1 : kids S p ≤ 1000 := Nat.le_trans (kids_le S p) T.few
    have hd1 : depth S p ≤ 9 := T.ok.deep.len _
    have hd2 : height S i ≤ 9 := heightL_le S i S 9 (fun n hn _ => by have := T.ok.deep.len (parOf S n.id); unfold depth; omega)
    clear T hi hp h0 hin
    by_cases hk : 16 ≤ kids S p
    case pos =>
      rw [if_pos (.inl hk)]
      have hkz : (16 : Int) ≤ kids S p := by omega
      clear hk
      go_enter Try.func13, Try.ntmps13
      go_wp2_with fail
      refine HC.out.mono ?_
      rintro e w1 ⟨rfl, rfl⟩
      go_wp2_with (refine wpl_lookup _ _ _ hl ?_)
      refine HWI.out.mono ?_
      rintro e w1 ⟨rfl, rfl⟩
      go_wp2_with fail
      refine HK.out.mono ?_
      rintro e w2 ⟨rfl, hs2⟩
      have HS2 := Lib.hid hs2
      clear hs2
      go_wp2
      go_ret
      exact ⟨rfl, nb, R, H.out.same (HS.out.trans HS2.out), Own.of_same (HS.out.trans HS2.out) fun _ q => .inl q⟩
    have hkz : ¬ (16 : Int) ≤ kids S p := by omega
    have e1 : IntKind.i64.wrap ((depth S p : Int) + 1) = (depth S p : Int) + 1 := IntWalk.i64_in _ (by omega)
    have e2 : IntKind.i64.wrap ((depth S p : Int) + 1 + height S i) = (depth S p : Int) + 1 + height S i := IntWalk.i64_in _ (by omega)
    by_cases hd : 8 < depth S p + 1 + height S i
    case pos =>
      rw [if_pos (.inr hd)]
      have hdz : (8 : Int) < (depth S p : Int) + 1 + height S i := by omega
      clear hk hd
      go_enter Try.func13, Try.ntmps13
      go_wp2_with fail
      refine HC.out.mono ?_
      rintro e w1 ⟨rfl, rfl⟩
      go_wp2_with (refine wpl_lookup _ _ _ hl ?_)
      refine HWI.out.mono ?_
      rintro e w1 ⟨rfl, rfl⟩
      go_wp2_with fail
      refine HK.out.mono ?_
      rintro e w2 ⟨rfl, hs2⟩
      have HD := Lib.hid (ydepth (HT.out.same hs2) p HP.out)
      have HH := Lib.hid (yheight (HT.out.same hs2) i HI.out)
      have HS2 := Lib.hid hs2
      clear hs2
      go_wp2_with fail
      refine HD.out.mono ?_
      rintro e w3 ⟨rfl, rfl⟩
      go_wp2_with fail
      refine HH.out.mono ?_
      rintro e w3 ⟨rfl, hs3⟩
      have HS3 := Lib.hid hs3
      clear hs3
      go_wp2
      go_ret
      exact ⟨rfl, nb, R, H.out.same ((HS.out.trans HS2.out).trans HS3.out), Own.of_same ((HS.out.trans HS2.out).trans HS3.out) fun _ q => .inl q⟩
    rw [if_neg (fun q => q.elim hk hd)]
    have hdz : ¬ (8 : Int) < (depth S p : Int) + 1 + height S i := by omega
    have HDD := Lib.hid hd
    clear hk hd
    go_enter Try.func13, Try.ntmps13
    go_wp2_with fail
    refine HC.out.mono ?_
    rintro e w1 ⟨rfl, rfl⟩
    go_wp2_with (refine wpl_lookup _ _ _ hl ?_)
    refine HWI.out.mono ?_
    rintro e w1 ⟨rfl, rfl⟩
    go_wp2_with fail
    refine HK.out.mono ?_
    rintro e w2 ⟨rfl, hs2⟩
    have HD := Lib.hid (ydepth (HT.out.same hs2) p HP.out)
    have HH := Lib.hid (yheight (HT.out.same hs2) i HI.out)
    have HS2 := Lib.hid hs2
    clear hs2
    go_wp2_with fail
    refine HD.out.mono ?_
    rintro e w3 ⟨rfl, rfl⟩
    go_wp2_with fail
    refine HH.out.mono ?_
    rintro e w3 ⟨rfl, hs3⟩
    have T3 := (HT.out.same HS2.out).same hs3
    have li := T3.look1 HI.out
    have lp := T3.look1 HP.out
    have li2 := (T3.same ((Chg.refl _ w3).drew)).look1 HI.out
    have lp2 := (T3.same ((Chg.refl _ w3).drew)).look1 HP.out
    have c13 := T3.c1
    have HT3 := Lib.hid T3
    have HS3 := Lib.hid ((HS.out.trans HS2.out).trans hs3)
    clear hs3 T3 HD HH HK HWI HC hl c1 hpar
    go_upto_region 8 with fail
    go_wp2_with fail
    refine wp_still (by kernel_rfl) (by kernel_rfl) ?_
    repeat still_step
    try refine wpStill_nil ?_
    have TD := HT3.out.same ((Chg.refl _ w3).drew)
    have HSD := Lib.hid (HS3.out.drew)
    generalize w3.drew = wd at *
    clear li lp
    obtain ⟨ni, hni⟩ := has_get HI.out
    obtain ⟨np, hnp⟩ := has_get HP.out
    obtain ⟨vpi, vci, hai, hsi1, hsi2⟩ := TD.nd hni
    obtain ⟨vpp, vcp, hap, hsp1, hsp2⟩ := TD.nd hnp
    have hpi : p ≠ i := by
      have := HPN.out
      rintro rfl
      rw [H.out.ok.self_in] at this
      cases this
    have hne : nb p ≠ nb i := fun e => hpi (TD.inj p i HP.out HI.out e)
    have q0 := cell_at hai 0
    have q1 := cell_at hai 1
    have q3 := cell_at hai 3
    have q4 := cell_at hai 4
    have q5 := cell_at hai 5
    have q6 := cell_at hai 6
    have p7 := cell_at hap 7
    simp only [ncells, List.getElem?_cons_succ, List.getElem?_cons_zero] at q0 q1 q3 q4 q5 q6 p7
    have fi := TD.fr HI.out
    have fp := TD.fr HP.out
    have li := TD.nlt HI.out
    have lp := TD.nlt HP.out
    have HTD := Lib.hid TD
    have HNI := Lib.hid (And.intro hni (And.intro hai (And.intro hsi1 hsi2)))
    have HNP := Lib.hid (And.intro hnp (And.intro hap (And.intro hsp1 hsp2)))
    clear TD hni hai hsi1 hsi2 hnp hap hsp1 hsp2 li2 lp2 c13
    go_wp2_with fail
    have hW := attW_chg wd (nb i) p
    have hWat := attW_at (p := p) HNI.out.2.1
    change Calls _ _ _ (attW wd (nb i) p) _
    generalize attW wd (nb i) p = W at *
    have hint := HTD.out.nd_int HI.out
    have hslW : SlAt W R vpp np.pend := HNP.out.2.2.1.other hW hint
    have hple : np.pend.length ≤ 1000 := Nat.le_trans (H.out.ok.pend_le (get_some HNP.out.1).1) H.out.few
    refine (yclone hslW (by omega)).mono ?_
    rintro e w5 ⟨v', rfl, g, c, rfl, hg, ho, hs5⟩
    have hp5 := hs5.at_ (hW.at_ HNP.out.2.1 hne) (fun q => q)
    have hi5 := hs5.at_ hWat (fun q => q)
    have hWsz := hW.size
    have h5sz := hs5.size
    have HO := Lib.hid ho
    have HW5 := Lib.hid (And.intro hW hs5)
    have HP5 := Lib.hid hp5
    have HI5 := Lib.hid hi5
    clear hWat hslW ho hs5 hp5 hi5 hW p7 fp
    go_wp2_with (at_builtin; refine wpl_append1 W.heap.size 3 (.int .i64 0) 1 8 Try.underlying29 info3 rfl (by omega) (.slice (some ⟨g, 0, none⟩) np.pend.length c) np.pend.length (ints np.pend) (HO.out.alloc _) rfl w5.heap.size 1 [.int .i64 i] rfl (at_new w5 _) rfl (by simp [Value.oneCell']) (by omega) (by omega) (by simp; omega) ?_)
    intro g2 c2 w6 hown hgr hor hgl
    have hk6 : Chg (fun x => some x = some g) w5 w6 := Chg.grownO ((Chg.refl (fun _ => False) w5).alloc _) hgr
    have hp6 := hk6.at_ HP5.out (fun e => by simp at e; omega)
    have hi6 := hk6.at_ HI5.out (fun e => by simp at e; omega)
    have f6 := frozen_at hp6
    have l6 := lt_of_at hp6
    have p76 := cell_at hp6 7
    simp only [ncells, List.getElem?_cons_succ, List.getElem?_cons_zero] at p76
    have HP6 := Lib.hid hp6
    have HI6 := Lib.hid hi6
    have HK6 := Lib.hid hk6
    have HOWN := Lib.hid (And.intro hown (And.intro hor hgl))
    clear hk6 hp6 hi6 hown hgr hor hgl
    go_wp2
    go_ret
    have hg2 : W.heap.size ≤ g2 := by
      rcases HOWN.out.2.1 with e | e
      · simp [Value.ownBlock] at e; omega
      · rw [e]; simp; omega
    have hsD := HSD.out.size
    have kall : Chg (fun x => x = nb i ∨ x = nb p) wd (w6.setCell ⟨nb p, 7, none⟩ (.slice (some ⟨g2, 0, none⟩) (np.pend.length + 1) c2)) :=
      ((((HW5.out.1.mono (fun x _ e => Or.inl e)).then_ HW5.out.2 (fun _ _ q => q.elim)).then_ HK6.out (fun x hx e => by simp at e; omega))).set1 (nb p) 7 _ (.inr rfl)
    have kint : ∀ x C, wd.heap[x]? = some (.cells C 3 (0, 0)) → ¬ (x = nb i ∨ x = nb p) := fun x C hx e => e.elim (hint x C hx) (HTD.out.nd_int HP.out x C hx)
    have hlen : (np.pend ++ [i]).length = np.pend.length + 1 := by simp
    have hnew : SlAt (w6.setCell ⟨nb p, 7, none⟩ (.slice (some ⟨g2, 0, none⟩) (np.pend.length + 1) c2)) (fun x => R x ∨ x = g2) (.slice (some ⟨g2, 0, none⟩) (np.pend.length + 1) c2) (np.pend ++ [i]) := by
      have h1 : SlAt w6 (fun x => R x ∨ x = g2) (.slice (some ⟨g2, 0, none⟩) (np.pend.length + 1) c2) (np.pend ++ [i]) := SlAt.of_own (by
        have := HOWN.out.1
        unfold Go.Proofs.Ytehcfeibfpgamaa.ints at this ⊢
        rw [List.map_append]; exact this) (.inr rfl)
      exact h1.other ((Chg.refl (fun x => x = nb p) w6).set1 (nb p) 7 _ rfl) (fun x C hx e => by rw [e, HP6.out] at hx; simp at hx)
    have hok := att_ok H.out.ok HI.out HP.out HZ.out HPN.out (by have := HDD.out; omega)
    refine ⟨rfl, nb, fun x => R x ∨ x = g2, HTD.out.putG (attN i p) (attN_id i p) kall (fun e => e.elim (fun q => HTD.out.nd_b HI.out q.symm) (fun q => HTD.out.nd_b HP.out q.symm)) (fun e => e.elim (fun q => HTD.out.nd_bm HI.out q.symm) (fun q => HTD.out.nd_bm HP.out q.symm)) (fun x q => .inl q) ?_ hok ?_, ?_⟩
    · intro x hx
      rcases hx with q | q
      · exact Nat.lt_of_lt_of_le (HTD.out.lt x q) kall.size
      · rw [q]; simpa using HOWN.out.2.2
    · intro n hn
      have hg := get_of H.out.ok.ids hn
      unfold attN
      by_cases e1 : n.id = i
      · rw [if_pos e1]
        rw [e1, HNI.out.1] at hg
        cases hg
        rw [e1]
        exact ⟨vpi, vci, at_setCell_other _ (fun e => hne e.symm) HI6.out, (HNI.out.2.2.1.other kall kint).mono (fun _ q => .inl q), (HNI.out.2.2.2.other kall kint).mono (fun _ q => .inl q)⟩
      · rw [if_neg e1]
        by_cases e2 : n.id = p
        · rw [if_pos e2]
          rw [e2, HNP.out.1] at hg
          cases hg
          rw [e2]
          exact ⟨_, vcp, at_setCell (i := 7) _ HP6.out, hnew, (HNP.out.2.2.2.other kall kint).mono (fun _ q => .inl q)⟩
        · rw [if_neg e2]
          have hb : hasB S n.id = true := hasB_iff.2 (List.mem_map_of_mem hn)
          exact ((HTD.out.node n hn).other kall (fun q => q.elim (fun q => e1 (HTD.out.inj _ _ hb HI.out q)) (fun q => e2 (HTD.out.inj _ _ hb HP.out q))) kint).mono (fun _ q => .inl q)
    · exact ⟨(Chg.of_same (S := R) HSD.out).then_ kall (fun x _ e => e.elim (fun q => q ▸ H.out.rn _ HI.out) (fun q => q ▸ H.out.rn _ HP.out)), fun x hx => hx.elim .inl (fun e => .inr (by omega))⟩
end
end Go.Proofs.Ytehcfeibfpgamaa
