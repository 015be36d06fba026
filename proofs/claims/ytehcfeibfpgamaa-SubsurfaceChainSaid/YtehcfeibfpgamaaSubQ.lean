/- Trees of subsurfaces: apply. -/
import Derived.Test.YtehcfeibfpgamaaSubH
import Derived.Deep.Cut
set_option linter.unusedVariables false
set_option linter.unusedSimpArgs false
set_option maxRecDepth 100000
namespace Go.Proofs.Ytehcfeibfpgamaa
open Go.RowKit

/-- What apply has made of the nodes while it goes round: 'left': whom it has not come to. -/
def gP (i : Int) (left : Int → Bool) (n : Nd) : Nd :=
  if n.id = i then { n with cur := n.pend, cached := false } else if n.par = i ∧ left n.id = false then { n with cx := n.px, cy := n.py } else n
theorem gP_id (i : Int) (left : Int → Bool) (n : Nd) : (gP i left n).id = n.id := by unfold gP; split; rfl; split <;> rfl
theorem gP_par (i : Int) (left : Int → Bool) (n : Nd) : (gP i left n).par = n.par := by unfold gP; split; rfl; split <;> rfl
theorem gP_pend (i : Int) (left : Int → Bool) (n : Nd) : (gP i left n).pend = n.pend := by unfold gP; split; rfl; split <;> rfl
theorem gP_ok {S : Fo} (h : S.ok) (i : Int) (left : Int → Bool) : Fo.ok (S.map (gP i left)) := by
  refine ok_map h _ (gP_id i left) (gP_par i left) (fun n hn => by rw [gP_pend]; exact h.pnd n hn) (fun n hn => ?_)
  have h1 := h.pnd n hn
  have h2 := h.crr n hn
  unfold gP
  split
  · exact ⟨h1.1, h1.2.1, h1.2.2.1⟩
  · split <;> exact h2
theorem gP_all {S : Fo} {i : Int} {left : Int → Bool} (h : ∀ k, left k = false) : S.map (gP i left) = aplS S i := by
  unfold aplS
  refine List.map_congr_left fun n _ => ?_
  unfold gP aplN
  simp only [h, and_true]
theorem gP_none {S : Fo} {i : Int} {left : Int → Bool} (h : ∀ n ∈ S, left n.id = true) : S.map (gP i left) = upd S i fun n => { n with cur := n.pend, cached := false } := by
  unfold upd
  refine List.map_congr_left fun n hn => ?_
  unfold gP
  simp only [h n hn, Bool.true_eq_false, and_false, if_false]
theorem gP_skip {S : Fo} {i k : Int} {left : Int → Bool} (hk : parOf S k ≠ i) (hS : (S.map Nd.id).Nodup) : S.map (gP i fun x => left x && !(x == k)) = S.map (gP i left) := by
  refine List.map_congr_left fun n hn => ?_
  unfold gP
  by_cases e : n.id = k
  · have hp : ¬ n.par = i := by rw [← parOf_of hS hn, e]; exact hk
    simp only [hp, false_and, if_false]
  · simp only [beq_eq_false_iff_ne.2 e, Bool.not_false, Bool.and_true]
theorem gP_step {S : Fo} {i k : Int} {left : Int → Bool} (hk : parOf S k = i) (hki : k ≠ i) (hl : left k = true) (hS : (S.map Nd.id).Nodup) :
    S.map (gP i fun x => left x && !(x == k)) = upd (S.map (gP i left)) k fun n => { n with cx := n.px, cy := n.py } := by
  unfold upd
  rw [List.map_map]
  refine List.map_congr_left fun n hn => ?_
  simp only [Function.comp_apply, gP_id]
  by_cases e : n.id = k
  · rw [if_pos e]
    have hp : n.par = i := by rw [← parOf_of hS hn, e]; exact hk
    have hnk : ¬ n.id = i := by rw [e]; exact hki
    have h1 : n.par = i ∧ (left n.id && !(n.id == k)) = false := ⟨hp, by simp [e]⟩
    have h2 : ¬ (n.par = i ∧ left n.id = false) := by rw [e, hl]; simp
    unfold gP
    simp only [if_neg hnk, if_pos h1, if_neg h2]
  · rw [if_neg e]
    unfold gP
    simp only [beq_eq_false_iff_ne.2 e, Bool.not_false, Bool.and_true]
def NB (S : Fo) (nb : Int → Nat) (x : Nat) : Prop := ∃ j, hasB S j = true ∧ x = nb j
/-- The tree has become S'; only its nodes' blocks were written. -/
def Grew (w : World) (b bm : Nat) (nb : Int → Nat) (R : Nat → Prop) (S S' : Fo) (w' : World) : Prop :=
  ∃ R', TAt w' b bm nb R' S' ∧ Chg (NB S nb) w w' ∧ (∀ x, R x → R' x) ∧ ∀ x, R' x → R x ∨ w.heap.size ≤ x
section
variable {w w' : World} {b bm : Nat} {nb : Int → Nat} {R R' Q : Nat → Prop} {S : Fo} {i p : Int} {n : Nd}
theorem nb_int (h : TAt w b bm nb R S) : ∀ x C, w.heap[x]? = some (.cells C 3 (0, 0)) → ¬ NB S nb x := fun x C hx ⟨j, hj, e⟩ => h.nd_int hj x C hx e
theorem nb_R (h : TAt w b bm nb R S) : ∀ x, NB S nb x → R x := fun x ⟨j, hj, e⟩ => e ▸ h.rn j hj
set_option maxHeartbeats 4000000 in
theorem yapply (h : TAt w b bm nb R S) (i : Int) (hi : hasB S i = true) :
    Calls Try.prog 36 #[.pointer (some ⟨b, 0, none⟩), .int .i64 i] w fun e w' => e = .returned (.tuple #[]) ∧ Grew w b bm nb R S (aplS S i) w' := by
  have c1 := h.c1
  have hl := h.look1 hi
  have H := Lib.hid h
  have HI := Lib.hid hi
  obtain ⟨ni, hni⟩ := has_get hi
  obtain ⟨vp, vc, ha, h1, h2⟩ := h.nd hni
  have hple : ni.pend.length ≤ 1000 := Nat.le_trans (h.ok.pend_le (get_some hni).1) h.few
  have k7 := cell_at ha 7
  simp only [ncells, List.getElem?_cons_succ, List.getElem?_cons_zero] at k7
  have HC := Lib.hid (yclone h1 (by omega))
  have HA := Lib.hid (And.intro hni (And.intro ha (And.intro h1 h2)))
  have HPL := Lib.hid hple
  clear h hi hni ha h1 h2 hple
  go_enter Try.func36, Try.ntmps36
  go_wp2_with (refine wpl_lookup _ _ _ hl ?_)
  refine HC.out.mono ?_
  rintro e w2 ⟨v2, rfl, g, c, rfl, hg, ho, hs2⟩
  have ha2 := hs2.at_ HA.out.2.1 (fun q => q)
  have f2 := frozen_at ha2
  have l2 := lt_of_at ha2
  have q8 := cell_at ha2 8
  have q2 := cell_at ha2 2
  have c12 := hs2.cell c1 (fun q => q)
  simp only [ncells, List.getElem?_cons_succ, List.getElem?_cons_zero] at q8 q2
  have hbn : b ≠ nb i := fun e => H.out.nd_b HI.out e.symm
  have HO := Lib.hid (And.intro hg (And.intro ho (And.intro hs2 ha2)))
  clear ho hs2 ha2 hg hl k7 c1
  go_upto_region 3 with fail
  have k3 : Chg (fun x => x = nb i) w2 ((w2.setCell ⟨nb i, 8, none⟩ (.slice (some ⟨g, 0, none⟩) ni.pend.length c)).setCell ⟨nb i, 2, none⟩ (.bool false)) := (Chg.refl _ w2).set2 (nb i) 8 2 _ _ rfl
  have T2 := H.out.same HO.out.2.2.1
  have hgl : g < w2.heap.size := (HO.out.2.1.lt g rfl).2
  have T3 : TAt ((w2.setCell ⟨nb i, 8, none⟩ (.slice (some ⟨g, 0, none⟩) ni.pend.length c)).setCell ⟨nb i, 2, none⟩ (.bool false)) b bm nb (fun x => R x ∨ x = g) (S.map (gP i fun k => (tmap S nb k).isSome)) := by
    have e := gP_none (S := S) (i := i) (left := fun k => (tmap S nb k).isSome) (fun n hn => tmap_is (hasB_iff.2 (List.mem_map_of_mem hn)))
    have hok := gP_ok H.out.ok i fun k => (tmap S nb k).isSome
    rw [e] at hok ⊢
    refine T2.putU HI.out _ (fun n => rfl) k3 (fun _ q => .inl q) (fun x hx => ?_) hok (fun n hn => ?_)
    · rcases hx with q | q
      · exact Nat.lt_of_lt_of_le (T2.lt x q) k3.size
      · rw [q]; simpa using hgl
    · rw [HA.out.1] at hn
      cases hn
      refine ⟨vp, _, at_setCell (i := 2) _ (at_setCell (i := 8) _ HO.out.2.2.2), ((HA.out.2.2.1.chg HO.out.2.2.1 (fun _ _ q => q)).other k3 (T2.nd_int HI.out)).mono (fun _ q => .inl q), ?_⟩
      exact (SlAt.of_own (R := fun x => R x ∨ x = g) HO.out.2.1 (.inr rfl)).other k3 (T2.nd_int HI.out)
  have hm3 : MapIs ((w2.setCell ⟨nb i, 8, none⟩ (.slice (some ⟨g, 0, none⟩) ni.pend.length c)).setCell ⟨nb i, 2, none⟩ (.bool false)) bm (tmap S nb) := T3.map.congr fun z => by unfold tmap; rw [hasB_ids (map_ids _ (gP_id i _))]
  have kw : Chg (NB S nb) w ((w2.setCell ⟨nb i, 8, none⟩ (.slice (some ⟨g, 0, none⟩) ni.pend.length c)).setCell ⟨nb i, 2, none⟩ (.bool false)) := (Chg.of_same HO.out.2.2.1).then_ k3 (fun x _ e => ⟨i, HI.out, e⟩)
  have c13 := k3.cell c12 hbn
  generalize (w2.setCell ⟨nb i, 8, none⟩ (.slice (some ⟨g, 0, none⟩) ni.pend.length c)).setCell ⟨nb i, 2, none⟩ (.bool false) = w3 at *
  have HK3 := Lib.hid kw
  have HT3 := Lib.hid T3
  have HG := Lib.hid HO.out.1
  clear kw T3 T2 k3 c12 q8 q2 f2 l2 HO HA hgl
  go_wp2_with (refine wpl_range hm3 Try.underlying60 _ rfl ?_)
  intro w4 cnt hR hS hz
  have HR := Lib.hid hR
  have HS := Lib.hid hS
  clear hR hS
  go_wp2
  go_frame
  go_loopw [] (fun wr => Chg (NB S nb) w wr ∧ w3.heap.size < wr.heap.size ∧ ∃ left cnt, RngIs wr bm w3.heap.size (tmap S nb) left cnt ∧ TAt wr b bm nb (fun x => R x ∨ x = g) (S.map (gP i left))) (fun wr => wr.rangeLeft bm w3.heap.size)
  case atStart => exact ⟨HK3.out.then_ HS.out (fun _ _ q => q.elim), by omega, _, _, HR.out, HT3.out.same HS.out⟩
  case round =>
    obtain ⟨hch, hsz, left, cnt2, hr2, hT⟩ := hrel
    have HCH := Lib.hid hch
    have HR2 := Lib.hid hr2
    have HT := Lib.hid hT
    clear hch hT
    go_wp2_with (refine wpl_next hr2 _ rfl ?_ ?_)
    · intro hno
      have HN := Lib.hid hno
      clear hno
      go_wp2
      go_end0
      refine ⟨rfl, fun x => R x ∨ x = g, ?_, HCH.out, fun _ q => .inl q, fun x hx => hx.elim .inl (fun e => .inr (by rw [e]; exact HG.out))⟩
      rw [← gP_all (left := left) HN.out]
      exact HT.out
    · intro z v w5 cnt3 hl hv hr3 hlt hc3 hs3 hent
      obtain ⟨hz2, rfl⟩ := tmap_some hv
      have hRr : ∀ x, (R x ∨ x = g) → ¬ x = w3.heap.size := fun x hx e => by have := HT3.out.lt x hx; omega
      have T5 := HT.out.chg hc3 hRr
      have hh : hasB (S.map (gP i left)) z = true := by rw [hasB_ids (map_ids _ (gP_id i _))]; exact hz2
      have hp := T5.par hh
      have hpe : parOf (S.map (gP i left)) z = parOf S z := by rw [parOf_same _ (gP_id i _) (gP_par i _)]
      rw [hpe] at hp
      have e1 := HR2.out.left_eq
      have e2 := hr3.left_eq
      have hch5 : Chg (NB S nb) w w5 := HCH.out.then_ hc3 (fun x hx e => by have := HK3.out.size; omega)
      have HCH5 := Lib.hid hch5
      have HT5 := Lib.hid T5
      have HR3 := Lib.hid hr3
      have HLT := Lib.hid hlt
      have HZ := Lib.hid hz2
      have HH := Lib.hid hh
      have HL := Lib.hid hl
      have hs5 : w3.heap.size < w5.heap.size := by omega
      clear hch5 T5 hr3 hc3 hs3 hv hz2 hl hlt hpe hh
      unfold ptrOf at *
      by_cases hpi : parOf S z = i
      · have HPI := Lib.hid hpi
        rw [hpi] at hp
        clear hpi
        obtain ⟨nz, hnz⟩ := has_get HH.out
        obtain ⟨vpz, vcz, haz, h1z, h2z⟩ := HT5.out.nd hnz
        have fz := frozen_at haz
        have lz := lt_of_at haz
        have q3 := cell_at haz 3
        have q4 := cell_at haz 4
        have q5 := cell_at haz 5
        have q6 := cell_at haz 6
        simp only [ncells, List.getElem?_cons_succ, List.getElem?_cons_zero] at q3 q4 q5 q6
        have HAZ := Lib.hid (And.intro hnz (And.intro haz (And.intro h1z h2z)))
        clear hnz haz h1z h2z
        go_wp2
        have hzi : z ≠ i := by
          have := H.out.ok.par_ne z (H.out.ok.has_ne HZ.out)
          rw [HPI.out] at this
          exact fun e => this e.symm
        have hok := gP_ok H.out.ok i fun x => left x && !(x == z)
        rw [gP_step HPI.out hzi HL.out H.out.ok.ids] at hok
        have k5 : Chg (fun x => x = nb z) w5 ((w5.setCell ⟨nb z, 5, none⟩ (.int .i64 nz.px)).setCell ⟨nb z, 6, none⟩ (.int .i64 nz.py)) := (Chg.refl _ w5).set2 (nb z) 5 6 _ _ rfl
        have hr6 : RngIs ((w5.setCell ⟨nb z, 5, none⟩ (.int .i64 nz.px)).setCell ⟨nb z, 6, none⟩ (.int .i64 nz.py)) bm w3.heap.size (tmap S nb) (fun x => left x && !(x == z)) cnt3 :=
          HR3.out.chg k5 (fun e => HT5.out.nd_bm HH.out e.symm) (fun e => hRr (nb z) (.inl (H.out.rn z HZ.out)) e.symm)
        have hT6 := HT5.out.putU HH.out (fun n => { n with cx := n.px, cy := n.py }) (fun n => rfl) k5 (fun _ q => q) (fun x hx => Nat.lt_of_lt_of_le (HT5.out.lt x hx) k5.size) hok (fun n hn => by
          rw [HAZ.out.1] at hn
          cases hn
          exact ⟨vpz, vcz, at_setCell (i := 6) _ (at_setCell (i := 5) _ HAZ.out.2.1), HAZ.out.2.2.1.other k5 (HT5.out.nd_int HH.out), HAZ.out.2.2.2.other k5 (HT5.out.nd_int HH.out)⟩)
        rw [← gP_step HPI.out hzi HL.out H.out.ok.ids] at hT6
        exact ⟨⟨HCH5.out.then_ k5 (fun x _ e => ⟨z, HZ.out, e⟩), by simpa using hs5, _, _, hr6, hT6⟩, by rw [hr6.left_eq, e1]; exact HLT.out⟩
      · have hne : (parOf S z == i) = false := beq_eq_false_iff_ne.2 hpi
        have HPI := Lib.hid hpi
        clear hpi
        go_wp2
        exact ⟨⟨HCH5.out, hs5, _, _, HR3.out, by rw [gP_skip HPI.out H.out.ok.ids]; exact HT5.out⟩, by rw [e1, e2]; exact HLT.out⟩
end
end Go.Proofs.Ytehcfeibfpgamaa
