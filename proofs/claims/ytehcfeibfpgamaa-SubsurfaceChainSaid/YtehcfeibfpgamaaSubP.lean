/- Trees of subsurfaces: Place. -/
import Derived.Test.YtehcfeibfpgamaaSubL
import Derived.Test.YtehcfeibfpgamaaPath
set_option linter.unusedVariables false
set_option linter.unusedSimpArgs false
set_option maxRecDepth 100000
namespace Go.Proofs.Ytehcfeibfpgamaa
open Go.RowKit

theorem insAt_no {s i : Int} {above : Bool} : ∀ {l : List Int}, s ∉ l → insAt s i above l = l
  | [], _ => rfl
  | x :: l, h => by
    simp only [List.mem_cons, not_or] at h
    have e : insAt s i above (x :: l) = (if x = s then (if above then [x, i] else [i, x]) else [x]) ++ insAt s i above l := by simp [insAt]
    rw [e, insAt_no h.2, if_neg (fun q => h.1 q.symm)]; rfl
theorem insAt_idx {s : Int} {l : List Int} (hn : l.Nodup) (hs : s ∈ l) :
    ∃ j : Nat, idxInts l s = (j : Int) ∧ j < l.length ∧ ∀ i, (insAt s i false l = l.take j ++ i :: l.drop j ∧ insAt s i true l = l.take (j + 1) ++ i :: l.drop (j + 1)) := by
  obtain ⟨l1, l2, rfl, h1⟩ := List.eq_append_cons_of_mem hs
  have h2 : s ∉ l2 := by
    have := (List.nodup_append.1 hn).2.1
    exact (List.nodup_cons.1 this).1
  refine ⟨l1.length, ?_, by simp, fun i => ?_⟩
  · refine idxInts_at (i := l1.length) (by simp) (fun j hj hjl => ?_) (by simp)
    rw [List.getElem_append_left (by omega), beq_eq_false_iff_ne]
    rintro e
    exact h1 (by rw [e]; exact List.getElem_mem _)
  · have e : ∀ above, insAt s i above (l1 ++ s :: l2) = l1 ++ ((if above then [s, i] else [i, s]) ++ l2) := fun above => by
      have : insAt s i above (l1 ++ s :: l2) = insAt s i above l1 ++ ((if s = s then (if above then [s, i] else [i, s]) else [s]) ++ insAt s i above l2) := by simp [insAt]
      rw [this, insAt_no h1, insAt_no h2, if_pos rfl]
    constructor
    · rw [e]; simp
    · rw [e]
      have a1 : (l1 ++ s :: l2).take (l1.length + 1) = l1 ++ [s] := by
        rw [show l1 ++ s :: l2 = (l1 ++ [s]) ++ l2 by simp]
        exact List.take_left' (by simp)
      have a2 : (l1 ++ s :: l2).drop (l1.length + 1) = l2 := by
        rw [show l1 ++ s :: l2 = (l1 ++ [s]) ++ l2 by simp]
        exact List.drop_left' (by simp)
      rw [a1, a2]; simp
def plcR (S : Fo) (i s : Int) (above : Bool) : Fo × Int :=
  if hasB S i = true ∧ hasB S s = true then (if parOf S i = 0 ∨ (s ≠ parOf S i ∧ (s = i ∨ parOf S s ≠ parOf S i)) then (S, 16) else (plcS S i s above, 0)) else (S, 8)
section
variable {w w' : World} {b bm : Nat} {nb : Int → Nat} {R R' Q : Nat → Prop} {S : Fo} {i s p : Int} {n : Nd}
theorem plc_mem (h : S.ok) (hn : n ∈ S) (hni : n.id = parOf S i) (hi : parOf S i ≠ 0) (hsi : s ≠ i) (hs : s = parOf S i ∨ parOf S s = parOf S i) : s ∈ rem i n.pend ∧ i ∈ n.pend := by
  obtain ⟨a, b, c, d⟩ := h.pnd n hn
  have hm : ∀ x, parOf S x = parOf S i → x ∈ n.pend := fun x hx => by
    obtain ⟨m, hm⟩ := has_get (h.has_of_par (i := x) (by rw [hx]; exact hi))
    have hms := get_some hm
    have := d m hms.1 (by rw [← parOf_get hm, hx, hni])
    rwa [hms.2] at this
  refine ⟨mem_rem.2 ⟨?_, hsi⟩, hm i rfl⟩
  rcases hs with q | q
  · rw [q, ← hni]; exact b
  · exact hm s q
theorem rem_lt {l : List Int} (h : i ∈ l) : (rem i l).length < l.length := List.length_filter_lt_length_iff_exists.2 ⟨i, h, by simp⟩
theorem own_ints {base g m c : Nat} {xs : List Int} (h : w.ownsRow base 3 1 (.slice (some ⟨g, 0, none⟩) m c) m (ints xs)) : IntsAt w (some ⟨g, 0, none⟩) m xs := by
  have hxl : xs.length = m := by have := h.1; simpa [ints] using this
  have hs := SlAt.of_own (R := fun _ => True) (xs := xs) h trivial
  obtain ⟨g', c', e, _, _, hc⟩ := hs.ints
  simp only [Value.slice.injEq, Option.some.injEq, Addr.mk.injEq, and_true, true_and] at e
  obtain ⟨rfl, _⟩ := e
  exact ⟨hxl, fun _ => ⟨g, 0, rfl, hc⟩⟩
theorem plc_end {W1 w2 w4 : World} {np : Nd} {vpp vcp : Value} {above : Bool} {g2 c2 m base : Nat} {ys : List Int} (hT : TAt W1 b bm nb R S) (hS : Same w W1) (hI : hasB S i = true) (hP : hasB S p = true) (hnp : get S p = some np)
    (hap : W1.heap[nb p]? = some (.cells (ncells np vpp vcp).toArray 72 (0, 0))) (h1 : SlAt W1 R vpp np.pend) (h2 : SlAt W1 R vcp np.cur) (hs2 : Same W1 w2) (hg2 : W1.heap.size ≤ g2)
    (ho4 : w4.ownsRow base 3 1 (.slice (some ⟨g2, 0, none⟩) m c2) m (ints ys)) (hk4 : Chg (fun x => x = g2) (w2.alloc (.cells #[.int .i64 i] 3)) w4) (hp4 : w4.heap[nb p]? = some (.cells (ncells np vpp vcp).toArray 72 (0, 0)))
    (hm : (insAt s i above (rem i np.pend)).length = m) (hys : ys = insAt s i above (rem i np.pend)) (hok : Fo.ok (upd S p fun n => { n with pend := insAt s i above (rem i n.pend) })) (hne : nb p ≠ g2) :
    YOut w b bm R (upd S p fun n => { n with pend := insAt s i above (rem i n.pend) }) (.int .i64 0) (.returned (.int .i64 0)) (w4.setCell ⟨nb p, 7, none⟩ (.slice (some ⟨g2, 0, none⟩) m c2)) := by
  subst hys
  have k24 : Chg (fun x => x = nb p) W1 (w4.setCell ⟨nb p, 7, none⟩ (.slice (some ⟨g2, 0, none⟩) m c2)) :=
    (((Chg.of_same (S := fun x => x = nb p) hs2).alloc _).then_ hk4 (fun x hx e => by omega)).set1 (nb p) 7 _ rfl
  have hl2 : g2 < w4.heap.size := (ho4.lt g2 rfl).2
  have hnew : SlAt (w4.setCell ⟨nb p, 7, none⟩ (.slice (some ⟨g2, 0, none⟩) m c2)) (fun x => R x ∨ x = g2) (.slice (some ⟨g2, 0, none⟩) m c2) (insAt s i above (rem i np.pend)) :=
    (SlAt.of_own (R := fun x => R x ∨ x = g2) ho4 (.inr rfl)).other ((Chg.refl (fun x => x = nb p) w4).set1 (nb p) 7 _ rfl) (fun x C hx e => by rw [e, hp4] at hx; simp at hx)
  refine ⟨rfl, nb, fun x => R x ∨ x = g2, hT.putU hP _ (fun n => rfl) k24 (fun _ q => .inl q) ?_ hok ?_, (Chg.of_same (S := R) hS).then_ k24 (fun x _ e => e ▸ hT.rn _ hP), ?_⟩
  · intro x hx
    rcases hx with q | q
    · exact Nat.lt_of_lt_of_le (hT.lt x q) k24.size
    · rw [q]; simpa using hl2
  · intro n hn
    rw [hnp] at hn
    cases hn
    exact ⟨_, vcp, at_setCell (i := 7) _ hp4, hnew, (h2.other k24 (hT.nd_int hP)).mono (fun _ q => .inl q)⟩
  · intro x hx
    rcases hx with q | q
    · exact .inl q
    · have := hS.size; exact .inr (by omega)
set_option maxHeartbeats 8000000 in
theorem yplace (h : TAt w b bm nb R S) (i s : Int) (above : Bool) :
    Calls Try.prog 28 #[.pointer (some ⟨b, 0, none⟩), .int .i64 i, .int .i64 s, .bool above] w (YOut w b bm R (plcR S i s above).1 (.int .i64 (plcR S i s above).2)) := by
  have HC := Lib.hid (ycheck2 h i s)
  have HS := Lib.hid ((Chg.refl (fun _ => False) w).alloc (.cells #[.int .i64 i, .int .i64 s] 3))
  have H := Lib.hid h
  unfold plcR
  clear h
  by_cases hb : hasB S i = true ∧ hasB S s = true
  case neg =>
    rw [if_neg hb] at HC ⊢
    go_enter Try.func28, Try.ntmps28
    go_wp2_with fail
    refine HC.out.mono ?_
    rintro e w1 ⟨rfl, rfl⟩
    go_wp2
    go_ret
    exact ⟨rfl, nb, R, H.out.same HS.out, Own.of_same HS.out fun _ q => .inl q⟩
  rw [if_pos hb] at HC ⊢
  obtain ⟨hi, hs⟩ := hb
  have T := H.out.same HS.out
  generalize hW1 : w.alloc (.cells #[.int .i64 i, .int .i64 s] 3) = W1 at *
  have c1 := T.c1
  have hl := T.look1 hi
  have hls := T.look1 hs
  have hpar := T.par hi
  have hpars := T.par hs
  have HI := Lib.hid hi
  have HS2 := Lib.hid hs
  by_cases h0 : parOf S i = 0
  case pos =>
    rw [if_pos (.inl h0)]
    rw [h0] at hpar
    clear T hi hs h0
    go_enter Try.func28, Try.ntmps28
    go_wp2_with fail
    refine HC.out.mono ?_
    rintro e w1 ⟨rfl, rfl⟩
    go_wp2_with (first | refine wpl_lookup _ _ _ hl ?_ | refine wpl_lookup _ _ _ hls ?_)
    go_ret
    exact ⟨rfl, nb, R, H.out.same HS.out, Own.of_same HS.out fun _ q => .inl q⟩
  have hb0 : (parOf S i == 0) = false := beq_eq_false_iff_ne.2 h0
  by_cases hbad : s ≠ parOf S i ∧ (s = i ∨ parOf S s ≠ parOf S i)
  case pos =>
    rw [if_pos (.inr hbad)]
    have hb1 : (s != parOf S i) = true := bne_iff_ne.2 hbad.1
    by_cases hsi : s = i
    · have hb2 : (s == i) = true := beq_iff_eq.2 hsi
      clear T hi hs h0 hbad hsi
      go_enter Try.func28, Try.ntmps28
      go_wp2_with fail
      refine HC.out.mono ?_
      rintro e w1 ⟨rfl, rfl⟩
      go_wp2_with (first | refine wpl_lookup _ _ _ hl ?_ | refine wpl_lookup _ _ _ hls ?_)
      go_ret
      exact ⟨rfl, nb, R, H.out.same HS.out, Own.of_same HS.out fun _ q => .inl q⟩
    · have hb2 : (s == i) = false := beq_eq_false_iff_ne.2 hsi
      have hb3 : (parOf S s != parOf S i) = true := bne_iff_ne.2 (hbad.2.resolve_left hsi)
      clear T hi hs h0 hbad hsi
      go_enter Try.func28, Try.ntmps28
      go_wp2_with fail
      refine HC.out.mono ?_
      rintro e w1 ⟨rfl, rfl⟩
      go_wp2_with (first | refine wpl_lookup _ _ _ hl ?_ | refine wpl_lookup _ _ _ hls ?_)
      go_ret
      exact ⟨rfl, nb, R, H.out.same HS.out, Own.of_same HS.out fun _ q => .inl q⟩
  rw [if_neg (fun q => q.elim h0 hbad)]
  have hgo : s ≠ i ∧ (s = parOf S i ∨ parOf S s = parOf S i) := by
    by_cases e : s = parOf S i
    · exact ⟨by rw [e]; exact H.out.ok.par_ne i (H.out.ok.has_ne hi), .inl e⟩
    · refine ⟨fun q => hbad ⟨e, .inl q⟩, .inr ?_⟩
      by_cases q : parOf S s = parOf S i
      · exact q
      · exact absurd ⟨e, .inr q⟩ hbad
  have hpp := H.out.ok.par_has h0
  have lp := T.look1 hpp
  have hok := fun above => plc_ok (above := above) H.out.ok (i := i) (s := s) h0 hgo.1 hgo.2
  have HP := Lib.hid hpp
  have HOK := Lib.hid hok
  obtain ⟨np, hnp⟩ := has_get hpp
  have hnS := (get_some hnp).1
  obtain ⟨vpp, vcp, hap, hsp1, hsp2⟩ := T.nd hnp
  have hmem := plc_mem H.out.ok hnS (get_some hnp).2 h0 hgo.1 hgo.2
  obtain ⟨j, hj, hjl, hins⟩ := insAt_idx (s := s) (l := rem i np.pend) ((H.out.ok.pnd np hnS).1.filter _) hmem.1
  have hlt := rem_lt hmem.2
  have hple : np.pend.length ≤ 1000 := Nat.le_trans (H.out.ok.pend_le hnS) H.out.few
  have p7 := cell_at hap 7
  simp only [ncells, List.getElem?_cons_succ, List.getElem?_cons_zero] at p7
  have fp := T.fr hpp
  have lpp := T.nlt hpp
  have HW := Lib.hid (ywithout hsp1 (by omega) T.lt i)
  have e1 : IntKind.i64.wrap ((j : Int) + 1) = (j : Int) + 1 := IntWalk.i64_in _ (by omega)
  have HNP := Lib.hid (And.intro hnp (And.intro hap (And.intro hsp1 hsp2)))
  have HJ := Lib.hid (And.intro hj (And.intro hjl (And.intro hlt hins)))
  have HT := Lib.hid T
  have HZ := Lib.hid h0
  have hq1 : (s == i) = false := beq_eq_false_iff_ne.2 hgo.1
  have HG := Lib.hid hgo.2
  clear T hi hs hbad hok hpp hnp hnS hap hsp1 hsp2 hmem hj hjl hins hlt
  unfold plcS at *
  generalize hpe : parOf S i = p at *
  have HPE := Lib.hid hpe
  clear hpe
  by_cases hsp : s = p
  · have hq0 : (s != p) = false := bne_eq_false_iff_eq.2 hsp
    clear hsp
    cases above with
    | false =>
      go_enter Try.func28, Try.ntmps28
      go_wp2_with fail
      refine HC.out.mono ?_
      rintro e w1 ⟨rfl, rfl⟩
      go_wp2_with (first | refine wpl_lookup _ _ _ hl ?_ | refine wpl_lookup _ _ _ hls ?_ | refine wpl_lookup _ _ _ lp ?_)
      refine HW.out.mono ?_
      rintro e w2 ⟨v2, rfl, g2, c2, rfl, hc2, hg2, ho2, hs2⟩
      have hidx := indexInts_ok (some ⟨g2, 0, none⟩) (rem i np.pend).length c2 (rem i np.pend) s w2 (own_ints ho2) (by have := HJ.out.2.2.1; omega)
      rw [HJ.out.1] at hidx
      have HIX := Lib.hid hidx
      have hp2 := hs2.at_ HNP.out.2.1 (fun q => q)
      have f2 := frozen_at hp2
      have l2 := lt_of_at hp2
      have k7 := hs2.cell p7 (fun q => q)
      have HP2 := Lib.hid hp2
      have HR2 := Lib.hid (And.intro hc2 (And.intro hg2 (And.intro ho2 hs2)))
      clear hidx hp2 hc2 hg2 ho2 hs2 fp lpp p7
      go_wp2_with fail
      refine HIX.out.mono ?_
      rintro e w3 ⟨rfl, rfl⟩
      go_wp2_with fail
      refine Calls.mono (insert_room W1.heap.size g2 (rem i np.pend).length c2 (j) (rem i np.pend) i w2 HR2.out.2.2.1 (by have := HJ.out.2.1; omega) (by have := HJ.out.2.2.1; have := HR2.out.1; omega)) ?_
      rintro e w4 ⟨rfl, ho4, hk4⟩
      have hne2 : nb p ≠ g2 := fun e => by have := HT.out.nlt HP.out; have := HR2.out.2.1; omega
      have hp4 := hk4.at_ (at_alloc HP2.out) hne2
      have f4 := frozen_at hp4
      have l4 := lt_of_at hp4
      have k74 := cell_at hp4 7
      simp only [ncells, List.getElem?_cons_succ, List.getElem?_cons_zero] at k74
      have HP4 := Lib.hid hp4
      have HO4 := Lib.hid (And.intro ho4 hk4)
      clear hp4 ho4 hk4 f2 l2 k7
      go_wp2
      go_ret
      exact plc_end HT.out HS.out HI.out HP.out HNP.out.1 HNP.out.2.1 HNP.out.2.2.1 HNP.out.2.2.2 HR2.out.2.2.2 (by have := HR2.out.2.1; exact this) HO4.out.1 HO4.out.2 HP4.out (by have := (HJ.out.2.2.2 i).1; rw [this]; have := HJ.out.2.1; simp; omega) (HJ.out.2.2.2 i).1.symm (HOK.out false) hne2
    | true =>
      go_enter Try.func28, Try.ntmps28
      go_wp2_with fail
      refine HC.out.mono ?_
      rintro e w1 ⟨rfl, rfl⟩
      go_wp2_with (first | refine wpl_lookup _ _ _ hl ?_ | refine wpl_lookup _ _ _ hls ?_ | refine wpl_lookup _ _ _ lp ?_)
      refine HW.out.mono ?_
      rintro e w2 ⟨v2, rfl, g2, c2, rfl, hc2, hg2, ho2, hs2⟩
      have hidx := indexInts_ok (some ⟨g2, 0, none⟩) (rem i np.pend).length c2 (rem i np.pend) s w2 (own_ints ho2) (by have := HJ.out.2.2.1; omega)
      rw [HJ.out.1] at hidx
      have HIX := Lib.hid hidx
      have hp2 := hs2.at_ HNP.out.2.1 (fun q => q)
      have f2 := frozen_at hp2
      have l2 := lt_of_at hp2
      have k7 := hs2.cell p7 (fun q => q)
      have HP2 := Lib.hid hp2
      have HR2 := Lib.hid (And.intro hc2 (And.intro hg2 (And.intro ho2 hs2)))
      clear hidx hp2 hc2 hg2 ho2 hs2 fp lpp p7
      go_wp2_with fail
      refine HIX.out.mono ?_
      rintro e w3 ⟨rfl, rfl⟩
      go_wp2_with fail
      refine Calls.mono (insert_room W1.heap.size g2 (rem i np.pend).length c2 (j + 1) (rem i np.pend) i w2 HR2.out.2.2.1 (by have := HJ.out.2.1; omega) (by have := HJ.out.2.2.1; have := HR2.out.1; omega)) ?_
      rintro e w4 ⟨rfl, ho4, hk4⟩
      have hne2 : nb p ≠ g2 := fun e => by have := HT.out.nlt HP.out; have := HR2.out.2.1; omega
      have hp4 := hk4.at_ (at_alloc HP2.out) hne2
      have f4 := frozen_at hp4
      have l4 := lt_of_at hp4
      have k74 := cell_at hp4 7
      simp only [ncells, List.getElem?_cons_succ, List.getElem?_cons_zero] at k74
      have HP4 := Lib.hid hp4
      have HO4 := Lib.hid (And.intro ho4 hk4)
      clear hp4 ho4 hk4 f2 l2 k7
      go_wp2
      go_ret
      exact plc_end HT.out HS.out HI.out HP.out HNP.out.1 HNP.out.2.1 HNP.out.2.2.1 HNP.out.2.2.2 HR2.out.2.2.2 (by have := HR2.out.2.1; exact this) HO4.out.1 HO4.out.2 HP4.out (by have := (HJ.out.2.2.2 i).2; rw [this]; have := HJ.out.2.1; simp; omega) (HJ.out.2.2.2 i).2.symm (HOK.out true) hne2
  · have hq0 : (s != p) = true := bne_iff_ne.2 hsp
    have hq2 : (parOf S s != p) = false := bne_eq_false_iff_eq.2 (HG.out.resolve_left hsp)
    clear hsp
    cases above with
    | false =>
      go_enter Try.func28, Try.ntmps28
      go_wp2_with fail
      refine HC.out.mono ?_
      rintro e w1 ⟨rfl, rfl⟩
      go_wp2_with (first | refine wpl_lookup _ _ _ hl ?_ | refine wpl_lookup _ _ _ hls ?_ | refine wpl_lookup _ _ _ lp ?_)
      refine HW.out.mono ?_
      rintro e w2 ⟨v2, rfl, g2, c2, rfl, hc2, hg2, ho2, hs2⟩
      have hidx := indexInts_ok (some ⟨g2, 0, none⟩) (rem i np.pend).length c2 (rem i np.pend) s w2 (own_ints ho2) (by have := HJ.out.2.2.1; omega)
      rw [HJ.out.1] at hidx
      have HIX := Lib.hid hidx
      have hp2 := hs2.at_ HNP.out.2.1 (fun q => q)
      have f2 := frozen_at hp2
      have l2 := lt_of_at hp2
      have k7 := hs2.cell p7 (fun q => q)
      have HP2 := Lib.hid hp2
      have HR2 := Lib.hid (And.intro hc2 (And.intro hg2 (And.intro ho2 hs2)))
      clear hidx hp2 hc2 hg2 ho2 hs2 fp lpp p7
      go_wp2_with fail
      refine HIX.out.mono ?_
      rintro e w3 ⟨rfl, rfl⟩
      go_wp2_with fail
      refine Calls.mono (insert_room W1.heap.size g2 (rem i np.pend).length c2 (j) (rem i np.pend) i w2 HR2.out.2.2.1 (by have := HJ.out.2.1; omega) (by have := HJ.out.2.2.1; have := HR2.out.1; omega)) ?_
      rintro e w4 ⟨rfl, ho4, hk4⟩
      have hne2 : nb p ≠ g2 := fun e => by have := HT.out.nlt HP.out; have := HR2.out.2.1; omega
      have hp4 := hk4.at_ (at_alloc HP2.out) hne2
      have f4 := frozen_at hp4
      have l4 := lt_of_at hp4
      have k74 := cell_at hp4 7
      simp only [ncells, List.getElem?_cons_succ, List.getElem?_cons_zero] at k74
      have HP4 := Lib.hid hp4
      have HO4 := Lib.hid (And.intro ho4 hk4)
      clear hp4 ho4 hk4 f2 l2 k7
      go_wp2
      go_ret
      exact plc_end HT.out HS.out HI.out HP.out HNP.out.1 HNP.out.2.1 HNP.out.2.2.1 HNP.out.2.2.2 HR2.out.2.2.2 (by have := HR2.out.2.1; exact this) HO4.out.1 HO4.out.2 HP4.out (by have := (HJ.out.2.2.2 i).1; rw [this]; have := HJ.out.2.1; simp; omega) (HJ.out.2.2.2 i).1.symm (HOK.out false) hne2
    | true =>
      go_enter Try.func28, Try.ntmps28
      go_wp2_with fail
      refine HC.out.mono ?_
      rintro e w1 ⟨rfl, rfl⟩
      go_wp2_with (first | refine wpl_lookup _ _ _ hl ?_ | refine wpl_lookup _ _ _ hls ?_ | refine wpl_lookup _ _ _ lp ?_)
      refine HW.out.mono ?_
      rintro e w2 ⟨v2, rfl, g2, c2, rfl, hc2, hg2, ho2, hs2⟩
      have hidx := indexInts_ok (some ⟨g2, 0, none⟩) (rem i np.pend).length c2 (rem i np.pend) s w2 (own_ints ho2) (by have := HJ.out.2.2.1; omega)
      rw [HJ.out.1] at hidx
      have HIX := Lib.hid hidx
      have hp2 := hs2.at_ HNP.out.2.1 (fun q => q)
      have f2 := frozen_at hp2
      have l2 := lt_of_at hp2
      have k7 := hs2.cell p7 (fun q => q)
      have HP2 := Lib.hid hp2
      have HR2 := Lib.hid (And.intro hc2 (And.intro hg2 (And.intro ho2 hs2)))
      clear hidx hp2 hc2 hg2 ho2 hs2 fp lpp p7
      go_wp2_with fail
      refine HIX.out.mono ?_
      rintro e w3 ⟨rfl, rfl⟩
      go_wp2_with fail
      refine Calls.mono (insert_room W1.heap.size g2 (rem i np.pend).length c2 (j + 1) (rem i np.pend) i w2 HR2.out.2.2.1 (by have := HJ.out.2.1; omega) (by have := HJ.out.2.2.1; have := HR2.out.1; omega)) ?_
      rintro e w4 ⟨rfl, ho4, hk4⟩
      have hne2 : nb p ≠ g2 := fun e => by have := HT.out.nlt HP.out; have := HR2.out.2.1; omega
      have hp4 := hk4.at_ (at_alloc HP2.out) hne2
      have f4 := frozen_at hp4
      have l4 := lt_of_at hp4
      have k74 := cell_at hp4 7
      simp only [ncells, List.getElem?_cons_succ, List.getElem?_cons_zero] at k74
      have HP4 := Lib.hid hp4
      have HO4 := Lib.hid (And.intro ho4 hk4)
      clear hp4 ho4 hk4 f2 l2 k7
      go_wp2
      go_ret
      exact plc_end HT.out HS.out HI.out HP.out HNP.out.1 HNP.out.2.1 HNP.out.2.2.1 HNP.out.2.2.2 HR2.out.2.2.2 (by have := HR2.out.2.1; exact this) HO4.out.1 HO4.out.2 HP4.out (by have := (HJ.out.2.2.2 i).2; rw [this]; have := HJ.out.2.1; simp; omega) (HJ.out.2.2.2 i).2.symm (HOK.out true) hne2
end
end Go.Proofs.Ytehcfeibfpgamaa
