/- Trees of subsurfaces: descend, Commit. -/
import Derived.Test.YtehcfeibfpgamaaSubQ
import Derived.Test.YtehcfeibfpgamaaSubN
import Derived.Laws.OwnMore
set_option linter.unusedVariables false
set_option linter.unusedSimpArgs false
set_option maxRecDepth 100000
namespace Go.Proofs.Ytehcfeibfpgamaa
open Go.RowKit

/-- What a visit leaves: the tree, and the list l made longer. -/
def Went (base : Nat) (w : World) (b bm : Nat) (nb : Int → Nat) (R : Nat → Prop) (S : Fo) (v : Value) (l : List Int) (res : Fo × List Int) (e : Ending) (w' : World) : Prop :=
  ∃ v' R', e = .returned v' ∧ TAt w' b bm nb R' res.1 ∧ w'.ownsRow base 3 1 v' (l ++ res.2).length (ints (l ++ res.2)) ∧ (∀ k, v'.ownBlock = some k → ¬ R' k) ∧ Chg (fun x => NB S nb x ∨ some x = v.ownBlock) w w' ∧ (∀ x, R x → R' x) ∧ (∀ x, R' x → R x ∨ w.heap.size ≤ x) ∧ ∀ k, v'.ownBlock = some k → some k = v.ownBlock ∨ w.heap.size ≤ k
section
variable {w w' : World} {b bm : Nat} {nb : Int → Nat} {R R' Q : Nat → Prop} {S : Fo} {i p : Int} {n : Nd}
theorem own_chg {base e size m : Nat} {v : Value} {xs : List Value} (h : w.ownsRow base e size v m xs) (k : Chg Q w w') (hq : ∀ z, v.ownBlock = some z → ¬ Q z) : w'.ownsRow base e size v m xs := by
  refine ⟨h.1, ?_⟩
  rcases h.2 with q | ⟨g, cap, cur, rfl, hb, hg, rest⟩
  · exact .inl q
  · exact .inr ⟨g, cap, cur, rfl, hb, k.at_ hg (hq g rfl), rest⟩
theorem own_push {base g N cap : Nat} {l : List Int} {x : Int} (hN : N = l.length + 1) (h : w.ownsRow base 3 1 (.slice (some ⟨g, 0, none⟩) (l.length + 1) cap) (l.length + 1) (ints l ++ [.int .i64 x])) :
    w.ownsRow base 3 1 (.slice (some ⟨g, 0, none⟩) N cap) (l ++ [x]).length (ints (l ++ [x])) := by
  have e : ints (l ++ [x]) = ints l ++ [.int .i64 x] := by simp [ints]
  rw [e, List.length_append, List.length_singleton, hN]
  exact h
theorem Went.trans {base : Nat} {w2 : World} {R1 : Nat → Prop} {S1 : Fo} {v v2 : Value} {l m : List Int} {res : Fo × List Int} {e : Ending} (h : Went base w2 b bm nb R1 S1 v2 (l ++ m) res e w')
    (hnb : NB S1 nb = NB S nb) (hchg : Chg (fun x => NB S nb x ∨ some x = v.ownBlock) w w2) (hr1 : ∀ x, R x → R1 x) (hr2 : ∀ x, R1 x → R x ∨ w.heap.size ≤ x) (hv2 : ∀ z, v2.ownBlock = some z → some z = v.ownBlock ∨ w.heap.size ≤ z) :
    Went base w b bm nb R S v l (res.1, m ++ res.2) e w' := by
  obtain ⟨v', R', e1, e2, e3, e4, e5, e6, e7, e8⟩ := h
  have hz := hchg.size
  refine ⟨v', R', e1, e2, by rw [← List.append_assoc]; exact e3, e4, hchg.then_ e5 (fun x hx q => ?_), fun x hx => e6 x (hr1 x hx), fun x hx => ?_, fun z hz' => ?_⟩
  · rcases q with q | q
    · exact .inl (by rw [← hnb]; exact q)
    · exact .inr ((hv2 x q.symm).resolve_right (by omega))
  · rcases e7 x hx with q | q
    · exact hr2 x q
    · exact .inr (by omega)
  · rcases e8 z hz' with q | q
    · exact hv2 z q.symm
    · exact .inr (by omega)
theorem fold_take (F : Fo × List Int → Int → Fo × List Int) (a : Fo × List Int) {L : List Int} {j : Nat} {c : Int} (h : L[j]? = some c) : (L.take (j + 1)).foldl F a = F ((L.take j).foldl F a) c := by
  rw [List.take_add_one, h, List.foldl_append]; rfl
theorem NB_keeps {S' : Fo} (h : Keeps S S') : NB S' nb = NB S nb := by
  funext x
  unfold NB
  exact propext ⟨fun ⟨j, hj, e⟩ => ⟨j, by rw [← hasB_ids h.ids]; exact hj, e⟩, fun ⟨j, hj, e⟩ => ⟨j, by rw [hasB_ids h.ids]; exact hj, e⟩⟩
/-- descend answers as told with k levels of fuel. -/
def DescOk (b bm : Nat) (nb : Int → Nat) (base k : Nat) : Prop := ∀ (w : World) (R : Nat → Prop) (S : Fo) (i : Int) (v : Value) (l : List Int), TAt w b bm nb R S → hasB S i = true → 10 ≤ plen (parOf S) i + k → w.ownsRow base 3 1 v l.length (ints l) → (∀ z, v.ownBlock = some z → ¬ R z) → base ≤ w.heap.size → l.length + (visS k S i).2.length ≤ 100000 →
    Calls Try.prog 37 #[.pointer (some ⟨b, 0, none⟩), .int .i64 i, v] w (Went base w b bm nb R S v l (visS k S i))
set_option maxHeartbeats 8000000 in
theorem ydesc_step (base k : Nat) (IH : DescOk b bm nb base k) : DescOk b bm nb base (k + 1) := by
    intro w R S i v l h hi hk ho hnr hb hle
    have c1 := h.c1
    have hl := h.look1 hi
    obtain ⟨ni, hni⟩ := has_get hi
    obtain ⟨vp, vc, ha, h1, h2⟩ := h.nd hni
    have k8 := cell_at ha 8
    simp only [ncells, List.getElem?_cons_succ, List.getElem?_cons_zero] at k8
    obtain ⟨g, c, rfl, hrg, hgl, hcells⟩ := h2.ints
    have hgint : ∃ C, w.heap[g]? = some (.cells C 3 (0, 0)) := by
      obtain ⟨g', c', C, e, _, q, _⟩ := h2
      simp only [Value.slice.injEq, Option.some.injEq, Addr.mk.injEq, and_true, true_and] at e
      rw [e.1]; exact ⟨C, q⟩
    have hcur : curOf S i = ni.cur := by unfold curOf; rw [hni]; rfl
    have hcle : ni.cur.length ≤ 1000 := Nat.le_trans (h.ok.cur_le (get_some hni).1) h.few
    have hch : ∀ c ∈ ni.cur, c ≠ i → parOf S c = i := fun c hc hne => child_of h.ok hi (by rw [hcur]; exact hc) hne
    have hvis : visS (k + 1) S i = ni.cur.foldl (visF (visS k) i) (S, []) := by rw [← hcur]; rfl
    rw [hvis] at hle ⊢
    have H := Lib.hid h
    have HI := Lib.hid hi
    have HO := Lib.hid ho
    have HNR := Lib.hid hnr
    have HCE := Lib.hid hcells
    have HCH := Lib.hid hch
    have HIH := Lib.hid IH
    have HLE := Lib.hid hle
    have HGI := Lib.hid hgint
    have hi0 := h.ok.has_ne hi
    clear h hi hni ha h1 h2 hcur hch IH hvis ho hnr hcells hle hgint
    go_enter Try.func37, Try.ntmps37
    go_wp2_with (refine wpl_lookup _ _ _ hl ?_)
    go_loopw [2, 20] (fun v2 v20 wr => ∃ (j : Nat) (R1 : Nat → Prop), v20 = .int .i64 j ∧ j ≤ ni.cur.length ∧ Keeps S ((ni.cur.take j).foldl (visF (visS k) i) (S, [])).1 ∧ TAt wr b bm nb R1 ((ni.cur.take j).foldl (visF (visS k) i) (S, [])).1 ∧ wr.ownsRow base 3 1 v2 (l ++ ((ni.cur.take j).foldl (visF (visS k) i) (S, [])).2).length (ints (l ++ ((ni.cur.take j).foldl (visF (visS k) i) (S, [])).2)) ∧ (∀ z, v2.ownBlock = some z → ¬ R1 z) ∧ Chg (fun x => NB S nb x ∨ some x = v.ownBlock) w wr ∧ (∀ x, R x → R1 x) ∧ (∀ x, R1 x → R x ∨ w.heap.size ≤ x) ∧ ∀ z, v2.ownBlock = some z → some z = v.ownBlock ∨ w.heap.size ≤ z) (fun v2 v20 wr => ni.cur.length - (intOf v20).toNat)
    case atStart => exact ⟨0, R, rfl, by omega, Keeps.refl H.out.ok, H.out, by simpa using HO.out, HNR.out, Chg.refl _ _, fun _ q => q, fun _ q => .inl q, fun _ q => .inl q.symm⟩
    case round =>
      obtain ⟨j, R1, rfl, hj, hK, hT, ho, hnr, hchg, hr1, hr2, hv2⟩ := hrel
      by_cases hlt : j < ni.cur.length
      · obtain ⟨c0, hc0⟩ : ∃ c0, c0 = ni.cur[j] := ⟨_, rfl⟩
        have hcj : ni.cur[j]? = some c0 := by rw [hc0]; exact List.getElem?_eq_getElem hlt
        have hft := fold_take (visF (visS k) i) (S, []) hcj
        have hlen : ((ni.cur.take (j + 1)).foldl (visF (visS k) i) (S, [])).2.length ≤ (ni.cur.foldl (visF (visS k) i) (S, [])).2.length := by
          have := fold_mono (visS k) i (ni.cur.drop (j + 1)) ((ni.cur.take (j + 1)).foldl (visF (visS k) i) (S, []))
          rwa [← List.foldl_append, List.take_append_drop] at this
        rw [hft] at hlen
        have hgc : wr.cell? ⟨g, j, none⟩ = some (.int .i64 c0) := by
          refine hchg.cell (by have := HCE.out j c0 hcj; rwa [Nat.zero_add] at this) (fun q => ?_)
          rcases q with q | q
          · obtain ⟨C, hC⟩ := HGI.out
            exact nb_int H.out g C hC q
          · exact HNR.out g q.symm hrg
        obtain ⟨st, hst⟩ : ∃ st, st = (ni.cur.take j).foldl (visF (visS k) i) (S, []) := ⟨_, rfl⟩
        rw [← hst] at hK hT ho hft hlen
        have c1r := hT.c1
        have hlz : (j : Int) < ni.cur.length := by omega
        have HFT := Lib.hid hft
        have HR := Lib.hid (And.intro hK (And.intro hT (And.intro ho (And.intro hnr (And.intro hchg (And.intro hr1 (And.intro hr2 hv2)))))))
        have HLN := Lib.hid hlen
        have hmc : c0 ∈ ni.cur := by rw [hc0]; exact List.getElem_mem _
        have HMC := Lib.hid hmc
        clear hc0 hcj hft hlen hst hK ho hnr hchg hr1 hr2 hv2 hmc
        by_cases hci : c0 = i
        · have hb : (c0 == i) = true := beq_iff_eq.2 hci
          have hv : visF (visS k) i st c0 = st := by unfold visF; rw [hb]; rfl
          have HV := Lib.hid hv
          clear hci hv hT
          go_wp2
          go_roundw
          case rel =>
            obtain ⟨a1, a2, a3, a4, a5, a6, a7, a8⟩ := HR.out
            refine ⟨j + 1, R1, by go_num, by omega, ?_⟩
            rw [HFT.out, HV.out]
            exact ⟨a1, a2, a3, a4, a5, a6, a7, a8⟩
          case measure => simp [intOf]; omega
        · have hb : (c0 == i) = false := beq_eq_false_iff_ne.2 hci
          have hpc := HCH.out c0 HMC.out hci
          have hhc : hasB st.1 c0 = true := by
            rw [hasB_ids HR.out.1.ids]
            exact H.out.ok.has_of_par (by rw [hpc]; exact hi0)
          have HSY := Lib.hid (ysync hT c0 hhc)
          have HHC := Lib.hid hhc
          have HPC := Lib.hid hpc
          cases hsy : synB st.1 c0 with
          | false =>
            have hv : visF (visS k) i st c0 = st := by unfold visF; rw [hb, hsy]; rfl
            have HV := Lib.hid hv
            rw [hsy] at HSY
            clear hci hv hT hsy hhc hpc
            go_wp2_with fail
            refine HSY.out.mono ?_
            rintro e w2 ⟨rfl, hs2⟩
            have HS2 := Lib.hid hs2
            clear hs2
            go_wp2
            go_roundw
            case rel =>
              obtain ⟨a1, a2, a3, a4, a5, a6, a7, a8⟩ := HR.out
              refine ⟨j + 1, R1, by go_num, by omega, ?_⟩
              rw [HFT.out, HV.out]
              exact ⟨a1, a2.same HS2.out, own_chg a3 HS2.out (fun _ _ q => q), a4, a5.then_ HS2.out (fun _ _ q => q.elim), a6, a7, a8⟩
            case measure => simp [intOf]; omega
          | true =>
            rw [hsy] at HSY
            cases hca : cachedOf st.1 c0 with
            | false =>
              have hv : visF (visS k) i st c0 = ((visS k st.1 c0).1, st.2 ++ (visS k st.1 c0).2) := by unfold visF; rw [hb, hsy, hca]; rfl
              have HV := Lib.hid hv
              have HCA := Lib.hid hca
              clear hci hv hT hsy hhc hpc hca
              go_wp2_with fail
              refine HSY.out.mono ?_
              rintro e w2 ⟨rfl, hs2⟩
              obtain ⟨a1, a2, a3, a4, a5, a6, a7, a8⟩ := HR.out
              have T2 := a2.same hs2
              have c12 := T2.c1
              have l2 := T2.look1 HHC.out
              have h2 := T2.cch HHC.out
              rw [HCA.out] at h2
              have hw2 := a5.size
              have hw3 := hs2.size
              have hrec := HIH.out w2 R1 st.1 c0 u2 (l ++ st.2) T2 HHC.out (by
                rw [a1.par]
                have := H.out.ok.deep.plen_up (j := c0) (by rw [hasB_ids a1.ids] at HHC; exact H.out.ok.has_ne HHC.out)
                rw [HPC.out] at this
                omega) (own_chg a3 hs2 (fun _ _ q => q)) a4 (by omega) (by have z1 := HLN.out; have z2 := HLE.out; rw [HV.out] at z1; simp only [List.length_append, List.length_singleton] at z1 ⊢; omega)
              have HREC := Lib.hid hrec
              have HC5 := Lib.hid (a5.then_ hs2 (fun _ _ q => q.elim))
              have HA := Lib.hid (And.intro a1 (And.intro a6 (And.intro a7 a8)))
              clear a1 a2 a3 a4 a5 a6 a7 a8 T2 hs2 hrec hw2 hw3
              go_wp2_with (refine wpl_lookup _ _ _ l2 ?_)
              refine HREC.out.mono ?_
              rintro e w3 hwent
              have hwt := hwent.trans (NB_keeps HA.out.1) HC5.out HA.out.2.1 HA.out.2.2.1 HA.out.2.2.2
              obtain ⟨v', R', rfl, e2, e3, e4, e5, e6, e7, e8⟩ := hwt
              have HE := Lib.hid (And.intro e2 (And.intro e3 (And.intro e4 (And.intro e5 (And.intro e6 (And.intro e7 e8))))))
              clear hwent e2 e3 e4 e5 e6 e7 e8 h2 l2 c12
              go_wp2
              go_roundw
              case rel =>
                obtain ⟨e2, e3, e4, e5, e6, e7, e8⟩ := HE.out
                refine ⟨j + 1, R', by go_num, by omega, ?_⟩
                rw [HFT.out, HV.out]
                exact ⟨HA.out.1.trans (visS_keeps k st.1 c0 HA.out.1.ok), e2, e3, e4, e5, e6, e7, e8⟩
              case measure => simp [intOf]; omega
            | true =>
              have hv : visF (visS k) i st c0 = ((visS k (aplS st.1 c0) c0).1, (st.2 ++ [c0]) ++ (visS k (aplS st.1 c0) c0).2) := by unfold visF; rw [hb, hsy, hca]; rfl
              have HV := Lib.hid hv
              have HCA := Lib.hid hca
              clear hci hv hT hsy hhc hpc hca
              go_wp2_with fail
              refine HSY.out.mono ?_
              rintro e w2 ⟨rfl, hs2⟩
              obtain ⟨a1, a2, a3, a4, a5, a6, a7, a8⟩ := HR.out
              have T2 := a2.same hs2
              have c12 := T2.c1
              have l2 := T2.look1 HHC.out
              have h2 := T2.cch HHC.out
              rw [HCA.out] at h2
              have HAP := Lib.hid (yapply T2 c0 HHC.out)
              have HC5 := Lib.hid (a5.then_ hs2 (fun _ _ q => q.elim))
              have HA := Lib.hid (And.intro a1 (And.intro a6 (And.intro a7 a8)))
              have HOW := Lib.hid (And.intro (own_chg a3 hs2 (fun _ _ q => q)) (And.intro a4 (And.intro T2 hs2)))
              clear a1 a2 a3 a4 a5 a6 a7 a8 T2 hs2
              go_wp2_with (refine wpl_lookup _ _ _ l2 ?_)
              refine HAP.out.mono ?_
              rintro e w3 ⟨rfl, R2, hT3, hk3, hr12, hr21⟩
              obtain ⟨ho2, hnr2, T2, hs2⟩ := HOW.out
              have hlen2 : (l ++ st.2).length ≤ 100000 := by have z1 := HLN.out; have z2 := HLE.out; rw [HV.out] at z1; simp only [List.length_append, List.length_singleton] at z1 ⊢; omega
              have hu2 := ho2.lt
              have ho3 := own_chg ho2 hk3 (fun z hz q => hnr2 z hz (nb_R T2 z q))
              have hnr3 : ∀ z, u2.ownBlock = some z → ¬ R2 z := fun z hz q => by
                rcases hr21 z q with a | a
                · exact hnr2 z hz a
                · have := (hu2 z hz).2; omega
              have hw2 := HC5.out.size
              have hw3 := hk3.size
              have HO3 := Lib.hid ho3
              have H3 := Lib.hid (And.intro hT3 (And.intro hk3 (And.intro hr12 (And.intro hr21 (And.intro hnr3 hu2)))))
              clear ho2 hnr2 T2 hs2 hT3 hk3 hr12 hr21 hu2 ho3 hnr3 l2 h2
              go_wp2_with (at_builtin; refine wpl_append1 base 3 (.int .i64 0) 1 8 Try.underlying29 info3 rfl (by omega) u2 (l ++ st.2).length (ints (l ++ st.2)) (HO3.out.alloc _) rfl w3.heap.size 1 [.int .i64 c0] rfl (at_new w3 _) rfl (by simp [Value.oneCell']) (by omega) (by omega) (by simp; omega) ?_)
              intro g4 c4 w4 hown hgr hor hgl4
              obtain ⟨hT3, hk3, hr12, hr21, hnr3, hu2⟩ := H3.out
              have hk4 : Chg (fun x => some x = u2.ownBlock) w3 w4 := Chg.grownO ((Chg.refl (fun _ => False) w3).alloc _) hgr
              have hT4 := hT3.chg hk4 (fun x hx q => hnr3 x q.symm hx)
              have ho4 := own_push (N := l.length + st.2.length + 1) (by rw [List.length_append]) hown
              rw [List.append_assoc] at ho4
              have hnr4 : ∀ z, (Value.slice (some ⟨g4, 0, none⟩) (l.length + st.2.length + 1) c4).ownBlock = some z → ¬ R2 z := fun z hz q => by
                simp [Value.ownBlock] at hz
                subst hz
                rcases hor with a | a
                · exact hnr3 g4 a q
                · have := hT3.lt g4 q; rw [a] at this; simp at this; omega
              have hhA : hasB (aplS st.1 c0) c0 = true := by rw [hasB_ids (Keeps.apl HA.out.1.ok c0).ids]; exact HHC.out
              have hrec := HIH.out w4 R2 (aplS st.1 c0) c0 (.slice (some ⟨g4, 0, none⟩) (l.length + st.2.length + 1) c4) (l ++ (st.2 ++ [c0])) hT4 hhA (by
                rw [apl_par, HA.out.1.par]
                have := H.out.ok.deep.plen_up (j := c0) (by rw [hasB_ids HA.out.1.ids] at HHC; exact H.out.ok.has_ne HHC.out)
                rw [HPC.out] at this
                omega) ho4 hnr4 (by have := hk4.size; omega) (by have z1 := HLN.out; have z2 := HLE.out; rw [HV.out] at z1; simp only [List.length_append, List.length_singleton] at z1 ⊢; omega)
              have hnbe : NB st.1 nb = NB S nb := NB_keeps HA.out.1
              have hc4 : Chg (fun x => NB S nb x ∨ some x = v.ownBlock) w w4 := (HC5.out.then_ hk3 (fun x _ q => .inl (by rw [← hnbe]; exact q))).then_ hk4 (fun x hx q => .inr ((HA.out.2.2.2 x q.symm).resolve_right (by omega)))
              have HREC := Lib.hid hrec
              have HC4 := Lib.hid hc4
              have hv4 : ∀ z, (Value.slice (some ⟨g4, 0, none⟩) (l.length + st.2.length + 1) c4).ownBlock = some z → some z = v.ownBlock ∨ w.heap.size ≤ z := fun z hz => by
                simp [Value.ownBlock] at hz
                subst hz
                rcases hor with a | a
                · exact HA.out.2.2.2 g4 a
                · rw [a]; simp; right; omega
              have hr2S : ∀ x, R2 x → R x ∨ w.heap.size ≤ x := fun x hx => by
                rcases hr21 x hx with q | q
                · exact HA.out.2.2.1 x q
                · exact .inr (by omega)
              have HH4 := Lib.hid (And.intro (fun x hx => hr12 x (HA.out.2.1 x hx)) (And.intro hr2S hv4))
              clear hown hgr hor hgl4 hT3 hk3 hr12 hr21 hnr3 hu2 hk4 hT4 ho4 hnr4 hrec hc4 hv4 hr2S
              go_wp2_with fail
              refine HREC.out.mono ?_
              rintro e w5 hwent
              have hwt := hwent.trans ((NB_keeps (Keeps.apl HA.out.1.ok c0)).trans hnbe) HC4.out HH4.out.1 HH4.out.2.1 HH4.out.2.2
              obtain ⟨v', R', rfl, e2, e3, e4, e5, e6, e7, e8⟩ := hwt
              have HE := Lib.hid (And.intro e2 (And.intro e3 (And.intro e4 (And.intro e5 (And.intro e6 (And.intro e7 e8))))))
              clear hwent e2 e3 e4 e5 e6 e7 e8 c12
              go_wp2
              go_roundw
              case rel =>
                obtain ⟨e2, e3, e4, e5, e6, e7, e8⟩ := HE.out
                refine ⟨j + 1, R', by go_num, by omega, ?_⟩
                rw [HFT.out, HV.out]
                exact ⟨HA.out.1.trans ((Keeps.apl HA.out.1.ok c0).trans (visS_keeps k _ c0 (apl_ok HA.out.1.ok))), e2, e3, e4, e5, e6, e7, e8⟩
              case measure => simp [intOf]; omega
      · have hje : j = ni.cur.length := by omega
        have hlt' : ¬ (j : Int) < ni.cur.length := by omega
        subst hje
        rw [List.take_length] at *
        have HE := Lib.hid (And.intro hT (And.intro ho (And.intro hnr (And.intro hchg (And.intro hr1 (And.intro hr2 hv2))))))
        clear hT ho hnr hchg hr1 hr2 hv2 hK
        go_wp2
        go_ret
        obtain ⟨e2, e3, e4, e5, e6, e7, e8⟩ := HE.out
        exact ⟨u2, R1, rfl, e2, e3, e4, e5, e6, e7, e8⟩
theorem ydescend (base : Nat) : ∀ k : Nat, DescOk b bm nb base k
  | 0 => fun w R S i v l h hi hk ho hnr hb hle => by have := h.ok.deep.len i; omega
  | k + 1 => ydesc_step base k (ydescend base k)
end
end Go.Proofs.Ytehcfeibfpgamaa
