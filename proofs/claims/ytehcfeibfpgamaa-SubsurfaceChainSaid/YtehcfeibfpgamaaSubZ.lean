/- Trees of subsurfaces: placed, Order. -/
import Derived.Test.YtehcfeibfpgamaaSubU
import Derived.Test.YtehcfeibfpgamaaSubD
import Derived.Deep.AppendLies
set_option linter.unusedVariables false
set_option linter.unusedSimpArgs false
set_option maxRecDepth 100000
namespace Go.Proofs.Ytehcfeibfpgamaa
open Go.RowKit

section
variable {w w' : World} {b bm : Nat} {nb : Int → Nat} {R R' Q : Nat → Prop} {S : Fo} {i p : Int} {n : Nd}
def PlacedOk (b bm : Nat) (nb : Int → Nat) (k : Nat) : Prop := ∀ (w : World) (R : Nat → Prop) (S : Fo) (i x y : Int), TAt w b bm nb R S → hasB S i = true → 10 ≤ plen (parOf S) i + k →
    Calls Try.prog 39 #[.pointer (some ⟨b, 0, none⟩), .int .i64 i, .int .i64 x, .int .i64 y] w (POut w (ordS addW S k i x y))
theorem flat_take {α : Type} (f : Int → List α) {L : List Int} {j : Nat} {c : Int} (h : L[j]? = some c) : (L.take (j + 1)).flatMap f = (L.take j).flatMap f ++ f c := by
  rw [List.take_add_one, h, List.flatMap_append]; simp
theorem flat_le {α : Type} (f : Int → List α) (L : List Int) (j : Nat) : ((L.take j).flatMap f).length ≤ (L.flatMap f).length := by
  conv => rhs; rw [← List.take_append_drop j L, List.flatMap_append, List.length_append]
  omega
theorem own_chg' {base e size m : Nat} {v : Value} {xs : List Value} (h : w.ownsRow base e size v m xs) (k : Same w w') : w'.ownsRow base e size v m xs := by
  refine ⟨h.1, ?_⟩
  rcases h.2 with q | ⟨g, cap, cur, rfl, hb, hg, rest⟩
  · exact .inl q
  · exact .inr ⟨g, cap, cur, rfl, hb, k.at_ hg (fun q => q), rest⟩
set_option maxHeartbeats 8000000 in
theorem yplaced_step (k : Nat) (IH : PlacedOk b bm nb k) : PlacedOk b bm nb (k + 1) := by
  intro w R S i x y h hi hk
  have c1 := h.c1
  have hl := h.look1 hi
  obtain ⟨ni, hni⟩ := has_get hi
  obtain ⟨vp, vc, ha, h1, h2⟩ := h.nd hni
  have k8 := cell_at ha 8
  simp only [ncells, List.getElem?_cons_succ, List.getElem?_cons_zero] at k8
  obtain ⟨g, c, rfl, hrg, hgl, hcells⟩ := h2.ints
  have hcur : curOf S i = ni.cur := by unfold curOf; rw [hni]; rfl
  have hcle : ni.cur.length ≤ 1000 := Nat.le_trans (h.ok.cur_le (get_some hni).1) h.few
  have hch : ∀ c ∈ ni.cur, c ≠ i → parOf S c = i := fun c hc hne => child_of h.ok hi (by rw [hcur]; exact hc) hne
  have htot : (ordS addW S (k + 1) i x y).length ≤ 1000 := Nat.le_trans (ord_len addW h.ok (k + 1) x y hi) h.few
  obtain ⟨f, hf⟩ : ∃ f : Int → List (Int × Int × Int), f = fun c => if c = i then [(i, x, y)] else ordS addW S k c (addW x (cxOf S c)) (addW y (cyOf S c)) := ⟨_, rfl⟩
  have hord : ordS addW S (k + 1) i x y = ni.cur.flatMap f := by rw [← hcur, hf]; rfl
  rw [hord] at htot ⊢
  have H := Lib.hid h
  have HI := Lib.hid hi
  have HCE := Lib.hid hcells
  have HCH := Lib.hid hch
  have HIH := Lib.hid IH
  have HT := Lib.hid htot
  have HF := Lib.hid hf
  have hi0 := h.ok.has_ne hi
  clear h hi hni ha h1 h2 hcur hch IH hcells htot hf hord
  go_enter Try.func39, Try.ntmps39
  go_wp2_with (refine wpl_lookup _ _ _ hl ?_)
  go_loopw [9, 24] (fun v9 v24 wr => ∃ j : Nat, v24 = .int .i64 j ∧ j ≤ ni.cur.length ∧ Same w wr ∧ wr.ownsRow w.heap.size 45 3 v9 ((ni.cur.take j).flatMap f).length (plv ((ni.cur.take j).flatMap f))) (fun v9 v24 wr => ni.cur.length - (intOf v24).toNat)
  case atStart => exact ⟨0, rfl, by omega, Chg.refl _ _, World.ownsRow_nil _ _ _ _⟩
  case round =>
    obtain ⟨j, rfl, hj, hsm, ho⟩ := hrel
    by_cases hlt : j < ni.cur.length
    · obtain ⟨c0, hc0⟩ : ∃ c0, c0 = ni.cur[j] := ⟨_, rfl⟩
      have hcj : ni.cur[j]? = some c0 := by rw [hc0]; exact List.getElem?_eq_getElem hlt
      have hft := flat_take f hcj
      have hlen := flat_le f ni.cur (j + 1)
      rw [hft] at hlen
      have hgc : wr.cell? ⟨g, j, none⟩ = some (.int .i64 c0) := hsm.cell (by have := HCE.out j c0 hcj; rwa [Nat.zero_add] at this) (fun q => q)
      obtain ⟨D, hD⟩ : ∃ D, D = (ni.cur.take j).flatMap f := ⟨_, rfl⟩
      rw [← hD] at ho hft hlen
      have hlz : (j : Int) < ni.cur.length := by omega
      have c1r := hsm.cell c1 (fun q => q)
      have HFT := Lib.hid hft
      have HR := Lib.hid (And.intro hsm ho)
      have HLN := Lib.hid hlen
      have hmc : c0 ∈ ni.cur := by rw [hc0]; exact List.getElem_mem _
      have HMC := Lib.hid hmc
      have hdl : D.length ≤ 1000 := by have := HT.out; rw [List.length_append] at hlen; omega
      have hwr := hsm.size
      clear hc0 hcj hft hlen hD ho hmc hsm
      by_cases hci : c0 = i
      · have hb : (c0 == i) = true := beq_iff_eq.2 hci
        have hfc : f c0 = [(i, x, y)] := by rw [HF.out]; simp [hci]
        have HFC := Lib.hid hfc
        clear hci hfc
        go_wp2_with (at_builtin; refine wpl_append1 w.heap.size 45 (.agg #[.int .i64 0, .int .i64 0, .int .i64 0]) 3 24 Try.underlying39 infoPl rfl (by omega) u9 D.length (plv D) (HR.out.2.alloc _) rfl wr.heap.size 1 [.int .i64 i, .int .i64 x, .int .i64 y] rfl (at_new wr _) rfl (by simp [Value.oneCell']) (by omega) (by omega) (by simp; omega) ?_)
        intro g4 c4 w4 hown hgr hor hgl4
        have hbk := HR.out.2.lt
        have hk4 : Same w w4 := (HR.out.1.alloc _).then_ (Chg.grownO (Chg.refl (fun _ => False) _) hgr) (fun z hz e => by have := (hbk z e.symm).1; omega)
        have HOWN := Lib.hid (And.intro hown hk4)
        clear hown hgr hor hgl4 hk4 hbk
        go_wp2
        go_roundw
        case rel =>
          refine ⟨j + 1, by go_num, by omega, HOWN.out.2, ?_⟩
          rw [HFT.out, HFC.out, plv_app, List.length_append]
          exact HOWN.out.1
        case measure => simp [intOf]; omega
      · have hb : (c0 == i) = false := beq_eq_false_iff_ne.2 hci
        have hpc := HCH.out c0 HMC.out hci
        have hhc : hasB S c0 = true := H.out.ok.has_of_par (by rw [hpc]; exact hi0)
        have Tr := H.out.same HR.out.1
        have l2 := Tr.look1 hhc
        obtain ⟨nc, hnc⟩ := has_get hhc
        obtain ⟨vpc, vcc, hac, _, _⟩ := Tr.nd hnc
        have q5 := cell_at hac 5
        have q6 := cell_at hac 6
        simp only [ncells, List.getElem?_cons_succ, List.getElem?_cons_zero] at q5 q6
        have hcx : cxOf S c0 = nc.cx := by unfold cxOf; rw [hnc]; rfl
        have hcy : cyOf S c0 = nc.cy := by unfold cyOf; rw [hnc]; rfl
        have hfc : f c0 = ordS addW S k c0 (addW x nc.cx) (addW y nc.cy) := by rw [HF.out]; simp only [if_neg hci, hcx, hcy]
        have HFC := Lib.hid hfc
        have HHC := Lib.hid hhc
        have HPC := Lib.hid hpc
        have hlc := Tr.nlt hhc
        clear hci hfc hhc hpc Tr hnc hac hcx hcy
        obtain ⟨X, hX⟩ : ∃ X, IntKind.i64.wrap (x + nc.cx) = X := ⟨_, rfl⟩
        obtain ⟨Y, hY⟩ : ∃ Y, IntKind.i64.wrap (y + nc.cy) = Y := ⟨_, rfl⟩
        have eX : addW x nc.cx = X := hX
        have eY : addW y nc.cy = Y := hY
        obtain ⟨E, hE⟩ : ∃ E, ordS addW S k c0 X Y = E := ⟨_, rfl⟩
        rw [eX, eY, hE] at HFC
        clear eX eY
        have HEE := Lib.hid hE
        clear hE
        go_wp2_with (refine wpl_lookup _ _ _ l2 ?_)
        have hfuel : 10 ≤ plen (parOf S) c0 + k := by
          have := H.out.ok.deep.plen_up (j := c0) (H.out.ok.has_ne HHC.out)
          rw [HPC.out] at this
          omega
        have hk1 : 0 < E.length := by
          rw [← HEE.out]
          cases k with
          | zero => have := H.out.ok.deep.len c0; omega
          | succ k => exact ord_pos addW H.out.ok k _ _ HHC.out
        have hal : Same wr (wr.alloc (.cells #[.int .i64 nc.cx, .int .i64 nc.cy] 70)) := (Chg.refl _ wr).alloc _
        have hrec : Calls Try.prog 39 #[.pointer (some ⟨b, 0, none⟩), .int .i64 c0, .int .i64 X, .int .i64 Y] (wr.alloc (.cells #[.int .i64 nc.cx, .int .i64 nc.cy] 70)) (POut (wr.alloc (.cells #[.int .i64 nc.cx, .int .i64 nc.cy] 70)) (ordS addW S k c0 X Y)) :=
          HIH.out (wr.alloc (.cells #[.int .i64 nc.cx, .int .i64 nc.cy] 70)) R S c0 X Y (H.out.same (HR.out.1.trans hal)) HHC.out hfuel
        rw [HEE.out] at hrec
        refine hrec.mono ?_
        rintro e w3 ⟨v', rfl, ho3, hs3⟩
        rcases ho3.2 with ⟨_, e0⟩ | ⟨g', cap', cur', rfl, hbg, hgg, hnc, hcm, hcs, htk⟩
        · omega
        have hgg' : w3.heap[g']? = some (.cells cur'.toList.toArray 45 (0, 0)) := by rw [hgg]
        have hnews : ∀ j u, (plv E)[j]? = some u → w3.cell? ((⟨g', 0, none⟩ : Addr).add j) = some u := by
          intro j u hju
          rw [add_plain, cell_at hgg', Nat.zero_add]
          rw [← htk, List.getElem?_take] at hju
          split at hju
          · exact hju
          · cases hju
        have ho3' := own_chg' (own_chg' HR.out.2 hal) hs3
        have hs03 : Same w w3 := (HR.out.1.trans hal).trans hs3
        have hw3 := hs03.size
        have hEl : D.length + E.length ≤ 1000 := by have z1 := HLN.out; have z2 := HT.out; rw [HFC.out, List.length_append] at z1; omega
        obtain ⟨i3, hi30, hi3z, hi3s, hi3b⟩ := info_parts infoPl
        have HNW := Lib.hid hnews
        have HO3 := Lib.hid ho3'
        have HS3 := Lib.hid hs03
        have HI3 := Lib.hid (And.intro hi30 (And.intro hi3z (And.intro hi3s hi3b)))
        have HK1 := Lib.hid hk1
        clear hnews ho3' hs03 hs3 hal ho3 hgg hgg' htk hcs hcm hnc hbg hk1 hi30 hi3z hi3s hi3b
        go_wp2_with (at_builtin; refine wpList_append_lies w3 rfl _ _ 39 rfl w.heap.size 45 i3 (.agg #[.int .i64 0, .int .i64 0, .int .i64 0]) 3 24 Try.underlying39 HI3.out.1 HI3.out.2.1 HI3.out.2.2.1 HI3.out.2.2.2 rfl (by omega) u9 D.length (plv D) rfl HO3.out ⟨g', 0, none⟩ E.length cap' (plv E) rfl (plv_len E) HNW.out (plv_one E) HK1.out (by unfold maxLen; omega) (by omega) (by omega) w3.heap.size rfl ?_)
        intro g4 c4 w4 hown hgr hor hgl4
        have hbk := HO3.out.lt
        have hk4 : Same w w4 := HS3.out.then_ (Chg.grownO (Chg.refl (fun _ => False) _) hgr) (fun z hz e => by have := (hbk z e.symm).1; omega)
        have HOWN := Lib.hid (And.intro hown hk4)
        clear hown hgr hor hgl4 hk4 hbk
        go_wp2
        go_roundw
        case rel =>
          refine ⟨j + 1, by go_num, by omega, HOWN.out.2, ?_⟩
          rw [HFT.out, HFC.out, plv_app, List.length_append]
          exact HOWN.out.1
        case measure => simp [intOf]; omega
    · have hje : j = ni.cur.length := by omega
      have hlt' : ¬ (j : Int) < ni.cur.length := by omega
      subst hje
      rw [List.take_length] at *
      have HE := Lib.hid (And.intro hsm ho)
      clear hsm ho
      go_wp2
      go_ret
      exact ⟨u9, rfl, HE.out.2, HE.out.1⟩
theorem yplaced : ∀ k : Nat, PlacedOk b bm nb k
  | 0 => fun w R S i x y h hi hk => by have := h.ok.deep.len i; omega
  | k + 1 => yplaced_step k (yplaced k)
/-- The order of a surface. -/
def ordL (S : Fo) (i : Int) : List (Int × Int × Int) := if hasB S i = true then ordS addW S 10 i 0 0 else []
theorem yorder (h : TAt w b bm nb R S) (i : Int) :
    Calls Try.prog 17 #[.pointer (some ⟨b, 0, none⟩), .int .i64 i] w (POut w (ordL S i)) := by
  unfold ordL
  cases hi : hasB S i with
  | true =>
    have HG := Lib.hid (yget1 h i hi)
    have HP := Lib.hid (yplaced 10 w R S i 0 0 h hi (by omega))
    rw [if_pos rfl]
    clear h hi
    go_enter Try.func17, Try.ntmps17
    go_wp2_with fail
    refine HG.out.mono ?_
    rintro e w1 ⟨rfl, rfl⟩
    go_wp2_with fail
    refine HP.out.mono ?_
    rintro e w2 ⟨v, rfl, ho, hs⟩
    have HE := Lib.hid (And.intro ho hs)
    clear ho hs
    go_wp2
    go_ret
    exact ⟨v, rfl, HE.out.1, HE.out.2⟩
  | false =>
    have HG := Lib.hid (yget0 h i hi)
    rw [if_neg (by simp)]
    clear h hi
    go_enter Try.func17, Try.ntmps17
    go_wp2_with fail
    refine HG.out.mono ?_
    rintro e w1 ⟨rfl, rfl⟩
    go_wp2
    go_ret
    exact ⟨_, rfl, World.ownsRow_nil _ _ _ _, Chg.refl _ _⟩
end
end Go.Proofs.Ytehcfeibfpgamaa
