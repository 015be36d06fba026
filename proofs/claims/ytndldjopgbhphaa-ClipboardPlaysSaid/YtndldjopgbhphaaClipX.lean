/- The walks of package clipboard: Set, Clear, Formats, Focus. -/
import Derived.Test.YtndldjopgbhphaaClipW
set_option linter.unusedVariables false
set_option linter.unusedSimpArgs false
set_option maxRecDepth 100000
namespace Go.Proofs.Ytndldjopgbhphaa
open Go.RowKit

def COut (b lb : Nat) (R : Nat → Prop) (c' : CSt) (v : Int) (w : World) (e : Ending) (w' : World) : Prop :=
  e = .returned (.int .i64 v) ∧ ∃ R', ClipAt w' b lb R' c' ∧ Own R R' w w'
theorem ClipAt.own_same {w w' : World} {b lb : Nat} {R : Nat → Prop} {c : CSt} (h : ClipAt w b lb R c) (k : Same w w') : ∃ R', ClipAt w' b lb R' c ∧ Own R R' w w' :=
  ⟨R, h.same k, Own.of_same k (fun _ h => .inl h)⟩
theorem check_few {fs : List ByteArray} {acts : Int} (h : checkV fs acts = 0) : fs.length ≤ 16 := by
  unfold checkV at h
  split at h
  · cases h
  · omega

/-- The end of Set: cells 5, 6, the clone, cells 1, 2. -/
theorem set_end {w w1 w2 w' : World} {b lb : Nat} {R : Nat → Prop} {c : CSt} {A : Option Addr} {n cap mb : Nat} (h : ClipHd w b lb R c A n cap mb) (client sn : Int) (fs : List ByteArray) (hfs : fs.length ≤ 1000) (k1 : Same w w1) (k2 : Same ((w1.setCell ⟨b, 5, none⟩ (.bool true)).setCell ⟨b, 6, none⟩ (.int .u32 sn)) w2)
    {A' : Option Addr} {n' cap' : Nat} (hs : SArg w2 A' n' cap' fs) (hnew : 0 < n' → ∀ g o, A' = some ⟨g, o, none⟩ → w1.heap.size ≤ g ∧ g < w2.heap.size) (hw : (w2.setCell ⟨b, 1, none⟩ (.int .i64 client)).setCell ⟨b, 2, none⟩ (.slice A' n' cap') = w') :
    ∃ R', ClipAt w' b lb R' { c with owner := client, fmts := fs, used := true, last := sn } ∧ Own R R' w w' := by
  subst hw
  have hb := h.lt b h.rb
  have kk : Chg (fun x => x = b) w w2 := (Chg.set2 (S := fun x => x = b) (Chg.of_same k1) b 5 6 _ _ rfl).trans (Chg.of_same k2)
  have kk' : Chg (fun x => x = b) w ((w2.setCell ⟨b, 1, none⟩ (.int .i64 client)).setCell ⟨b, 2, none⟩ (.slice A' n' cap')) := Chg.set2 (S := fun x => x = b) kk b 1 2 _ _ rfl
  have hat : w2.heap[b]? = some (.cells (ccells lb { c with used := true, last := sn } A n cap mb).toArray 121 (0, 0)) := by
    refine k2.at_ ?_ (fun q => q)
    exact at_setCell (i := 6) _ (at_setCell (i := 5) _ (k1.at_ h.at_ (fun q => q)))
  refine ⟨_, ⟨A', n', cap', mb, ClipHd.updF h { c with owner := client, fmts := fs, used := true, last := sn } rfl h.offs hfs kk' ?_ ?_ ?_⟩, kk'.mono (fun x _ e => by subst e; exact h.rb), fun x hx => ?_⟩
  · exact at_setCell (i := 2) _ (at_setCell (i := 1) _ hat)
  · refine hs.chg2 ((Chg.refl (fun x => x = b) w2).set2 b 1 2 _ _ rfl) (fun hn g o hA e => ?_)
    have := hnew hn g o hA
    have := k1.size
    omega
  · intro hn g o hA
    have := hnew hn g o hA
    have := k1.size
    simp
    omega
  · rcases hx with hx | hx
    · exact .inl hx
    · exact .inr hx.1

set_option maxHeartbeats 1000000 in
theorem cset_ok {w : World} {b lb : Nat} {R : Nat → Prop} {c : CSt} {L : SLog} (c' : CSt) (v client acts sn : Int) (Ao : Option Addr) (no co : Nat) (fs : List ByteArray) (h : ClipAt w b lb R c) (hL : LogAt w lb L) (hs : SArg w Ao no co fs) (hd : 0 < no → ∀ g o, Ao = some ⟨g, o, none⟩ → ¬ R g)
    (hv : c.setE L client fs acts sn = v) (hc : c.set L client fs acts sn = c') :
    Calls Try.prog 15 #[.pointer (some ⟨b, 0, none⟩), .int .i64 client, .agg #[.slice Ao no co, .int .i64 acts], .int .u32 sn] w (COut b lb R c' v w) := by
  obtain ⟨A, n, cap, mb, h⟩ := h
  have c8 := h.c8
  have hb := h.lt b h.rb
  have HB := Lib.hid hb
  have HH := Lib.hid h
  have HL := Lib.hid hL
  have HS := Lib.hid hs
  have HD := Lib.hid hd
  have HV := Lib.hid hv
  have HC := Lib.hid hc
  clear h hL hs hd hv hc hb
  have stay : ∀ v, CSt.setE c L client fs acts sn = v → v ≠ 0 → ∀ w', Same w w' → COut b lb R c' v w (.returned (.int .i64 v)) w' := by
    intro v e hv0 w' k
    have e2 : c.set L client fs acts sn = c := by unfold CSt.set; rw [if_neg (by rw [e]; exact hv0)]
    refine ⟨rfl, ?_⟩
    rw [← HC.out, e2]
    exact ClipAt.own_same ⟨A, n, cap, mb, HH.out⟩ k
  have STAY := Lib.hid stay
  clear stay
  by_cases h1 : client < 1
  · have hv6 : CSt.setE c L client fs acts sn = 6 := by unfold CSt.setE; rw [if_pos h1]
    obtain rfl : v = 6 := by rw [← HV.out]; exact hv6
    have H6 := Lib.hid hv6
    clear hv6
    go_enter Try.func15, Try.ntmps15
    go_wp2_with fail
    refine (made_ok b mb _ (by rw [← c8]; exact World.cell?_of_block (a := ⟨b, 8, none⟩) (Below.heap_alloc _ _ _ HB.out))).mono ?_
    rintro e w1 ⟨rfl, rfl⟩
    go_wp2
    go_ret
    exact STAY.out 6 H6.out (by omega) _ ((Chg.refl _ _).alloc _)
  · by_cases h2 : checkV fs acts = 0
    · have hfew := check_few h2
      have H2 := Lib.hid h2
      clear h2
      cases hval : c.validB L client sn
      · have hv13 : CSt.setE c L client fs acts sn = 13 := by unfold CSt.setE; rw [if_neg h1, if_neg (by rw [H2.out]; simp), hval]; rfl
        obtain rfl : v = 13 := by rw [← HV.out]; exact hv13
        have H13 := Lib.hid hv13
        have HVAL := Lib.hid hval
        clear hv13 hval
        go_enter Try.func15, Try.ntmps15
        go_wp2_with fail
        refine (made_ok b mb _ (by rw [← c8]; exact World.cell?_of_block (a := ⟨b, 8, none⟩) (Below.heap_alloc _ _ _ HB.out))).mono ?_
        rintro e w1 ⟨rfl, rfl⟩
        go_wp2_with fail
        refine (ocheck_v 0 Ao no co fs acts _ (HS.out.1.alloc _) HS.out.2.1 HS.out.2.2 H2.out).mono ?_
        rintro e w1 ⟨rfl, hs1⟩
        have HS1 : Hid (Same w w1) := Lib.hid (((Chg.refl _ _).alloc _).trans hs1)
        clear hs1
        go_wp2_with fail
        refine (cvalid_ok false client sn (ClipAt.same ⟨A, n, cap, mb, HH.out⟩ HS1.out) (HL.out.chg HS1.out (fun q => q)) HVAL.out).mono ?_
        rintro e w2 ⟨rfl, hs2⟩
        have HS2 := Lib.hid (HS1.out.trans hs2)
        clear hs2
        go_wp2
        go_ret
        exact STAY.out 13 H13.out (by omega) _ HS2.out
      · have hv0 : CSt.setE c L client fs acts sn = 0 := by unfold CSt.setE; rw [if_neg h1, if_neg (by rw [H2.out]; simp), hval]; rfl
        obtain rfl : v = 0 := by rw [← HV.out]; exact hv0
        have hc' : c' = { c with owner := client, fmts := fs, used := true, last := sn } := by rw [← HC.out]; unfold CSt.set; rw [if_pos hv0]
        have HC' := Lib.hid hc'
        have HVAL := Lib.hid hval
        clear hv0 hval hc'
        go_enter Try.func15, Try.ntmps15
        go_wp2_with fail
        refine (made_ok b mb _ (by rw [← c8]; exact World.cell?_of_block (a := ⟨b, 8, none⟩) (Below.heap_alloc _ _ _ HB.out))).mono ?_
        rintro e w1 ⟨rfl, rfl⟩
        go_wp2_with fail
        refine (ocheck_v 0 Ao no co fs acts _ (HS.out.1.alloc _) HS.out.2.1 HS.out.2.2 H2.out).mono ?_
        rintro e w1 ⟨rfl, hs1⟩
        have hbox := hs1.at_ (at_new w (.cells #[.slice Ao no co, .int .i64 acts] 36)) (fun q => q)
        have HS1 : Hid (Same w w1) := Lib.hid (((Chg.refl _ _).alloc _).trans hs1)
        clear hs1
        have HBOX := Lib.hid hbox
        clear hbox
        go_wp2_with fail
        refine (cvalid_ok true client sn (ClipAt.same ⟨A, n, cap, mb, HH.out⟩ HS1.out) (HL.out.chg HS1.out (fun q => q)) HVAL.out).mono ?_
        rintro e w2 ⟨rfl, hs2⟩
        have hbox := hs2.at_ HBOX.out (fun q => q)
        have HBOX := Lib.hid hbox
        have HS2 := Lib.hid (HS1.out.trans hs2)
        clear hs2 hbox
        have hh2 := HH.out.chg HS2.out (fun _ _ q => q)
        have HF := Lib.hid hh2.fr
        have d5 := hh2.c5
        have d6 := hh2.c6
        clear hh2
        go_wp2_with fail
        refine (use_ok b sn _ _ _ d5 d6 HF.out).mono ?_
        rintro e w3 ⟨rfl, rfl⟩
        have g0 : ((w2.setCell ⟨b, 5, none⟩ (.bool true)).setCell ⟨b, 6, none⟩ (.int .u32 sn)).cell? ⟨w.heap.size, 0, none⟩ = some (.slice Ao no co) := by
          rw [cell_at (C := [.slice Ao no co, .int .i64 acts]) (at_setCell_other _ (by have := HB.out; omega) (at_setCell_other _ (by have := HB.out; omega) HBOX.out)) 0]; rfl
        have hsc : Same w2 w2 := Chg.refl _ _
        have hkc : Chg (fun x => x = b) w2 ((w2.setCell ⟨b, 5, none⟩ (.bool true)).setCell ⟨b, 6, none⟩ (.int .u32 sn)) := Chg.set2 (S := fun x => x = b) (Chg.refl _ w2) b 5 6 _ _ rfl
        have HKC := Lib.hid hkc
        clear hkc hsc
        go_wp2_with fail
        refine (clone_ok Ao no co fs _ ((HS.out.same HS2.out).chg2 HKC.out (fun hn g o hA e => HD.out hn g o hA (e ▸ HH.out.rb))) (by have := HS.out.1.1; omega)).mono ?_
        rintro e w4 ⟨A', cap', rfl, hcl, hs4, hnew⟩
        have HCL := Lib.hid hcl
        have HS4 := Lib.hid hs4
        have HNEW := Lib.hid hnew
        have hk4 := HKC.out.trans (Chg.of_same hs4)
        have d1 : w4.cell? ⟨b, 1, none⟩ = some (.int .i64 c.owner) := by
          have := HS4.out.cell (b := b) (o := 1) (x := .int .i64 c.owner) (by
            have e1 := (HH.out.chg HS2.out (fun _ _ q => q)).at_
            rw [cell_at (at_setCell (i := 6) _ (at_setCell (i := 5) _ e1)) 1]; rfl) (fun q => q)
          exact this
        have d2 : w4.cell? ⟨b, 2, none⟩ = some (.slice A n cap) := by
          have := HS4.out.cell (b := b) (o := 2) (x := .slice A n cap) (by
            have e1 := (HH.out.chg HS2.out (fun _ _ q => q)).at_
            rw [cell_at (at_setCell (i := 6) _ (at_setCell (i := 5) _ e1)) 2]; rfl) (fun q => q)
          exact this
        have HF4 : Hid (∀ i, w4.frozen? ⟨b, i, none⟩ = false) := Lib.hid fun i => by
          have e1 := (HH.out.chg HS2.out (fun _ _ q => q)).at_
          exact frozen_at (HS4.out.at_ (at_setCell (i := 6) _ (at_setCell (i := 5) _ e1)) (fun q => q)) i
        have f1 := HF4.out 1
        have f2 := HF4.out 2
        clear hcl hs4 hnew hk4 g0
        go_wp2
        go_ret
        refine ⟨rfl, ?_⟩
        rw [HC'.out]
        exact set_end HH.out client sn fs (by omega) HS2.out HS4.out HCL.out (fun hn g o hA => ⟨by have := HNEW.out hn g o hA; simpa using this.1, (HNEW.out hn g o hA).2⟩) rfl
    · have hve : CSt.setE c L client fs acts sn = checkV fs acts := by unfold CSt.setE; rw [if_neg h1, if_pos h2]
      obtain rfl : v = checkV fs acts := by rw [← HV.out]; exact hve
      have HE := Lib.hid hve
      have H2 := Lib.hid h2
      obtain ⟨k, hk⟩ : ∃ k, checkV fs acts = k := ⟨_, rfl⟩
      rw [hk] at HE H2 ⊢
      have hb1 : (k != 0) = true := by have := H2.out; simpa using this
      have hb2 : (k == 0) = false := by have := H2.out; simpa using this
      have HK := Lib.hid hk
      clear hve h2 hk
      go_enter Try.func15, Try.ntmps15
      go_wp2_with fail
      refine (made_ok b mb _ (by rw [← c8]; exact World.cell?_of_block (a := ⟨b, 8, none⟩) (Below.heap_alloc _ _ _ HB.out))).mono ?_
      rintro e w1 ⟨rfl, rfl⟩
      go_wp2_with fail
      refine (ocheck_v k Ao no co fs acts _ (HS.out.1.alloc _) HS.out.2.1 HS.out.2.2 HK.out).mono ?_
      rintro e w1 ⟨rfl, hs1⟩
      have HS1 : Hid (Same w w1) := Lib.hid (((Chg.refl _ _).alloc _).trans hs1)
      clear hs1
      go_wp2
      go_ret
      exact STAY.out k HE.out H2.out _ HS1.out
end Go.Proofs.Ytndldjopgbhphaa
