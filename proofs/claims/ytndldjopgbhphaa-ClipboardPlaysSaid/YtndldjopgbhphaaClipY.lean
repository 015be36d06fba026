/- The walks of package clipboard: Clear, Formats, Focus. -/
import Derived.Test.YtndldjopgbhphaaClipX
set_option linter.unusedVariables false
set_option linter.unusedSimpArgs false
set_option maxRecDepth 100000
namespace Go.Proofs.Ytndldjopgbhphaa
open Go.RowKit

/-! ### Clear -/
theorem clear_end {w w1 w' : World} {b lb : Nat} {R : Nat → Prop} {c : CSt} {A : Option Addr} {n cap mb : Nat} (h : ClipHd w b lb R c A n cap mb) (sn : Int) (k1 : Same w w1)
    (hw : ((((w1.setCell ⟨b, 5, none⟩ (.bool true)).setCell ⟨b, 6, none⟩ (.int .u32 sn)).setCell ⟨b, 1, none⟩ (.int .i64 0)).setCell ⟨b, 2, none⟩ (.slice none 0 0)) = w') :
    ∃ R', ClipAt w' b lb R' { c with owner := 0, fmts := [], used := true, last := sn } ∧ Own R R' w w' := by
  subst hw
  have kk : Chg (fun x => x = b) w ((((w1.setCell ⟨b, 5, none⟩ (.bool true)).setCell ⟨b, 6, none⟩ (.int .u32 sn)).setCell ⟨b, 1, none⟩ (.int .i64 0)).setCell ⟨b, 2, none⟩ (.slice none 0 0)) :=
    Chg.set2 (S := fun x => x = b) (Chg.set2 (S := fun x => x = b) (Chg.of_same k1) b 5 6 _ _ rfl) b 1 2 _ _ rfl
  have hat := at_setCell (i := 2) (.slice none 0 0) (at_setCell (i := 1) (.int .i64 0) (at_setCell (i := 6) (.int .u32 sn) (at_setCell (i := 5) (.bool true) (k1.at_ h.at_ (fun q => q)))))
  refine ⟨_, ⟨none, 0, 0, mb, ClipHd.updF h { c with owner := 0, fmts := [], used := true, last := sn } rfl h.offs (by simp) kk hat (SArg.nil _) (fun hn => absurd hn (by omega))⟩, kk.mono (fun x _ e => by subst e; exact h.rb), fun x hx => ?_⟩
  rcases hx with hx | hx
  · exact .inl hx
  · exact .inr hx.1

set_option maxHeartbeats 1000000 in
theorem cclear_ok {w : World} {b lb : Nat} {R : Nat → Prop} {c : CSt} {L : SLog} (c' : CSt) (v client sn : Int) (h : ClipAt w b lb R c) (hL : LogAt w lb L) (hv : c.clrE L client sn = v) (hc : c.clear L client sn = c') :
    Calls Try.prog 27 #[.pointer (some ⟨b, 0, none⟩), .int .i64 client, .int .u32 sn] w (COut b lb R c' v w) := by
  obtain ⟨A, n, cap, mb, h⟩ := h
  have c1 := h.c1
  have HH := Lib.hid h
  have HL := Lib.hid hL
  have HV := Lib.hid hv
  have HC := Lib.hid hc
  have HM := Lib.hid (made_at h)
  clear h hL hv hc
  have stay : ∀ v, CSt.clrE c L client sn = v → v ≠ 0 → ∀ w', Same w w' → COut b lb R c' v w (.returned (.int .i64 v)) w' := by
    intro v e hv0 w' k
    have e2 : c.clear L client sn = c := by unfold CSt.clear; rw [if_neg (by rw [e]; exact hv0)]
    refine ⟨rfl, ?_⟩
    rw [← HC.out, e2]
    exact ClipAt.own_same ⟨A, n, cap, mb, HH.out⟩ k
  have STAY := Lib.hid stay
  clear stay
  by_cases h1 : client < 1
  · have hve : CSt.clrE c L client sn = 17 := by unfold CSt.clrE; rw [if_pos (.inl h1)]
    obtain rfl : v = 17 := by rw [← HV.out]; exact hve
    have H6 := Lib.hid hve
    clear hve
    go_enter Try.func27, Try.ntmps27
    go_wp2_with fail
    refine HM.out.mono ?_
    rintro e w1 ⟨rfl, rfl⟩
    go_wp2
    go_ret
    exact STAY.out 17 H6.out (by omega) _ (Chg.refl _ _)
  · by_cases h2 : (client != c.owner) = true
    · have hve : CSt.clrE c L client sn = 17 := by unfold CSt.clrE; rw [if_pos (.inr (by simpa using h2))]
      obtain rfl : v = 17 := by rw [← HV.out]; exact hve
      have H6 := Lib.hid hve
      clear hve
      go_enter Try.func27, Try.ntmps27
      go_wp2_with fail
      refine HM.out.mono ?_
      rintro e w1 ⟨rfl, rfl⟩
      go_wp2
      go_ret
      exact STAY.out 17 H6.out (by omega) _ (Chg.refl _ _)
    · have h2' : (client != c.owner) = false := by simpa using h2
      have h2e : client = c.owner := by simpa using h2
      have hif : ¬ (client < 1 ∨ client ≠ c.owner) := by omega
      have HIF := Lib.hid hif
      clear h2 h2e hif
      cases hval : c.validB L client sn
      · have hve : CSt.clrE c L client sn = 13 := by unfold CSt.clrE; rw [if_neg HIF.out, hval]; rfl
        obtain rfl : v = 13 := by rw [← HV.out]; exact hve
        have H6 := Lib.hid hve
        have HVAL := Lib.hid hval
        clear hve hval
        go_enter Try.func27, Try.ntmps27
        go_wp2_with fail
        refine HM.out.mono ?_
        rintro e w1 ⟨rfl, rfl⟩
        go_wp2_with fail
        refine (cvalid_ok false client sn ⟨A, n, cap, mb, HH.out⟩ HL.out HVAL.out).mono ?_
        rintro e w2 ⟨rfl, hs2⟩
        have HS2 := Lib.hid hs2
        clear hs2
        go_wp2
        go_ret
        exact STAY.out 13 H6.out (by omega) _ HS2.out
      · have hve : CSt.clrE c L client sn = 0 := by unfold CSt.clrE; rw [if_neg HIF.out, hval]; rfl
        obtain rfl : v = 0 := by rw [← HV.out]; exact hve
        have hc' : c' = { c with owner := 0, fmts := [], used := true, last := sn } := by rw [← HC.out]; unfold CSt.clear; rw [if_pos hve]
        have HC' := Lib.hid hc'
        have HVAL := Lib.hid hval
        clear hve hval hc'
        go_enter Try.func27, Try.ntmps27
        go_wp2_with fail
        refine HM.out.mono ?_
        rintro e w1 ⟨rfl, rfl⟩
        go_wp2_with fail
        refine (cvalid_ok true client sn ⟨A, n, cap, mb, HH.out⟩ HL.out HVAL.out).mono ?_
        rintro e w2 ⟨rfl, hs2⟩
        have HS2 := Lib.hid hs2
        clear hs2
        have hh2 := HH.out.chg HS2.out (fun _ _ q => q)
        have hf := hh2.fr
        have d5 := hh2.c5
        have d6 := hh2.c6
        have d1 := hh2.c1
        have d2 := hh2.c2
        have HF := Lib.hid hf
        clear hh2
        go_wp2_with fail
        refine (use_ok b sn _ _ _ d5 d6 HF.out).mono ?_
        rintro e w3 ⟨rfl, rfl⟩
        go_wp2
        go_ret
        refine ⟨rfl, ?_⟩
        rw [HC'.out]
        exact clear_end HH.out sn HS2.out rfl
theorem cclear_nil (client sn : Int) (w : World) : Calls Try.prog 27 #[.pointer none, .int .i64 client, .int .u32 sn] w fun e w' => e = .returned (.int .i64 1) ∧ w = w' := by
  go_enter Try.func27, Try.ntmps27
  go_wp2_with fail
  refine (made_nil _).mono ?_
  rintro e w' ⟨rfl, rfl⟩
  go_wp2
  go_ret
  exact ⟨rfl, rfl⟩

/-! ### Formats -/
theorem cformats_ok {w : World} {b lb : Nat} {R : Nat → Prop} {c : CSt} (fs : List ByteArray) (n' : Nat) (client : Int) (h : ClipAt w b lb R c) (hv : c.sees client = fs) (hn : fs.length = n') :
    Calls Try.prog 21 #[.pointer (some ⟨b, 0, none⟩), .int .i64 client] w (CloneOut w n' fs) := by
  obtain ⟨A, n, cap, mb, h⟩ := h
  have c2 := h.c2
  have c3 := h.c3
  have HH := Lib.hid h
  have HM := Lib.hid (made_at h)
  have HV := Lib.hid hv
  have HN := Lib.hid hn
  clear h hv hn
  by_cases h1 : client < 1
  · have : fs = [] := by rw [← HV.out]; unfold CSt.sees; rw [if_pos (.inl h1)]
    subst this
    obtain rfl : n' = 0 := HN.out.symm
    go_enter Try.func21, Try.ntmps21
    go_wp2_with fail
    refine HM.out.mono ?_
    rintro e w1 ⟨rfl, rfl⟩
    go_wp2
    go_ret
    exact ⟨none, 0, rfl, SArg.nil _, Chg.refl _ _, fun hn => absurd hn (by omega)⟩
  · by_cases h2 : (client != c.focus) = true
    · have : fs = [] := by rw [← HV.out]; unfold CSt.sees; rw [if_pos (.inr (by simpa using h2))]
      subst this
      obtain rfl : n' = 0 := HN.out.symm
      go_enter Try.func21, Try.ntmps21
      go_wp2_with fail
      refine HM.out.mono ?_
      rintro e w1 ⟨rfl, rfl⟩
      go_wp2
      go_ret
      exact ⟨none, 0, rfl, SArg.nil _, Chg.refl _ _, fun hn => absurd hn (by omega)⟩
    · have h2' : (client != c.focus) = false := by simpa using h2
      have h2e : client = c.focus := by simpa using h2
      have : fs = c.fmts := by rw [← HV.out]; unfold CSt.sees; rw [if_neg (by omega)]
      subst this
      obtain rfl : n' = n := by rw [← HN.out, HH.out.fm.1.1]
      clear h2 h2e
      go_enter Try.func21, Try.ntmps21
      go_wp2_with fail
      refine HM.out.mono ?_
      rintro e w1 ⟨rfl, rfl⟩
      go_wp2_with fail
      refine (clone_ok A n' cap c.fmts _ HH.out.fm (by have := HH.out.len; have := HN.out; omega)).mono ?_
      rintro e w2 ⟨A', cap', rfl, h3⟩
      have H3 := Lib.hid h3
      clear h3
      go_wp2
      go_ret
      exact ⟨A', cap', rfl, H3.out⟩
theorem cformats_nil (client : Int) (w : World) : Calls Try.prog 21 #[.pointer none, .int .i64 client] w fun e w' => e = .returned (.slice none 0 0) ∧ w = w' := by
  go_enter Try.func21, Try.ntmps21
  go_wp2_with fail
  refine (made_nil _).mono ?_
  rintro e w' ⟨rfl, rfl⟩
  go_wp2
  go_ret
  exact ⟨rfl, rfl⟩

/-! ### Focus -/
def delivCells (client surface kind time x y code value serial : Int) : List Value := [.int .i64 client, .int .i64 surface, .int .i64 kind, .int .i64 time, .int .i64 x, .int .i64 y, .int .i64 code, .int .i64 value, .int .u32 serial]
/-- What Focus gives back. -/
def FocusOut (b lb : Nat) (R : Nat → Prop) (c : CSt) (client : Int) (w : World) (e : Ending) (w' : World) : Prop :=
  ∃ R', ClipAt w' b lb R' (c.foc client) ∧ Own R R' w w' ∧
  (if client < 1 then e = .returned (.slice none 0 0) else ∃ g, e = .returned (.slice (some ⟨g, 0, none⟩) 1 1) ∧ w.heap.size ≤ g ∧ ¬ R' g ∧ w'.heap[g]? = some (.cells (delivCells client 0 18 0 0 0 c.focCode 0 0).toArray 44 (0, 0)))
theorem infoDeliv : (Try.prog.info? 44).map (fun i => i.size) = some 9 := by kernel_rfl
theorem cfocus_nil (client : Int) (w : World) : Calls Try.prog 18 #[.pointer none, .int .i64 client] w fun e w' => e = .returned (.slice none 0 0) ∧ w = w' := by
  go_enter Try.func18, Try.ntmps18
  go_wp2_with fail
  refine (made_nil _).mono ?_
  rintro e w' ⟨rfl, rfl⟩
  go_wp2
  go_ret
  exact ⟨rfl, rfl⟩
theorem at_newK (w : World) (o o2 : Obj) (k : Nat) (hk : w.heap.size + 1 = k) : ((w.alloc o).alloc o2).heap[k]? = some o2 := by
  subst hk
  have e := at_new (w.alloc o) o2
  have hs : (w.alloc o).heap.size = w.heap.size + 1 := by simp
  rw [hs] at e
  exact e
set_option maxHeartbeats 1000000 in
theorem cfocus_ok {w : World} {b lb : Nat} {R : Nat → Prop} {c : CSt} (client : Int) (h : ClipAt w b lb R c) (ho : c.offers < 1000000) :
    Calls Try.prog 18 #[.pointer (some ⟨b, 0, none⟩), .int .i64 client] w (FocusOut b lb R c client w) := by
  obtain ⟨A, n, cap, mb, h⟩ := h
  have c1 := h.c1
  have c3 := h.c3
  have c4 := h.c4
  have fr := h.fr
  have HH := Lib.hid h
  have HM := Lib.hid (made_at h)
  have hb := h.lt b h.rb
  have HB := Lib.hid hb
  have hnb : b ≠ w.heap.size := by omega
  have hoo : (c.offers : Int) < 1000000 := by omega
  clear h
  by_cases h1 : client < 1
  · have e1 : c.foc client = { c with focus := 0 } := by
      unfold CSt.foc; rw [if_pos (.inl h1), show max client 0 = 0 by omega]
    have HE := Lib.hid e1
    have fin : ∀ w', w.setCell ⟨b, 3, none⟩ (.int .i64 0) = w' → FocusOut b lb R c client w (.returned (.slice none 0 0)) w' := by
      rintro w' rfl
      have kk : Chg (fun x => x = b) w (w.setCell ⟨b, 3, none⟩ (.int .i64 0)) := Chg.set1 (S := fun x => x = b) (Chg.refl _ _) b 3 _ rfl
      refine ⟨R, ?_, ⟨kk.mono (fun x _ e => by subst e; exact HH.out.rb), fun x hx => .inl hx⟩, by rw [if_pos h1]⟩
      rw [HE.out]
      exact ⟨A, n, cap, mb, HH.out.upd _ rfl rfl HH.out.offs kk (at_setCell (i := 3) _ HH.out.at_)⟩
    have FIN := Lib.hid fin
    clear e1 hoo ho fin
    rcases Int.lt_or_eq_of_le (show client ≤ 0 by omega) with h2 | h2
    · have h3 : ¬ 0 ≤ client := by omega
      clear h1
      go_enter Try.func18, Try.ntmps18
      go_wp2_with fail
      refine HM.out.mono ?_
      rintro e w1 ⟨rfl, rfl⟩
      go_wp2
      go_ret
      exact FIN.out _ rfl
    · subst h2
      clear h1
      go_enter Try.func18, Try.ntmps18
      go_wp2_with fail
      refine HM.out.mono ?_
      rintro e w1 ⟨rfl, rfl⟩
      go_wp2
      go_ret
      exact FIN.out _ rfl
  · have h2 : 0 ≤ client := by omega
    have h3 : (client == 0) = false := by simp; omega
    have h4 : (client != 0) = true := by simp; omega
    have s1 : IntKind.i64.wrap ((c.offers : Int) + 1) = (c.offers : Int) + 1 := IntWalk.i64_in _ (by omega)
    have HO := Lib.hid (show c.offers + 1 ≤ 1000000 by omega)
    cases h5 : (c.owner != 0)
    · have h6 : (c.owner == 0) = true := by simpa using h5
      clear hoo ho h1
      go_enter Try.func18, Try.ntmps18
      go_wp2_with fail
      refine HM.out.mono ?_
      rintro e w1 ⟨rfl, rfl⟩
      go_wp2
      go_ret
      have e1 : c.foc client = { c with focus := client } := by
        unfold CSt.foc; rw [if_pos (.inr (by simpa using h6)), show max client 0 = client by omega]
      have ec : c.focCode = 0 := by unfold CSt.focCode; rw [if_pos (by simpa using h6)]
      refine ⟨R, ?_, ⟨?_, fun x hx => .inl hx⟩, ?_⟩
      rotate_left 2
      · rw [if_neg (by simp at h3; omega), ec]
        exact ⟨w.heap.size + 1, rfl, by omega, fun q => by have := HH.out.lt _ q; omega, at_newK _ _ _ _ (by simp)⟩
      · rw [e1]
        refine ⟨A, n, cap, mb, HH.out.upd _ rfl rfl HH.out.offs ?_ ?_⟩
        ·
          repeat (first | (with_reducible refine Chg.drew ?_) | (with_reducible refine Chg.drewN ?_ _) | (with_reducible refine Chg.alloc ?_ _) | (with_reducible refine Chg.setCell ?_ _ _ ?_; rotate_left 1; · (intro q; first | (simp; done) | (exfalso; revert q; simp; done) | (exfalso; revert q; simp; omega) | (simp; omega))))
          exact (Chg.refl _ w)
        · exact at_alloc (at_alloc (at_setCell (i := 3) _ HH.out.at_))
      · refine Chg.mono (S := fun x => x = b) ?_ (fun x _ e => by subst e; exact HH.out.rb)
        repeat (first | (with_reducible refine Chg.drew ?_) | (with_reducible refine Chg.drewN ?_ _) | (with_reducible refine Chg.alloc ?_ _) | (with_reducible refine Chg.setCell ?_ _ _ ?_; rotate_left 1; · (intro q; first | (simp; done) | (exfalso; revert q; simp; done) | (exfalso; revert q; simp; omega) | (simp; omega))))
        exact (Chg.refl _ w)
    · have h6 : (c.owner == 0) = false := by simpa using h5
      clear hoo ho h1
      go_enter Try.func18, Try.ntmps18
      go_wp2_with fail
      refine HM.out.mono ?_
      rintro e w1 ⟨rfl, rfl⟩
      go_wp2
      go_ret
      have e1 : c.foc client = { c with focus := client, offers := c.offers + 1 } := by
        unfold CSt.foc; rw [if_neg (by simp at h3 h6; omega), show max client 0 = client by omega]
      have ec : c.focCode = (c.offers : Int) + 1 := by unfold CSt.focCode; rw [if_neg (by simpa using h6)]
      refine ⟨R, ?_, ⟨?_, fun x hx => .inl hx⟩, ?_⟩
      rotate_left 2
      · rw [if_neg (by simp at h3; omega), ec]
        exact ⟨w.heap.size + 1, rfl, by omega, fun q => by have := HH.out.lt _ q; omega, at_newK _ _ _ _ (by simp)⟩
      · rw [e1]
        refine ⟨A, n, cap, mb, HH.out.upd _ rfl rfl HO.out ?_ ?_⟩
        ·
          repeat (first | (with_reducible refine Chg.drew ?_) | (with_reducible refine Chg.drewN ?_ _) | (with_reducible refine Chg.alloc ?_ _) | (with_reducible refine Chg.setCell ?_ _ _ ?_; rotate_left 1; · (intro q; first | (simp; done) | (exfalso; revert q; simp; done) | (exfalso; revert q; simp; omega) | (simp; omega))))
          exact (Chg.refl _ w)
        · exact at_alloc (at_alloc (at_setCell (i := 4) _ (at_setCell (i := 3) _ HH.out.at_)))
      · refine Chg.mono (S := fun x => x = b) ?_ (fun x _ e => by subst e; exact HH.out.rb)
        repeat (first | (with_reducible refine Chg.drew ?_) | (with_reducible refine Chg.drewN ?_ _) | (with_reducible refine Chg.alloc ?_ _) | (with_reducible refine Chg.setCell ?_ _ _ ?_; rotate_left 1; · (intro q; first | (simp; done) | (exfalso; revert q; simp; done) | (exfalso; revert q; simp; omega) | (simp; omega))))
        exact (Chg.refl _ w)
end Go.Proofs.Ytndldjopgbhphaa
