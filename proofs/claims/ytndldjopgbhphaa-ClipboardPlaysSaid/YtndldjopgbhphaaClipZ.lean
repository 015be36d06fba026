/- The walks of package clipboard: Receive. -/
import Derived.Test.YtndldjopgbhphaaClipY
set_option linter.unusedVariables false
set_option linter.unusedSimpArgs false
set_option maxRecDepth 100000
namespace Go.Proofs.Ytndldjopgbhphaa
open Go.RowKit

def RcvNo (b lb : Nat) (R : Nat → Prop) (c : CSt) (v : Int) (w : World) (e : Ending) (w' : World) : Prop :=
  e = .returned (.tuple #[.pointer none, .int .i64 v]) ∧ w = w'
def RcvYes (b lb : Nat) (R : Nat → Prop) (c : CSt) (client win : Int) (w : World) (e : Ending) (w' : World) : Prop :=
  ∃ pb Rp, e = .returned (.tuple #[.pointer (some ⟨pb, 0, none⟩), .int .i64 0]) ∧ (∀ x, Rp x → w.heap.size ≤ x) ∧ ∃ R', ClipAt w' b lb R' { c with flows := c.flows ++ [⟨pb, Rp, PSt.new win, c.owner, client, true⟩] } ∧ Own R R' w w'
theorem crcv_nil (client win : Int) (f : ByteArray) (w : World) : Calls Try.prog 22 #[.pointer none, .int .i64 client, .string f, .int .i64 win] w fun e w' => e = .returned (.tuple #[.pointer none, .int .i64 1]) ∧ w = w' := by
  go_enter Try.func22, Try.ntmps22
  go_wp2_with fail
  refine (made_nil _).mono ?_
  rintro e w' ⟨rfl, rfl⟩
  go_wp2
  go_ret2
  exact ⟨rfl, rfl⟩
set_option maxHeartbeats 1000000 in
theorem crcv_no {w : World} {b lb : Nat} {R : Nat → Prop} {c : CSt} (v client win : Int) (f : ByteArray) (h : ClipAt w b lb R c) (hv : c.rcvE client f win = v) (h0 : v ≠ 0) :
    Calls Try.prog 22 #[.pointer (some ⟨b, 0, none⟩), .int .i64 client, .string f, .int .i64 win] w (RcvNo b lb R c v w) := by
  obtain ⟨A, n, cap, mb, h⟩ := h
  have c1 := h.c1
  have c2 := h.c2
  have c3 := h.c3
  have HH := Lib.hid h
  have HM := Lib.hid (made_at h)
  have HV := Lib.hid hv
  have H0 := Lib.hid h0
  clear h hv h0
  by_cases h1 : client < 1
  · obtain rfl : v = 17 := by rw [← HV.out]; unfold CSt.rcvE; rw [if_pos (.inl h1)]
    go_enter Try.func22, Try.ntmps22
    go_wp2_with fail
    refine HM.out.mono ?_
    rintro e w1 ⟨rfl, rfl⟩
    go_wp2
    go_ret2
    exact ⟨rfl, rfl⟩
  cases h2 : (client != c.focus)
  · have h2e : client = c.focus := by simpa using h2
    have H12 := Lib.hid (show ¬ (client < 1 ∨ client ≠ c.focus) by omega)
    clear h2e
    cases h3 : (c.owner == 0)
    · cases h4 : hasS c.fmts f
      · obtain rfl : v = 8 := by rw [← HV.out]; unfold CSt.rcvE; rw [if_neg H12.out, if_pos (.inr h4)]
        have H4 := Lib.hid h4
        clear h4
        go_enter Try.func22, Try.ntmps22
        go_wp2_with fail
        refine HM.out.mono ?_
        rintro e w1 ⟨rfl, rfl⟩
        go_wp2_with fail
        refine (contains_v false A n cap c.fmts f _ HH.out.fm.1 (by have := HH.out.fm.1.1; have := HH.out.len; omega) H4.out).mono ?_
        rintro e w1 ⟨rfl, rfl⟩
        go_wp2
        go_ret2
        exact ⟨rfl, rfl⟩
      · have hw : win < 1 ∨ 65536 < win := by
          by_cases hw : win < 1 ∨ 65536 < win
          · exact hw
          · exact absurd (by rw [← HV.out]; unfold CSt.rcvE; rw [if_neg H12.out, if_neg (by rw [h4]; simpa using h3), if_neg hw]) H0.out
        obtain rfl : v = 6 := by rw [← HV.out]; unfold CSt.rcvE; rw [if_neg H12.out, if_neg (by rw [h4]; simpa using h3), if_pos hw]
        have H4 := Lib.hid h4
        have HW := Lib.hid hw
        clear h4 hw
        go_enter Try.func22, Try.ntmps22
        go_wp2_with fail
        refine HM.out.mono ?_
        rintro e w1 ⟨rfl, rfl⟩
        go_wp2_with fail
        refine (contains_v true A n cap c.fmts f _ HH.out.fm.1 (by have := HH.out.fm.1.1; have := HH.out.len; omega) H4.out).mono ?_
        rintro e w1 ⟨rfl, rfl⟩
        go_wp2_with fail
        refine (pnew_bad _ win HW.out).mono ?_
        rintro e w1 ⟨rfl, rfl⟩
        go_wp2
        go_ret2
        exact ⟨rfl, rfl⟩
    · obtain rfl : v = 8 := by rw [← HV.out]; unfold CSt.rcvE; rw [if_neg H12.out, if_pos (.inl (by simpa using h3))]
      go_enter Try.func22, Try.ntmps22
      go_wp2_with fail
      refine HM.out.mono ?_
      rintro e w1 ⟨rfl, rfl⟩
      go_wp2
      go_ret2
      exact ⟨rfl, rfl⟩
  · obtain rfl : v = 17 := by rw [← HV.out]; unfold CSt.rcvE; rw [if_pos (.inr (by simpa using h2))]
    go_enter Try.func22, Try.ntmps22
    go_wp2_with fail
    refine HM.out.mono ?_
    rintro e w1 ⟨rfl, rfl⟩
    go_wp2
    go_ret2
    exact ⟨rfl, rfl⟩

set_option maxHeartbeats 2000000 in
theorem crcv_yes {w : World} {b lb : Nat} {R : Nat → Prop} {c : CSt} (client win : Int) (f : ByteArray) (h : ClipAt w b lb R c) (hv : c.rcvE client f win = 0) (hf : c.flows.length < 1000) :
    Calls Try.prog 22 #[.pointer (some ⟨b, 0, none⟩), .int .i64 client, .string f, .int .i64 win] w (RcvYes b lb R c client win w) := by
  obtain ⟨A, n, cap, mb, h⟩ := h
  have c1 := h.c1
  have c2 := h.c2
  have c3 := h.c3
  have HM := Lib.hid (made_at h)
  have hfacts : ¬ client < 1 ∧ (client != c.focus) = false ∧ (c.owner == 0) = false ∧ hasS c.fmts f = true ∧ 1 ≤ win ∧ win ≤ 65536 := by
    unfold CSt.rcvE at hv
    split at hv
    · cases hv
    · split at hv
      · cases hv
      · split at hv
        · cases hv
        · rename_i x y z
          refine ⟨by omega, by simp; omega, by simp; omega, ?_, by omega, by omega⟩
          cases hq : hasS c.fmts f
          · exact absurd (.inr hq) y
          · rfl
  obtain ⟨h1, h2, h3, h4, h5, h6⟩ := hfacts
  have HH := Lib.hid h
  have HF := Lib.hid hf
  have H4 := Lib.hid h4
  have H5 := Lib.hid (And.intro h5 h6)
  clear h hv hf h4 h5 h6
  go_enter Try.func22, Try.ntmps22
  go_wp2_with fail
  refine HM.out.mono ?_
  rintro e w1 ⟨rfl, rfl⟩
  go_wp2_with fail
  refine (contains_v true A n cap c.fmts f _ HH.out.fm.1 (by have := HH.out.fm.1.1; have := HH.out.len; omega) H4.out).mono ?_
  rintro e w1 ⟨rfl, rfl⟩
  go_wp2_with fail
  refine (pnew_v _ win H5.out.1 H5.out.2).mono ?_
  rintro e w1 ⟨pb, Rp, rfl, hp, hs1⟩
  have hh1 := HH.out.chg hs1 (fun _ _ q => q)
  have HS1 := Lib.hid hs1
  have HP := Lib.hid hp
  have HH1 := Lib.hid hh1
  have fr := hh1.fr
  have d1 := hh1.c1
  have d7 := hh1.c7
  have d8 := hh1.c8
  have s1 : IntKind.i64.wrap ((c.flows.length : Int) + 1) = (c.flows.length : Int) + 1 := IntWalk.i64_in _ (by have := HF.out; omega)
  clear hh1 hs1 hp c1 c2 c3
  go_wp2
  refine wp_tail 15 (by kernel_rfl) (by kernel_rfl) ?_
  simp only [List.take_succ_cons, List.take_zero, List.drop_succ_cons, List.drop_zero]
  repeat still_step
  try refine wpStill_nil ?_
  refine wpl_mapStore (b := mb) (f := flowMap c.flows) ?_ Try.underlying117 Try.underlying3 _ _ _ ((c.flows.length : Int) + 1) (CFlow.val ⟨pb, Rp, PSt.new win, c.owner, client, true⟩) rfl rfl rfl ?_
  · exact HH1.out.mp.chg (S := fun x => x = b) ((Chg.refl (fun x => x = b) w1).set1 b 7 _ rfl).drew (fun e => HH1.out.bm e.symm)
  intro w2 hm2 hk2
  have HM2 := Lib.hid hm2
  have HK2 := Lib.hid hk2
  clear hm2 hk2
  go_wp2
  go_ret2
  have kk : Chg (fun x => x = b ∨ x = mb) w1 w2 := ((Chg.refl (fun x => x = b ∨ x = mb) w1).set1 b 7 _ (.inl rfl)).drew.trans (HK2.out.mono (fun x _ e => .inr e))
  have hend := HH.out.pushFlow ⟨pb, Rp, PSt.new win, c.owner, client, true⟩ rfl HF.out HS1.out HP.out.pipe HP.out.fresh kk (by
    have := HK2.out.at_ (at_setCell (i := 7) (.int .i64 ((c.flows.length : Int) + 1)) HH1.out.at_) HH1.out.bm
    rw [this]
    simp [ccells]) HM2.out
  refine ⟨pb, Rp, rfl, HP.out.fresh, _, ⟨A, n, cap, mb, hend⟩, ?_, fun x hx => ?_⟩
  · refine (Chg.of_same (S := R) HS1.out).then_ kk (fun i hi q => ?_)
    rcases q with rfl | rfl
    · exact HH.out.rb
    · exact HH.out.rm
  · rcases hx with hx | hx
    · exact .inl hx
    · exact .inr (HP.out.fresh x hx)
end Go.Proofs.Ytndldjopgbhphaa
