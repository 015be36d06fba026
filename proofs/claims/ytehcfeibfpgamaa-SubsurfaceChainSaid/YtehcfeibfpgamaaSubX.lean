/- Trees of subsurfaces: within, synchronized, check. -/
import Derived.Test.YtehcfeibfpgamaaSubW
set_option linter.unusedVariables false
set_option linter.unusedSimpArgs false
set_option maxRecDepth 100000
namespace Go.Proofs.Ytehcfeibfpgamaa
open Go.RowKit

section
variable {w : World} {b bm : Nat} {nb : Int → Nat} {R : Nat → Prop} {S : Fo}
theorem ywithin (h : TAt w b bm nb R S) (a i : Int) (ha : hasB S a = true) (hi : i ≠ 0) :
    Calls Try.prog 30 #[.pointer (some ⟨b, 0, none⟩), .int .i64 a, .int .i64 i] w fun e w' => e = .returned (.bool (inP (parOf S) a i)) ∧ w' = w := by
  have c1 := h.c1
  have H := Lib.hid h
  have HA := Lib.hid ha
  have HI := Lib.hid hi
  clear h ha hi
  go_enter Try.func30, Try.ntmps30
  go_wp2
  go_loop [1] (fun v1 => ∃ c : Int, (c = 0 ∨ hasB S c = true) ∧ v1 = .int .i64 c ∧ (if c = 0 then false else inP (parOf S) c i) = inP (parOf S) a i) (fun v1 => plen (parOf S) (intOf v1))
  case atStart => exact ⟨a, .inr HA.out, rfl, if_neg (H.out.ok.has_ne HA.out)⟩
  case round =>
    obtain ⟨c, hc, rfl, hr⟩ := hrel
    by_cases h0 : c = 0
    · subst h0
      rw [if_pos rfl] at hr
      have HR := Lib.hid hr
      have hne : ((0 : Int) == i) = false := beq_eq_false_iff_ne.2 fun e => HI.out e.symm
      clear hc hr
      go_wp2
      go_ret
      exact ⟨by rw [← HR.out, ← hne]; rfl, rfl⟩
    · rw [if_neg h0, H.out.ok.deep.in_eq] at hr
      have hc' : hasB S c = true := hc.resolve_left h0
      by_cases hci : c = i
      · have HR := Lib.hid hr
        have HE := Lib.hid hci
        subst hci
        clear hc hr hc'
        go_wp2
        go_ret
        exact ⟨by rw [← HR.out]; simp, rfl⟩
      · have hbf : (c == i) = false := beq_eq_false_iff_ne.2 hci
        rw [hbf, Bool.false_or] at hr
        have hb0 : (c != 0) = true := bne_iff_ne.2 h0
        have hb1 : (c != i) = true := bne_iff_ne.2 hci
        have HR := Lib.hid hr
        have hp' := H.out.par hc'
        have hl' := H.out.look1 hc'
        have HC := Lib.hid hc'
        have HZ := Lib.hid h0
        clear hc hc' hr hbf
        go_wp2_with (refine wpl_lookup _ _ _ hl' ?_)
        go_round
        case rel =>
          refine ⟨parOf S c, ?_, rfl, ?_⟩
          · by_cases h1 : parOf S c = 0
            · exact .inl h1
            · exact .inr (H.out.ok.par_has h1)
          · rw [← HR.out]
            by_cases h1 : parOf S c = 0
            · rw [if_pos h1, h1]; rfl
            · rw [if_neg h1, show (parOf S c != 0) = true from bne_iff_ne.2 h1, Bool.true_and]
        case measure => simp only [intOf]; have := H.out.ok.deep.plen_up HZ.out; omega
theorem ysync (h : TAt w b bm nb R S) (i : Int) (hi : hasB S i = true) :
    Calls Try.prog 35 #[.pointer (some ⟨b, 0, none⟩), .int .i64 i] w fun e w' => e = .returned (.bool (synB S i)) ∧ Same w w' := by
  have c1 := h.c1
  have H := Lib.hid h
  have hl := h.look1 hi
  have HI := Lib.hid hi
  unfold synB
  clear h hi
  go_enter Try.func35, Try.ntmps35
  go_wp2_with (refine wpl_lookup _ _ _ hl ?_)
  go_loopw [5] (fun v5 wr => Same w wr ∧ ∃ c : Int, hasB S c = true ∧ v5 = .pointer (some ⟨nb c, 0, none⟩) ∧ anyUp (parOf S) (syncOf S) c = anyUp (parOf S) (syncOf S) i) (fun v5 wr => (match wr.cell? ⟨(match v5 with | .pointer (some a) => a.block | _ => 0), 0, none⟩ with | some (.int _ p) => plen (parOf S) p + 1 | _ => 0))
  case atStart => exact ⟨Chg.refl _ _, i, HI.out, rfl, rfl⟩
  case round =>
    obtain ⟨hsm, c, hc, rfl, hr⟩ := hrel
    rename_i wr _
    have T := H.out.same hsm
    have hp := T.par hc
    have hy := T.syn hc
    have c1' := T.c1
    rw [T.ok.deep.any_eq] at hr
    have HC := Lib.hid hc
    have HT := Lib.hid T
    have HS := Lib.hid hsm
    clear hc hsm T
    by_cases h0 : parOf S c = 0
    · rw [h0] at hr hp
      have HR := Lib.hid hr
      clear hr h0
      go_wp2
      go_ret
      exact ⟨by rw [← HR.out]; rfl, HS.out⟩
    · have hb : (parOf S c != 0) = true := bne_iff_ne.2 h0
      rw [hb, Bool.true_and] at hr
      cases hsy : syncOf S c with
      | true =>
        rw [hsy] at hr hy
        have HR := Lib.hid hr
        clear hr hsy hb
        go_wp2
        go_ret
        exact ⟨by rw [← HR.out]; rfl, HS.out⟩
      | false =>
        rw [hsy, Bool.false_or] at hr
        rw [hsy] at hy
        have hh := HT.out.ok.par_has h0
        have hl' := HT.out.look1 hh
        have HR := Lib.hid hr
        have HH := Lib.hid hh
        have HZ := Lib.hid h0
        clear hr hsy hb hh
        have hl2 := (HT.out.same ((Chg.refl _ wr).drew)).look1 HH.out
        go_wp2
        refine wp_tail 8 (by kernel_rfl) (by kernel_rfl) ?_
        simp only [List.take_succ_cons, List.take_zero, List.drop_succ_cons, List.drop_zero]
        repeat still_step
        try refine wpStill_nil ?_
        go_wp2_with (first | refine wpl_lookup _ _ _ hl' ?_ | refine wpl_lookup _ _ _ hl2 ?_)
        go_roundw
        case rel => exact ⟨HS.out.drew, parOf S c, HH.out, rfl, HR.out⟩
        case measure =>
          have q1 := (HT.out.same ((Chg.refl _ wr).drew)).par HH.out
          dsimp only
          rw [hp, q1]
          dsimp only
          have := HT.out.ok.deep.plen_up (HT.out.ok.has_ne HH.out)
          have := HT.out.ok.deep.plen_up HZ.out
          omega
end
end Go.Proofs.Ytehcfeibfpgamaa
