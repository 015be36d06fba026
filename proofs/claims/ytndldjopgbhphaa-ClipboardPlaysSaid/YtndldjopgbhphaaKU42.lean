/- The reference's clipboard: each call, whatever its outcome, beside the program's. No walk. -/
import Derived.Test.YtndldjopgbhphaaKS42
import Derived.Test.YtndldjopgbhphaaKL42
import Derived.Test.YtndldjopgbhphaaPk43
import Derived.Test.YtndldjopgbhphaaKR42
import Derived.Test.YtndldjopgbhphaaKG42
import Derived.Test.YtndldjopgbhphaaPk31
set_option linter.unusedVariables false
set_option linter.unusedSimpArgs false
set_option maxRecDepth 100000
namespace Go.Proofs.Ytndldjopgbhphaa
open Go.RowKit

section
variable {w : World} {F : Nat → Prop} {c : CSt} {x : KC} {rs : List KFl} {L : SLog} {N : Nat} {LA : Option Addr} {ln : Nat} {l : List Ent}
theorem kset_any (lc : Nat) (client : Int) (Ao : Option Addr) (no co : Nat) (fs : List ByteArray) (oa s : Int) (h : RK w F c x rs) (hl : RL w F L N LA ln l) (hN : N ≤ 80) (hF : ∀ y, F y → y < w.heap.size) (ho : SArg w Ao no co fs) (hz : ∀ f ∈ fs, f.size ≤ 100) (hno : no ≤ 20) :
    Calls Try.prog 25 #[.agg x.cells.toArray, .agg #[.int .i64 N, .slice LA ln lc], .int .i64 client, .agg #[.slice Ao no co, .int .i64 oa], .int .u32 s] w fun e w' => ∃ x', e = .returned (.tuple #[.agg (KC.cells x').toArray, .int .i64 (c.setE L client fs oa s)]) ∧ RK w' F (c.set L client fs oa s) x' rs ∧ x'.pn = x.pn ∧ Same w w' := by
  have hz2 : ∀ f ∈ fs, f.size ≤ 140737488351232 := fun f hf => Nat.le_trans (hz f hf) (by omega)
  have he := rk_setE h hl.rel client fs oa s
  have hln : ln ≤ 1000 := by have := hl.ln; omega
  by_cases h0 : c.setE L client fs oa s = 0
  · have hx0 := he.trans h0
    have hc : ¬ client < 1 ∧ checkV fs oa = 0 ∧ x.validB l client s = true := by
      unfold KC.setE at hx0
      split at hx0
      · exact absurd hx0 (by decide)
      · rename_i c1
        split at hx0
        · rename_i c3; exact absurd hx0 c3
        · rename_i c3
          split at hx0
          · rename_i c4; exact ⟨c1, Decidable.not_not.1 c3, c4⟩
          · exact absurd hx0 (by decide)
    refine (kset_yes x.ho x.wa x.A x.n x.cap x.acts x.us x.la x.nu x.PA x.pn x.pc N LA ln lc l client Ao no co fs oa s w hl.at_ hln hl.kinds ho hz2 (by omega) hc.1 hc.2.1 hc.2.2).mono ?_
    rintro e w' ⟨A', cap', rfl, hst, hfr, hs⟩
    refine ⟨_, by rw [h0], rk_set (h.same hs) h0 hst (fun g o hA hn q => by have := hfr hn g o hA; have := hF g q; omega) (by omega), rfl, hs⟩
  · refine (kset_no x.ho x.wa x.A x.n x.cap x.acts x.us x.la x.nu x.PA x.pn x.pc N LA ln lc l client Ao no co fs oa s _ w hl.at_ hln hl.kinds ho hz2 he h0).mono ?_
    rintro e w' ⟨rfl, hs⟩
    exact ⟨x, rfl, by rw [rk_set_no h0]; exact h.same hs, rfl, hs⟩
theorem kclear_any (lc : Nat) (client s : Int) (h : RK w F c x rs) (hl : RL w F L N LA ln l) (hN : N ≤ 80) :
    Calls Try.prog 26 #[.agg x.cells.toArray, .agg #[.int .i64 N, .slice LA ln lc], .int .i64 client, .int .u32 s] w fun e w' => ∃ x', e = .returned (.tuple #[.agg (KC.cells x').toArray, .int .i64 (c.clrE L client s)]) ∧ RK w' F (c.clear L client s) x' rs ∧ x'.pn = x.pn ∧ Same w w' := by
  have he := rk_clrE h hl.rel client s
  have hln : ln ≤ 1000 := by have := hl.ln; omega
  by_cases h0 : c.clrE L client s = 0
  · have hx0 := he.trans h0
    have hc : x.ho ≠ 0 ∧ x.ho = client ∧ x.validB l client s = true := by
      unfold KC.clrE at hx0
      split at hx0
      · exact absurd hx0 (by decide)
      · rename_i c1
        split at hx0
        · rename_i c4; exact ⟨fun q => c1 (.inl q), Decidable.not_not.1 (fun q => c1 (.inr q)), c4⟩
        · exact absurd hx0 (by decide)
    refine (kclear_yes x.ho x.wa x.A x.n x.cap x.acts x.us x.la x.nu x.PA x.pn x.pc N LA ln lc l client s w hl.at_ hln hl.kinds hc.1 hc.2.1 hc.2.2).mono ?_
    rintro e w' ⟨rfl, hs⟩
    exact ⟨_, by rw [h0], rk_clear (h.same hs) h0, rfl, hs⟩
  · refine (kclear_no x.ho x.wa x.A x.n x.cap x.acts x.us x.la x.nu x.PA x.pn x.pc N LA ln lc l client s _ w hl.at_ hln hl.kinds he h0).mono ?_
    rintro e w' ⟨rfl, hs⟩
    exact ⟨x, rfl, by rw [rk_clear_no h0]; exact h.same hs, rfl, hs⟩
/-- What Focus delivers. -/
def FocV (c : CSt) (client : Int) (w : World) (v : Value) (w' : World) : Prop :=
  (client < 1 ∧ v = .slice none 0 0) ∨ (¬ client < 1 ∧ ∃ g, v = .slice (some ⟨g, 0, none⟩) 1 1 ∧ VarAt w' g 44 (delivCells client 0 18 0 0 0 c.focCode 0 0).toArray ∧ w.heap.size ≤ g)
theorem kfocus_any (client : Int) (h : RK w F c x rs) (hn : c.offers ≤ 80) :
    Calls Try.prog 28 #[.agg x.cells.toArray, .int .i64 client] w fun e w' => ∃ x' v, e = .returned (.tuple #[.agg (KC.cells x').toArray, v]) ∧ RK w' F (c.foc client) x' rs ∧ x'.pn = x.pn ∧ FocV c client w v w' ∧ Same w w' := by
  by_cases h1 : client < 1
  · refine (kfocus_0 x.ho x.wa x.A x.n x.cap x.acts x.us x.la x.nu x.PA x.pn x.pc client w h1).mono ?_
    rintro e w' ⟨rfl, hs⟩
    exact ⟨_, _, rfl, (rk_foc (h.same hs) client).1, rfl, .inl ⟨h1, rfl⟩, hs⟩
  · have hfin : ∀ e w', FocOut w x client e w' → ∃ x' v, e = .returned (.tuple #[.agg (KC.cells x').toArray, v]) ∧ RK w' F (c.foc client) x' rs ∧ x'.pn = x.pn ∧ FocV c client w v w' ∧ Same w w' := by
      rintro e w' ⟨g, rfl, hv, hg, hs⟩
      have hk := rk_foc (h.same hs) client
      rw [hk.2] at hv
      exact ⟨_, _, rfl, hk.1, rfl, .inr ⟨h1, g, rfl, hv, hg⟩, hs⟩
    by_cases h0 : x.ho = 0
    · exact (kfocus_1 x.ho x.wa x.A x.n x.cap x.acts x.us x.la x.nu x.PA x.pn x.pc client w h1 h0).mono hfin
    · exact (kfocus_2 x.ho x.wa x.A x.n x.cap x.acts x.us x.la x.nu x.PA x.pn x.pc client w h1 h0 (by rw [h.nu]; omega)).mono hfin
theorem kreceive_any (client : Int) (g : ByteArray) (win : Int) (h : RK w F c x rs) (hF : ∀ y, F y → y < w.heap.size) (hpn : x.pn ≤ 80) :
    Calls Try.prog 29 #[.agg x.cells.toArray, .int .i64 client, .string g, .int .i64 win] w fun e w' => ∃ x' ix rs', e = .returned (.tuple #[.agg (KC.cells x').toArray, .int .i64 ix, .int .i64 (c.rcvE client g win)]) ∧ (∀ fl, RK w' F { c with flows := fl } x' rs') ∧ x'.pn ≤ x.pn + 1 ∧ Same w w' := by
  refine (kreceive_ok x.ho x.wa x.A x.n x.cap x.acts x.us x.la x.nu x.PA x.pn x.pc c.fmts client g win rs w F h.fm h.fmn h.row hF (by omega)).mono ?_
  have he := rk_rcvE h client g win
  rintro e w' (⟨v, hv, h0, rfl, hs⟩ | ⟨hv, PA', pc', rfl, hrow, hs⟩)
  · have hv2 : c.rcvE client g win = v := by rw [← he]; exact hv
    exact ⟨x, _, rs, by rw [hv2], fun fl => rk_rcv (h.same hs) fl (h.row.same hs), by omega, hs⟩
  · have hv2 : c.rcvE client g win = 0 := by rw [← he]; exact hv
    exact ⟨_, _, _, by rw [hv2], fun fl => rk_rcv (h.same hs) fl hrow, Nat.le_refl _, hs⟩
theorem kgone_any (client : Int) (h : RK w F c x rs) (hF : ∀ y, F y → y < w.heap.size) (hpn : x.pn ≤ 80) :
    Calls Try.prog 31 #[.agg x.cells.toArray, .int .i64 client] w fun e w' => ∃ x' rs', e = .returned (.agg (KC.cells x').toArray) ∧ RK w' F (c.gone client) x' rs' ∧ x'.pn = x.pn ∧ Same w w' := by
  by_cases h1 : client < 1
  · refine (kgone_no x.ho x.wa x.A x.n x.cap x.acts x.us x.la x.nu x.PA x.pn x.pc client w h1).mono ?_
    rintro e w' ⟨rfl, hs⟩
    exact ⟨x, rs, rfl, by rw [rk_gone_no h1]; exact h.same hs, rfl, hs⟩
  · refine (kgone_yes x.ho x.wa x.A x.n x.cap x.acts x.us x.la x.nu x.PA x.pn x.pc client rs w F h.row hF (by omega) h1).mono ?_
    rintro e w' ⟨PA', pc', rs', rfl, hrow, hs⟩
    exact ⟨_, rs', rfl, rk_gone (h.same hs) h1 hrow, rfl, hs⟩
theorem kissue_any (lc : Nat) (cl f k : Int) (hl : RL w F L N LA ln l) (hN : N ≤ 80) (hF : ∀ y, F y → y < w.heap.size) (h1 : cl ≤ 9223372036854775807) (h2 : f ≤ 9223372036854775807) :
    Calls Try.prog 33 #[.agg #[.int .i64 N, .slice LA ln lc], .int .i64 cl, .int .i64 f, .int .i64 k] w fun e w' => ∃ (N' : Nat) (LA' : Option Addr) (ln' lc' : Nat) (l' : List Ent), e = .returned (.tuple #[.agg #[.int .i64 N', .slice LA' ln' lc'], .int .u32 (L.issueN cl f k)]) ∧ RL w' F (L.issue cl f k) N' LA' ln' l' ∧ N' ≤ N + 1 ∧ Same w w' := by
  by_cases hg : good cl f k = true
  · refine (rIssue_good LA N ln lc 0 l cl f k w hl.at_ (by have := hl.ln; omega) (by omega) hg).mono ?_
    rintro e w' ⟨A', n', cap', rfl, hsl, hs⟩
    exact ⟨N + 1, A', n', cap', _, by rw [rel_issueN hl.rel (by omega) hg]; rfl, RL.issued hl.rel (by omega) hg h1 h2 hsl hF, Nat.le_refl _, hs⟩
  · have hg2 : good cl f k = false := by simpa using hg
    refine (rIssue_bad LA N ln lc cl f k w hg2).mono ?_
    rintro e w' ⟨rfl, hs⟩
    have e1 : L.issueN cl f k = 0 := if_neg hg
    have e2 : L.issue cl f k = L := if_neg hg
    exact ⟨N, LA, ln, lc, l, by rw [e1], by rw [e2]; exact hl.same hs, by omega, hs⟩
theorem kformats_any (client : Int) (fs : List ByteArray) (h : RK w F c x rs) (hv : c.sees client = fs) :
    Calls Try.prog 36 #[.agg x.cells.toArray, .int .i64 client] w fun e w' => ∃ A' cap', e = .returned (.slice A' fs.length cap') ∧ StrsAt w' A' fs.length fs ∧ Same w w' := by
  have hs := rk_sees h client
  rw [hv] at hs
  by_cases h1 : client < 1 ∨ x.wa ≠ client ∨ x.ho = 0
  · rw [if_pos h1] at hs
    subst hs
    refine (kformats_no x.ho x.wa x.A x.n x.cap x.acts x.us x.la x.nu x.PA x.pn x.pc client w h1).mono ?_
    rintro e w' ⟨rfl, hs⟩
    exact ⟨none, 0, rfl, ⟨rfl, fun q => absurd q (by decide)⟩, hs⟩
  · rw [if_neg h1] at hs
    subst hs
    refine (kformats_yes x.ho x.wa x.A x.n x.cap x.acts x.us x.la x.nu x.PA x.pn x.pc client c.fmts w (fun q => h1 (.inl q)) (Decidable.not_not.1 (fun q => h1 (.inr (.inl q)))) (fun q => h1 (.inr (.inr q))) h.fm h.fmn).mono ?_
    rintro e w' ⟨A', cap', rfl, hst, hs⟩
    have hl : x.n = c.fmts.length := h.fm.1.symm
    rw [hl] at hst
    exact ⟨A', cap', by rw [hl], hst, hs⟩
end
end Go.Proofs.Ytndldjopgbhphaa
