/- law18.ints. -/
import Derived.Test.YtehcfeibfpgamaaSubS
set_option linter.unusedVariables false
set_option linter.unusedSimpArgs false
set_option maxRecDepth 100000
namespace Go.Proofs.Ytehcfeibfpgamaa
open Go.RowKit

section
variable {w w' : World}
theorem lints_ok (A B : Option Addr) (n m cA cB : Nat) (xs ys : List Int) (w : World) (hA : IntsAt w A n xs) (hB : IntsAt w B m ys) (hn : n ≤ 100000) (hm : m ≤ 100000) :
    Calls Try.prog 15 #[.slice A n cA, .slice B m cB] w fun e w' => e = .returned (.bool (decide (xs = ys))) ∧ Same w w' := by
  by_cases hnm : n = m
  case neg =>
    have hne : ((n : Int) != m) = true := bne_iff_ne.2 (by omega)
    have hd : decide (xs = ys) = false := decide_eq_false fun e => hnm (by rw [← hA.1, ← hB.1, e])
    rw [hd]
    clear hA hB hnm hd
    go_enter Try.func15, Try.ntmps15
    go_wp2
    go_ret
    exact ⟨rfl, Chg.refl _ _⟩
  subst hnm
  have HA := Lib.hid hA
  have HB := Lib.hid hB
  clear hA hB
  go_enter Try.func15, Try.ntmps15
  go_wp2
  go_loopw [5] (fun v5 wr => Same w wr ∧ ∃ i : Nat, i ≤ n ∧ v5 = .int .i64 i ∧ xs.take i = ys.take i) (fun v5 wr => n - (intOf v5).toNat)
  case atStart => exact ⟨Chg.refl _ _, 0, by omega, rfl, rfl⟩
  case round =>
    obtain ⟨hs, i, hi, rfl, hf⟩ := hrel
    have HS := Lib.hid hs
    have HF := Lib.hid hf
    clear hf
    by_cases hlt : i < n
    · have hil : i < xs.length := by rw [HA.out.1]; exact hlt
      have hjl : i < ys.length := by rw [HB.out.1]; exact hlt
      obtain ⟨b1, o1, rfl, hc1⟩ := HA.out.2 (by omega)
      obtain ⟨b2, o2, rfl, hc2⟩ := HB.out.2 (by omega)
      obtain ⟨x, hx⟩ : ∃ x, xs[i]? = some x := ⟨_, List.getElem?_eq_getElem hil⟩
      obtain ⟨y, hy⟩ : ∃ y, ys[i]? = some y := ⟨_, List.getElem?_eq_getElem hjl⟩
      have hcx := hs.cell (hc1 i x hx) (fun q => q)
      have hcy := hs.cell (hc2 i y hy) (fun q => q)
      have HX := Lib.hid hx
      have HY := Lib.hid hy
      have hii : (i : Int) < n := by omega
      clear hc1 hc2 hx hy hs
      by_cases hxy : x = y
      · have hne : (x != y) = false := bne_eq_false_iff_eq.2 hxy
        have HE := Lib.hid hxy
        clear hxy
        go_wp2
        refine wp_still (by kernel_rfl) (by kernel_rfl) ?_
        repeat still_step
        try refine wpStill_nil ?_
        go_wp2
        go_roundw
        case rel => exact ⟨HS.out.drew, i + 1, by omega, by go_num, by rw [List.take_add_one, List.take_add_one, HX.out, HY.out, HF.out, HE.out]⟩
        case measure => simp [intOf]; omega
      · have hne : (x != y) = true := bne_iff_ne.2 hxy
        have HE := Lib.hid hxy
        clear hxy
        go_wp2
        refine wp_still (by kernel_rfl) (by kernel_rfl) ?_
        repeat still_step
        try refine wpStill_nil ?_
        go_wp2
        go_ret
        refine ⟨?_, HS.out.drew⟩
        have hd : decide (xs = ys) = false := decide_eq_false fun e => HE.out (by have := HX.out; rw [e, HY.out] at this; exact (Option.some.inj this).symm)
        rw [hd]; rfl
    · have hie : i = n := by omega
      have hlt' : ¬ (i : Int) < n := by omega
      have HI := Lib.hid hie
      clear hie hs
      go_wp2
      go_ret
      refine ⟨?_, HS.out⟩
      have := HF.out
      rw [HI.out, List.take_of_length_le (by rw [HA.out.1]; omega), List.take_of_length_le (by rw [HB.out.1]; omega)] at this
      rw [decide_eq_true this]; rfl
end
end Go.Proofs.Ytehcfeibfpgamaa
