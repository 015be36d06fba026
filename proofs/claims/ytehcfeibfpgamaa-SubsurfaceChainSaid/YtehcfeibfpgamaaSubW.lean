/- Trees of subsurfaces: get, check, Parent, Root, depth, within, synchronized. -/
import Derived.Test.YtehcfeibfpgamaaSubT
set_option linter.unusedVariables false
set_option linter.unusedSimpArgs false
set_option maxRecDepth 100000
namespace Go.Proofs.Ytehcfeibfpgamaa
open Go.RowKit

section
variable {w : World} {b bm : Nat} {nb : Int → Nat} {R : Nat → Prop} {S : Fo}
theorem yget1 (h : TAt w b bm nb R S) (i : Int) (hi : hasB S i = true) :
    Calls Try.prog 38 #[.pointer (some ⟨b, 0, none⟩), .int .i64 i] w fun e w' => e = .returned (.pointer (some ⟨nb i, 0, none⟩)) ∧ w' = w := by
  have c0 := h.c0
  have c1 := h.c1
  have hl := h.look1 hi
  clear h
  go_enter Try.func38, Try.ntmps38
  go_wp2_with (refine wpl_lookup _ _ _ hl ?_)
  go_ret
  exact ⟨rfl, rfl⟩
theorem yget0 (h : TAt w b bm nb R S) (i : Int) (hi : hasB S i = false) :
    Calls Try.prog 38 #[.pointer (some ⟨b, 0, none⟩), .int .i64 i] w fun e w' => e = .returned (.pointer none) ∧ w' = w := by
  have c0 := h.c0
  have c1 := h.c1
  have hl := h.look0 hi
  clear h
  go_enter Try.func38, Try.ntmps38
  go_wp2_with (refine wpl_lookup _ _ _ hl ?_)
  go_ret
  exact ⟨rfl, rfl⟩
theorem yparent (h : TAt w b bm nb R S) (i : Int) :
    Calls Try.prog 22 #[.pointer (some ⟨b, 0, none⟩), .int .i64 i] w fun e w' => e = .returned (.int .i64 (parOf S i)) ∧ w' = w := by
  cases hi : hasB S i with
  | true =>
    have HC := Lib.hid (yget1 h i hi)
    have hp := h.par hi
    clear h hi
    go_enter Try.func22, Try.ntmps22
    go_wp2_with fail
    refine HC.out.mono ?_
    rintro e w1 ⟨rfl, rfl⟩
    go_wp2
    go_ret
    exact ⟨rfl, rfl⟩
  | false =>
    have HC := Lib.hid (yget0 h i hi)
    rw [parOf_no hi]
    clear h hi
    go_enter Try.func22, Try.ntmps22
    go_wp2_with fail
    refine HC.out.mono ?_
    rintro e w1 ⟨rfl, rfl⟩
    go_wp2
    go_ret
    exact ⟨rfl, rfl⟩
theorem yroot (h : TAt w b bm nb R S) (i : Int) :
    Calls Try.prog 19 #[.pointer (some ⟨b, 0, none⟩), .int .i64 i] w fun e w' => e = .returned (.int .i64 (rootOf S i)) ∧ w' = w := by
  cases hi : hasB S i with
  | true =>
    have HC := Lib.hid (yget1 h i hi)
    have c1 := h.c1
    have H := Lib.hid h
    unfold rootOf
    rw [if_pos hi]
    have HI := Lib.hid hi
    clear h hi
    go_enter Try.func19, Try.ntmps19
    go_wp2_with fail
    refine HC.out.mono ?_
    rintro e w1 ⟨rfl, rfl⟩
    go_wp2
    go_loop [1, 5] (fun v1 v5 => ∃ c : Int, hasB S c = true ∧ v1 = .int .i64 c ∧ v5 = .pointer (some ⟨nb c, 0, none⟩) ∧ rootP (parOf S) c = rootP (parOf S) i) (fun v1 _ => plen (parOf S) (intOf v1))
    case atStart => exact ⟨i, HI.out, rfl, rfl, rfl⟩
    case round =>
      obtain ⟨c, hc, rfl, rfl, hr⟩ := hrel
      have hp := H.out.par hc
      have HC2 := Lib.hid hc
      have HR := Lib.hid hr
      clear hc hr
      by_cases h0 : parOf S c = 0
      · have HZ := Lib.hid h0
        rw [h0] at hp
        clear h0
        go_wp2
        go_ret
        exact ⟨by rw [← HR.out, H.out.ok.deep.root0 HZ.out]; rfl, rfl⟩
      · have hh := H.out.ok.par_has h0
        have hl := H.out.look1 hh
        have HH := Lib.hid hh
        have HZ := Lib.hid h0
        clear hh
        go_wp2_with (refine wpl_lookup _ _ _ hl ?_)
        go_round
        case rel => exact ⟨parOf S c, HH.out, rfl, rfl, by rw [← H.out.ok.deep.root_up HZ.out]; exact HR.out⟩
        case measure => simp only [intOf]; have := H.out.ok.deep.plen_up (H.out.ok.has_ne HC2.out); omega
  | false =>
    have HC := Lib.hid (yget0 h i hi)
    unfold rootOf
    rw [hi]
    clear h hi
    go_enter Try.func19, Try.ntmps19
    go_wp2_with fail
    refine HC.out.mono ?_
    rintro e w1 ⟨rfl, rfl⟩
    go_wp2
    go_ret
    exact ⟨rfl, rfl⟩
theorem ydepth (h : TAt w b bm nb R S) (i : Int) (hi : hasB S i = true) :
    Calls Try.prog 32 #[.pointer (some ⟨b, 0, none⟩), .int .i64 i] w fun e w' => e = .returned (.int .i64 (depth S i)) ∧ w' = w := by
  have c1 := h.c1
  have hp := h.par hi
  have hl := h.look1 hi
  have hd9 : plen (parOf S) (parOf S i) ≤ 9 := h.ok.deep.len _
  have H := Lib.hid h
  have HI := Lib.hid hi
  have HD := Lib.hid hd9
  clear h hi hd9
  go_enter Try.func32, Try.ntmps32
  go_wp2_with (refine wpl_lookup _ _ _ hl ?_)
  go_loop [1, 5] (fun v1 v5 => ∃ (c : Int) (k : Nat), (c = 0 ∨ hasB S c = true) ∧ v1 = .int .i64 c ∧ v5 = .int .i64 k ∧ k + plen (parOf S) c = depth S i) (fun v1 _ => plen (parOf S) (intOf v1))
  case atStart =>
    refine ⟨parOf S i, 0, ?_, rfl, rfl, by simp [depth]⟩
    by_cases h0 : parOf S i = 0
    · exact .inl h0
    · exact .inr (H.out.ok.par_has h0)
  case round =>
    obtain ⟨c, k, hc, rfl, rfl, hk⟩ := hrel
    have HK := Lib.hid hk
    have hk9 : (k : Int) ≤ 9 := by have := HD.out; unfold depth at hk; omega
    clear hk
    by_cases h0 : c = 0
    · subst h0
      clear hc
      go_wp2
      go_ret
      exact ⟨by have := HK.out; rw [Deep.plen0] at this; rw [← this]; rfl, rfl⟩
    · have hc' : hasB S c = true := hc.resolve_left h0
      have hp' := H.out.par hc'
      have hl' := H.out.look1 hc'
      have HC := Lib.hid hc'
      have HZ := Lib.hid h0
      clear hc hc'
      go_wp2_with (refine wpl_lookup _ _ _ hl' ?_)
      go_round
      case rel =>
        have hu := H.out.ok.deep.plen_up HZ.out
        refine ⟨parOf S c, k + 1, ?_, rfl, by go_num, by have := HK.out; omega⟩
        by_cases h1 : parOf S c = 0
        · exact .inl h1
        · exact .inr (H.out.ok.par_has h1)
      case measure => simp only [intOf]; have := H.out.ok.deep.plen_up HZ.out; omega
end
end Go.Proofs.Ytehcfeibfpgamaa
