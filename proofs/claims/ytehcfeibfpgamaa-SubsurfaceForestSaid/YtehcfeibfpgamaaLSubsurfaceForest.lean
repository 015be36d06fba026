/- SubsurfaceForest: the walk. -/
import Derived.Test.YtehcfeibfpgamaaDo18
import Derived.Test.YtehcfeibfpgamaaRoot18
set_option linter.unusedVariables false
set_option linter.unusedSimpArgs false
set_option maxRecDepth 100000
namespace Go.Proofs.Ytehcfeibfpgamaa
open Go.RowKit

set_option maxHeartbeats 4000000 in
theorem SubsurfaceForest_walk (A : Option Addr) (n cap : Nat) (l : List YOp) (id : Int) (w : World) (h : OArg w A n l) :
    Calls Try.prog 9 #[.slice A n cap, .int .i64 id] w fun e w' => e = .returned (.bool true) ∧ Same w w' := by
  have hm := h.2.2
  unfold maxLen at hm
  have HA := Lib.hid h
  clear h
  by_cases hn : 60 < n
  · go_enter Try.func9, Try.ntmps9
    go_wp2_with fail
    refine (example18_ok w).mono ?_
    rintro e w9 ⟨rfl, hs9⟩
    have HS9 := Lib.hid hs9
    clear hs9
    go_wp2
    go_ret
    exact ⟨rfl, HS9.out⟩
  have hz : ¬ (60 : Int) < n := by omega
  go_enter Try.func9, Try.ntmps9
  go_wp2_with fail
  refine (build_v A n cap l w HA.out (by omega)).mono ?_
  rintro e w1 ⟨b, R, rfl, hy, _⟩
  have HY := Lib.hid hy
  obtain ⟨S, hS⟩ : ∃ S, S = buildS l := ⟨_, rfl⟩
  rw [← hS] at HY
  clear hy hS
  go_wp2_with fail
  refine (yroot_v HY.out id).mono ?_
  rintro e w2 ⟨rfl, rfl⟩
  cases hi : hasB S id with
  | false =>
    have hr0 : rootOf S id = 0 := rootOf_no hi
    rw [hr0]
    have hp0 := parOf_no hi
    clear hi
    go_wp2_with fail
    refine (yparent_v HY.out id).mono ?_
    rintro e w2 ⟨rfl, rfl⟩
    rw [hp0]
    go_wp2_with fail
    refine (example18_ok _).mono ?_
    rintro e w9 ⟨rfl, hs9⟩
    have HS9 := Lib.hid (HY.out.s0.trans hs9)
    clear hs9
    go_wp2
    go_ret
    exact ⟨rfl, HS9.out⟩
  | true =>
    obtain ⟨r, hr⟩ : ∃ r, r = rootOf S id := ⟨_, rfl⟩
    have hf := rootOf_facts HY.out.ok hi
    rw [← hr] at hf ⊢
    have hrz : (r == 0) = false := beq_eq_false_iff_ne.2 hf.2.1
    have HF := Lib.hid hf
    have HR := Lib.hid hr
    have HI := Lib.hid hi
    clear hf hr hi
    go_wp2_with fail
    refine (yparent_v HY.out r).mono ?_
    rintro e w2 ⟨rfl, rfl⟩
    rw [HF.out.2.2.1]
    go_wp2_with fail
    refine (yroot_v HY.out r).mono ?_
    rintro e w2 ⟨rfl, rfl⟩
    rw [HF.out.2.2.2]
    go_wp2_with fail
    go_loopw [8, 9, 10] (fun v8 v9 v10 wr => ∃ (k : Nat) (at_ : Int) (R : Nat → Prop), v8 = .int .i64 at_ ∧ v9 = .int .i64 k ∧ Yt w wr b R S ∧ hasB S at_ = true ∧ rootOf S at_ = r ∧ plen (parOf S) at_ + k = plen (parOf S) id) (fun v8 v9 v10 wr => 12 - (intOf v9).toNat)
    case atStart => exact ⟨0, id, R, rfl, rfl, HY.out, HI.out, HR.out.symm, rfl⟩
    case round =>
      obtain ⟨k, at_, R2, rfl, rfl, hy2, hat, hrt, hpl⟩ := hrel
      have HY2 := Lib.hid hy2
      have hid9 := hy2.ok.deep.len id
      have hpu := hy2.ok.deep.plen_up (hy2.ok.has_ne hat)
      have hk8 : (k : Int) ≤ 8 := by omega
      clear hy2
      by_cases her : at_ = r
      · have hb : (at_ == r) = true := beq_iff_eq.2 her
        clear her hat hrt hpl hpu
        go_wp2_with fail
        refine (example18_ok _).mono ?_
        rintro e w9 ⟨rfl, hs9⟩
        have HS9 := Lib.hid (HY2.out.s0.trans hs9)
        clear hs9
        go_wp2
        go_ret
        exact ⟨rfl, HS9.out⟩
      · have hb : (at_ == r) = false := beq_eq_false_iff_ne.2 her
        have hp0 := at_root HY2.out.ok hat (by rw [hrt]; exact her)
        have hb2 : (parOf S at_ == 0) = false := beq_eq_false_iff_ne.2 hp0
        have hpid : parOf S at_ ≠ id := fun e => by rw [e] at hpu; omega
        have hb3 : (parOf S at_ == id) = false := beq_eq_false_iff_ne.2 hpid
        have hrp := rootOf_par HY2.out.ok hp0
        rw [hrt] at hrp
        have hat2 := att_up HY2.out.ok hp0
        have HP := Lib.hid (And.intro hp0 (And.intro hrp (And.intro hat2 (And.intro hpu hpl))))
        clear her hat hrt hpl hpu hp0 hpid hrp hat2
        go_wp2_with fail
        refine (yparent_v HY2.out at_).mono ?_
        rintro e w2 ⟨rfl, rfl⟩
        go_wp2_with fail
        refine (yroot_v HY2.out (parOf S at_)).mono ?_
        rintro e w2 ⟨rfl, rfl⟩
        rw [HP.out.2.1]
        go_wp2_with fail
        refine (yattach_v HY2.out (parOf S at_) at_ HP.out.2.2.1).mono ?_
        rintro e w3 ⟨rfl, R3, hy3, _⟩
        have HY3 := Lib.hid hy3
        clear hy3
        go_wp2
        go_roundw
        case rel =>
          first
          | exact ⟨k + 1, parOf S at_, R3, rfl, by go_num, HY3.out, HY3.out.ok.par_has HP.out.1, HP.out.2.1, by have := HP.out.2.2.2; omega⟩
          | ((repeat apply Exists.intro); exact ⟨⟨k + 1, parOf S at_, R3, rfl, by go_num, HY3.out, HY3.out.ok.par_has HP.out.1, HP.out.2.1, by have := HP.out.2.2.2; omega⟩, rfl⟩)
        case measure => simp [intOf]; omega
end Go.Proofs.Ytehcfeibfpgamaa
