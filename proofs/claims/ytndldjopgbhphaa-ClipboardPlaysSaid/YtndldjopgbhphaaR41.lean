/- The walks of package compositorref41: Read, Write. -/
import Derived.Test.YtndldjopgbhphaaQ41
set_option linter.unusedVariables false
set_option linter.unusedSimpArgs false
set_option maxRecDepth 100000
namespace Go.Proofs.Ytndldjopgbhphaa
open Go.RowKit

def QReadOut (w : World) (R : Nat → Prop) (q : PSt) (m : Int) (e : Ending) (w' : World) : Prop :=
  ∃ A n cap A2 n2 cap2, e = .returned (.tuple #[rpv (q.read m) A n cap, .slice A2 n2 cap2, .int .i64 (q.rdE m)]) ∧ BytesAt w' R A n cap (q.read m).bs ∧ BytesAt w' R A2 n2 cap2 (q.rd m) ∧ Same w w'
theorem qreadout_none {w w' : World} {R : Nat → Prop} {q : PSt} {m : Int} {A : Option Addr} {n cap : Nat} (h : BytesAt w R A n cap q.bs) (v : Int) (he : q.rdE m = v) (hv : v ≠ 0) (hs : Same w w') :
    QReadOut w R q m (.returned (.tuple #[rpv q A n cap, .slice none 0 0, .int .i64 v])) w' := by
  have hz : q.rdN m = 0 := by unfold PSt.rdN; rw [if_neg (by rw [he]; exact hv)]
  have e1 : q.rd m = [] := by unfold PSt.rd; rw [hz]; simp
  have e2 : q.read m = q := by unfold PSt.read; rw [hz]; simp
  rw [QReadOut]
  rw [e1, e2, he]
  exact ⟨A, n, cap, none, 0, 0, rfl, h.chg hs (fun _ _ q => q), BytesAt.nil _ _, hs⟩
theorem qreadout_some {w w' : World} {R : Nat → Prop} {q : PSt} {m : Int} {A : Option Addr} {cap k : Nat} (h : BytesAt w R A q.bs.length cap q.bs) (he : q.rdE m = 0) (hk : q.rdN m = k) (hs : Same w w') :
    QReadOut w R q m (.returned (.tuple #[.agg #[.int .i64 q.win, .int .i64 q.cr, .slice (if cap = k then A else A.map (fun x => x.add k)) (q.bs.length - k) (cap - k), .bool q.cl, .bool q.cn], .slice A k cap, .int .i64 0])) w' := by
  have hkl := q.rdN_le m
  rw [hk] at hkl
  have e1 : q.rd m = q.bs.take k := by unfold PSt.rd; rw [hk]
  have e2 : q.read m = { q with bs := q.bs.drop k } := by unfold PSt.read; rw [hk]
  have hd := h.drop hkl
  rw [Nat.mul_one] at hd
  rw [QReadOut]
  rw [e1, e2, he]
  exact ⟨_, _, _, A, k, cap, rfl, hd.chg hs (fun _ _ q => q), (h.take hkl).chg hs (fun _ _ q => q), hs⟩

theorem qread_ok (q : PSt) (R : Nat → Prop) (A : Option Addr) (n cap : Nat) (m : Int) (w : World) (h : BytesAt w R A n cap q.bs) (hl : q.bs.length ≤ 1048576) :
    Calls Try.prog 42 #[rpv q A n cap, .int .i64 m] w (QReadOut w R q m) := by
  have hn : n = q.bs.length := h.1.symm
  subst hn
  have HB := Lib.hid h
  have HD := Lib.hid (fun w => qdone_ok q A cap w hl)
  have hcp := h.2.1
  have hcm : cap ≤ 9223372036854775807 := by have := h.2.2.1; unfold maxLen at this; omega
  clear h
  unfold rpv at HD ⊢
  by_cases h6 : m < 0
  · have HE := Lib.hid (show q.rdE m = 6 by unfold PSt.rdE; rw [if_pos h6])
    clear HD
    go_enter Try.func42, Try.ntmps42
    go_wp2
    exact bodyPost_ret (results_cell_tmp2 Try.results42 rfl (run_load_rp (heap_alloc2_1 _ _ _))) rfl (qreadout_none HB.out 6 HE.out (by omega) (same_alloc2 _ _ _))
  have h7 : 0 ≤ m := by omega
  cases hcn : q.cn
  · rw [hcn] at HD
    cases hd : q.rdone
    · rw [hd] at HD
      have he : q.rdE m = 0 := by unfold PSt.rdE; rw [if_neg h6, hcn]; unfold PSt.rdone at hd; rw [hd]; rfl
      have HE := Lib.hid he
      obtain ⟨M, rfl⟩ : ∃ M : Nat, m = (M : Int) := ⟨m.toNat, by omega⟩
      by_cases hM : (M : Int) ≤ q.bs.length
      · have HK := Lib.hid (show q.rdN (M : Int) = M by unfold PSt.rdN; rw [if_pos he, Int.toNat_natCast]; omega)
        have HY := Lib.hid hcn
        clear hd hcn he
        go_enter Try.func42, Try.ntmps42
        go_wp2_with fail
        refine (HD.out _).mono ?_
        rintro e w1 ⟨rfl, rfl⟩
        go_wp2
        all_goals
          refine bodyPost_ret (results_cell_tmp2 Try.results42 rfl (run_load_rp (heap_alloc3_1 _ _ _ _))) rfl ?_
          have hfin := fun (w' : World) (hs : Same w w') => qreadout_some HB.out HE.out HK.out hs
          rw [HY.out] at hfin
          first
            | rw [if_pos h, h, Nat.sub_self] at hfin
            | rw [if_neg h, Nat.sub_self] at hfin
            | rw [if_neg h] at hfin
          exact hfin _ (same_alloc3 w _ _ _)
      · have hM2 : (q.bs.length : Int) < M := by omega
        have HK := Lib.hid (show q.rdN (M : Int) = q.bs.length by unfold PSt.rdN; rw [if_pos he, Int.toNat_natCast]; omega)
        have HY := Lib.hid hcn
        clear hd hcn he hM
        go_enter Try.func42, Try.ntmps42
        go_wp2_with fail
        refine (HD.out _).mono ?_
        rintro e w1 ⟨rfl, rfl⟩
        go_wp2
        all_goals
          refine bodyPost_ret (results_cell_tmp2 Try.results42 rfl (run_load_rp (heap_alloc3_1 _ _ _ _))) rfl ?_
          have hfin := fun (w' : World) (hs : Same w w') => qreadout_some HB.out HE.out HK.out hs
          rw [HY.out] at hfin
          first
            | rw [if_pos h, h, Nat.sub_self] at hfin
            | rw [if_neg h, Nat.sub_self] at hfin
            | rw [if_neg h] at hfin
          exact hfin _ (same_alloc3 w _ _ _)
    · rw [hd] at HD
      have HE := Lib.hid (show q.rdE m = 20 by unfold PSt.rdE; rw [if_neg h6, hcn]; unfold PSt.rdone at hd; rw [hd]; rfl)
      have HY := Lib.hid hcn
      clear hd hcn
      go_enter Try.func42, Try.ntmps42
      go_wp2_with fail
      refine (HD.out _).mono ?_
      rintro e w1 ⟨rfl, rfl⟩
      go_wp2
      refine bodyPost_ret (results_cell_tmp2 Try.results42 rfl (run_load_rp (heap_alloc3_1 _ _ _ _))) rfl ?_
      have hfin := fun (w' : World) (hs : Same w w') => qreadout_none HB.out 20 HE.out (by omega) hs
      rw [rpv, HY.out] at hfin
      exact hfin _ (same_alloc3 w _ _ _)
  · have HE := Lib.hid (show q.rdE m = 20 by unfold PSt.rdE; rw [if_neg h6, hcn]; rfl)
    have HY := Lib.hid hcn
    clear hcn HD
    go_enter Try.func42, Try.ntmps42
    go_wp2
    refine bodyPost_ret (results_cell_tmp2 Try.results42 rfl (run_load_rp (heap_alloc2_1 _ _ _))) rfl ?_
    have hfin := fun (w' : World) (hs : Same w w') => qreadout_none HB.out 20 HE.out (by omega) hs
    rw [rpv, HY.out] at hfin
    exact hfin _ (same_alloc2 w _ _)

/-! ### Write -/
theorem qwrite_over (q : PSt) (R : Nat → Prop) (A : Option Addr) (n cap : Nat) (A1 : Option Addr) (n1 cap1 : Nat) (xs : List Int) (w : World) (h : BytesAt w R A n cap q.bs) (ho : q.over = true) :
    Calls Try.prog 40 #[rpv q A n cap, .slice A1 n1 cap1] w (QRet w (fun x => R x ∨ w.heap.size ≤ x) (q.write xs) [.int .i64 (q.wrN xs.length), .int .i64 q.wrE]) := by
  have hz : q.wrN xs.length = 0 := by unfold PSt.wrN; rw [if_pos ho]
  have e1 : q.write xs = q := by unfold PSt.write; rw [hz]; simp
  have e2 : q.wrE = 20 := by unfold PSt.wrE; rw [if_pos ho]
  rw [hz, e1, e2]
  have HB := Lib.hid h
  have HO := Lib.hid (fun w => qover_ok q A n cap w)
  rw [ho] at HO
  clear h ho hz e1 e2
  unfold rpv at HO ⊢
  go_enter Try.func40, Try.ntmps40
  go_wp2_with fail
  refine (HO.out _).mono ?_
  rintro e w1 ⟨rfl, rfl⟩
  go_wp2
  refine bodyPost_ret (results_cell_tmp2 Try.results40 rfl (run_load_rp (heap_alloc3_1 _ _ _ _))) rfl ?_
  exact ⟨A, n, cap, rfl, (HB.out.chg (same_alloc3 _ _ _ _) (fun _ _ q => q)).mono (fun _ _ h => .inl h), same_alloc3 _ _ _ _⟩

end Go.Proofs.Ytndldjopgbhphaa
