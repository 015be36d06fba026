/- compositorref42: Clear (printed by ks42.py). -/
import Derived.Test.YtndldjopgbhphaaPk37
import Derived.WalkMore
import Derived.Deep.DeepCutAuto
set_option linter.unusedVariables false
set_option linter.unusedSimpArgs false
set_option maxRecDepth 100000
namespace Go.Proofs.Ytndldjopgbhphaa
open Go.RowKit

set_option maxHeartbeats 4000000 in
theorem kclear_no (ho wa : Int) (A : Option Addr) (n cap : Nat) (acts : Int) (us : Bool) (la nu : Int) (PA : Option Addr) (pn pc : Nat) (N : Nat) (LA : Option Addr) (ln lc : Nat) (l : List Ent) (client s v : Int) (w : World) (h : SlotsAt w 0 LA ln l) (hn : ln ≤ 1000) (hk : ∀ e ∈ l, 0 ≤ e.k ∧ e.k ≤ 62) (hv : KC.clrE ⟨ho, wa, A, n, cap, acts, us, la, nu, PA, pn, pc⟩ l client s = v) (h0 : v ≠ 0) :
    Calls Try.prog 26 #[.agg #[.bool true, .int .i64 ho, .int .i64 wa, .slice A n cap, .int .i64 acts, .bool us, .int .u32 la, .int .i64 nu, .slice PA pn pc], .agg #[.int .i64 N, .slice LA ln lc], .int .i64 client, .int .u32 s] w fun e w' => e = .returned (.tuple #[.agg #[.bool true, .int .i64 ho, .int .i64 wa, .slice A n cap, .int .i64 acts, .bool us, .int .u32 la, .int .i64 nu, .slice PA pn pc], .int .i64 v]) ∧ Same w w' := by
  have HA := Lib.hid (And.intro h hk)
  clear h hk
  unfold KC.clrE at hv
  by_cases c1 : ho = 0
  · rw [if_pos (.inl c1)] at hv
    subst hv
    subst c1
    clear h0
    go_enter Try.func26, Try.ntmps26
    go_wp2
    refine bodyPost_ret (results_cell_tmp Try.results26 rfl (run_load_kc (x := ⟨0, wa, A, n, cap, acts, us, la, nu, PA, pn, pc⟩) (VarAt.newk (by simp)))) rfl ⟨rfl, (((Chg.refl _ _).alloc _).alloc _).alloc _⟩
  · have b1 : (ho == 0) = false := by simp [c1]
    by_cases c2 : ho = client
    · have e : ¬ (ho = 0 ∨ ho ≠ client) := fun q => by rcases q with q | q; exact c1 q; exact q c2
      rw [if_neg e] at hv
      have b2 : (ho != client) = false := by simp [c2]
      have b3 : (ho == client) = true := by simp [c2]
      clear e
      cases h3 : KC.validB ⟨ho, wa, A, n, cap, acts, us, la, nu, PA, pn, pc⟩ l client s
      · rw [h3] at hv
        obtain rfl : v = 13 := hv.symm
        have HX : Hid (VarAt (((w.alloc (.cells #[.bool true, .int .i64 ho, .int .i64 wa, .slice A n cap, .int .i64 acts, .bool us, .int .u32 la, .int .i64 nu, .slice PA pn pc] 63)).alloc (.cells #[.int .i64 N, .slice LA ln lc] 58)).alloc (.cells #[.bool false, .int .i64 0, .int .i64 0, .slice none 0 0, .int .i64 0, .bool false, .int .u32 0, .int .i64 0, .slice none 0 0] 63)) w.heap.size 63 #[.bool true, .int .i64 ho, .int .i64 wa, .slice A n cap, .int .i64 acts, .bool us, .int .u32 la, .int .i64 nu, .slice PA pn pc] ∧ VarAt (((w.alloc (.cells #[.bool true, .int .i64 ho, .int .i64 wa, .slice A n cap, .int .i64 acts, .bool us, .int .u32 la, .int .i64 nu, .slice PA pn pc] 63)).alloc (.cells #[.int .i64 N, .slice LA ln lc] 58)).alloc (.cells #[.bool false, .int .i64 0, .int .i64 0, .slice none 0 0, .int .i64 0, .bool false, .int .u32 0, .int .i64 0, .slice none 0 0] 63)) (w.heap.size + 1 + 1) 63 #[.bool false, .int .i64 0, .int .i64 0, .slice none 0 0, .int .i64 0, .bool false, .int .u32 0, .int .i64 0, .slice none 0 0] ∧ VarAt (((w.alloc (.cells #[.bool true, .int .i64 ho, .int .i64 wa, .slice A n cap, .int .i64 acts, .bool us, .int .u32 la, .int .i64 nu, .slice PA pn pc] 63)).alloc (.cells #[.int .i64 N, .slice LA ln lc] 58)).alloc (.cells #[.bool false, .int .i64 0, .int .i64 0, .slice none 0 0, .int .i64 0, .bool false, .int .u32 0, .int .i64 0, .slice none 0 0] 63)) (w.heap.size + 1) 58 #[.int .i64 N, .slice LA ln lc] ∧ Same w (((w.alloc (.cells #[.bool true, .int .i64 ho, .int .i64 wa, .slice A n cap, .int .i64 acts, .bool us, .int .u32 la, .int .i64 nu, .slice PA pn pc] 63)).alloc (.cells #[.int .i64 N, .slice LA ln lc] 58)).alloc (.cells #[.bool false, .int .i64 0, .int .i64 0, .slice none 0 0, .int .i64 0, .bool false, .int .u32 0, .int .i64 0, .slice none 0 0] 63)) ∧ (((w.alloc (.cells #[.bool true, .int .i64 ho, .int .i64 wa, .slice A n cap, .int .i64 acts, .bool us, .int .u32 la, .int .i64 nu, .slice PA pn pc] 63)).alloc (.cells #[.int .i64 N, .slice LA ln lc] 58)).alloc (.cells #[.bool false, .int .i64 0, .int .i64 0, .slice none 0 0, .int .i64 0, .bool false, .int .u32 0, .int .i64 0, .slice none 0 0] 63)).heap.size = w.heap.size + 3) :=
          Lib.hid ⟨((VarAt.new _ _ _).alloc _).alloc _, VarAt.newk (by simp), (VarAt.newk (by simp)).alloc _, (((Chg.refl _ _).alloc _).alloc _).alloc _, by simp⟩
        have HV3 := Lib.hid h3
        clear h0 h3 hv c1 c2
        go_enter Try.func26, Try.ntmps26
        go_wp2_with fail
        refine (kvalid_ok false ho wa A n cap acts us la nu PA pn pc N LA ln lc l client s _ (HA.out.1.same HX.out.2.2.2.1) hn HA.out.2 HV3.out).mono ?_
        rintro e w3 ⟨rfl, hs⟩
        have hld := run_load_kc (x := ⟨ho, wa, A, n, cap, acts, us, la, nu, PA, pn, pc⟩) (HX.out.1.same hs)
        have h14 := HX.out.2.1.same hs
        have HS3 := Lib.hid (HX.out.2.2.2.1.trans hs)
        clear hs
        go_wp2_with (first | (refine wpl_loadv _ _ _ rfl hld ?_) | (refine wpl_storeRow _ rfl rfl h14 (by kernel_rfl) rfl (KC.one _) ?_))
        refine bodyPost_ret (results_cell_tmp Try.results26 rfl (run_load_kc (x := ⟨ho, wa, A, n, cap, acts, us, la, nu, PA, pn, pc⟩) (h14.put _))) rfl ⟨rfl, HS3.out.setRow _ _ (fun q => by omega)⟩
      · rw [h3] at hv
        exact absurd hv.symm h0
    · rw [if_pos (.inr c2)] at hv
      subst hv
      have b2 : (ho != client) = true := by simp [c2]
      have b3 : (ho == client) = false := by simp [c2]
      clear h0 c1 c2
      go_enter Try.func26, Try.ntmps26
      go_wp2
      refine bodyPost_ret (results_cell_tmp Try.results26 rfl (run_load_kc (x := ⟨ho, wa, A, n, cap, acts, us, la, nu, PA, pn, pc⟩) (VarAt.newk (by simp)))) rfl ⟨rfl, (((Chg.refl _ _).alloc _).alloc _).alloc _⟩
set_option maxHeartbeats 4000000 in
theorem kclear_yes (ho wa : Int) (A : Option Addr) (n cap : Nat) (acts : Int) (us : Bool) (la nu : Int) (PA : Option Addr) (pn pc : Nat) (N : Nat) (LA : Option Addr) (ln lc : Nat) (l : List Ent) (client s : Int) (w : World) (h : SlotsAt w 0 LA ln l) (hn : ln ≤ 1000) (hk : ∀ e ∈ l, 0 ≤ e.k ∧ e.k ≤ 62) (c1 : ho ≠ 0) (c2 : ho = client) (h2 : KC.validB ⟨ho, wa, A, n, cap, acts, us, la, nu, PA, pn, pc⟩ l client s = true) :
    Calls Try.prog 26 #[.agg #[.bool true, .int .i64 ho, .int .i64 wa, .slice A n cap, .int .i64 acts, .bool us, .int .u32 la, .int .i64 nu, .slice PA pn pc], .agg #[.int .i64 N, .slice LA ln lc], .int .i64 client, .int .u32 s] w fun e w' => e = .returned (.tuple #[.agg (KC.clear ⟨ho, wa, A, n, cap, acts, us, la, nu, PA, pn, pc⟩ s).cells.toArray, .int .i64 0]) ∧ Same w w' := by
  have HA := Lib.hid (And.intro h (And.intro hk h2))
  clear h hk h2
  have b1 : (ho == 0) = false := by simp [c1]
  have b2 : (ho != client) = false := by simp [c2]
  have b3 : (ho == client) = true := by simp [c2]
  clear c1 c2
  have HX : Hid (VarAt (((w.alloc (.cells #[.bool true, .int .i64 ho, .int .i64 wa, .slice A n cap, .int .i64 acts, .bool us, .int .u32 la, .int .i64 nu, .slice PA pn pc] 63)).alloc (.cells #[.int .i64 N, .slice LA ln lc] 58)).alloc (.cells #[.bool false, .int .i64 0, .int .i64 0, .slice none 0 0, .int .i64 0, .bool false, .int .u32 0, .int .i64 0, .slice none 0 0] 63)) w.heap.size 63 #[.bool true, .int .i64 ho, .int .i64 wa, .slice A n cap, .int .i64 acts, .bool us, .int .u32 la, .int .i64 nu, .slice PA pn pc] ∧ VarAt (((w.alloc (.cells #[.bool true, .int .i64 ho, .int .i64 wa, .slice A n cap, .int .i64 acts, .bool us, .int .u32 la, .int .i64 nu, .slice PA pn pc] 63)).alloc (.cells #[.int .i64 N, .slice LA ln lc] 58)).alloc (.cells #[.bool false, .int .i64 0, .int .i64 0, .slice none 0 0, .int .i64 0, .bool false, .int .u32 0, .int .i64 0, .slice none 0 0] 63)) (w.heap.size + 1 + 1) 63 #[.bool false, .int .i64 0, .int .i64 0, .slice none 0 0, .int .i64 0, .bool false, .int .u32 0, .int .i64 0, .slice none 0 0] ∧ VarAt (((w.alloc (.cells #[.bool true, .int .i64 ho, .int .i64 wa, .slice A n cap, .int .i64 acts, .bool us, .int .u32 la, .int .i64 nu, .slice PA pn pc] 63)).alloc (.cells #[.int .i64 N, .slice LA ln lc] 58)).alloc (.cells #[.bool false, .int .i64 0, .int .i64 0, .slice none 0 0, .int .i64 0, .bool false, .int .u32 0, .int .i64 0, .slice none 0 0] 63)) (w.heap.size + 1) 58 #[.int .i64 N, .slice LA ln lc] ∧ Same w (((w.alloc (.cells #[.bool true, .int .i64 ho, .int .i64 wa, .slice A n cap, .int .i64 acts, .bool us, .int .u32 la, .int .i64 nu, .slice PA pn pc] 63)).alloc (.cells #[.int .i64 N, .slice LA ln lc] 58)).alloc (.cells #[.bool false, .int .i64 0, .int .i64 0, .slice none 0 0, .int .i64 0, .bool false, .int .u32 0, .int .i64 0, .slice none 0 0] 63)) ∧ (((w.alloc (.cells #[.bool true, .int .i64 ho, .int .i64 wa, .slice A n cap, .int .i64 acts, .bool us, .int .u32 la, .int .i64 nu, .slice PA pn pc] 63)).alloc (.cells #[.int .i64 N, .slice LA ln lc] 58)).alloc (.cells #[.bool false, .int .i64 0, .int .i64 0, .slice none 0 0, .int .i64 0, .bool false, .int .u32 0, .int .i64 0, .slice none 0 0] 63)).heap.size = w.heap.size + 3) :=
    Lib.hid ⟨((VarAt.new _ _ _).alloc _).alloc _, VarAt.newk (by simp), (VarAt.newk (by simp)).alloc _, (((Chg.refl _ _).alloc _).alloc _).alloc _, by simp⟩
  go_enter Try.func26, Try.ntmps26
  go_wp2_with fail
  refine (kvalid_ok true ho wa A n cap acts us la nu PA pn pc N LA ln lc l client s _ (HA.out.1.same HX.out.2.2.2.1) hn HA.out.2.1 HA.out.2.2).mono ?_
  rintro e w3 ⟨rfl, hs⟩
  have hz3 : w.heap.size + 3 ≤ w3.heap.size := by rw [← HX.out.2.2.2.2]; exact hs.size
  have h7 := HX.out.1.same hs
  have h14 := HX.out.2.1.same hs
  have HS3 := Lib.hid (HX.out.2.2.2.1.trans hs)
  have p1 := cell_at (C := [.bool true, .int .i64 ho, .int .i64 wa, .slice A n cap, .int .i64 acts, .bool us, .int .u32 la, .int .i64 nu, .slice PA pn pc]) h7 1
  have p3 := cell_at (C := [.bool true, .int .i64 ho, .int .i64 wa, .slice A n cap, .int .i64 acts, .bool us, .int .u32 la, .int .i64 nu, .slice PA pn pc]) h7 3
  have p4 := cell_at (C := [.bool true, .int .i64 ho, .int .i64 wa, .slice A n cap, .int .i64 acts, .bool us, .int .u32 la, .int .i64 nu, .slice PA pn pc]) h7 4
  have p5 := cell_at (C := [.bool true, .int .i64 ho, .int .i64 wa, .slice A n cap, .int .i64 acts, .bool us, .int .u32 la, .int .i64 nu, .slice PA pn pc]) h7 5
  have p6 := cell_at (C := [.bool true, .int .i64 ho, .int .i64 wa, .slice A n cap, .int .i64 acts, .bool us, .int .u32 la, .int .i64 nu, .slice PA pn pc]) h7 6
  simp only [List.getElem?_cons_zero, List.getElem?_cons_succ] at p1 p3 p4 p5 p6
  have f1 := frozen_at h7 1
  have f3 := frozen_at h7 3
  have f4 := frozen_at h7 4
  have f5 := frozen_at h7 5
  have f6 := frozen_at h7 6
  have hlt : w.heap.size < w3.heap.size := by omega
  have h7' : VarAt (((((w3.setCell ⟨w.heap.size, 1, none⟩ (.int .i64 0)).setCell ⟨w.heap.size, 5, none⟩ (.bool true)).setCell ⟨w.heap.size, 6, none⟩ (.int .u32 s)).setCell ⟨w.heap.size, 3, none⟩ (.slice none 0 0)).setCell ⟨w.heap.size, 4, none⟩ (.int .i64 0)) w.heap.size 63 (KC.cells ⟨0, wa, none, 0, 0, 0, true, s, nu, PA, pn, pc⟩).toArray := by
    have a1 := at_setCell (i := 1) (C := [.bool true, .int .i64 ho, .int .i64 wa, .slice A n cap, .int .i64 acts, .bool us, .int .u32 la, .int .i64 nu, .slice PA pn pc]) (.int .i64 0) h7
    have a2 := at_setCell (i := 5) (C := [.bool true, .int .i64 0, .int .i64 wa, .slice A n cap, .int .i64 acts, .bool us, .int .u32 la, .int .i64 nu, .slice PA pn pc]) (.bool true) a1
    have a3 := at_setCell (i := 6) (C := [.bool true, .int .i64 0, .int .i64 wa, .slice A n cap, .int .i64 acts, .bool true, .int .u32 la, .int .i64 nu, .slice PA pn pc]) (.int .u32 s) a2
    have a4 := at_setCell (i := 3) (C := [.bool true, .int .i64 0, .int .i64 wa, .slice A n cap, .int .i64 acts, .bool true, .int .u32 s, .int .i64 nu, .slice PA pn pc]) (.slice none 0 0) a3
    have a5 := at_setCell (i := 4) (C := [.bool true, .int .i64 0, .int .i64 wa, .slice none 0 0, .int .i64 acts, .bool true, .int .u32 s, .int .i64 nu, .slice PA pn pc]) (.int .i64 0) a4
    exact a5
  have h14' : VarAt (((((w3.setCell ⟨w.heap.size, 1, none⟩ (.int .i64 0)).setCell ⟨w.heap.size, 5, none⟩ (.bool true)).setCell ⟨w.heap.size, 6, none⟩ (.int .u32 s)).setCell ⟨w.heap.size, 3, none⟩ (.slice none 0 0)).setCell ⟨w.heap.size, 4, none⟩ (.int .i64 0)) (w.heap.size + 1 + 1) 63 #[.bool false, .int .i64 0, .int .i64 0, .slice none 0 0, .int .i64 0, .bool false, .int .u32 0, .int .i64 0, .slice none 0 0] := at_setCell_other _ (by omega) (at_setCell_other _ (by omega) (at_setCell_other _ (by omega) (at_setCell_other _ (by omega) (at_setCell_other _ (by omega) h14))))
  have hld := run_load_kc (x := ⟨0, wa, none, 0, 0, 0, true, s, nu, PA, pn, pc⟩) h7'
  have HS6 : Hid (Same w (((((w3.setCell ⟨w.heap.size, 1, none⟩ (.int .i64 0)).setCell ⟨w.heap.size, 5, none⟩ (.bool true)).setCell ⟨w.heap.size, 6, none⟩ (.int .u32 s)).setCell ⟨w.heap.size, 3, none⟩ (.slice none 0 0)).setCell ⟨w.heap.size, 4, none⟩ (.int .i64 0))) := Lib.hid (((((HS3.out.setCell _ _ (fun q => by have q2 : w.heap.size < w.heap.size := q; omega)).setCell _ _ (fun q => by have q2 : w.heap.size < w.heap.size := q; omega)).setCell _ _ (fun q => by have q2 : w.heap.size < w.heap.size := q; omega)).setCell _ _ (fun q => by have q2 : w.heap.size < w.heap.size := q; omega)).setCell _ _ (fun q => by have q2 : w.heap.size < w.heap.size := q; omega))
  have H14 := Lib.hid h14'
  clear hs h7 h14 h7' h14'
  go_upto_region 8 with (fail)
  clear p1 p3 p4 p5 p6 f1 f3 f4 f5 f6
  generalize (((((w3.setCell ⟨w.heap.size, 1, none⟩ (.int .i64 0)).setCell ⟨w.heap.size, 5, none⟩ (.bool true)).setCell ⟨w.heap.size, 6, none⟩ (.int .u32 s)).setCell ⟨w.heap.size, 3, none⟩ (.slice none 0 0)).setCell ⟨w.heap.size, 4, none⟩ (.int .i64 0)) = w6 at *
  go_wp2_with (first | (refine wpl_loadv _ _ _ rfl hld ?_) | (refine wpl_storeRow _ rfl rfl H14.out (by kernel_rfl) rfl (KC.one _) ?_))
  refine bodyPost_ret (results_cell_tmp Try.results26 rfl (run_load_kc (x := KC.clear ⟨ho, wa, A, n, cap, acts, us, la, nu, PA, pn, pc⟩ s) (H14.out.put _))) rfl ⟨rfl, HS6.out.setRow _ _ (fun q => by omega)⟩
end Go.Proofs.Ytndldjopgbhphaa
