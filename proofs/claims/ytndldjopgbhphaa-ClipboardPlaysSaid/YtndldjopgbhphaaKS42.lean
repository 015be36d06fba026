/- compositorref42: Set (printed by ks42.py). -/
import Derived.Test.YtndldjopgbhphaaPk37
import Derived.Test.YtndldjopgbhphaaUCheck
set_option linter.unusedVariables false
set_option linter.unusedSimpArgs false
set_option maxRecDepth 100000
namespace Go.Proofs.Ytndldjopgbhphaa
open Go.RowKit

theorem ucheck_vs (v : Int) (A : Option Addr) (n cap : Nat) (fs : List ByteArray) (acts : Int) (w : World) (h : SArg w A n cap fs) (hz : ∀ f ∈ fs, f.size ≤ 140737488351232) (hv : checkV fs acts = v) :
    Calls Try.prog 63 #[.agg #[.slice A n cap, .int .i64 acts]] w fun e w' => e = .returned (.int .i64 v) ∧ Same w w' := by
  subst hv
  exact ucheck_ok A n cap fs acts w h.1 h.2.1 h.2.2 hz
set_option maxHeartbeats 4000000 in
theorem kset_no (ho wa : Int) (A : Option Addr) (n cap : Nat) (acts : Int) (us : Bool) (la nu : Int) (PA : Option Addr) (pn pc : Nat) (N : Nat) (LA : Option Addr) (ln lc : Nat) (l : List Ent) (client : Int) (Ao : Option Addr) (no co : Nat) (fs : List ByteArray) (oa s v : Int) (w : World)
    (h : SlotsAt w 0 LA ln l) (hn : ln ≤ 1000) (hk : ∀ e ∈ l, 0 ≤ e.k ∧ e.k ≤ 62) (ho2 : SArg w Ao no co fs) (hz : ∀ f ∈ fs, f.size ≤ 140737488351232)
    (hv : KC.setE ⟨ho, wa, A, n, cap, acts, us, la, nu, PA, pn, pc⟩ l client fs oa s = v) (h0 : v ≠ 0) :
    Calls Try.prog 25 #[.agg #[.bool true, .int .i64 ho, .int .i64 wa, .slice A n cap, .int .i64 acts, .bool us, .int .u32 la, .int .i64 nu, .slice PA pn pc], .agg #[.int .i64 N, .slice LA ln lc], .int .i64 client, .agg #[.slice Ao no co, .int .i64 oa], .int .u32 s] w fun e w' => e = .returned (.tuple #[.agg #[.bool true, .int .i64 ho, .int .i64 wa, .slice A n cap, .int .i64 acts, .bool us, .int .u32 la, .int .i64 nu, .slice PA pn pc], .int .i64 v]) ∧ Same w w' := by
  have HA := Lib.hid (And.intro h (And.intro hk (And.intro ho2 hz)))
  clear h hk ho2 hz
  unfold KC.setE at hv
  by_cases c1 : client < 1
  · rw [if_pos c1] at hv
    subst hv
    clear h0
    go_enter Try.func25, Try.ntmps25
    go_wp2
    refine bodyPost_ret (results_cell_tmp Try.results25 rfl (run_load_kc (x := ⟨ho, wa, A, n, cap, acts, us, la, nu, PA, pn, pc⟩) (VarAt.newk (by simp)))) rfl ⟨rfl, ((((Chg.refl _ _).alloc _).alloc _).alloc _).alloc _⟩
  · rw [if_neg c1] at hv
    have HX : Hid (VarAt ((((w.alloc (.cells #[.bool true, .int .i64 ho, .int .i64 wa, .slice A n cap, .int .i64 acts, .bool us, .int .u32 la, .int .i64 nu, .slice PA pn pc] 63)).alloc (.cells #[.int .i64 N, .slice LA ln lc] 58)).alloc (.cells #[.slice Ao no co, .int .i64 oa] 60)).alloc (.cells #[.bool false, .int .i64 0, .int .i64 0, .slice none 0 0, .int .i64 0, .bool false, .int .u32 0, .int .i64 0, .slice none 0 0] 63)) w.heap.size 63 #[.bool true, .int .i64 ho, .int .i64 wa, .slice A n cap, .int .i64 acts, .bool us, .int .u32 la, .int .i64 nu, .slice PA pn pc] ∧ VarAt ((((w.alloc (.cells #[.bool true, .int .i64 ho, .int .i64 wa, .slice A n cap, .int .i64 acts, .bool us, .int .u32 la, .int .i64 nu, .slice PA pn pc] 63)).alloc (.cells #[.int .i64 N, .slice LA ln lc] 58)).alloc (.cells #[.slice Ao no co, .int .i64 oa] 60)).alloc (.cells #[.bool false, .int .i64 0, .int .i64 0, .slice none 0 0, .int .i64 0, .bool false, .int .u32 0, .int .i64 0, .slice none 0 0] 63)) (w.heap.size + 1 + 1 + 1) 63 #[.bool false, .int .i64 0, .int .i64 0, .slice none 0 0, .int .i64 0, .bool false, .int .u32 0, .int .i64 0, .slice none 0 0] ∧ VarAt ((((w.alloc (.cells #[.bool true, .int .i64 ho, .int .i64 wa, .slice A n cap, .int .i64 acts, .bool us, .int .u32 la, .int .i64 nu, .slice PA pn pc] 63)).alloc (.cells #[.int .i64 N, .slice LA ln lc] 58)).alloc (.cells #[.slice Ao no co, .int .i64 oa] 60)).alloc (.cells #[.bool false, .int .i64 0, .int .i64 0, .slice none 0 0, .int .i64 0, .bool false, .int .u32 0, .int .i64 0, .slice none 0 0] 63)) (w.heap.size + 1) 58 #[.int .i64 N, .slice LA ln lc] ∧ VarAt ((((w.alloc (.cells #[.bool true, .int .i64 ho, .int .i64 wa, .slice A n cap, .int .i64 acts, .bool us, .int .u32 la, .int .i64 nu, .slice PA pn pc] 63)).alloc (.cells #[.int .i64 N, .slice LA ln lc] 58)).alloc (.cells #[.slice Ao no co, .int .i64 oa] 60)).alloc (.cells #[.bool false, .int .i64 0, .int .i64 0, .slice none 0 0, .int .i64 0, .bool false, .int .u32 0, .int .i64 0, .slice none 0 0] 63)) (w.heap.size + 1 + 1) 60 #[.slice Ao no co, .int .i64 oa] ∧ Same w ((((w.alloc (.cells #[.bool true, .int .i64 ho, .int .i64 wa, .slice A n cap, .int .i64 acts, .bool us, .int .u32 la, .int .i64 nu, .slice PA pn pc] 63)).alloc (.cells #[.int .i64 N, .slice LA ln lc] 58)).alloc (.cells #[.slice Ao no co, .int .i64 oa] 60)).alloc (.cells #[.bool false, .int .i64 0, .int .i64 0, .slice none 0 0, .int .i64 0, .bool false, .int .u32 0, .int .i64 0, .slice none 0 0] 63)) ∧ ((((w.alloc (.cells #[.bool true, .int .i64 ho, .int .i64 wa, .slice A n cap, .int .i64 acts, .bool us, .int .u32 la, .int .i64 nu, .slice PA pn pc] 63)).alloc (.cells #[.int .i64 N, .slice LA ln lc] 58)).alloc (.cells #[.slice Ao no co, .int .i64 oa] 60)).alloc (.cells #[.bool false, .int .i64 0, .int .i64 0, .slice none 0 0, .int .i64 0, .bool false, .int .u32 0, .int .i64 0, .slice none 0 0] 63)).heap.size = w.heap.size + 4) :=
      Lib.hid ⟨(((VarAt.new _ _ _).alloc _).alloc _).alloc _, VarAt.newk (by simp), ((VarAt.newk (by simp)).alloc _).alloc _, (VarAt.newk (by simp)).alloc _, ((((Chg.refl _ _).alloc _).alloc _).alloc _).alloc _, by simp⟩
    obtain ⟨v1, hv1⟩ : ∃ v1, checkV fs oa = v1 := ⟨_, rfl⟩
    rw [hv1] at hv
    have HV1 := Lib.hid hv1
    clear hv1
    by_cases h2 : v1 ≠ 0
    · rw [if_pos h2] at hv
      subst hv
      have b1 : (v1 != 0) = true := by simp [h2]
      have b2 : (v1 == 0) = false := by simp [h2]
      clear h0 h2
      go_enter Try.func25, Try.ntmps25
      go_wp2_with fail
      refine (ucheck_vs v1 Ao no co fs oa _ (HA.out.2.2.1.same HX.out.2.2.2.2.1) HA.out.2.2.2 HV1.out).mono ?_
      rintro e w2 ⟨rfl, hs⟩
      have hld := run_load_kc (x := ⟨ho, wa, A, n, cap, acts, us, la, nu, PA, pn, pc⟩) (HX.out.1.same hs)
      have h14 := HX.out.2.1.same hs
      have HS := Lib.hid (HX.out.2.2.2.2.1.trans hs)
      clear hs
      go_wp2_with (first | (refine wpl_loadv _ _ _ rfl hld ?_) | (refine wpl_storeRow _ rfl rfl h14 (by kernel_rfl) rfl (KC.one _) ?_))
      refine bodyPost_ret (results_cell_tmp Try.results25 rfl (run_load_kc (x := ⟨ho, wa, A, n, cap, acts, us, la, nu, PA, pn, pc⟩) (h14.put _))) rfl ⟨rfl, HS.out.setRow _ _ (fun q => by omega)⟩
    · rw [if_neg h2] at hv
      obtain rfl : v1 = 0 := Decidable.not_not.1 h2
      clear h2
      cases h3 : KC.validB ⟨ho, wa, A, n, cap, acts, us, la, nu, PA, pn, pc⟩ l client s
      · rw [h3] at hv
        obtain rfl : v = 13 := hv.symm
        have HV3 := Lib.hid h3
        clear h0 h3 hv
        go_enter Try.func25, Try.ntmps25
        go_wp2_with fail
        refine (ucheck_vs 0 Ao no co fs oa _ (HA.out.2.2.1.same HX.out.2.2.2.2.1) HA.out.2.2.2 HV1.out).mono ?_
        rintro e w2 ⟨rfl, hs⟩
        have hld := VarAt.ldL (N := N) (HX.out.2.2.1.same hs)
        unfold lgc at hld
        have hldc := run_load_kc (x := ⟨ho, wa, A, n, cap, acts, us, la, nu, PA, pn, pc⟩) (HX.out.1.same hs)
        have HB := Lib.hid (And.intro (HX.out.1.same hs) (HX.out.2.1.same hs))
        have HS := Lib.hid (HX.out.2.2.2.2.1.trans hs)
        clear hs
        go_wp2_with (first | (refine wpl_loadv _ _ _ rfl hldc ?_) | (refine wpl_loadv _ _ _ rfl hld ?_))
        refine (kvalid_ok false ho wa A n cap acts us la nu PA pn pc N LA ln lc l client s _ (HA.out.1.same HS.out) hn HA.out.2.1 HV3.out).mono ?_
        rintro e w3 ⟨rfl, hs⟩
        have hld := run_load_kc (x := ⟨ho, wa, A, n, cap, acts, us, la, nu, PA, pn, pc⟩) (HB.out.1.same hs)
        have h14 := HB.out.2.same hs
        have HS3 := Lib.hid (HS.out.trans hs)
        clear hs hldc
        go_wp2_with (first | (refine wpl_loadv _ _ _ rfl hld ?_) | (refine wpl_storeRow _ rfl rfl h14 (by kernel_rfl) rfl (KC.one _) ?_))
        refine bodyPost_ret (results_cell_tmp Try.results25 rfl (run_load_kc (x := ⟨ho, wa, A, n, cap, acts, us, la, nu, PA, pn, pc⟩) (h14.put _))) rfl ⟨rfl, HS3.out.setRow _ _ (fun q => by omega)⟩
      · rw [h3] at hv
        exact absurd hv.symm h0
set_option maxHeartbeats 4000000 in
theorem kset_yes (ho wa : Int) (A : Option Addr) (n cap : Nat) (acts : Int) (us : Bool) (la nu : Int) (PA : Option Addr) (pn pc : Nat) (N : Nat) (LA : Option Addr) (ln lc : Nat) (l : List Ent) (client : Int) (Ao : Option Addr) (no co : Nat) (fs : List ByteArray) (oa s : Int) (w : World)
    (h : SlotsAt w 0 LA ln l) (hn : ln ≤ 1000) (hk : ∀ e ∈ l, 0 ≤ e.k ∧ e.k ≤ 62) (ho2 : SArg w Ao no co fs) (hz : ∀ f ∈ fs, f.size ≤ 140737488351232) (hno : no ≤ 1000)
    (c1 : ¬ client < 1) (h1 : checkV fs oa = 0) (h2 : KC.validB ⟨ho, wa, A, n, cap, acts, us, la, nu, PA, pn, pc⟩ l client s = true) :
    Calls Try.prog 25 #[.agg #[.bool true, .int .i64 ho, .int .i64 wa, .slice A n cap, .int .i64 acts, .bool us, .int .u32 la, .int .i64 nu, .slice PA pn pc], .agg #[.int .i64 N, .slice LA ln lc], .int .i64 client, .agg #[.slice Ao no co, .int .i64 oa], .int .u32 s] w
      fun e w' => ∃ A' cap', e = .returned (.tuple #[.agg (KC.set ⟨ho, wa, A, n, cap, acts, us, la, nu, PA, pn, pc⟩ client s oa A' no cap').cells.toArray, .int .i64 0]) ∧ StrsAt w' A' no fs ∧ (0 < no → ∀ g o, A' = some ⟨g, o, none⟩ → w.heap.size + 4 ≤ g) ∧ Same w w' := by
  have HA := Lib.hid (And.intro h (And.intro hk (And.intro ho2 (And.intro hz (And.intro h1 h2)))))
  have HL := Lib.hid ho2.1.1
  clear h hk ho2 hz h1 h2
  have HX : Hid (VarAt ((((w.alloc (.cells #[.bool true, .int .i64 ho, .int .i64 wa, .slice A n cap, .int .i64 acts, .bool us, .int .u32 la, .int .i64 nu, .slice PA pn pc] 63)).alloc (.cells #[.int .i64 N, .slice LA ln lc] 58)).alloc (.cells #[.slice Ao no co, .int .i64 oa] 60)).alloc (.cells #[.bool false, .int .i64 0, .int .i64 0, .slice none 0 0, .int .i64 0, .bool false, .int .u32 0, .int .i64 0, .slice none 0 0] 63)) w.heap.size 63 #[.bool true, .int .i64 ho, .int .i64 wa, .slice A n cap, .int .i64 acts, .bool us, .int .u32 la, .int .i64 nu, .slice PA pn pc] ∧ VarAt ((((w.alloc (.cells #[.bool true, .int .i64 ho, .int .i64 wa, .slice A n cap, .int .i64 acts, .bool us, .int .u32 la, .int .i64 nu, .slice PA pn pc] 63)).alloc (.cells #[.int .i64 N, .slice LA ln lc] 58)).alloc (.cells #[.slice Ao no co, .int .i64 oa] 60)).alloc (.cells #[.bool false, .int .i64 0, .int .i64 0, .slice none 0 0, .int .i64 0, .bool false, .int .u32 0, .int .i64 0, .slice none 0 0] 63)) (w.heap.size + 1 + 1 + 1) 63 #[.bool false, .int .i64 0, .int .i64 0, .slice none 0 0, .int .i64 0, .bool false, .int .u32 0, .int .i64 0, .slice none 0 0] ∧ VarAt ((((w.alloc (.cells #[.bool true, .int .i64 ho, .int .i64 wa, .slice A n cap, .int .i64 acts, .bool us, .int .u32 la, .int .i64 nu, .slice PA pn pc] 63)).alloc (.cells #[.int .i64 N, .slice LA ln lc] 58)).alloc (.cells #[.slice Ao no co, .int .i64 oa] 60)).alloc (.cells #[.bool false, .int .i64 0, .int .i64 0, .slice none 0 0, .int .i64 0, .bool false, .int .u32 0, .int .i64 0, .slice none 0 0] 63)) (w.heap.size + 1) 58 #[.int .i64 N, .slice LA ln lc] ∧ VarAt ((((w.alloc (.cells #[.bool true, .int .i64 ho, .int .i64 wa, .slice A n cap, .int .i64 acts, .bool us, .int .u32 la, .int .i64 nu, .slice PA pn pc] 63)).alloc (.cells #[.int .i64 N, .slice LA ln lc] 58)).alloc (.cells #[.slice Ao no co, .int .i64 oa] 60)).alloc (.cells #[.bool false, .int .i64 0, .int .i64 0, .slice none 0 0, .int .i64 0, .bool false, .int .u32 0, .int .i64 0, .slice none 0 0] 63)) (w.heap.size + 1 + 1) 60 #[.slice Ao no co, .int .i64 oa] ∧ Same w ((((w.alloc (.cells #[.bool true, .int .i64 ho, .int .i64 wa, .slice A n cap, .int .i64 acts, .bool us, .int .u32 la, .int .i64 nu, .slice PA pn pc] 63)).alloc (.cells #[.int .i64 N, .slice LA ln lc] 58)).alloc (.cells #[.slice Ao no co, .int .i64 oa] 60)).alloc (.cells #[.bool false, .int .i64 0, .int .i64 0, .slice none 0 0, .int .i64 0, .bool false, .int .u32 0, .int .i64 0, .slice none 0 0] 63)) ∧ ((((w.alloc (.cells #[.bool true, .int .i64 ho, .int .i64 wa, .slice A n cap, .int .i64 acts, .bool us, .int .u32 la, .int .i64 nu, .slice PA pn pc] 63)).alloc (.cells #[.int .i64 N, .slice LA ln lc] 58)).alloc (.cells #[.slice Ao no co, .int .i64 oa] 60)).alloc (.cells #[.bool false, .int .i64 0, .int .i64 0, .slice none 0 0, .int .i64 0, .bool false, .int .u32 0, .int .i64 0, .slice none 0 0] 63)).heap.size = w.heap.size + 4) :=
    Lib.hid ⟨(((VarAt.new _ _ _).alloc _).alloc _).alloc _, VarAt.newk (by simp), ((VarAt.newk (by simp)).alloc _).alloc _, (VarAt.newk (by simp)).alloc _, ((((Chg.refl _ _).alloc _).alloc _).alloc _).alloc _, by simp⟩
  go_enter Try.func25, Try.ntmps25
  go_wp2_with fail
  refine (ucheck_vs 0 Ao no co fs oa _ (HA.out.2.2.1.same HX.out.2.2.2.2.1) HA.out.2.2.2.1 HA.out.2.2.2.2.1).mono ?_
  rintro e w2 ⟨rfl, hs⟩
  have hld := VarAt.ldL (N := N) (HX.out.2.2.1.same hs)
  unfold lgc at hld
  have hldc := run_load_kc (x := ⟨ho, wa, A, n, cap, acts, us, la, nu, PA, pn, pc⟩) (HX.out.1.same hs)
  have HB := Lib.hid (And.intro (HX.out.1.same hs) (And.intro (HX.out.2.1.same hs) (HX.out.2.2.2.1.same hs)))
  have HS := Lib.hid (HX.out.2.2.2.2.1.trans hs)
  have hz2 : w.heap.size + 4 ≤ w2.heap.size := by rw [← HX.out.2.2.2.2.2]; exact hs.size
  clear hs
  go_wp2_with (first | (refine wpl_loadv _ _ _ rfl hldc ?_) | (refine wpl_loadv _ _ _ rfl hld ?_))
  refine (kvalid_ok true ho wa A n cap acts us la nu PA pn pc N LA ln lc l client s _ (HA.out.1.same HS.out) hn HA.out.2.1 HA.out.2.2.2.2.2).mono ?_
  rintro e w3 ⟨rfl, hs⟩
  have hz3 : w.heap.size + 4 ≤ w3.heap.size := Nat.le_trans hz2 hs.size
  have h7 := HB.out.1.same hs
  have h14 := HB.out.2.1.same hs
  have h12 := HB.out.2.2.same hs
  have HS3 := Lib.hid (HS.out.trans hs)
  have p1 := cell_at (C := [.bool true, .int .i64 ho, .int .i64 wa, .slice A n cap, .int .i64 acts, .bool us, .int .u32 la, .int .i64 nu, .slice PA pn pc]) h7 1
  have p5 := cell_at (C := [.bool true, .int .i64 ho, .int .i64 wa, .slice A n cap, .int .i64 acts, .bool us, .int .u32 la, .int .i64 nu, .slice PA pn pc]) h7 5
  have p6 := cell_at (C := [.bool true, .int .i64 ho, .int .i64 wa, .slice A n cap, .int .i64 acts, .bool us, .int .u32 la, .int .i64 nu, .slice PA pn pc]) h7 6
  simp only [List.getElem?_cons_zero, List.getElem?_cons_succ] at p1 p5 p6
  have f1 := frozen_at h7 1
  have f5 := frozen_at h7 5
  have f6 := frozen_at h7 6
  have hlt : w.heap.size < w3.heap.size := by omega
  clear hs hld hldc
  have h7' : VarAt (((w3.setCell ⟨w.heap.size, 1, none⟩ (.int .i64 client)).setCell ⟨w.heap.size, 5, none⟩ (.bool true)).setCell ⟨w.heap.size, 6, none⟩ (.int .u32 s)) w.heap.size 63 ([.bool true, .int .i64 client, .int .i64 wa, .slice A n cap, .int .i64 acts, .bool true, .int .u32 s, .int .i64 nu, .slice PA pn pc]).toArray := at_setCell (i := 6) _ (at_setCell (i := 5) _ (at_setCell (i := 1) (C := [.bool true, .int .i64 ho, .int .i64 wa, .slice A n cap, .int .i64 acts, .bool us, .int .u32 la, .int .i64 nu, .slice PA pn pc]) _ h7))
  have h14' : VarAt (((w3.setCell ⟨w.heap.size, 1, none⟩ (.int .i64 client)).setCell ⟨w.heap.size, 5, none⟩ (.bool true)).setCell ⟨w.heap.size, 6, none⟩ (.int .u32 s)) (w.heap.size + 1 + 1 + 1) 63 #[.bool false, .int .i64 0, .int .i64 0, .slice none 0 0, .int .i64 0, .bool false, .int .u32 0, .int .i64 0, .slice none 0 0] := at_setCell_other _ (by omega) (at_setCell_other _ (by omega) (at_setCell_other _ (by omega) h14))
  have h12' : VarAt (((w3.setCell ⟨w.heap.size, 1, none⟩ (.int .i64 client)).setCell ⟨w.heap.size, 5, none⟩ (.bool true)).setCell ⟨w.heap.size, 6, none⟩ (.int .u32 s)) (w.heap.size + 1 + 1) 60 #[.slice Ao no co, .int .i64 oa] := at_setCell_other _ (by omega) (at_setCell_other _ (by omega) (at_setCell_other _ (by omega) h12))
  have hs4 : Same w (((w3.setCell ⟨w.heap.size, 1, none⟩ (.int .i64 client)).setCell ⟨w.heap.size, 5, none⟩ (.bool true)).setCell ⟨w.heap.size, 6, none⟩ (.int .u32 s)) := ((HS3.out.setCell _ _ (fun q => by have q2 : w.heap.size < w.heap.size := q; omega)).setCell _ _ (fun q => by have q2 : w.heap.size < w.heap.size := q; omega)).setCell _ _ (fun q => by have q2 : w.heap.size < w.heap.size := q; omega)
  have hz4 : (((w3.setCell ⟨w.heap.size, 1, none⟩ (.int .i64 client)).setCell ⟨w.heap.size, 5, none⟩ (.bool true)).setCell ⟨w.heap.size, 6, none⟩ (.int .u32 s)).heap.size = w3.heap.size := by simp
  have HQ := Lib.hid (And.intro h7' (And.intro h14' (And.intro h12' (And.intro hs4 hz4))))
  clear h7 h14 h12 h7' h14' h12' hs4 hz4
  go_wp2_with fail
  have HQ := HQ
  clear p1 p5 p6 f1 f5 f6 hlt
  generalize (((w3.setCell ⟨w.heap.size, 1, none⟩ (.int .i64 client)).setCell ⟨w.heap.size, 5, none⟩ (.bool true)).setCell ⟨w.heap.size, 6, none⟩ (.int .u32 s)) = w4 at *
  have q0 := (Chg.refl (fun _ => False) w4).drew.cell (cell_at (C := [.slice Ao no co, .int .i64 oa]) HQ.out.2.2.1 0) (fun q => q)
  have q1 := (Chg.refl (fun _ => False) w4).drew.cell (cell_at (C := [.slice Ao no co, .int .i64 oa]) HQ.out.2.2.1 1) (fun q => q)
  have q0 : w4.drew.cell? ⟨w.heap.size + 1 + 1, 0, none⟩ = some (.slice Ao no co) := q0
  have q1 : w4.drew.cell? ⟨w.heap.size + 1 + 1, 1, none⟩ = some (.int .i64 oa) := q1
  have HQQ := Lib.hid (And.intro q0 q1)
  have hz4 : w.heap.size + 4 ≤ w4.heap.size := by rw [HQ.out.2.2.2.2]; exact hz3
  refine region_path (S := (fun w' => w'.cell? ⟨w.heap.size + 1 + 1, 0, none⟩ = some (.slice Ao no co) ∧ w'.cell? ⟨w.heap.size + 1 + 1, 1, none⟩ = some (.int .i64 oa))) 99 [(1, true), (2, true), (4, true), (5, true), (0, false), (3, false), (6, true), (7, true), (8, false)] (by kernel_rfl) (by kernel_rfl) (by kernel_rfl) (⟨q0, q1⟩) ?_
  refine path_read (i := 1) (v := ?v26_1) rfl (by rfl) (fun _ _ _ h => h) ?hy26_1 ?_
  case hy26_1 => ((intro w hSw; (try dsimp only at hSw); go_simp) <;> (try with_reducible rfl))
  try simp only [Act.put, List.setIfInBounds_toArray, List.set_cons_zero, List.set_cons_succ]
  refine path_read (i := 2) (v := ?v26_2) rfl (by rfl) (fun _ _ _ h => h) ?hy26_2 ?_
  case hy26_2 => ((intro w hSw; (try dsimp only at hSw); go_simp) <;> (try with_reducible rfl))
  try simp only [Act.put, List.setIfInBounds_toArray, List.set_cons_zero, List.set_cons_succ]
  refine path_read (i := 4) (v := ?v26_4) rfl (by rfl) (fun _ _ _ h => h) ?hy26_4 ?_
  case hy26_4 => ((intro w hSw; (try dsimp only at hSw); go_simp) <;> (try with_reducible rfl))
  try simp only [Act.put, List.setIfInBounds_toArray, List.set_cons_zero, List.set_cons_succ]
  refine path_read (i := 5) (v := ?v26_5) rfl (by rfl) (fun _ _ _ h => h) ?hy26_5 ?_
  case hy26_5 => ((intro w hSw; (try dsimp only at hSw); go_simp) <;> (try with_reducible rfl))
  try simp only [Act.put, List.setIfInBounds_toArray, List.set_cons_zero, List.set_cons_succ]
  refine path_do (i := 0) rfl ?_
  go_wp2_with (fail)
  (first | refine ⟨.inr ?keep26_0, ?_⟩ | refine ⟨?keep26_0, ?_⟩)
  case keep26_0 => (first | exact ⟨HQQ.out.1, HQQ.out.2⟩ | (have hk := (Chg.refl (fun _ => False) w4.drew).alloc (.cells #[] 9); exact ⟨hk.cell HQQ.out.1 (fun q => q), hk.cell HQQ.out.2 (fun q => q)⟩) | (have hk := ((Chg.refl (fun x => x = w.heap.size) w5).setCell ⟨w.heap.size, 3, none⟩ (.slice A' no cap') (fun _ => rfl)).setCell ⟨w.heap.size, 4, none⟩ (.int .i64 oa) (fun _ => rfl); exact ⟨hk.cell (HS45.out.cell HQQ.out.1 (fun q => q)) (fun q => by have q2 : w.heap.size + 1 + 1 = w.heap.size := q; omega), hk.cell (HS45.out.cell HQQ.out.2 (fun q => q)) (fun q => by have q2 : w.heap.size + 1 + 1 = w.heap.size := q; omega)⟩))
  try simp only [Act.put, List.setIfInBounds_toArray, List.set_cons_zero, List.set_cons_succ]
  refine path_do (i := 3) rfl ?_
  refine wpl_appendSl w4.heap.size 9 _ 1 16 Try.underlying34 infoStr rfl (by omega) _ 0 [] (World.ownsRow_made w4.drew #[] 0 (Nat.le_refl _) (by unfold maxLen; omega) rfl) rfl Ao no co (strVals fs) rfl (by unfold strVals; rw [List.length_map, HL.out, Nat.mul_one]) (fun hp => (((HA.out.2.2.1.1.same HQ.out.2.2.2.1).same ((Chg.refl _ _).drew)).alloc _).src hp) (strVals_one fs) (by omega) (by omega) (by simp) ?_; intro A' cap' w5 hown hgrow; have HOWN := Lib.hid hown; have HS45 : Hid (Same w4.drew w5) := Lib.hid (((Chg.refl (fun _ => False) w4.drew).alloc (.cells #[] 9)).then_ (Chg.grownO (Chg.refl _ _) hgrow) (fun i hi e => by simp [Value.ownBlock] at e; simp at hi; omega)); have hz5 : w.heap.size + 4 ≤ w5.heap.size := Nat.le_trans hz4 HS45.out.size; have h75 := ((HQ.out.1).drew).same HS45.out; have p3 : w5.cell? ⟨w.heap.size, 3, none⟩ = some (.slice A n cap) := cell_at (C := [.bool true, .int .i64 client, .int .i64 wa, .slice A n cap, .int .i64 acts, .bool true, .int .u32 s, .int .i64 nu, .slice PA pn pc]) h75 3; have p4 : w5.cell? ⟨w.heap.size, 4, none⟩ = some (.int .i64 acts) := cell_at (C := [.bool true, .int .i64 client, .int .i64 wa, .slice A n cap, .int .i64 acts, .bool true, .int .u32 s, .int .i64 nu, .slice PA pn pc]) h75 4; have f3 := frozen_at h75 3; have f4 := frozen_at h75 4; have hlt : w.heap.size < w5.heap.size := (by omega); have H75 := Lib.hid h75; clear hown hgrow h75
  refine path_next (.inr ?keep26_3) ?_
  case keep26_3 => (exact ⟨HS45.out.cell HQQ.out.1 (fun q => q), HS45.out.cell HQQ.out.2 (fun q => q)⟩)
  try simp only [Act.put, List.setIfInBounds_toArray, List.set_cons_zero, List.set_cons_succ]
  refine path_read (i := 6) (v := ?v26_6) rfl (by rfl) (fun _ _ _ h => h) ?hy26_6 ?_
  case hy26_6 => ((intro w hSw; (try dsimp only at hSw); go_simp) <;> (try with_reducible rfl))
  try simp only [Act.put, List.setIfInBounds_toArray, List.set_cons_zero, List.set_cons_succ]
  refine path_read (i := 7) (v := ?v26_7) rfl (by rfl) (fun _ _ _ h => h) ?hy26_7 ?_
  case hy26_7 => ((intro w hSw; (try dsimp only at hSw); go_simp) <;> (try with_reducible rfl))
  try simp only [Act.put, List.setIfInBounds_toArray, List.set_cons_zero, List.set_cons_succ]
  refine path_do (i := 8) rfl ?_
  go_wp2_with (fail)
  (first | refine ⟨.inr ?keep26_8, ?_⟩ | refine ⟨?keep26_8, ?_⟩)
  case keep26_8 => (first | exact ⟨HQQ.out.1, HQQ.out.2⟩ | (have hk := (Chg.refl (fun _ => False) w4.drew).alloc (.cells #[] 9); exact ⟨hk.cell HQQ.out.1 (fun q => q), hk.cell HQQ.out.2 (fun q => q)⟩) | (have hk := ((Chg.refl (fun x => x = w.heap.size) w5).setCell ⟨w.heap.size, 3, none⟩ (.slice A' no cap') (fun _ => rfl)).setCell ⟨w.heap.size, 4, none⟩ (.int .i64 oa) (fun _ => rfl); exact ⟨hk.cell (HS45.out.cell HQQ.out.1 (fun q => q)) (fun q => by have q2 : w.heap.size + 1 + 1 = w.heap.size := q; omega), hk.cell (HS45.out.cell HQQ.out.2 (fun q => q)) (fun q => by have q2 : w.heap.size + 1 + 1 = w.heap.size := q; omega)⟩))
  try simp only [Act.put, List.setIfInBounds_toArray, List.set_cons_zero, List.set_cons_succ]
  refine path_end ?_
  have h7a : VarAt ((w5.setCell ⟨w.heap.size, 3, none⟩ (.slice A' no cap')).setCell ⟨w.heap.size, 4, none⟩ (.int .i64 oa)) w.heap.size 63 (KC.cells ⟨client, wa, A', no, cap', oa, true, s, nu, PA, pn, pc⟩).toArray := by
    have := at_setCell (i := 4) (.int .i64 oa) (at_setCell (i := 3) (C := [.bool true, .int .i64 client, .int .i64 wa, .slice A n cap, .int .i64 acts, .bool true, .int .u32 s, .int .i64 nu, .slice PA pn pc]) (.slice A' no cap') H75.out)
    exact this
  have h14a : VarAt ((w5.setCell ⟨w.heap.size, 3, none⟩ (.slice A' no cap')).setCell ⟨w.heap.size, 4, none⟩ (.int .i64 oa)) (w.heap.size + 1 + 1 + 1) 63 #[.bool false, .int .i64 0, .int .i64 0, .slice none 0 0, .int .i64 0, .bool false, .int .u32 0, .int .i64 0, .slice none 0 0] := at_setCell_other _ (by omega) (at_setCell_other _ (by omega) ((HQ.out.2.1.drew).same HS45.out))
  have HSA : Hid (Same w ((w5.setCell ⟨w.heap.size, 3, none⟩ (.slice A' no cap')).setCell ⟨w.heap.size, 4, none⟩ (.int .i64 oa))) := Lib.hid (((HQ.out.2.2.2.1.drew.trans HS45.out).setCell _ _ (fun q => by have q2 : w.heap.size < w.heap.size := q; omega)).setCell _ _ (fun q => by have q2 : w.heap.size < w.heap.size := q; omega))
  have hld := run_load_kc (x := ⟨client, wa, A', no, cap', oa, true, s, nu, PA, pn, pc⟩) h7a
  have H14 := Lib.hid h14a
  clear h7a h14a
  go_wp2_with (first | (refine wpl_loadv _ _ _ rfl hld ?_) | (refine wpl_storeRow _ rfl rfl H14.out (by kernel_rfl) rfl (KC.one _) ?_))
  have e0 : 0 + no = no := Nat.zero_add no
  have HO := HOWN.out
  rw [e0, List.nil_append] at HO
  obtain ⟨A2, cap2, hv, hsa⟩ := StrsAt.of_own HO
  cases hv
  refine bodyPost_ret (results_cell_tmp Try.results25 rfl (run_load_kc (x := KC.set ⟨ho, wa, A, n, cap, acts, us, la, nu, PA, pn, pc⟩ client s oa A' no cap') (H14.out.put _))) rfl ⟨A', cap', rfl, ?_, fun hp g o hA => ?_, ?_⟩
  · refine hsa.1.chg2 (S := fun x => x < w4.heap.size) ?_ (fun hp b o hA q => ?_)
    · exact (((Chg.refl _ _).setCell _ _ (fun _ => by show w.heap.size < _; omega)).setCell _ _ (fun _ => by show w.heap.size < _; omega)).setRow _ _ (fun _ => by omega)
    · subst hA
      have := HO.lt b (by
        rcases HO.2 with ⟨q, _⟩ | ⟨g', cap', cur, hq, _⟩
        · cases q
        · cases hq; rfl)
      omega
  · subst hA
    have := HO.lt g (by
      rcases HO.2 with ⟨q, _⟩ | ⟨g', cap', cur, hq, _⟩
      · cases q
      · cases hq; rfl)
    omega
  · exact HSA.out.setRow _ _ (fun q => by omega)
end Go.Proofs.Ytndldjopgbhphaa
