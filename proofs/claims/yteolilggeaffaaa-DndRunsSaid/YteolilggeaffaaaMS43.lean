/- compositorref43: Start. -/
import Derived.Test.YteolilggeaffaaaPk33
import Derived.Test.YteolilggeaffaaaPk20
import Derived.Test.YteolilggeaffaaaPk10
set_option linter.unusedVariables false
set_option linter.unusedSimpArgs false
set_option maxRecDepth 100000
namespace Go.Proofs.Yteolilggeaffaaa
open Go.RowKit

theorem ucheck_vs (v : Int) (A : Option Addr) (n cap : Nat) (fs : List ByteArray) (acts : Int) (w : World) (h : SArg w A n cap fs) (hz : ∀ f ∈ fs, f.size ≤ 140737488351232) (hv : checkV fs acts = v) :
    Calls Try.prog 33 #[.agg #[.slice A n cap, .int .i64 acts]] w fun e w' => e = .returned (.int .i64 v) ∧ Same w w' := by
  subst hv
  exact ucheck_ok A n cap fs acts w h.1 h.2.1 h.2.2 hz
theorem VarAt.newk {w : World} {T : TypeId} {cs : Array Value} {k : Nat} (e : w.heap.size = k) : VarAt (w.alloc (.cells cs T)) k T cs := by subst e; exact VarAt.new w T cs
set_option maxHeartbeats 4000000 in
theorem mstart_no (ph src cl tg : Int) (A : Option Addr) (n cap : Nat) (acts : Int) (f : ByteArray) (a p nm : Int) (tm : Bool) (la : Int) (PA : Option Addr) (pn pc : Nat) (fst : Int) (N : Nat) (LA : Option Addr) (ln lc : Nat) (l : List Ent) (client surface icon : Int) (Ao : Option Addr) (no co : Nat) (fs : List ByteArray) (oa s v : Int) (w : World)
    (h : SlotsAt w 0 LA ln l) (hn : ln ≤ 1000) (hk : ∀ e ∈ l, 0 ≤ e.k ∧ e.k ≤ 62) (ho : SArg w Ao no co fs) (hz : ∀ f ∈ fs, f.size ≤ 140737488351232)
    (hv : MD.startE ⟨ph, src, cl, tg, A, n, cap, acts, f, a, p, nm, tm, la, PA, pn, pc, fst⟩ l client surface icon fs oa s = v) (h0 : v ≠ 0) :
    Calls Try.prog 49 #[.agg #[.int .i64 ph, .int .i64 src, .int .i64 cl, .int .i64 tg, .slice A n cap, .int .i64 acts, .string f, .int .i64 a, .int .i64 p, .int .i64 nm, .bool tm, .int .i64 la, .slice PA pn pc, .int .i64 fst], .agg #[.int .i64 N, .slice LA ln lc], .int .i64 client, .int .i64 surface, .int .i64 icon, .agg #[.slice Ao no co, .int .i64 oa], .int .u32 s] w
      fun e w' => e = .returned (.tuple #[.agg #[.int .i64 ph, .int .i64 src, .int .i64 cl, .int .i64 tg, .slice A n cap, .int .i64 acts, .string f, .int .i64 a, .int .i64 p, .int .i64 nm, .bool tm, .int .i64 la, .slice PA pn pc, .int .i64 fst], .int .i64 v]) ∧ Same w w' := by
  have HA := Lib.hid (And.intro h (And.intro hk (And.intro ho hz)))
  clear h hk ho hz
  unfold MD.startE at hv
  by_cases h1 : client < 1 ∨ surface < 1 ∨ icon < 0
  · rw [if_pos h1] at hv
    subst hv
    clear h0
    rcases h1 with h1 | h1 | h1
    · go_enter Try.func49, Try.ntmps49
      go_wp2
      refine bodyPost_ret (results_cell_tmp Try.results49 rfl (run_load_md (x := ⟨ph, src, cl, tg, A, n, cap, acts, f, a, p, nm, tm, la, PA, pn, pc, fst⟩) (VarAt.newk (by simp)))) rfl ⟨rfl, ((((Chg.refl _ _).alloc _).alloc _).alloc _).alloc _⟩
    · by_cases h2 : client < 1
      all_goals
        go_enter Try.func49, Try.ntmps49
        go_wp2
        refine bodyPost_ret (results_cell_tmp Try.results49 rfl (run_load_md (x := ⟨ph, src, cl, tg, A, n, cap, acts, f, a, p, nm, tm, la, PA, pn, pc, fst⟩) (VarAt.newk (by simp)))) rfl ⟨rfl, ((((Chg.refl _ _).alloc _).alloc _).alloc _).alloc _⟩
    · by_cases h2 : client < 1
      · go_enter Try.func49, Try.ntmps49
        go_wp2
        refine bodyPost_ret (results_cell_tmp Try.results49 rfl (run_load_md (x := ⟨ph, src, cl, tg, A, n, cap, acts, f, a, p, nm, tm, la, PA, pn, pc, fst⟩) (VarAt.newk (by simp)))) rfl ⟨rfl, ((((Chg.refl _ _).alloc _).alloc _).alloc _).alloc _⟩
      · by_cases h3 : surface < 1
        all_goals
          go_enter Try.func49, Try.ntmps49
          go_wp2
          refine bodyPost_ret (results_cell_tmp Try.results49 rfl (run_load_md (x := ⟨ph, src, cl, tg, A, n, cap, acts, f, a, p, nm, tm, la, PA, pn, pc, fst⟩) (VarAt.newk (by simp)))) rfl ⟨rfl, ((((Chg.refl _ _).alloc _).alloc _).alloc _).alloc _⟩
  · have c1 : ¬ client < 1 := fun q => h1 (.inl q)
    have c2 : ¬ surface < 1 := fun q => h1 (.inr (.inl q))
    have c3 : ¬ icon < 0 := fun q => h1 (.inr (.inr q))
    rw [if_neg h1] at hv
    clear h1
    by_cases h1 : ph ≠ 0
    · have b1 : (ph != 0) = true := by simp [h1]
      have b2 : (ph == 0) = false := by simp [h1]
      rw [if_pos h1] at hv
      subst hv
      clear h0 h1
      go_enter Try.func49, Try.ntmps49
      go_wp2
      refine bodyPost_ret (results_cell_tmp Try.results49 rfl (run_load_md (x := ⟨ph, src, cl, tg, A, n, cap, acts, f, a, p, nm, tm, la, PA, pn, pc, fst⟩) (VarAt.newk (by simp)))) rfl ⟨rfl, ((((Chg.refl _ _).alloc _).alloc _).alloc _).alloc _⟩
    · rw [if_neg h1] at hv
      obtain rfl : ph = 0 := Decidable.not_not.1 h1
      clear h1
      have HX : Hid (VarAt ((((w.alloc (.cells #[.int .i64 0, .int .i64 src, .int .i64 cl, .int .i64 tg, .slice A n cap, .int .i64 acts, .string f, .int .i64 a, .int .i64 p, .int .i64 nm, .bool tm, .int .i64 la, .slice PA pn pc, .int .i64 fst] 56)).alloc (.cells #[.int .i64 N, .slice LA ln lc] 60)).alloc (.cells #[.slice Ao no co, .int .i64 oa] 24)).alloc (.cells #[.int .i64 0, .int .i64 0, .int .i64 0, .int .i64 0, .slice none 0 0, .int .i64 0, .string ⟨#[]⟩, .int .i64 0, .int .i64 0, .int .i64 0, .bool false, .int .i64 0, .slice none 0 0, .int .i64 0] 56)) w.heap.size 56 #[.int .i64 0, .int .i64 src, .int .i64 cl, .int .i64 tg, .slice A n cap, .int .i64 acts, .string f, .int .i64 a, .int .i64 p, .int .i64 nm, .bool tm, .int .i64 la, .slice PA pn pc, .int .i64 fst] ∧
        VarAt ((((w.alloc (.cells #[.int .i64 0, .int .i64 src, .int .i64 cl, .int .i64 tg, .slice A n cap, .int .i64 acts, .string f, .int .i64 a, .int .i64 p, .int .i64 nm, .bool tm, .int .i64 la, .slice PA pn pc, .int .i64 fst] 56)).alloc (.cells #[.int .i64 N, .slice LA ln lc] 60)).alloc (.cells #[.slice Ao no co, .int .i64 oa] 24)).alloc (.cells #[.int .i64 0, .int .i64 0, .int .i64 0, .int .i64 0, .slice none 0 0, .int .i64 0, .string ⟨#[]⟩, .int .i64 0, .int .i64 0, .int .i64 0, .bool false, .int .i64 0, .slice none 0 0, .int .i64 0] 56)) (w.heap.size + 1 + 1 + 1) 56 #[.int .i64 0, .int .i64 0, .int .i64 0, .int .i64 0, .slice none 0 0, .int .i64 0, .string ⟨#[]⟩, .int .i64 0, .int .i64 0, .int .i64 0, .bool false, .int .i64 0, .slice none 0 0, .int .i64 0] ∧
        VarAt ((((w.alloc (.cells #[.int .i64 0, .int .i64 src, .int .i64 cl, .int .i64 tg, .slice A n cap, .int .i64 acts, .string f, .int .i64 a, .int .i64 p, .int .i64 nm, .bool tm, .int .i64 la, .slice PA pn pc, .int .i64 fst] 56)).alloc (.cells #[.int .i64 N, .slice LA ln lc] 60)).alloc (.cells #[.slice Ao no co, .int .i64 oa] 24)).alloc (.cells #[.int .i64 0, .int .i64 0, .int .i64 0, .int .i64 0, .slice none 0 0, .int .i64 0, .string ⟨#[]⟩, .int .i64 0, .int .i64 0, .int .i64 0, .bool false, .int .i64 0, .slice none 0 0, .int .i64 0] 56)) (w.heap.size + 1) 60 #[.int .i64 N, .slice LA ln lc] ∧
        Same w ((((w.alloc (.cells #[.int .i64 0, .int .i64 src, .int .i64 cl, .int .i64 tg, .slice A n cap, .int .i64 acts, .string f, .int .i64 a, .int .i64 p, .int .i64 nm, .bool tm, .int .i64 la, .slice PA pn pc, .int .i64 fst] 56)).alloc (.cells #[.int .i64 N, .slice LA ln lc] 60)).alloc (.cells #[.slice Ao no co, .int .i64 oa] 24)).alloc (.cells #[.int .i64 0, .int .i64 0, .int .i64 0, .int .i64 0, .slice none 0 0, .int .i64 0, .string ⟨#[]⟩, .int .i64 0, .int .i64 0, .int .i64 0, .bool false, .int .i64 0, .slice none 0 0, .int .i64 0] 56))) :=
        Lib.hid ⟨(((VarAt.new _ _ _).alloc _).alloc _).alloc _, VarAt.newk (by simp), ((VarAt.newk (by simp)).alloc _).alloc _, ((((Chg.refl _ _).alloc _).alloc _).alloc _).alloc _⟩
      obtain ⟨v1, hv1⟩ : ∃ v1, checkV fs oa = v1 := ⟨_, rfl⟩
      rw [hv1] at hv
      have HV1 := Lib.hid hv1
      clear hv1
      by_cases h2 : v1 ≠ 0
      · rw [if_pos h2] at hv
        subst hv
        have b1 : (v1 != 0) = true := by simp [h2]
        have b2 : (v1 == 0) = false := by simp [h2]
        clear h0 h2
        go_enter Try.func49, Try.ntmps49
        go_wp2_with fail
        refine (ucheck_vs v1 Ao no co fs oa _ (HA.out.2.2.1.same HX.out.2.2.2) HA.out.2.2.2 HV1.out).mono ?_
        rintro e w2 ⟨rfl, hs⟩
        have hld := VarAt.ldD (x := ⟨0, src, cl, tg, A, n, cap, acts, f, a, p, nm, tm, la, PA, pn, pc, fst⟩) (HX.out.1.same hs)
        have h14 := HX.out.2.1.same hs
        have HS := Lib.hid (HX.out.2.2.2.trans hs)
        clear hs
        go_wp2_with (first | (refine wpl_loadv _ _ _ rfl hld ?_) | (refine wpl_storeRow _ rfl rfl h14 (by kernel_rfl) rfl (MD.one _) ?_))
        refine bodyPost_ret (results_cell_tmp Try.results49 rfl (VarAt.ldD (x := ⟨0, src, cl, tg, A, n, cap, acts, f, a, p, nm, tm, la, PA, pn, pc, fst⟩) (h14.put _))) rfl ⟨rfl, HS.out.setRow _ _ (fun q => by omega)⟩
      · rw [if_neg h2] at hv
        obtain rfl : v1 = 0 := Decidable.not_not.1 h2
        clear h2
        cases h3 : rvalidB l client surface s
        · rw [h3] at hv
          obtain rfl : v = 13 := hv.symm
          have HV3 := Lib.hid h3
          clear h0 h3 hv
          go_enter Try.func49, Try.ntmps49
          go_wp2_with fail
          refine (ucheck_vs 0 Ao no co fs oa _ (HA.out.2.2.1.same HX.out.2.2.2) HA.out.2.2.2 HV1.out).mono ?_
          rintro e w2 ⟨rfl, hs⟩
          have hld := VarAt.ldL (N := N) (HX.out.2.2.1.same hs)
          unfold lgc at hld
          have HB := Lib.hid (And.intro (HX.out.1.same hs) (HX.out.2.1.same hs))
          have HS := Lib.hid (HX.out.2.2.2.trans hs)
          clear hs
          go_wp2_with (refine wpl_loadv _ _ _ rfl hld ?_)
          refine (mvalid_ok false LA N ln lc l client surface s _ (HA.out.1.same HS.out) hn HA.out.2.1 HV3.out).mono ?_
          rintro e w3 ⟨rfl, hs⟩
          have hld := VarAt.ldD (x := ⟨0, src, cl, tg, A, n, cap, acts, f, a, p, nm, tm, la, PA, pn, pc, fst⟩) (HB.out.1.same hs)
          have h14 := HB.out.2.same hs
          have HS3 := Lib.hid (HS.out.trans hs)
          clear hs
          go_wp2_with (first | (refine wpl_loadv _ _ _ rfl hld ?_) | (refine wpl_storeRow _ rfl rfl h14 (by kernel_rfl) rfl (MD.one _) ?_))
          refine bodyPost_ret (results_cell_tmp Try.results49 rfl (VarAt.ldD (x := ⟨0, src, cl, tg, A, n, cap, acts, f, a, p, nm, tm, la, PA, pn, pc, fst⟩) (h14.put _))) rfl ⟨rfl, HS3.out.setRow _ _ (fun q => by omega)⟩
        · rw [h3] at hv
          exact absurd hv.symm h0
end Go.Proofs.Yteolilggeaffaaa
