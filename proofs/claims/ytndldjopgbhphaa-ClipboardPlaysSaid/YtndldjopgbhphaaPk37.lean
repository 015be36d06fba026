/- Parts of the walk, packed: NewK, KV42. -/
import Derived.Test.YtndldjopgbhphaaSerY
import Derived.Test.YtndldjopgbhphaaKM42
set_option linter.unusedVariables false
set_option linter.unusedSimpArgs false
set_option maxRecDepth 100000
namespace Go.Proofs.Ytndldjopgbhphaa
open Go.RowKit

theorem newerB_eq (a b : Int) : newerB a b = (decide (1 ≤ (a - b) % 4294967296) && decide ((a - b) % 4294967296 < 2147483648)) := by
  unfold newerB wrap32
  rw [Bool.eq_iff_iff]
  simp only [Bool.and_eq_true, decide_eq_true_eq]
  omega
theorem refNewer_ok (a b : Int) (w : World) :
    Calls Try.prog 88 #[.int .u32 a, .int .u32 b] w fun e w' => e = .returned (.bool (newerB a b)) ∧ w = w' := by
  rw [newerB_eq]
  generalize hd : (a - b) % 4294967296 = d
  have HD := Lib.hid hd
  have h0 : 0 ≤ d ∧ d < 4294967296 := by omega
  by_cases h1 : 1 ≤ d
  · go_enter Try.func88, Try.ntmps88
    go_wp2
    go_ret
    exact ⟨by simp [h1], rfl⟩
  · go_enter Try.func88, Try.ntmps88
    go_wp2
    go_ret
    exact ⟨by simp; omega, rfl⟩

end Go.Proofs.Ytndldjopgbhphaa

namespace Go.Proofs.Ytndldjopgbhphaa
open Go.RowKit

theorem infoKC : (Try.prog.info? 63).map (fun i => i.size) = some 9 := by kernel_rfl
theorem run_load_kc {w : World} {g : Nat} {x : KC} (h : VarAt w g 63 x.cells.toArray) : (loadVar 63 ⟨g, 0, none⟩).run Try.prog w = .ok (.agg x.cells.toArray) w :=
  run_loadMid (P := Try.prog) (C := x.cells) 63 0 9 _ h infoKC Try.underlying63 rfl (by simp [KC.cells])
theorem KC.one (x : KC) : x.cells.toArray.all (·.oneCell') = true := by simp [KC.cells, Value.oneCell']
def lgc (N : Nat) (A : Option Addr) (n cap : Nat) : Array Value := #[.int .i64 N, .slice A n cap]
theorem lgc_one (N : Nat) (A : Option Addr) (n cap : Nat) : (lgc N A n cap).all (·.oneCell') = true := by simp [lgc, Value.oneCell']
theorem VarAt.ldL {w : World} {g N : Nat} {A : Option Addr} {n cap : Nat} (h : VarAt w g 58 (lgc N A n cap)) : (loadVar 58 ⟨g, 0, none⟩).run Try.prog w = .ok (.agg (lgc N A n cap)) w := run_load_rlog h
theorem rcheck_v (v : Int) (A : Option Addr) (N n cap base : Nat) (l : List Ent) (s client kinds : Int) (w : World) (h : SlotsAt w base A n l) (hn : n ≤ 1000) (hk : ∀ e ∈ l, 0 ≤ e.k ∧ e.k ≤ 62) (hv : rCheck l s client kinds = v) :
    Calls Try.prog 87 #[.agg #[.int .i64 N, .slice A n cap], .int .u32 s, .int .i64 client, .int .i64 kinds] w fun e w' => e = .returned (.int .i64 v) ∧ Same w w' := by
  subst hv; exact rCheck_ok A N n cap base l s client kinds w h hn hk
theorem SlotsAt.same {w w' : World} {base : Nat} {A : Option Addr} {n : Nat} {l : List Ent} (h : SlotsAt w base A n l) (k : Same w w') : SlotsAt w' base A n l := h.chg k (fun _ _ _ _ q => q)
theorem knew_ok (w : World) : Calls Try.prog 24 #[] w fun e w' => e = .returned (.agg KC.zero.cells.toArray) ∧ Same w w' := by
  go_enter Try.func24, Try.ntmps24
  go_wp2
  exact bodyPost_ret (results_cell1 Try.results24 rfl (run_load_kc (x := KC.zero) (at_new _ _))) rfl ⟨rfl, (Chg.refl _ _).alloc _⟩
theorem kowner_ok (v : Int) (x : KC) (w : World) (hv : x.ho = v) : Calls Try.prog 34 #[.agg x.cells.toArray] w fun e w' => e = .returned (.int .i64 v) ∧ Same w w' := by
  subst hv
  obtain ⟨ho, wa, A, n, cap, acts, us, la, nu, PA, pn, pc⟩ := x
  unfold KC.cells
  go_enter Try.func34, Try.ntmps34
  go_wp2
  go_ret
  exact ⟨rfl, (Chg.refl _ _).alloc _⟩
set_option maxRecDepth 100000 in
set_option maxHeartbeats 4000000 in
theorem kvalid_ok (bv : Bool) (ho wa : Int) (A : Option Addr) (n cap : Nat) (acts : Int) (us : Bool) (la nu : Int) (PA : Option Addr) (pn pc : Nat) (N : Nat) (LA : Option Addr) (ln lc : Nat) (l : List Ent) (client s : Int) (w : World) (h : SlotsAt w 0 LA ln l) (hn : ln ≤ 1000) (hk : ∀ e ∈ l, 0 ≤ e.k ∧ e.k ≤ 62) (hv : KC.validB ⟨ho, wa, A, n, cap, acts, us, la, nu, PA, pn, pc⟩ l client s = bv) :
    Calls Try.prog 64 #[.agg #[.bool true, .int .i64 ho, .int .i64 wa, .slice A n cap, .int .i64 acts, .bool us, .int .u32 la, .int .i64 nu, .slice PA pn pc], .agg #[.int .i64 N, .slice LA ln lc], .int .i64 client, .int .u32 s] w fun e w' => e = .returned (.bool bv) ∧ Same w w' := by
  subst hv
  obtain ⟨v1, h1⟩ : ∃ v1, rCheck l s client 2576 = v1 := ⟨_, rfl⟩
  have e : KC.validB ⟨ho, wa, A, n, cap, acts, us, la, nu, PA, pn, pc⟩ l client s = ((v1 == 0) && (!us || newerB s la)) := by unfold KC.validB; rw [h1]
  rw [e]
  have HA := Lib.hid (And.intro h (And.intro hk h1))
  clear e h hk h1
  have HB : Hid (VarAt ((w.alloc (.cells #[.bool true, .int .i64 ho, .int .i64 wa, .slice A n cap, .int .i64 acts, .bool us, .int .u32 la, .int .i64 nu, .slice PA pn pc] 63)).alloc (.cells #[.int .i64 N, .slice LA ln lc] 58)) w.heap.size 63 #[.bool true, .int .i64 ho, .int .i64 wa, .slice A n cap, .int .i64 acts, .bool us, .int .u32 la, .int .i64 nu, .slice PA pn pc] ∧ Same w ((w.alloc (.cells #[.bool true, .int .i64 ho, .int .i64 wa, .slice A n cap, .int .i64 acts, .bool us, .int .u32 la, .int .i64 nu, .slice PA pn pc] 63)).alloc (.cells #[.int .i64 N, .slice LA ln lc] 58))) := Lib.hid ⟨(VarAt.new _ _ _).alloc _, ((Chg.refl _ _).alloc _).alloc _⟩
  cases hb1 : (v1 == 0)
  · have HB1 := Lib.hid hb1
    go_enter Try.func64, Try.ntmps64
    go_wp2_with (first | (go_at_call 87; refine (rcheck_v v1 LA N ln lc 0 l s client 2576 _ (HA.out.1.same HB.out.2) hn HA.out.2.1 HA.out.2.2).mono ?_; rintro e w3 ⟨rfl, hs3⟩; have HS3 := Lib.hid hs3; clear hs3))
    go_ret
    exact ⟨rfl, HB.out.2.trans HS3.out⟩
  · have HB1 := Lib.hid hb1
    cases us
    · go_enter Try.func64, Try.ntmps64
      go_wp2_with (first | (go_at_call 87; refine (rcheck_v v1 LA N ln lc 0 l s client 2576 _ (HA.out.1.same HB.out.2) hn HA.out.2.1 HA.out.2.2).mono ?_; rintro e w3 ⟨rfl, hs3⟩; have z5 := cell_at (C := [.bool true, .int .i64 ho, .int .i64 wa, .slice A n cap, .int .i64 acts, .bool false, .int .u32 la, .int .i64 nu, .slice PA pn pc]) (HB.out.1.same hs3) 5; have z6 := cell_at (C := [.bool true, .int .i64 ho, .int .i64 wa, .slice A n cap, .int .i64 acts, .bool false, .int .u32 la, .int .i64 nu, .slice PA pn pc]) (HB.out.1.same hs3) 6; simp only [List.getElem?_cons_zero, List.getElem?_cons_succ] at z5 z6; have HS3 := Lib.hid hs3; clear hs3))
      go_ret
      exact ⟨rfl, HB.out.2.trans HS3.out⟩
    · go_enter Try.func64, Try.ntmps64
      go_wp2_with (first | (go_at_call 87; refine (rcheck_v v1 LA N ln lc 0 l s client 2576 _ (HA.out.1.same HB.out.2) hn HA.out.2.1 HA.out.2.2).mono ?_; rintro e w3 ⟨rfl, hs3⟩; have z5 := cell_at (C := [.bool true, .int .i64 ho, .int .i64 wa, .slice A n cap, .int .i64 acts, .bool true, .int .u32 la, .int .i64 nu, .slice PA pn pc]) (HB.out.1.same hs3) 5; have z6 := cell_at (C := [.bool true, .int .i64 ho, .int .i64 wa, .slice A n cap, .int .i64 acts, .bool true, .int .u32 la, .int .i64 nu, .slice PA pn pc]) (HB.out.1.same hs3) 6; simp only [List.getElem?_cons_zero, List.getElem?_cons_succ] at z5 z6; have HS3 := Lib.hid hs3; clear hs3) | (go_at_call 88; refine (refNewer_ok _ _ _).mono ?_; rintro e w4 ⟨rfl, rfl⟩))
      go_ret
      exact ⟨rfl, HB.out.2.trans HS3.out⟩
end Go.Proofs.Ytndldjopgbhphaa
