/- The example of compositorlaw40 holds. -/
import Derived.Test.YtnbmpdjphmbofaaOffB
import Derived.Test.YtnbmpdjphmbofaaChs
import Derived.Test.YtnbmpdjphmbofaaAct
set_option linter.unusedVariables false
set_option linter.unusedSimpArgs false
set_option maxRecDepth 100000
namespace Go.Proofs.Ytnbmpdjphmbofaa
open Go.RowKit

theorem action_v (v s t p m : Int) (w : World) (h : actionV s t p m = v) : Calls Try.prog 17 #[.int .i64 s, .int .i64 t, .int .i64 p, .int .i64 m] w fun e w' => e = .returned (.int .i64 v) ∧ Same w w' := by
  subst h
  exact action_ok s t p m w
theorem choose_v (t : ByteArray) (b : Bool) (A : Option Addr) (n cap : Nat) (fs : List ByteArray) (acts : Int) (B : Option Addr) (m cb : Nat) (ws : List ByteArray) (w : World) (h : StrsAt w A n fs) (hn : n ≤ 1000000) (hb : StrsAt w B m ws) (hm : m ≤ 1000000) (hv : chooseV fs ws = (t, b)) :
    Calls Try.prog 19 #[.agg #[.slice A n cap, .int .i64 acts], .slice B m cb] w fun e w' => e = .returned (.tuple #[.string t, .bool b]) ∧ Same w w' := by
  refine (choose_ok A n cap fs acts B m cb ws w h hn hb hm).mono ?_
  rw [hv]
  exact fun e w' h => h
set_option maxRecDepth 100000 in
set_option maxHeartbeats 1000000 in
theorem example40_ok (w : World) : Calls Try.prog 11 #[] w fun e w' => e = .returned (.bool true) ∧ Same w w' := by
  go_enter Try.func11, Try.ntmps11
  go_wp2_with fail
  refine (choose_v ⟨#[99, 47, 100]⟩ true _ 2 2 [⟨#[97, 47, 98]⟩, ⟨#[99, 47, 100]⟩] 0 _ 3 3 [⟨#[120, 47, 121]⟩, ⟨#[99, 47, 100]⟩, ⟨#[97, 47, 98]⟩] _ ((strs_new _ _ _ 2 _ _ rfl rfl _ rfl).alloc _) (by omega) (strs_new _ _ _ 3 _ _ rfl rfl _ (by simp)) (by omega) (by decide +kernel)).mono ?_
  rintro e w1 ⟨rfl, hs1⟩
  have HS1 := Lib.hid ((((Chg.refl (fun _ => False) w).alloc _).alloc _).trans hs1)
  clear hs1
  go_wp2_with fail
  refine (valid_v _ true _ (by decide +kernel)).mono ?_
  rintro e w' ⟨rfl, rfl⟩
  go_wp2_with fail
  refine (valid_v _ false _ (by decide +kernel)).mono ?_
  rintro e w' ⟨rfl, rfl⟩
  go_wp2_with fail
  refine (action_v 2 7 6 1 0 _ (by decide +kernel)).mono ?_
  rintro e w2 ⟨rfl, hs2⟩
  have HS2 := Lib.hid (HS1.out.trans hs2)
  clear hs2 HS1
  go_wp2_with fail
  refine (action_v 4 7 7 4 0 _ (by decide +kernel)).mono ?_
  rintro e w3 ⟨rfl, hs3⟩
  have HS3 := Lib.hid (HS2.out.trans hs3)
  clear hs3 HS2
  go_wp2_with fail
  refine (action_v 1 7 7 4 5 _ (by decide +kernel)).mono ?_
  rintro e w4 ⟨rfl, hs4⟩
  have HS4 := Lib.hid (HS3.out.trans hs4)
  clear hs4 HS3
  go_wp2_with fail
  refine (ocheck_v 7 _ 2 2 [⟨#[97, 47, 98]⟩, ⟨#[97, 47, 98]⟩] 0 _ (strs_new _ _ _ 2 _ _ rfl rfl _ rfl) (by omega) (by unfold maxLen; omega) (by decide +kernel)).mono ?_
  rintro e w5 ⟨rfl, hs5⟩
  have HS5 := Lib.hid ((HS4.out.alloc _).trans hs5)
  clear hs5 HS4
  go_wp2_with fail
  go_ret
  exact ⟨rfl, HS5.out⟩
end Go.Proofs.Ytnbmpdjphmbofaa
