/- compositorref40.Has. -/
import Derived.Test.YtnbmpdjphmbofaaChk
import Derived.Test.YtnbmpdjphmbofaaUForm
import Derived.Test.YtnbmpdjphmbofaaPath
set_option linter.unusedVariables false
set_option linter.unusedSimpArgs false
set_option maxRecDepth 100000
namespace Go.Proofs.Ytnbmpdjphmbofaa
open Go.RowKit

theorem has_at {xs : List ByteArray} {x : ByteArray} {i : Nat} (h : xs[i]? = some x) : hasS xs x = true := List.any_eq_true.2 ⟨x, List.mem_of_getElem? h, decide_eq_true rfl⟩
theorem has_none {xs : List ByteArray} {x : ByteArray} (h : ∀ (j : Nat) y, xs[j]? = some y → ¬ x = y) : hasS xs x = false := by
  unfold hasS
  rw [List.any_eq_false]
  intro y hy
  obtain ⟨j, hj⟩ := List.getElem?_of_mem hy
  rw [decide_eq_true_eq]
  exact h j y hj
set_option maxRecDepth 100000 in
set_option maxHeartbeats 2000000 in
theorem uhas_ok (A : Option Addr) (n cap : Nat) (xs : List ByteArray) (x : ByteArray) (w : World) (h : StrsAt w A n xs) (hn : n ≤ 1000000) :
    Calls Try.prog 20 #[.slice A n cap, .string x] w fun e w' => e = .returned (.bool (hasS xs x)) ∧ w = w' := by
  have HA := Lib.hid h
  clear h
  go_enter Try.func20, Try.ntmps20
  go_wp2
  go_loop [5] (fun v5 => ∃ i : Nat, i ≤ n ∧ v5 = .int .i64 i ∧ ∀ (j : Nat) y, j < i → xs[j]? = some y → ¬ x = y) (fun v5 => n - (intOf v5).toNat)
  case atStart => exact ⟨0, by omega, rfl, fun j _ hj => by omega⟩
  case round =>
    obtain ⟨i, hi, rfl, hf⟩ := hrel
    have HF := Lib.hid hf
    clear hf
    by_cases hlt : i < n
    · have hil : i < xs.length := by rw [HA.out.1]; exact hlt
      obtain ⟨b, o, rfl, hbl, hc⟩ := HA.out.2 (by omega)
      obtain ⟨y, hy⟩ : ∃ y, y = xs[i] := ⟨_, rfl⟩
      have hy2 : xs[i]? = some y := by rw [hy]; exact List.getElem?_eq_getElem hil
      have hcell := hc i y hy2
      have HY := Lib.hid hy2
      have hii : (i : Int) < n := by omega
      clear hc hy hy2 hbl hil
      by_cases hb : y = x
      · subst hb
        have HV := Lib.hid (has_at HY.out)
        go_wp2
        go_ret
        exact ⟨by rw [HV.out]; rfl, rfl⟩
      · have hb' : decide (y = x) = false := decide_eq_false hb
        have hne := toList_ne hb
        have HB := Lib.hid hb
        clear hb
        go_wp2
        go_round
        case rel =>
          refine ⟨i + 1, by omega, by go_num, fun j z hj hz => ?_⟩
          by_cases e : j = i
          · subst e
            rw [HY.out] at hz
            cases hz
            exact fun h => HB.out h.symm
          · exact HF.out j z (by omega) hz
        case measure => simp [intOf]; omega
    · have hlt' : ¬ (i : Int) < n := by omega
      have HV := Lib.hid (has_none (xs := xs) (x := x) (fun j y hj => HF.out j y (by have := (List.getElem?_eq_some_iff.1 hj).1; rw [HA.out.1] at this; omega) hj))
      go_wp2
      go_ret
      exact ⟨by rw [HV.out]; rfl, rfl⟩
theorem uhas_v (b : Bool) (A : Option Addr) (n cap : Nat) (xs : List ByteArray) (x : ByteArray) (w : World) (h : StrsAt w A n xs) (hn : n ≤ 1000000) (hb : hasS xs x = b) :
    Calls Try.prog 20 #[.slice A n cap, .string x] w fun e w' => e = .returned (.bool b) ∧ w = w' := by
  subst hb
  exact uhas_ok A n cap xs x w h hn
end Go.Proofs.Ytnbmpdjphmbofaa
