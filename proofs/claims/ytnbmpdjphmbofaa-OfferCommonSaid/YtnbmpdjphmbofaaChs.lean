/- offer.Choose. -/
import Derived.Test.YtnbmpdjphmbofaaChk
set_option linter.unusedVariables false
set_option linter.unusedSimpArgs false
set_option maxRecDepth 100000
namespace Go.Proofs.Ytnbmpdjphmbofaa
open Go.RowKit

/-- offer.Choose. -/
def chooseV (fs ws : List ByteArray) : ByteArray × Bool := match ws.find? (fun x => hasS fs x) with | some x => (x, true) | none => (ByteArray.empty, false)
theorem choose_nil (fs : List ByteArray) : chooseV fs [] = (ByteArray.empty, false) := rfl
theorem choose_cons (fs : List ByteArray) (x : ByteArray) (ws : List ByteArray) : chooseV fs (x :: ws) = if hasS fs x then (x, true) else chooseV fs ws := by
  unfold chooseV
  rw [List.find?_cons]
  cases hasS fs x <;> rfl
set_option maxRecDepth 100000 in
set_option maxHeartbeats 4000000 in
theorem choose_ok (A : Option Addr) (n cap : Nat) (fs : List ByteArray) (acts : Int) (B : Option Addr) (m cb : Nat) (ws : List ByteArray) (w : World) (h : StrsAt w A n fs) (hn : n ≤ 1000000) (hb : StrsAt w B m ws) (hm : m ≤ 1000000) :
    Calls Try.prog 19 #[.agg #[.slice A n cap, .int .i64 acts], .slice B m cb] w fun e w' => e = .returned (.tuple #[.string (chooseV fs ws).1, .bool (chooseV fs ws).2]) ∧ Same w w' := by
  have HA := Lib.hid (h.same ((Chg.refl (fun _ => False) w).alloc (.cells #[.slice A n cap, .int .i64 acts] 29)))
  have HB := Lib.hid (hb.same ((Chg.refl (fun _ => False) w).alloc (.cells #[.slice A n cap, .int .i64 acts] 29)))
  clear h hb
  go_enter Try.func19, Try.ntmps19
  go_wp2
  go_loop [10] (fun v10 => ∃ i : Nat, i ≤ m ∧ v10 = .int .i64 i ∧ chooseV fs ws = chooseV fs (ws.drop i)) (fun v10 => m - (intOf v10).toNat)
  case atStart => exact ⟨0, by omega, rfl, rfl⟩
  case round =>
    obtain ⟨i, hi, rfl, hf⟩ := hrel
    have HF := Lib.hid hf
    clear hf
    by_cases hlt : i < m
    · have hil : i < ws.length := by rw [HB.out.1]; exact hlt
      obtain ⟨b, o, rfl, hbl, hc⟩ := HB.out.2 (by omega)
      obtain ⟨y, hy⟩ : ∃ y, y = ws[i] := ⟨_, rfl⟩
      have hcell := hc i y (by rw [hy]; exact List.getElem?_eq_getElem hil)
      have HD := Lib.hid (show ws.drop i = y :: ws.drop (i + 1) by rw [hy]; exact List.drop_eq_getElem_cons hil)
      have hii : (i : Int) < m := by omega
      clear hc hy hbl hil
      cases hb : hasS fs y
      · have HH := Lib.hid hb
        go_wp2_with fail
        refine (containsStrs_ok _ n cap fs y _ HA.out hn).mono ?_
        rw [hb]
        rintro e w' ⟨rfl, rfl⟩
        go_wp2
        go_round
        case rel => exact ⟨i + 1, by omega, by go_num, by rw [HF.out, HD.out, choose_cons, HH.out]; rfl⟩
        case measure => simp [intOf]; omega
      · have HH := Lib.hid hb
        go_wp2_with fail
        refine (containsStrs_ok _ n cap fs y _ HA.out hn).mono ?_
        rw [hb]
        rintro e w' ⟨rfl, rfl⟩
        have HE := Lib.hid (show chooseV fs ws = (y, true) by rw [HF.out, HD.out, choose_cons, HH.out]; rfl)
        go_wp2
        go_ret2
        exact ⟨by rw [HE.out]; rfl, (Chg.refl (fun _ => False) w).alloc _⟩
    · have hlt' : ¬ (i : Int) < m := by omega
      have HE := Lib.hid (show chooseV fs ws = (ByteArray.empty, false) by rw [HF.out, show i = ws.length by rw [HB.out.1]; omega, List.drop_length]; rfl)
      go_wp2
      go_ret2
      exact ⟨by rw [HE.out]; rfl, (Chg.refl (fun _ => False) w).alloc _⟩
end Go.Proofs.Ytnbmpdjphmbofaa
