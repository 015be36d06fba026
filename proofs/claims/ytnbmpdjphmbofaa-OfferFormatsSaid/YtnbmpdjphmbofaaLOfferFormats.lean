/- The walk of OfferFormats: for all arguments it returns true and leaves what was there as it was. -/
import Derived.Test.YtnbmpdjphmbofaaEx40
import Derived.Test.YtnbmpdjphmbofaaFmtP
import Derived.Laws.Concat
set_option linter.unusedVariables false
set_option linter.unusedSimpArgs false
namespace Go.Proofs.Ytnbmpdjphmbofaa
open Go.RowKit

set_option maxRecDepth 100000 in
set_option maxHeartbeats 4000000 in
theorem formats_bad (s : ByteArray) (w : World) (h : 100 < s.size ∨ (s.size ≤ 100 ∧ validB s = false)) (hs : s.size ≤ 9223372036854775807) : Calls Try.prog 7 #[.string s] w fun e w' => e = .returned (.bool true) ∧ Same w w' := by
  rcases h with h | ⟨h, hv⟩
  · have h1 : (100 : Int) < s.size := by omega
    go_enter Try.func7, Try.ntmps7
    go_wp2_with fail
    refine (valid_v _ false _ (by decide +kernel)).mono ?_
    rintro e w' ⟨rfl, rfl⟩
    go_wp2_with fail
    refine (example40_ok _).mono ?_
    rintro e w2 ⟨rfl, hs2⟩
    have HS2 := Lib.hid hs2
    clear hs2
    go_wp2
    go_ret
    exact ⟨rfl, HS2.out⟩
  · have h1 : ¬ (100 : Int) < s.size := by omega
    have HV := Lib.hid hv
    clear hv
    go_enter Try.func7, Try.ntmps7
    go_wp2_with fail
    refine (valid_v _ false _ HV.out).mono ?_
    rintro e w' ⟨rfl, rfl⟩
    go_wp2_with fail
    refine (valid_v _ false _ (by decide +kernel)).mono ?_
    rintro e w' ⟨rfl, rfl⟩
    go_wp2_with fail
    refine (example40_ok _).mono ?_
    rintro e w2 ⟨rfl, hs2⟩
    have HS2 := Lib.hid hs2
    clear hs2
    go_wp2
    go_ret
    exact ⟨rfl, HS2.out⟩

set_option maxRecDepth 100000 in
set_option maxHeartbeats 4000000 in
theorem formats_good (s : ByteArray) (w : World) (hv : validB s = true) : Calls Try.prog 7 #[.string s] w fun e w' => e = .returned (.bool true) ∧ Same w w' := by
  have hc := valid_slash hv
  have HC := Lib.hid hc.1
  have h3 : (3 : Int) ≤ s.size := by omega
  have h64 : (s.size : Int) ≤ 64 := by omega
  have h1 : ¬ (100 : Int) < s.size := by omega
  have HV := Lib.hid hv
  have HL := Lib.hid (strB_length s)
  have HM := Lib.hid (valid_more hv)
  have HA := Lib.hid (valid_semi hv)
  have HB := Lib.hid (valid_again hv)
  clear hv hc
  go_enter Try.func7, Try.ntmps7
  go_wp2_with fail
  refine (valid_v _ true _ HV.out).mono ?_
  rintro e w' ⟨rfl, rfl⟩
  go_wp2_with fail
  go_loop [3, 4] (fun v3 v4 => ∃ i : Nat, i ≤ s.size ∧ v4 = .int .i64 i ∧ v3 = .int .i64 (((strB s).take i).count 47 : Nat)) (fun v3 v4 => s.size - (intOf v4).toNat)
  case atStart => exact ⟨0, by omega, rfl, rfl⟩
  case round =>
    obtain ⟨i, hi, rfl, rfl⟩ := hrel
    by_cases hlt : i < s.size
    · have hii : (i : Int) < s.size := by omega
      have hx : (strB s)[i]? = some ((strB s)[i]'(by rw [HL.out]; exact hlt)) := List.getElem?_eq_getElem (by rw [HL.out]; exact hlt)
      have hd : (strB s).take (i + 1) = (strB s).take i ++ [(strB s)[i]'(by rw [HL.out]; exact hlt)] := by rw [List.take_add_one, hx]; rfl
      generalize (strB s)[i]'(by rw [HL.out]; exact hlt) = x at hx hd
      have hrun := run_at hx w
      have HD := Lib.hid hd
      obtain ⟨k, hk⟩ : ∃ k, ((strB s).take i).count 47 = k := ⟨_, rfl⟩
      have hkl : k ≤ i := by rw [← hk]; exact Nat.le_trans List.count_le_length (by rw [List.length_take]; omega)
      rw [hk]
      have HK := Lib.hid hk
      clear hx hd hk
      by_cases h47 : x = 47
      · subst h47
        go_wp2_with fail
        go_round
        case rel => exact ⟨i + 1, by omega, by go_num, by rw [HD.out, List.count_append, HK.out]; go_num⟩
        case measure => simp [intOf]; omega
      · have h47' : (x == 47) = false := by simpa using h47
        have H47 := Lib.hid h47
        clear h47
        go_wp2_with fail
        go_round
        case rel => exact ⟨i + 1, by omega, by go_num, by rw [HD.out, List.count_append, HK.out, List.count_cons_of_ne H47.out]; rfl⟩
        case measure => simp [intOf]; omega
    · have hlt' : ¬ (i : Int) < s.size := by omega
      have hk : ((strB s).take i).count 47 = 1 := by rw [List.take_of_length_le (by rw [HL.out]; omega)]; exact HC.out
      rw [hk]
      clear hk
      have hrm := fun w : World => run_string_add_sum (P := Try.prog) w s ⟨#[59, 97, 61, 49]⟩ (by have e : (⟨#[59, 97, 61, 49]⟩ : ByteArray).size = 4 := rfl; rw [e]; omega)
      have hra := fun w : World => run_string_add_sum (P := Try.prog) w s ⟨#[59]⟩ (by have e : (⟨#[59]⟩ : ByteArray).size = 1 := rfl; rw [e]; omega)
      have hrb := fun w : World => run_string_add_sum (P := Try.prog) w s ⟨#[47, 97]⟩ (by have e : (⟨#[47, 97]⟩ : ByteArray).size = 2 := rfl; rw [e]; omega)
      have HM2 := Lib.hid HM.out
      have HA2 := Lib.hid HA.out
      have HB2 := Lib.hid HB.out
      clear HM HA HB
      generalize s ++ (⟨#[59, 97, 61, 49]⟩ : ByteArray) = M at hrm HM2
      generalize s ++ (⟨#[59]⟩ : ByteArray) = MA at hra HA2
      generalize s ++ (⟨#[47, 97]⟩ : ByteArray) = MB at hrb HB2
      by_cases hm : (M.size : Int) ≤ 64
      · have HM3 : Hid (validB M = true) := Lib.hid (by rw [HM2.out]; exact decide_eq_true (by omega))
        go_wp2_with fail
        refine (valid_v _ true _ HM3.out).mono ?_
        rintro e w' ⟨rfl, rfl⟩
        go_wp2_with fail
        refine (valid_v _ false _ HA2.out).mono ?_
        rintro e w' ⟨rfl, rfl⟩
        go_wp2_with fail
        refine (valid_v _ false _ HB2.out).mono ?_
        rintro e w' ⟨rfl, rfl⟩
        go_wp2_with fail
        refine (example40_ok _).mono ?_
        rintro e w2 ⟨rfl, hs2⟩
        have HS2 := Lib.hid hs2
        clear hs2
        go_wp2
        go_ret
        exact ⟨rfl, HS2.out⟩
      · have HM4 := Lib.hid hm
        have HM3 : Hid (validB M = false) := Lib.hid (by rw [HM2.out]; exact decide_eq_false (by omega))
        go_wp2_with fail
        refine (valid_v _ false _ HM3.out).mono ?_
        rintro e w' ⟨rfl, rfl⟩
        go_wp2_with fail
        refine (valid_v _ false _ HA2.out).mono ?_
        rintro e w' ⟨rfl, rfl⟩
        go_wp2_with fail
        refine (valid_v _ false _ HB2.out).mono ?_
        rintro e w' ⟨rfl, rfl⟩
        go_wp2_with fail
        refine (example40_ok _).mono ?_
        rintro e w2 ⟨rfl, hs2⟩
        have HS2 := Lib.hid hs2
        clear hs2
        go_wp2
        go_ret
        exact ⟨by rw [show decide ((M.size : Int) ≤ 64) = false from decide_eq_false (by have := HM4.out; omega)]; rfl, HS2.out⟩

theorem OfferFormats_walk (s : ByteArray) (w : World) (hs : s.size ≤ 140737488351232) : Calls Try.prog 7 #[.string s] w fun e w' => e = .returned (.bool true) ∧ Same w w' := by
  cases hv : validB s
  · exact formats_bad s w (by by_cases h : 100 < s.size; exact .inl h; exact .inr ⟨by omega, hv⟩) (by omega)
  · exact formats_good s w hv
end Go.Proofs.Ytnbmpdjphmbofaa
