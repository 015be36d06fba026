/- Parts of the walk, packed: UHas, UVal. -/
import Derived.Test.YtndldjopgbhphaaPk13
import Derived.Test.YtndldjopgbhphaaUForm
import Derived.Test.YtndldjopgbhphaaPk01
set_option linter.unusedVariables false
set_option linter.unusedSimpArgs false
set_option maxRecDepth 100000
namespace Go.Proofs.Ytndldjopgbhphaa
open Go.RowKit

theorem has_at {xs : List ByteArray} {x : ByteArray} {i : Nat} (h : xs[i]? = some x) : hasS xs x = true := List.any_eq_true.2 ⟨x, List.mem_of_getElem? h, decide_eq_true rfl⟩
theorem has_none {xs : List ByteArray} {x : ByteArray} (h : ∀ (j : Nat) y, xs[j]? = some y → ¬ x = y) : hasS xs x = false := by
  unfold hasS
  rw [List.any_eq_false]
  intro y hy
  obtain ⟨j, hj⟩ := List.getElem?_of_mem hy
  rw [decide_eq_true_eq]
  exact h j y hj
set_option maxRecDepth 100000 in
set_option maxHeartbeats 2000000 in
theorem uhas_ok (A : Option Addr) (n cap : Nat) (xs : List ByteArray) (x : ByteArray) (w : World) (h : StrsAt w A n xs) (hn : n ≤ 1000000) :
    Calls Try.prog 86 #[.slice A n cap, .string x] w fun e w' => e = .returned (.bool (hasS xs x)) ∧ w = w' := by
  have HA := Lib.hid h
  clear h
  go_enter Try.func86, Try.ntmps86
  go_wp2
  go_loop [5] (fun v5 => ∃ i : Nat, i ≤ n ∧ v5 = .int .i64 i ∧ ∀ (j : Nat) y, j < i → xs[j]? = some y → ¬ x = y) (fun v5 => n - (intOf v5).toNat)
  case atStart => exact ⟨0, by omega, rfl, fun j _ hj => by omega⟩
  case round =>
    obtain ⟨i, hi, rfl, hf⟩ := hrel
    have HF := Lib.hid hf
    clear hf
    by_cases hlt : i < n
    · have hil : i < xs.length := by rw [HA.out.1]; exact hlt
      obtain ⟨b, o, rfl, hbl, hc⟩ := HA.out.2 (by omega)
      obtain ⟨y, hy⟩ : ∃ y, y = xs[i] := ⟨_, rfl⟩
      have hy2 : xs[i]? = some y := by rw [hy]; exact List.getElem?_eq_getElem hil
      have hcell := hc i y hy2
      have HY := Lib.hid hy2
      have hii : (i : Int) < n := by omega
      clear hc hy hy2 hbl hil
      by_cases hb : y = x
      · subst hb
        have HV := Lib.hid (has_at HY.out)
        go_wp2
        go_ret
        exact ⟨by rw [HV.out]; rfl, rfl⟩
      · have hb' : decide (y = x) = false := decide_eq_false hb
        have hne := toList_ne hb
        have HB := Lib.hid hb
        clear hb
        go_wp2
        go_round
        case rel =>
          refine ⟨i + 1, by omega, by go_num, fun j z hj hz => ?_⟩
          by_cases e : j = i
          · subst e
            rw [HY.out] at hz
            cases hz
            exact fun h => HB.out h.symm
          · exact HF.out j z (by omega) hz
        case measure => simp [intOf]; omega
    · have hlt' : ¬ (i : Int) < n := by omega
      have HV := Lib.hid (has_none (xs := xs) (x := x) (fun j y hj => HF.out j y (by have := (List.getElem?_eq_some_iff.1 hj).1; rw [HA.out.1] at this; omega) hj))
      go_wp2
      go_ret
      exact ⟨by rw [HV.out]; rfl, rfl⟩
theorem uhas_v (b : Bool) (A : Option Addr) (n cap : Nat) (xs : List ByteArray) (x : ByteArray) (w : World) (h : StrsAt w A n xs) (hn : n ≤ 1000000) (hb : hasS xs x = b) :
    Calls Try.prog 86 #[.slice A n cap, .string x] w fun e w' => e = .returned (.bool b) ∧ w = w' := by
  subst hb
  exact uhas_ok A n cap xs x w h hn
end Go.Proofs.Ytndldjopgbhphaa

namespace Go.Proofs.Ytndldjopgbhphaa
open Go.RowKit

/-- Where ref.ValidFormat stands. -/
def UVal (bs : List Int) (r : Int) : Prop :=
  (r = -1 ∧ vfB bs 47 0 0 = false) ∨ (∃ (j : Nat) (L sp : Int), r = j ∧ j ≤ bs.length ∧ 0 < L ∧ 0 < sp ∧ vfB bs 47 0 0 = vfB (bs.drop j) 59 L sp ∧ ∀ x, bs[j]? = some x → letterB x = false)
theorem UVal.first {bs : List Int} {r : Int} (h : PairR bs 0 47 r) : UVal bs r := by
  rcases h with ⟨h, hv⟩ | ⟨j, L, h, h0, h1, h2, hv, hs⟩
  · exact .inl ⟨h, hv 0⟩
  · exact .inr ⟨j, L, 0 + 1, h, h1, h2, by omega, hv 0, hs⟩
theorem UVal.next {bs : List Int} {j : Nat} {L sp r : Int} (hL : 0 < L) (hp : 0 < sp) (hv : vfB bs 47 0 0 = vfB (bs.drop j) 59 L sp) (hx : bs[j]? = some 59) (h : PairR bs (j + 1) 61 r) : UVal bs r := by
  have h0 : (L == 0) = false := by rw [beq_eq_false_iff_ne]; omega
  obtain ⟨hj, he⟩ := List.getElem?_eq_some_iff.1 hx
  rw [List.drop_eq_getElem_cons hj, he, vfB, if_neg (by decide), h0, if_neg (by decide), if_pos (by decide)] at hv
  rcases h with ⟨h, hw⟩ | ⟨k, M, h, h1, h2, h3, hw, hs⟩
  · exact .inl ⟨h, by rw [hv, hw]⟩
  · exact .inr ⟨k, M, sp + 1 + 1, h, h2, h3, by omega, by rw [hv, hw], hs⟩

set_option maxRecDepth 100000 in
set_option maxHeartbeats 4000000 in
theorem uvalid_ok (s : ByteArray) (hsz : s.size ≤ 140737488351232) (w : World) : Calls Try.prog 85 #[.string s] w fun e w' => e = .returned (.bool (validB s)) ∧ w = w' := by
  by_cases hs : s.size ≤ 64
  · have hv : validB s = vfB (strB s) 47 0 0 := by unfold validB; rw [decide_eq_true hs]; rfl
    have HV := Lib.hid hv
    have hs2 : ¬ (64 : Int) < s.size := by omega
    have HL := Lib.hid (strB_length s)
    clear hv
    go_enter Try.func85, Try.ntmps85
    go_wp2_with fail
    refine (pair_ok s 0 47 (.inl rfl) (by omega) (by omega) _).mono ?_
    rintro e w' ⟨⟨r, rfl, hr⟩, rfl⟩
    have HR := Lib.hid (UVal.first hr)
    clear hr
    go_wp2_with fail
    go_loop [3] (fun v3 => ∃ r : Int, v3 = .int .i64 r ∧ UVal (strB s) r) (fun v3 => if intOf v3 < 0 then 0 else s.size + 1 - (intOf v3).toNat)
    case atStart => exact ⟨r, rfl, HR.out⟩
    case round =>
      obtain ⟨r, rfl, hr⟩ := hrel
      rcases hr with ⟨rfl, hf⟩ | ⟨j, L, sp, rfl, hj, hL, hp, hf, hst⟩
      · have HF := Lib.hid hf
        clear hf
        have hne : ((-1 : Int) == s.size) = false := by rw [beq_eq_false_iff_ne]; omega
        go_wp2
        go_ret
        exact ⟨by rw [HV.out, HF.out]; rfl, rfl⟩
      · rw [HL.out] at hj
        have HF := Lib.hid hf
        have HS := Lib.hid hst
        have HLp := Lib.hid hL
        have HPp := Lib.hid hp
        clear hf hst hL hp
        by_cases hlt : j < s.size
        · have hii : (j : Int) < s.size := by omega
          have hx : (strB s)[j]? = some ((strB s)[j]'(by rw [HL.out]; exact hlt)) := List.getElem?_eq_getElem (by rw [HL.out]; exact hlt)
          generalize (strB s)[j]'(by rw [HL.out]; exact hlt) = x at hx
          have hrun := run_at hx w
          have HX := Lib.hid hx
          clear hx
          by_cases h59 : x = 59
          · subst h59
            go_wp2_with fail
            refine (pair_ok s (j + 1) 61 (.inr rfl) (by omega) (by omega) _).mono ?_
            rintro e w' ⟨⟨r2, rfl, hr2⟩, rfl⟩
            have HN := Lib.hid (UVal.next HLp.out HPp.out HF.out HX.out hr2)
            have hgt : r2 < 0 ∨ (j : Int) < r2 ∧ r2 ≤ s.size := by
              rcases hr2 with ⟨h, _⟩ | ⟨k, M, h, h1, h2, _⟩
              · left; omega
              · right; rw [HL.out] at h2; omega
            have HGT := Lib.hid hgt
            clear hr2 hgt
            go_wp2
            go_round
            case rel => exact ⟨r2, rfl, HN.out⟩
            case measure =>
              show (if r2 < 0 then 0 else s.size + 1 - r2.toNat) < (if (j : Int) < 0 then 0 else s.size + 1 - (j : Int).toNat)
              rcases HGT.out with h | h
              · rw [if_pos h, if_neg (by omega)]; omega
              · rw [if_neg (by omega), if_neg (by omega)]; omega
          · have h59' : (x == 59) = false := by rw [beq_eq_false_iff_ne]; exact h59
            have hjn : ((j : Int) == s.size) = false := by rw [beq_eq_false_iff_ne]; omega
            have HE := Lib.hid (show vfB (strB s) 47 0 0 = false by
              obtain ⟨hj2, he⟩ := List.getElem?_eq_some_iff.1 HX.out
              rw [HF.out, List.drop_eq_getElem_cons hj2, vfB, if_neg (by rw [HS.out _ (List.getElem?_eq_getElem hj2)]; decide), if_pos (by rw [he]; simp [h59])])
            clear h59
            go_wp2
            go_ret
            exact ⟨by rw [HV.out, HE.out]; rfl, rfl⟩
        · have hje : j = s.size := by omega
          have hlt' : ¬ (j : Int) < s.size := by omega
          have hjn : ((j : Int) == s.size) = true := by rw [beq_iff_eq]; omega
          have HE := Lib.hid (show vfB (strB s) 47 0 0 = true by
            rw [HF.out, hje, ← HL.out, List.drop_length, vfB, decide_eq_true HLp.out, decide_eq_true HPp.out]; rfl)
          clear hje
          go_wp2
          go_ret
          exact ⟨by rw [HV.out, HE.out]; rfl, rfl⟩
  · have hv : validB s = false := by unfold validB; rw [decide_eq_false hs]; rfl
    have HV := Lib.hid hv
    have hs2 : (64 : Int) < s.size := by omega
    clear hv
    go_enter Try.func85, Try.ntmps85
    go_wp2
    go_ret
    exact ⟨by rw [HV.out]; rfl, rfl⟩
theorem uvalid_v (b : Bool) (s : ByteArray) (hsz : s.size ≤ 140737488351232) (w : World) (h : validB s = b) : Calls Try.prog 85 #[.string s] w fun e w' => e = .returned (.bool b) ∧ w = w' := by
  subst h
  exact uvalid_ok s hsz w
end Go.Proofs.Ytndldjopgbhphaa
