/- Parts of the walk, packed: UForm, UHas, UVal. -/
import Derived.Test.YteolilggeaffaaaPk04
import Derived.Test.YteolilggeaffaaaPk05
import Derived.Test.YteolilggeaffaaaPk01
set_option linter.unusedVariables false
set_option linter.unusedSimpArgs false
set_option maxRecDepth 100000
namespace Go.Proofs.Yteolilggeaffaaa
open Go.RowKit

set_option maxRecDepth 100000 in
theorem uletter_ok (c : Int) (w : World) : Calls Try.prog 92 #[.int .u8 c] w fun e w' => e = .returned (.bool (letterB c)) ∧ w = w' := by
  have fin : ∀ b : Bool, letterB c = b → Calls Try.prog 92 #[.int .u8 c] w (fun e w' => e = .returned (.bool b) ∧ w = w') → Calls Try.prog 92 #[.int .u8 c] w fun e w' => e = .returned (.bool (letterB c)) ∧ w = w' := by
    intro b hb h; rw [hb]; exact h
  have fact : ∀ b1 b2 b3 b4 b5 b6 b7 : Bool, decide (97 ≤ c) = b1 → decide (c ≤ 122) = b2 → decide (48 ≤ c) = b3 → decide (c ≤ 57) = b4 → (c == 43) = b5 → (c == 45) = b6 → (c == 46) = b7 → letterB c = (b1 && b2 || b3 && b4 || b5 || b6 || b7) := by
    rintro _ _ _ _ _ _ _ rfl rfl rfl rfl rfl rfl rfl
    unfold letterB
    simp [Bool.beq_eq_decide_eq]
  by_cases h1 : 97 ≤ c
  · by_cases h2 : c ≤ 122
    · refine fin true (by unfold letterB; simp; omega) ?_
      clear fin fact
      go_enter Try.func92, Try.ntmps92
      go_wp2
      go_ret
      exact ⟨rfl, rfl⟩
    · refine fin false (by unfold letterB; simp; omega) ?_
      clear fin fact
      have h3 : 48 ≤ c := by omega
      have h4 : ¬ c ≤ 57 := by omega
      have h5 : (c == 43) = false := by simp; omega
      have h6 : (c == 45) = false := by simp; omega
      have h7 : (c == 46) = false := by simp; omega
      go_enter Try.func92, Try.ntmps92
      go_wp2
      go_ret
      exact ⟨rfl, rfl⟩
  · by_cases h3 : 48 ≤ c
    · by_cases h4 : c ≤ 57
      · refine fin true (by unfold letterB; simp; omega) ?_
        clear fin fact
        go_enter Try.func92, Try.ntmps92
        go_wp2
        go_ret
        exact ⟨rfl, rfl⟩
      · refine fin false (by unfold letterB; simp; omega) ?_
        clear fin fact
        have h5 : (c == 43) = false := by simp; omega
        have h6 : (c == 45) = false := by simp; omega
        have h7 : (c == 46) = false := by simp; omega
        go_enter Try.func92, Try.ntmps92
        go_wp2
        go_ret
        exact ⟨rfl, rfl⟩
    · by_cases h5 : c = 43
      · subst h5
        refine fin true (by decide) ?_
        clear fin fact
        go_enter Try.func92, Try.ntmps92
        go_wp2
        go_ret
        exact ⟨rfl, rfl⟩
      by_cases h6 : c = 45
      · subst h6
        refine fin true (by decide) ?_
        clear fin fact
        go_enter Try.func92, Try.ntmps92
        go_wp2
        go_ret
        exact ⟨rfl, rfl⟩
      by_cases h7 : c = 46
      · subst h7
        refine fin true (by decide) ?_
        clear fin fact
        go_enter Try.func92, Try.ntmps92
        go_wp2
        go_ret
        exact ⟨rfl, rfl⟩
      refine fin false (by unfold letterB; simp; omega) ?_
      clear fin fact
      have h5' : (c == 43) = false := by simp; omega
      have h6' : (c == 45) = false := by simp; omega
      have h7' : (c == 46) = false := by simp; omega
      go_enter Try.func92, Try.ntmps92
      go_wp2
      go_ret
      exact ⟨rfl, rfl⟩

theorem uletter_v (c : Int) (b : Bool) (w : World) (h : letterB c = b) : Calls Try.prog 92 #[.int .u8 c] w fun e w' => e = .returned (.bool b) ∧ w = w' := by
  subst h
  exact uletter_ok c w

/-- A word from i to k. -/
structure WordR (bs : List Int) (i k : Nat) : Prop where
  le : i ≤ k
  len : k ≤ bs.length
  vf : ∀ e l sp, vfB (bs.drop i) e l sp = vfB (bs.drop k) e (l + ((k : Int) - i)) sp
  stop : ∀ x, bs[k]? = some x → letterB x = false

set_option maxRecDepth 100000 in
set_option maxHeartbeats 2000000 in
theorem word_ok (s : ByteArray) (i : Nat) (hi : i ≤ s.size) (hs : s.size ≤ 1000) (w : World) : Calls Try.prog 89 #[.string s, .int .i64 i] w fun e w' => (∃ k : Nat, e = .returned (.int .i64 k) ∧ WordR (strB s) i k) ∧ w = w' := by
  have HL := Lib.hid (strB_length s)
  go_enter Try.func89, Try.ntmps89
  go_wp2
  go_loop [1] (fun v1 => ∃ k : Nat, i ≤ k ∧ k ≤ s.size ∧ v1 = .int .i64 k ∧ ∀ e l sp, vfB ((strB s).drop i) e l sp = vfB ((strB s).drop k) e (l + ((k : Int) - i)) sp) (fun v1 => s.size - (intOf v1).toNat)
  case atStart => exact ⟨i, by omega, hi, rfl, fun e l sp => by rw [Int.sub_self, Int.add_zero]⟩
  case round =>
    obtain ⟨k, hk, hkn, rfl, hf⟩ := hrel
    have HF := Lib.hid hf
    clear hf
    by_cases hlt : k < s.size
    · have hii : (k : Int) < s.size := by omega
      have hx : (strB s)[k]? = some ((strB s)[k]'(by rw [HL.out]; exact hlt)) := List.getElem?_eq_getElem (by rw [HL.out]; exact hlt)
      have hd : (strB s).drop k = (strB s)[k]'(by rw [HL.out]; exact hlt) :: (strB s).drop (k + 1) := List.drop_eq_getElem_cons (by rw [HL.out]; exact hlt)
      generalize (strB s)[k]'(by rw [HL.out]; exact hlt) = x at hx hd
      have hrun := run_at hx w
      have HX := Lib.hid hx
      have HD := Lib.hid hd
      clear hx hd
      cases hb : letterB x
      · have HB := Lib.hid hb
        clear hb
        go_wp2_with (go_at_call 92; refine (uletter_v x _ _ HB.out).mono ?_; rintro e w' ⟨rfl, rfl⟩)
        go_ret
        refine ⟨⟨k, rfl, hk, by rw [HL.out]; omega, HF.out, fun y hy => ?_⟩, rfl⟩
        rw [HX.out] at hy
        cases hy
        exact HB.out
      · have HB := Lib.hid hb
        clear hb
        go_wp2_with (go_at_call 92; refine (uletter_v x _ _ HB.out).mono ?_; rintro e w' ⟨rfl, rfl⟩)
        go_round
        case rel =>
          refine ⟨k + 1, by omega, by omega, by go_num, fun e l sp => ?_⟩
          rw [HF.out, HD.out, vfB, if_pos HB.out]
          congr 1
          omega
        case measure => simp [intOf]; omega
    · have hlt' : ¬ (k : Int) < s.size := by omega
      have HX := Lib.hid (show ∀ y, (strB s)[k]? = some y → letterB y = false from fun y hy => by have := (List.getElem?_eq_some_iff.1 hy).1; rw [HL.out] at this; omega)
      go_wp2
      go_ret
      exact ⟨⟨k, rfl, hk, by rw [HL.out]; omega, HF.out, HX.out⟩, rfl⟩

/-- What pair answers. -/
def PairR (bs : List Int) (i : Nat) (sep r : Int) : Prop :=
  (r = -1 ∧ ∀ sp, vfB (bs.drop i) sep 0 sp = false) ∨
  (∃ j : Nat, ∃ L : Int, r = j ∧ i < j ∧ j ≤ bs.length ∧ 0 < L ∧ (∀ sp, vfB (bs.drop i) sep 0 sp = vfB (bs.drop j) 59 L (sp + 1)) ∧ ∀ x, bs[j]? = some x → letterB x = false)
theorem vf_none {bs : List Int} {k : Nat} (h : ∀ x, bs[k]? = some x → letterB x = false) (e sp : Int) : vfB (bs.drop k) e 0 sp = false := by
  by_cases hk : k < bs.length
  · rw [List.drop_eq_getElem_cons hk, vfB, if_neg (by rw [h _ (List.getElem?_eq_getElem hk)]; decide), if_pos (by simp)]
  · rw [List.drop_eq_nil_of_le (by omega), vfB]
    simp
theorem pair_a {bs : List Int} {i : Nat} {sep : Int} (h : WordR bs i i) : PairR bs i sep (-1) := .inl ⟨rfl, fun sp => vf_none h.stop sep sp⟩
theorem pair_b {bs : List Int} {i k : Nat} {sep : Int} (h : WordR bs i k) (hk : k = bs.length) (hs : sep = 47 ∨ sep = 61) : PairR bs i sep (-1) := .inl ⟨rfl, fun sp => by
  rw [h.vf, hk, List.drop_length, vfB]
  rcases hs with rfl | rfl <;> simp⟩
theorem pair_c {bs : List Int} {i k : Nat} {sep x : Int} (h : WordR bs i k) (hx : bs[k]? = some x) (hn : x ≠ sep) : PairR bs i sep (-1) := .inl ⟨rfl, fun sp => by
  obtain ⟨hk, rfl⟩ := List.getElem?_eq_some_iff.1 hx
  rw [h.vf, List.drop_eq_getElem_cons hk, vfB, if_neg (by rw [h.stop _ hx]; decide), if_pos (by simp [hn])]⟩
theorem pair_step {bs : List Int} {i k : Nat} {sep : Int} (h : WordR bs i k) (hik : i < k) (hx : bs[k]? = some sep) (hs : sep = 47 ∨ sep = 61) (sp : Int) : vfB (bs.drop i) sep 0 sp = vfB (bs.drop (k + 1)) 59 0 (sp + 1) := by
  obtain ⟨hk, he⟩ := List.getElem?_eq_some_iff.1 hx
  have h0 : ((0 : Int) + ((k : Int) - i) == 0) = false := by rw [beq_eq_false_iff_ne]; omega
  rw [h.vf, List.drop_eq_getElem_cons hk, he, vfB, if_neg (by rw [h.stop _ hx]; decide), h0, if_neg (by simp)]
  rcases hs with rfl | rfl <;> rfl
theorem pair_d {bs : List Int} {i k : Nat} {sep : Int} (h : WordR bs i k) (hik : i < k) (hx : bs[k]? = some sep) (hs : sep = 47 ∨ sep = 61) (h2 : WordR bs (k + 1) (k + 1)) : PairR bs i sep (-1) :=
  .inl ⟨rfl, fun sp => by rw [pair_step h hik hx hs, vf_none h2.stop]⟩
theorem pair_e {bs : List Int} {i k j : Nat} {sep : Int} (h : WordR bs i k) (hik : i < k) (hx : bs[k]? = some sep) (hs : sep = 47 ∨ sep = 61) (h2 : WordR bs (k + 1) j) (hj : k + 1 < j) : PairR bs i sep j :=
  .inr ⟨j, (0 : Int) + ((j : Int) - ((k + 1 : Nat) : Int)), rfl, by omega, h2.len, by omega, fun sp => by rw [pair_step h hik hx hs, h2.vf], h2.stop⟩

set_option maxRecDepth 100000 in
set_option maxHeartbeats 2000000 in
theorem pair_ok (s : ByteArray) (i : Nat) (sep : Int) (hsep : sep = 47 ∨ sep = 61) (hi : i ≤ s.size) (hs : s.size ≤ 1000) (w : World) : Calls Try.prog 79 #[.string s, .int .i64 i, .int .u8 sep] w fun e w' => (∃ r, e = .returned (.int .i64 r) ∧ PairR (strB s) i sep r) ∧ w = w' := by
  have HL := Lib.hid (strB_length s)
  go_enter Try.func79, Try.ntmps79
  go_wp2_with fail
  refine (word_ok s i hi hs _).mono ?_
  rintro e w' ⟨⟨k, rfl, hk⟩, rfl⟩
  have hkl := hk.len
  rw [HL.out] at hkl
  have hik := hk.le
  have HK := Lib.hid hk
  clear hk
  by_cases h1 : k = i
  · subst h1
    go_wp2
    go_ret
    exact ⟨⟨-1, rfl, pair_a HK.out⟩, rfl⟩
  have h1' : (k == i) = false := by rw [beq_eq_false_iff_ne]; exact h1
  have h1i : ((k : Int) == i) = false := by rw [beq_eq_false_iff_ne]; omega
  by_cases h2 : k = s.size
  · have HR := Lib.hid (pair_b HK.out (by rw [HL.out]; exact h2) hsep)
    have h2i : ((k : Int) == s.size) = true := by rw [beq_iff_eq]; omega
    go_wp2
    go_ret
    exact ⟨⟨-1, rfl, HR.out⟩, rfl⟩
  have h2' : (k == s.size) = false := by rw [beq_eq_false_iff_ne]; exact h2
  have h2i : ((k : Int) == s.size) = false := by rw [beq_eq_false_iff_ne]; omega
  have hks : k < s.size := by omega
  have hx : (strB s)[k]? = some ((strB s)[k]'(by rw [HL.out]; exact hks)) := List.getElem?_eq_getElem (by rw [HL.out]; exact hks)
  generalize (strB s)[k]'(by rw [HL.out]; exact hks) = x at hx
  have hrun := run_at hx w
  have HX := Lib.hid hx
  clear hx
  by_cases h3 : x = sep
  · subst h3
    go_wp2_with fail
    refine (word_ok s (k + 1) (by omega) hs _).mono ?_
    rintro e w' ⟨⟨j, rfl, hj⟩, rfl⟩
    have hjl := hj.len
    rw [HL.out] at hjl
    have hkj := hj.le
    have HJ := Lib.hid hj
    clear hj
    by_cases h4 : j = k + 1
    · subst h4
      have HR := Lib.hid (pair_d HK.out (by omega) HX.out hsep HJ.out)
      go_wp2
      go_ret
      exact ⟨⟨-1, rfl, HR.out⟩, rfl⟩
    · have h4i : ((j : Int) == (k : Int) + 1) = false := by rw [beq_eq_false_iff_ne]; omega
      have HR := Lib.hid (pair_e HK.out (by omega) HX.out hsep HJ.out (by omega))
      go_wp2
      go_ret
      exact ⟨⟨j, rfl, HR.out⟩, rfl⟩
  · have h3' : (x == sep) = false := by rw [beq_eq_false_iff_ne]; exact h3
    have h3n : (x != sep) = true := by simpa using h3
    have HR := Lib.hid (pair_c HK.out HX.out h3)
    clear h3
    go_wp2
    go_ret
    exact ⟨⟨-1, rfl, HR.out⟩, rfl⟩
end Go.Proofs.Yteolilggeaffaaa

namespace Go.Proofs.Yteolilggeaffaaa
open Go.RowKit

theorem has_at {xs : List ByteArray} {x : ByteArray} {i : Nat} (h : xs[i]? = some x) : hasS xs x = true := List.any_eq_true.2 ⟨x, List.mem_of_getElem? h, decide_eq_true rfl⟩
theorem has_none {xs : List ByteArray} {x : ByteArray} (h : ∀ (j : Nat) y, xs[j]? = some y → ¬ x = y) : hasS xs x = false := by
  unfold hasS
  rw [List.any_eq_false]
  intro y hy
  obtain ⟨j, hj⟩ := List.getElem?_of_mem hy
  rw [decide_eq_true_eq]
  exact h j y hj
set_option maxRecDepth 100000 in
set_option maxHeartbeats 2000000 in
theorem uhas_ok (A : Option Addr) (n cap : Nat) (xs : List ByteArray) (x : ByteArray) (w : World) (h : StrsAt w A n xs) (hn : n ≤ 1000000) :
    Calls Try.prog 62 #[.slice A n cap, .string x] w fun e w' => e = .returned (.bool (hasS xs x)) ∧ w = w' := by
  have HA := Lib.hid h
  clear h
  go_enter Try.func62, Try.ntmps62
  go_wp2
  go_loop [5] (fun v5 => ∃ i : Nat, i ≤ n ∧ v5 = .int .i64 i ∧ ∀ (j : Nat) y, j < i → xs[j]? = some y → ¬ x = y) (fun v5 => n - (intOf v5).toNat)
  case atStart => exact ⟨0, by omega, rfl, fun j _ hj => by omega⟩
  case round =>
    obtain ⟨i, hi, rfl, hf⟩ := hrel
    have HF := Lib.hid hf
    clear hf
    by_cases hlt : i < n
    · have hil : i < xs.length := by rw [HA.out.1]; exact hlt
      obtain ⟨b, o, rfl, hbl, hc⟩ := HA.out.2 (by omega)
      obtain ⟨y, hy⟩ : ∃ y, y = xs[i] := ⟨_, rfl⟩
      have hy2 : xs[i]? = some y := by rw [hy]; exact List.getElem?_eq_getElem hil
      have hcell := hc i y hy2
      have HY := Lib.hid hy2
      have hii : (i : Int) < n := by omega
      clear hc hy hy2 hbl hil
      by_cases hb : y = x
      · subst hb
        have HV := Lib.hid (has_at HY.out)
        go_wp2
        go_ret
        exact ⟨by rw [HV.out]; rfl, rfl⟩
      · have hb' : decide (y = x) = false := decide_eq_false hb
        have hne := toList_ne hb
        have HB := Lib.hid hb
        clear hb
        go_wp2
        go_round
        case rel =>
          refine ⟨i + 1, by omega, by go_num, fun j z hj hz => ?_⟩
          by_cases e : j = i
          · subst e
            rw [HY.out] at hz
            cases hz
            exact fun h => HB.out h.symm
          · exact HF.out j z (by omega) hz
        case measure => simp [intOf]; omega
    · have hlt' : ¬ (i : Int) < n := by omega
      have HV := Lib.hid (has_none (xs := xs) (x := x) (fun j y hj => HF.out j y (by have := (List.getElem?_eq_some_iff.1 hj).1; rw [HA.out.1] at this; omega) hj))
      go_wp2
      go_ret
      exact ⟨by rw [HV.out]; rfl, rfl⟩
theorem uhas_v (b : Bool) (A : Option Addr) (n cap : Nat) (xs : List ByteArray) (x : ByteArray) (w : World) (h : StrsAt w A n xs) (hn : n ≤ 1000000) (hb : hasS xs x = b) :
    Calls Try.prog 62 #[.slice A n cap, .string x] w fun e w' => e = .returned (.bool b) ∧ w = w' := by
  subst hb
  exact uhas_ok A n cap xs x w h hn
end Go.Proofs.Yteolilggeaffaaa

namespace Go.Proofs.Yteolilggeaffaaa
open Go.RowKit

/-- Where ref.ValidFormat stands. -/
def UVal (bs : List Int) (r : Int) : Prop :=
  (r = -1 ∧ vfB bs 47 0 0 = false) ∨ (∃ (j : Nat) (L sp : Int), r = j ∧ j ≤ bs.length ∧ 0 < L ∧ 0 < sp ∧ vfB bs 47 0 0 = vfB (bs.drop j) 59 L sp ∧ ∀ x, bs[j]? = some x → letterB x = false)
theorem UVal.first {bs : List Int} {r : Int} (h : PairR bs 0 47 r) : UVal bs r := by
  rcases h with ⟨h, hv⟩ | ⟨j, L, h, h0, h1, h2, hv, hs⟩
  · exact .inl ⟨h, hv 0⟩
  · exact .inr ⟨j, L, 0 + 1, h, h1, h2, by omega, hv 0, hs⟩
theorem UVal.next {bs : List Int} {j : Nat} {L sp r : Int} (hL : 0 < L) (hp : 0 < sp) (hv : vfB bs 47 0 0 = vfB (bs.drop j) 59 L sp) (hx : bs[j]? = some 59) (h : PairR bs (j + 1) 61 r) : UVal bs r := by
  have h0 : (L == 0) = false := by rw [beq_eq_false_iff_ne]; omega
  obtain ⟨hj, he⟩ := List.getElem?_eq_some_iff.1 hx
  rw [List.drop_eq_getElem_cons hj, he, vfB, if_neg (by decide), h0, if_neg (by decide), if_pos (by decide)] at hv
  rcases h with ⟨h, hw⟩ | ⟨k, M, h, h1, h2, h3, hw, hs⟩
  · exact .inl ⟨h, by rw [hv, hw]⟩
  · exact .inr ⟨k, M, sp + 1 + 1, h, h2, h3, by omega, by rw [hv, hw], hs⟩

set_option maxRecDepth 100000 in
set_option maxHeartbeats 4000000 in
theorem uvalid_ok (s : ByteArray) (hsz : s.size ≤ 140737488351232) (w : World) : Calls Try.prog 61 #[.string s] w fun e w' => e = .returned (.bool (validB s)) ∧ w = w' := by
  by_cases hs : s.size ≤ 64
  · have hv : validB s = vfB (strB s) 47 0 0 := by unfold validB; rw [decide_eq_true hs]; rfl
    have HV := Lib.hid hv
    have hs2 : ¬ (64 : Int) < s.size := by omega
    have HL := Lib.hid (strB_length s)
    clear hv
    go_enter Try.func61, Try.ntmps61
    go_wp2_with fail
    refine (pair_ok s 0 47 (.inl rfl) (by omega) (by omega) _).mono ?_
    rintro e w' ⟨⟨r, rfl, hr⟩, rfl⟩
    have HR := Lib.hid (UVal.first hr)
    clear hr
    go_wp2_with fail
    go_loop [3] (fun v3 => ∃ r : Int, v3 = .int .i64 r ∧ UVal (strB s) r) (fun v3 => if intOf v3 < 0 then 0 else s.size + 1 - (intOf v3).toNat)
    case atStart => exact ⟨r, rfl, HR.out⟩
    case round =>
      obtain ⟨r, rfl, hr⟩ := hrel
      rcases hr with ⟨rfl, hf⟩ | ⟨j, L, sp, rfl, hj, hL, hp, hf, hst⟩
      · have HF := Lib.hid hf
        clear hf
        have hne : ((-1 : Int) == s.size) = false := by rw [beq_eq_false_iff_ne]; omega
        go_wp2
        go_ret
        exact ⟨by rw [HV.out, HF.out]; rfl, rfl⟩
      · rw [HL.out] at hj
        have HF := Lib.hid hf
        have HS := Lib.hid hst
        have HLp := Lib.hid hL
        have HPp := Lib.hid hp
        clear hf hst hL hp
        by_cases hlt : j < s.size
        · have hii : (j : Int) < s.size := by omega
          have hx : (strB s)[j]? = some ((strB s)[j]'(by rw [HL.out]; exact hlt)) := List.getElem?_eq_getElem (by rw [HL.out]; exact hlt)
          generalize (strB s)[j]'(by rw [HL.out]; exact hlt) = x at hx
          have hrun := run_at hx w
          have HX := Lib.hid hx
          clear hx
          by_cases h59 : x = 59
          · subst h59
            go_wp2_with fail
            refine (pair_ok s (j + 1) 61 (.inr rfl) (by omega) (by omega) _).mono ?_
            rintro e w' ⟨⟨r2, rfl, hr2⟩, rfl⟩
            have HN := Lib.hid (UVal.next HLp.out HPp.out HF.out HX.out hr2)
            have hgt : r2 < 0 ∨ (j : Int) < r2 ∧ r2 ≤ s.size := by
              rcases hr2 with ⟨h, _⟩ | ⟨k, M, h, h1, h2, _⟩
              · left; omega
              · right; rw [HL.out] at h2; omega
            have HGT := Lib.hid hgt
            clear hr2 hgt
            go_wp2
            go_round
            case rel => exact ⟨r2, rfl, HN.out⟩
            case measure =>
              show (if r2 < 0 then 0 else s.size + 1 - r2.toNat) < (if (j : Int) < 0 then 0 else s.size + 1 - (j : Int).toNat)
              rcases HGT.out with h | h
              · rw [if_pos h, if_neg (by omega)]; omega
              · rw [if_neg (by omega), if_neg (by omega)]; omega
          · have h59' : (x == 59) = false := by rw [beq_eq_false_iff_ne]; exact h59
            have hjn : ((j : Int) == s.size) = false := by rw [beq_eq_false_iff_ne]; omega
            have HE := Lib.hid (show vfB (strB s) 47 0 0 = false by
              obtain ⟨hj2, he⟩ := List.getElem?_eq_some_iff.1 HX.out
              rw [HF.out, List.drop_eq_getElem_cons hj2, vfB, if_neg (by rw [HS.out _ (List.getElem?_eq_getElem hj2)]; decide), if_pos (by rw [he]; simp [h59])])
            clear h59
            go_wp2
            go_ret
            exact ⟨by rw [HV.out, HE.out]; rfl, rfl⟩
        · have hje : j = s.size := by omega
          have hlt' : ¬ (j : Int) < s.size := by omega
          have hjn : ((j : Int) == s.size) = true := by rw [beq_iff_eq]; omega
          have HE := Lib.hid (show vfB (strB s) 47 0 0 = true by
            rw [HF.out, hje, ← HL.out, List.drop_length, vfB, decide_eq_true HLp.out, decide_eq_true HPp.out]; rfl)
          clear hje
          go_wp2
          go_ret
          exact ⟨by rw [HV.out, HE.out]; rfl, rfl⟩
  · have hv : validB s = false := by unfold validB; rw [decide_eq_false hs]; rfl
    have HV := Lib.hid hv
    have hs2 : (64 : Int) < s.size := by omega
    clear hv
    go_enter Try.func61, Try.ntmps61
    go_wp2
    go_ret
    exact ⟨by rw [HV.out]; rfl, rfl⟩
theorem uvalid_v (b : Bool) (s : ByteArray) (hsz : s.size ≤ 140737488351232) (w : World) (h : validB s = b) : Calls Try.prog 61 #[.string s] w fun e w' => e = .returned (.bool b) ∧ w = w' := by
  subst h
  exact uvalid_ok s hsz w
end Go.Proofs.Yteolilggeaffaaa
