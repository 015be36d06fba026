/- Parts of the walk, packed: ContS, Chk. -/
import Derived.Test.YtndldjopgbhphaaPk01
import Derived.Test.YtndldjopgbhphaaForm
set_option linter.unusedVariables false
set_option linter.unusedSimpArgs false
set_option maxRecDepth 100000
namespace Go.Proofs.Ytndldjopgbhphaa
open Go.RowKit

def hasS (xs : List ByteArray) (x : ByteArray) : Bool := xs.any fun a => decide (x = a)
theorem toList_ne {x y : ByteArray} (h : ¬ x = y) : (x.toList == y.toList) = false := by
  rw [beq_eq_false_iff_ne]
  intro e
  apply h
  rw [ByteArray.toList_eq, ByteArray.toList_eq] at e
  cases x
  cases y
  congr
  exact Array.toList_inj.1 e

/-! ### at []string -/
/-- A slice of strings that is read. -/
def StrsAt (w : World) (A : Option Addr) (n : Nat) (xs : List ByteArray) : Prop := xs.length = n ∧ (0 < n → ∃ b o, A = some ⟨b, o, none⟩ ∧ b < w.heap.size ∧ ∀ j x, xs[j]? = some x → w.cell? ⟨b, o + j, none⟩ = some (.string x))
def idxStrs (xs : List ByteArray) (x : ByteArray) : Int := match xs.findIdx? (fun a => decide (x = a)) with | some i => (i : Int) | none => -1
theorem idxStrs_has (xs : List ByteArray) (x : ByteArray) : decide (0 ≤ idxStrs xs x) = hasS xs x := by
  unfold idxStrs
  cases h : xs.findIdx? (fun a => decide (x = a)) with
  | none =>
    rw [List.findIdx?_eq_none_iff] at h
    have : hasS xs x = false := by
      unfold hasS
      rw [List.any_eq_false]
      intro a ha
      have := h a ha
      simpa using this
    rw [this]
    decide
  | some i =>
    obtain ⟨hi, hb, _⟩ := List.findIdx?_eq_some_iff_getElem.1 h
    have : hasS xs x = true := List.any_eq_true.2 ⟨xs[i], List.getElem_mem hi, hb⟩
    rw [this]
    simp only [decide_eq_true_eq]
    omega
/-- None of the first i is x. -/
def noneStrs (xs : List ByteArray) (x : ByteArray) (i : Nat) : Prop := ∀ j (h : j < xs.length), j < i → decide (x = xs[j]) = false
theorem idxStrs_at {xs : List ByteArray} {x : ByteArray} {i : Nat} (hi : i < xs.length) (h : noneStrs xs x i) (he : decide (x = xs[i]) = true) : idxStrs xs x = i := by
  unfold idxStrs
  rw [show xs.findIdx? (fun a => decide (x = a)) = some i from List.findIdx?_eq_some_iff_getElem.2 ⟨hi, he, fun j hj => by simpa using h j (by omega) hj⟩]
theorem idxStrs_none {xs : List ByteArray} {x : ByteArray} (h : noneStrs xs x xs.length) : idxStrs xs x = -1 := by
  unfold idxStrs
  rw [show xs.findIdx? (fun a => decide (x = a)) = none from List.findIdx?_eq_none_iff.2 (fun a ha => by
    obtain ⟨j, hj, rfl⟩ := List.getElem_of_mem ha
    exact h j hj hj)]
theorem noneStrs_succ {xs : List ByteArray} {x : ByteArray} {i : Nat} (h : noneStrs xs x i) (hi : i < xs.length) (he : decide (x = xs[i]) = false) : noneStrs xs x (i + 1) := by
  intro j hj hji
  by_cases e : j = i
  · subst e; exact he
  · exact h j hj (by omega)
theorem indexStrs_ok (A : Option Addr) (n cap : Nat) (xs : List ByteArray) (x : ByteArray) (w : World) (h : StrsAt w A n xs) (hn : n ≤ 1000000) :
    Calls Try.prog 84 #[.slice A n cap, .string x] w fun e w' => e = .returned (.int .i64 (idxStrs xs x)) ∧ w = w' := by
  have HA := Lib.hid h
  clear h
  go_enter Try.func84, Try.ntmps84
  go_wp2
  go_loop [8] (fun v8 => ∃ i : Nat, i ≤ n ∧ v8 = .int .i64 i ∧ noneStrs xs x i) (fun v8 => n - (intOf v8).toNat)
  case atStart => exact ⟨0, by omega, rfl, fun j _ hj => by omega⟩
  case round =>
    obtain ⟨i, hi, rfl, hf⟩ := hrel
    have HF := Lib.hid hf
    clear hf
    by_cases hlt : i < n
    · have hil : i < xs.length := by rw [HA.out.1]; exact hlt
      obtain ⟨b, o, rfl, hbl, hc⟩ := HA.out.2 (by omega)
      obtain ⟨y, hy⟩ : ∃ y, y = xs[i] := ⟨_, rfl⟩
      have hcell := hc i y (by rw [hy]; exact List.getElem?_eq_getElem hil)
      have HY := Lib.hid hy
      have hii : (i : Int) < n := by omega
      have HIL := Lib.hid hil
      clear hc hy
      by_cases hb : x = y
      · subst hb
        go_wp2
        go_ret
        exact ⟨by rw [idxStrs_at HIL.out HF.out (by rw [← HY.out]; exact decide_eq_true rfl)]; rfl, rfl⟩
      · have hb' : decide (x = y) = false := decide_eq_false hb
        have hne := toList_ne hb
        have HB := Lib.hid hb'
        clear hb
        go_wp2
        go_round
        case rel => exact ⟨i + 1, by omega, by go_num, noneStrs_succ HF.out HIL.out (by rw [← HY.out]; exact HB.out)⟩
        case measure => simp [intOf]; omega
    · have hie : i = n := by omega
      have hlt' : ¬ (i : Int) < n := by omega
      have HI := Lib.hid hie
      clear hie
      go_wp2
      go_ret
      refine ⟨?_, rfl⟩
      have := HF.out
      rw [HI.out, ← HA.out.1] at this
      rw [idxStrs_none this]
      rfl
theorem containsStrs_ok (A : Option Addr) (n cap : Nat) (xs : List ByteArray) (x : ByteArray) (w : World) (h : StrsAt w A n xs) (hn : n ≤ 1000000) :
    Calls Try.prog 61 #[.slice A n cap, .string x] w fun e w' => e = .returned (.bool (hasS xs x)) ∧ w = w' := by
  have HI := Lib.hid (indexStrs_ok A n cap xs x w h hn)
  rw [← idxStrs_has]
  clear h
  go_enter Try.func61, Try.ntmps61
  go_wp2_with fail
  refine HI.out.mono ?_
  rintro e w' ⟨rfl, rfl⟩
  go_wp2
  go_ret
  exact ⟨rfl, rfl⟩
end Go.Proofs.Ytndldjopgbhphaa

namespace Go.Proofs.Ytndldjopgbhphaa
open Go.RowKit

theorem StrsAt.chg {S : Nat → Prop} {w w' : World} {A : Option Addr} {n : Nat} {xs : List ByteArray} (h : StrsAt w A n xs) (k : Chg S w w') (hs : ∀ b o, A = some ⟨b, o, none⟩ → ¬ S b) : StrsAt w' A n xs := by
  refine ⟨h.1, fun hn => ?_⟩
  obtain ⟨b, o, hA, hb, hc⟩ := h.2 hn
  exact ⟨b, o, hA, Nat.lt_of_lt_of_le hb k.size, fun j x hx => k.cell (hc j x hx) (fun hS => hs b o hA hS)⟩
theorem StrsAt.same {w w' : World} {A : Option Addr} {n : Nat} {xs : List ByteArray} (h : StrsAt w A n xs) (k : Same w w') : StrsAt w' A n xs := h.chg k (fun _ _ _ q => q)
theorem StrsAt.take {w : World} {A : Option Addr} {n : Nat} {xs : List ByteArray} (h : StrsAt w A n xs) {i : Nat} (hi : i ≤ n) : StrsAt w A i (xs.take i) := by
  refine ⟨by rw [List.length_take, h.1]; omega, fun hp => ?_⟩
  obtain ⟨b, o, hA, hb, hc⟩ := h.2 (by omega)
  refine ⟨b, o, hA, hb, fun j x hx => hc j x ?_⟩
  rw [List.getElem?_take] at hx
  split at hx
  · exact hx
  · simp at hx

/-- Some earlier one is equal to the i-th. -/
def dupAt (fs : List ByteArray) (i : Nat) : Bool := hasS (fs.take i) (fs.getD i ByteArray.empty)
def dupS (fs : List ByteArray) : Bool := (List.range fs.length).any (dupAt fs)
/-- offer.Check. -/
def checkV (fs : List ByteArray) (acts : Int) : Int :=
  if 16 < fs.length then 5 else if fs.any (fun f => !validB f) then 3 else if dupS fs then 7 else if acts < 0 ∨ 7 < acts then 2 else 0
theorem check_limit {fs : List ByteArray} {acts : Int} (h : 16 < fs.length) : checkV fs acts = 5 := if_pos h
theorem check_syntax {fs : List ByteArray} {acts : Int} {i : Nat} {x : ByteArray} (h : ¬ 16 < fs.length) (hx : fs[i]? = some x) (hv : validB x = false) : checkV fs acts = 3 := by
  unfold checkV
  rw [if_neg h, if_pos]
  exact List.any_eq_true.2 ⟨x, List.mem_of_getElem? hx, by rw [hv]; rfl⟩
theorem none_bad {fs : List ByteArray} (h : ∀ (j : Nat) x, fs[j]? = some x → validB x = true) : fs.any (fun f => !validB f) = false := by
  rw [List.any_eq_false]
  intro x hx
  obtain ⟨j, hj⟩ := List.getElem?_of_mem hx
  rw [h j x hj]
  decide
theorem check_dup {fs : List ByteArray} {acts : Int} {i : Nat} (h : ¬ 16 < fs.length) (ha : ∀ (j : Nat) x, fs[j]? = some x → validB x = true) (hi : i < fs.length) (hd : dupAt fs i = true) : checkV fs acts = 7 := by
  unfold checkV
  rw [if_neg h, none_bad ha, if_neg (by decide), if_pos]
  exact List.any_eq_true.2 ⟨i, List.mem_range.2 hi, hd⟩
theorem check_end {fs : List ByteArray} {acts : Int} (h : ¬ 16 < fs.length) (ha : ∀ (j : Nat) x, fs[j]? = some x → validB x = true) (hd : ∀ j, j < fs.length → dupAt fs j = false) : checkV fs acts = if acts < 0 ∨ 7 < acts then 2 else 0 := by
  unfold checkV
  rw [if_neg h, none_bad ha, if_neg (by decide), if_neg]
  intro hc
  obtain ⟨i, hi, he⟩ := List.any_eq_true.1 hc
  rw [hd i (List.mem_range.1 hi)] at he
  cases he

set_option maxRecDepth 100000 in
set_option maxHeartbeats 4000000 in
theorem ocheck_ok (A : Option Addr) (n cap : Nat) (fs : List ByteArray) (acts : Int) (w : World) (h : StrsAt w A n fs) (hc : n ≤ cap) (hm : cap ≤ maxLen) :
    Calls Try.prog 57 #[.agg #[.slice A n cap, .int .i64 acts]] w fun e w' => e = .returned (.int .i64 (checkV fs acts)) ∧ Same w w' := by
  have hl := h.1
  have HA := Lib.hid (h.same ((Chg.refl (fun _ => False) w).alloc (.cells #[.slice A n cap, .int .i64 acts] 36)))
  have hcap : cap ≤ 9223372036854775807 := by unfold maxLen at hm; exact hm
  clear hm h
  by_cases h16 : 16 < n
  · have HE := Lib.hid (check_limit (acts := acts) (show 16 < fs.length by omega))
    have h16' : (16 : Int) < n := by omega
    go_enter Try.func57, Try.ntmps57
    go_wp2
    go_ret
    exact ⟨by rw [HE.out]; rfl, (Chg.refl (fun _ => False) w).alloc _⟩
  · have h16' : ¬ (16 : Int) < n := by omega
    have H16 := Lib.hid (show ¬ 16 < fs.length by omega)
    have HL := Lib.hid hl
    clear hl
    go_enter Try.func57, Try.ntmps57
    go_wp2
    go_loop [14] (fun v14 => ∃ i : Nat, i ≤ n ∧ v14 = .int .i64 i ∧ ∀ (j : Nat) x, j < i → fs[j]? = some x → validB x = true) (fun v14 => n - (intOf v14).toNat)
    case atStart => exact ⟨0, by omega, rfl, fun j _ hj => by omega⟩
    case round =>
      obtain ⟨i, hi, rfl, hf⟩ := hrel
      have HF := Lib.hid hf
      clear hf
      by_cases hlt : i < n
      · have hil : i < fs.length := by rw [HL.out]; exact hlt
        obtain ⟨b, o, rfl, hbl, hc⟩ := HA.out.2 (by omega)
        obtain ⟨y, hy⟩ : ∃ y, y = fs[i] := ⟨_, rfl⟩
        have hy2 : fs[i]? = some y := by rw [hy]; exact List.getElem?_eq_getElem hil
        have hcell := hc i y hy2
        have HY := Lib.hid hy2
        have hii : (i : Int) < n := by omega
        clear hc hy hy2 hbl hil
        cases hb : validB y
        · have HB := Lib.hid hb
          go_wp2_with fail
          refine (valid_ok y _).mono ?_
          rw [hb]
          rintro e w' ⟨rfl, rfl⟩
          go_wp2
          go_ret
          exact ⟨by rw [check_syntax H16.out HY.out HB.out]; rfl, (Chg.refl (fun _ => False) w).alloc _⟩
        · have HB := Lib.hid hb
          go_wp2_with fail
          refine (valid_ok y _).mono ?_
          rw [hb]
          rintro e w' ⟨rfl, rfl⟩
          go_wp2
          go_round
          case rel =>
            refine ⟨i + 1, by omega, by go_num, fun j x hj hx => ?_⟩
            by_cases hji : j = i
            · subst hji
              rw [HY.out] at hx
              cases hx
              exact HB.out
            · exact HF.out j x (by omega) hx
          case measure => simp [intOf]; omega
      · have hie : i = n := by omega
        have hlt' : ¬ (i : Int) < n := by omega
        have HV := Lib.hid (show ∀ (j : Nat) x, fs[j]? = some x → validB x = true from fun j x hx => HF.out j x (by rw [hie, ← HL.out]; exact (List.getElem?_eq_some_iff.1 hx).1) hx)
        clear HF hie
        go_wp2
        go_loop [25] (fun v25 => ∃ i : Nat, i ≤ n ∧ v25 = .int .i64 i ∧ ∀ j, j < i → dupAt fs j = false) (fun v25 => n - (intOf v25).toNat)
        case atStart => exact ⟨0, by omega, rfl, fun j hj => by omega⟩
        case round =>
          obtain ⟨i, hi, rfl, hf⟩ := hrel
          have HF := Lib.hid hf
          clear hf
          by_cases hlt : i < n
          · have hil : i < fs.length := by rw [HL.out]; exact hlt
            have HT := Lib.hid (HA.out.take hi)
            obtain ⟨b, o, rfl, hbl, hc⟩ := HA.out.2 (by omega)
            obtain ⟨y, hy⟩ : ∃ y, y = fs[i] := ⟨_, rfl⟩
            have hy2 : fs[i]? = some y := by rw [hy]; exact List.getElem?_eq_getElem hil
            have hcell := hc i y hy2
            have hdd : dupAt fs i = hasS (fs.take i) y := by unfold dupAt; rw [List.getD_eq_getElem?_getD, hy2]; rfl
            have HY := Lib.hid hdd
            have HIL := Lib.hid hil
            have hii : (i : Int) < n := by omega
            have hic : (i : Int) ≤ cap := by omega
            clear hc hy hy2 hbl hil hdd
            cases hb : hasS (fs.take i) y
            · have HB := Lib.hid hb
              go_wp2_with fail
              refine (containsStrs_ok _ i cap (fs.take i) y _ HT.out (by omega)).mono ?_
              rw [hb]
              rintro e w' ⟨rfl, rfl⟩
              go_wp2
              go_round
              case rel =>
                refine ⟨i + 1, by omega, by go_num, fun j hj => ?_⟩
                by_cases hji : j = i
                · rw [hji, HY.out, HB.out]
                · exact HF.out j (by omega)
              case measure => simp [intOf]; omega
            · have HB := Lib.hid hb
              go_wp2_with fail
              refine (containsStrs_ok _ i cap (fs.take i) y _ HT.out (by omega)).mono ?_
              rw [hb]
              rintro e w' ⟨rfl, rfl⟩
              go_wp2
              go_ret
              exact ⟨by rw [check_dup H16.out HV.out HIL.out (HY.out.trans HB.out)]; rfl, (Chg.refl (fun _ => False) w).alloc _⟩
          · have hie : i = n := by omega
            have hlt' : ¬ (i : Int) < n := by omega
            have HE := Lib.hid (check_end (acts := acts) H16.out HV.out (fun j hj => HF.out j (by rw [hie, ← HL.out]; exact hj)))
            clear HF hie
            by_cases h0 : acts < 0
            · go_wp2
              go_ret
              exact ⟨by rw [HE.out, if_pos (.inl h0)]; rfl, (Chg.refl (fun _ => False) w).alloc _⟩
            · by_cases h7 : 7 < acts
              · go_wp2
                go_ret
                exact ⟨by rw [HE.out, if_pos (.inr h7)]; rfl, (Chg.refl (fun _ => False) w).alloc _⟩
              · go_wp2
                go_ret
                exact ⟨by rw [HE.out, if_neg (by omega)]; rfl, (Chg.refl (fun _ => False) w).alloc _⟩
end Go.Proofs.Ytndldjopgbhphaa
