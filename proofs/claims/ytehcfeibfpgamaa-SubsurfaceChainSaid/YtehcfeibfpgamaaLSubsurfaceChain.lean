/- SubsurfaceChain: the walk. -/
import Derived.Test.YtehcfeibfpgamaaCh18
import Derived.Test.YtehcfeibfpgamaaArg18
set_option linter.unusedVariables false
set_option linter.unusedSimpArgs false
set_option maxRecDepth 100000
namespace Go.Proofs.Ytehcfeibfpgamaa
open Go.RowKit

theorem ch_num (a : Int) (h : 0 ≤ a ∧ a ≤ 255) : ∃ N : Nat, 1 ≤ N ∧ N ≤ 8 ∧ (1 : Int) + a % 8 = N := by
  refine ⟨(1 + a % 8).toNat, ?_, ?_, ?_⟩ <;> omega
theorem lst_take (m : List Bool) (k : Int) : ∀ (j : Nat), j < m.length → lst (m.take (j + 1)) k = lst (m.take j) k ++ (if m.getD j false = true then [k + j] else [])
  | 0, h => by
    cases m with
    | nil => simp at h
    | cons b m => cases b <;> simp [lst]
  | j + 1, h => by
    cases m with
    | nil => simp at h
    | cons b m =>
      have ih := lst_take m (k + 1) j (by simpa using h)
      rw [List.take_succ_cons, List.take_succ_cons]
      unfold lst
      rw [ih]
      have e : k + 1 + (j : Int) = k + ((j + 1 : Nat) : Int) := by omega
      rw [e]
      have e2 : (b :: m).getD (j + 1) false = m.getD j false := rfl
      rw [e2]
      cases b <;> simp
theorem lst_len : ∀ (m : List Bool) (k : Int), (lst m k).length ≤ m.length
  | [], _ => Nat.le_refl _
  | b :: m, k => by
    have := lst_len m (k + 1)
    unfold lst
    split <;> simp <;> omega
def arrC (m : List Bool) : List Value := .bool false :: .bool false :: (m.map Value.bool ++ List.replicate (8 - m.length) (.bool false))
theorem arrC_int (m : List Bool) (k : Nat) {x : Int} (h : (arrC m)[k]? = some (.int .i64 x)) : False := by
  have := List.mem_of_getElem? h
  unfold arrC at this
  simp at this
theorem own_chgz {base e size m : Nat} {w w' : World} {v : Value} {Q : Nat → Prop} {xs : List Value} (h : w.ownsRow base e size v m xs) (k : Chg Q w w') (hq : ∀ z, v.ownBlock = some z → ¬ Q z) : w'.ownsRow base e size v m xs := own_chg h k hq
theorem arrC_set (m : List Bool) (K : Nat) (h1 : 2 ≤ K) (h2 : K < m.length + 2) (b : Bool) : (arrC m).set K (.bool b) = arrC (m.set (K - 2) b) := by
  obtain ⟨k, rfl⟩ : ∃ k, K = k + 2 := ⟨K - 2, by omega⟩
  unfold arrC
  rw [List.set_cons_succ, List.set_cons_succ, List.set_append_left _ _ (by rw [List.length_map]; omega), List.length_set, Nat.add_sub_cancel, List.map_set]
theorem arrC_get (m : List Bool) (k : Nat) (h : k < m.length) : (arrC m)[k + 2]? = some (.bool (m.getD k false)) := by
  unfold arrC
  rw [List.getElem?_cons_succ, List.getElem?_cons_succ, List.getElem?_append_left (by rw [List.length_map]; exact h), List.getElem?_map, List.getD_eq_getElem?_getD, List.getElem?_eq_getElem h]
  rfl
theorem arrC_none (j : Nat) : arrC (List.replicate j false) = .bool false :: .bool false :: (List.replicate j (.bool false) ++ List.replicate (8 - j) (.bool false)) := by
  unfold arrC; simp
theorem fl_none (j i : Nat) : fl (List.replicate j false) i = false := by
  unfold fl
  split
  · rfl
  · rw [List.getD_eq_getElem?_getD, List.getElem?_replicate]; split <;> rfl
theorem fl_set (m : List Bool) (K : Nat) (h1 : 2 ≤ K) (h2 : K < m.length + 2) (i : Nat) : (if i = K then true else fl m i) = fl (m.set (K - 2) true) i := by
  unfold fl
  by_cases e : i = K
  · subst e
    rw [if_pos rfl, if_neg (by omega), List.getD_eq_getElem?_getD, List.getElem?_set_self (by omega)]; rfl
  · rw [if_neg e]
    by_cases h : i < 2
    · rw [if_pos h, if_pos h]
    · rw [if_neg h, if_neg h, List.getD_eq_getElem?_getD, List.getD_eq_getElem?_getD, List.getElem?_set_ne (by omega)]
theorem ch_numK (x : Int) (N : Nat) (hx : 0 ≤ x) (hN : 1 ≤ N) : ∃ K : Nat, 1 ≤ K ∧ K ≤ N ∧ (1 : Int) + x % N = K := by
  have h1 : 0 ≤ x % (N : Int) := Int.emod_nonneg _ (by omega)
  have h2 : x % (N : Int) < N := Int.emod_lt_of_pos _ (by omega)
  refine ⟨(1 + x % (N : Int)).toNat, ?_, ?_, ?_⟩ <;> omega
theorem chain_walk0 (a : Int) (A : Option Addr) (n cap : Nat) (l : List Int) (w : World) (ha : 0 ≤ a ∧ a ≤ 255) (h : UArg w A n l) (hn : 50 < n) :
    Calls Try.prog 3 #[.int .u8 a, .slice A n cap] w fun e w' => e = .returned (.bool true) ∧ Same w w' := by
  obtain ⟨N, hN1, hN2, hN⟩ := ch_num a ha
  have hm := h.2.2
  unfold maxLen at hm
  go_enter Try.func3, Try.ntmps3
  go_wp2_with fail
  refine (ynew_v w).mono ?_
  rintro e w1 ⟨b, R1, rfl, h1⟩
  have H1 := Lib.hid h1
  clear h1
  go_wp2_with fail
  refine (example18_ok _).mono ?_
  rintro e w9 ⟨rfl, hs9⟩
  have HS9 := Lib.hid (H1.out.s0.trans hs9)
  clear hs9
  go_wp2
  go_ret
  exact ⟨rfl, HS9.out⟩
set_option maxHeartbeats 8000000 in
theorem SubsurfaceChain_walk (a : Int) (A : Option Addr) (n cap : Nat) (l : List Int) (w : World) (ha : 0 ≤ a ∧ a ≤ 255) (h : UArg w A n l) :
    Calls Try.prog 3 #[.int .u8 a, .slice A n cap] w fun e w' => e = .returned (.bool true) ∧ Same w w' := by
  by_cases hn : 50 < n
  · exact chain_walk0 a A n cap l w ha h hn
  obtain ⟨N, hN1, hN2, hN⟩ := ch_num a ha
  have HA := Lib.hid h
  have hz : ¬ (50 : Int) < n := by omega
  clear h
  go_enter Try.func3, Try.ntmps3
  go_wp2_with fail
  refine (ynew_v w).mono ?_
  rintro e w1 ⟨b, R1, rfl, h1⟩
  have H1 := Lib.hid h1
  clear h1
  go_wp2_with fail
  go_loopw [7] (fun v7 wr => ∃ (k : Nat) (R : Nat → Prop), v7 = .int .i64 ((k : Int) + 1) ∧ k ≤ N ∧ Yt w wr b R (chA k)) (fun v7 wr => N + 2 - (intOf v7).toNat)
  case atStart => exact ⟨0, R1, rfl, by omega, H1.out⟩
  case round =>
    obtain ⟨k, R, rfl, hk, hy⟩ := hrel
    have HY := Lib.hid hy
    clear hy
    by_cases hlt : k < N
    · have hkz : (k : Int) + 1 ≤ (N : Int) := by omega
      by_cases hk0 : k = 0
      · subst hk0
        go_wp2_with fail
        refine (yadd_v HY.out 1 (by have := ch_len 0 (by omega); omega) (ch_add 0 (by omega))).mono ?_
        rintro e w2 ⟨rfl, R2, h2, _⟩
        have H2 := Lib.hid h2
        clear h2
        go_wp2
        go_roundw
        case rel => first | exact ⟨1, R2, by go_num, by omega, H2.out⟩ | ((repeat apply Exists.intro); exact ⟨⟨1, R2, by go_num, by omega, H2.out⟩, rfl⟩)
        case measure => first | (simp [intOf]; omega) | (simp [intOf])
      · have hk1 : (1 : Int) < (k : Int) + 1 := by omega
        have es : IntKind.i64.wrap ((k : Int) + 1 - 1) = k := by rw [show (k : Int) + 1 - 1 = k by omega]; exact IntWalk.i64_in _ (by omega)
        go_wp2_with fail
        refine (yadd_v HY.out ((k : Int) + 1) (by have := ch_len k (by omega); omega) (ch_add k (by omega))).mono ?_
        rintro e w2 ⟨rfl, R2, h2, _⟩
        have H2 := Lib.hid h2
        clear h2
        go_wp2_with fail
        refine (yattach_v H2.out ((k : Int) + 1) k (ch_att k (by omega) (by omega))).mono ?_
        rintro e w3 ⟨rfl, R3, h3, _⟩
        have H3 := Lib.hid h3
        clear h3
        go_wp2
        go_roundw
        case rel => first | exact ⟨k + 1, R3, by go_num, by omega, H3.out⟩ | ((repeat apply Exists.intro); exact ⟨⟨k + 1, R3, by go_num, by omega, H3.out⟩, rfl⟩)
        case measure => simp [intOf]; omega
    have hkN : k = N := by omega
    rw [hkN] at HY ⊢
    clear hlt hk hkN
    have hkz : ¬ ((N : Int) + 1 ≤ (N : Int)) := by omega
    go_wp2_with fail
    go_loopw [8, 9] (fun v8 v9 wr => ∃ (i : Nat) (R : Nat → Prop), v8 = .int .i64 ((i : Int) + 1) ∧ i ≤ N ∧ Yt w wr b R (outS N i)) (fun v8 v9 wr => N + 2 - (intOf v8).toNat)
    case atStart => exact ⟨0, R, rfl, by omega, HY.out⟩
    case round =>
      obtain ⟨i, R5, rfl, hi, hy5⟩ := hrel
      have HY5 := Lib.hid hy5
      clear hy5
      by_cases hlt : i < N
      · have hiz : (i : Int) + 1 ≤ (N : Int) := by omega
        go_wp2_with fail
        go_loopw [9] (fun v9 wr => ∃ (j : Nat) (R : Nat → Prop), v9 = .int .i64 ((j : Int) + 1) ∧ j ≤ N ∧ Yt w wr b R (innS (outS N i) j)) (fun v9 wr => N + 2 - (intOf v9).toNat)
        case atStart => exact ⟨0, R5, rfl, by omega, HY5.out⟩
        case round =>
          obtain ⟨j, R6, rfl, hj, hy6⟩ := hrel
          have HY6 := Lib.hid hy6
          clear hy6
          by_cases hltj : j < N
          · have hjz : (j : Int) + 1 ≤ (N : Int) := by omega
            go_wp2_with fail
            refine (ycommit_v HY6.out ((j : Int) + 1) (S' := innS (outS N i) (j + 1)) (l := (comR (innS (outS N i) j) ((j : Int) + 1)).2.1) (er := (comR (innS (outS N i) j) ((j : Int) + 1)).2.2) rfl rfl).mono ?_
            rintro e w2 ⟨A2, c2, R2, rfl, h2, _, _⟩
            have H2 := Lib.hid h2
            clear h2
            go_wp2
            go_roundw
            case rel => first | exact ⟨j + 1, R2, by go_num, by omega, H2.out⟩ | ((repeat apply Exists.intro); exact ⟨⟨j + 1, R2, by go_num, by omega, H2.out⟩, rfl⟩)
            case measure => simp [intOf]; omega
          · have hjN : j = N := by omega
            rw [hjN] at HY6 ⊢
            have hjz : ¬ ((N : Int) + 1 ≤ (N : Int)) := by omega
            clear hltj hj hjN
            go_wp2_with fail
            refine (ycommit_v HY6.out 1 (S' := outS N (i + 1)) (l := (comR (innS (outS N i) N) 1).2.1) (er := (comR (innS (outS N i) N) 1).2.2) rfl rfl).mono ?_
            rintro e w2 ⟨A2, c2, R2, rfl, h2, _, _⟩
            have H2 := Lib.hid h2
            clear h2
            go_wp2
            go_roundw
            case rel => first | exact ⟨i + 1, R2, by go_num, by omega, H2.out⟩ | ((repeat apply Exists.intro); exact ⟨⟨i + 1, R2, by go_num, by omega, H2.out⟩, rfl⟩)
            case measure => simp [intOf]; omega
      have hiN : i = N := by omega
      rw [hiN] at HY5 ⊢
      rw [ch_out N hN1 hN2] at HY5
      clear hlt hi hiN
      have hiz : ¬ ((N : Int) + 1 ≤ (N : Int)) := by omega
      obtain ⟨z, hz0⟩ : ∃ z, z = wr.heap.size := ⟨_, rfl⟩
      have hzw : w.heap.size ≤ z := by rw [hz0]; exact HY5.out.s0.size
      have hal : Same wr (wr.alloc (.cells (arrC (List.replicate (N - 1) false)).toArray 32)) := (Chg.refl _ wr).alloc _
      have hz1 : (wr.alloc (.cells (arrC (List.replicate (N - 1) false)).toArray 32)).heap[z]? = some (.cells (arrC (List.replicate (N - 1) false)).toArray 32 (0, 0)) := by rw [hz0]; exact at_new _ _
      have hzR : ¬ R5 z := fun q => by
        obtain ⟨bm, nb, t, _⟩ := HY5.out
        have := t.lt z q
        omega
      have HZ := Lib.hid (And.intro hz1 (And.intro hzR hal))
      have earr : (arrC (List.replicate (N - 1) false)).toArray = #[.bool false, .bool false, .bool false, .bool false, .bool false, .bool false, .bool false, .bool false, .bool false, .bool false] := by
        have : N = 1 ∨ N = 2 ∨ N = 3 ∨ N = 4 ∨ N = 5 ∨ N = 6 ∨ N = 7 ∨ N = 8 := by omega
        rcases this with rfl | rfl | rfl | rfl | rfl | rfl | rfl | rfl <;> rfl
      have HE := Lib.hid earr
      have est : stC N (fun _ => false) = stC N (fl (List.replicate (N - 1) false)) := stC_congr fun j _ _ => (fl_none _ _).symm
      rw [est] at HY5
      clear hz1 hzR hal earr est
      go_wp2_with fail
      rw [← HE.out, ← hz0]
      have hya := HY5.out.same HZ.out.2.2
      have hza := HZ.out.1
      have hzR := HZ.out.2.1
      generalize wr.alloc (.cells (arrC (List.replicate (N - 1) false)).toArray 32) = wa at *
      have HYA := Lib.hid (And.intro hya (And.intro hza hzR))
      clear hya hza hzR HZ HE hz0
      go_loopw [11] (fun v11 wq => ∃ (i : Nat) (R : Nat → Prop) (m : List Bool), v11 = .int .i64 i ∧ i ≤ n ∧ m.length = N - 1 ∧ Yt w wq b R (stC N (fl m)) ∧ wq.heap[z]? = some (.cells (arrC m).toArray 32 (0, 0)) ∧ ¬ R z) (fun v11 wq => n - (intOf v11).toNat)
      case atStart => exact ⟨0, R5, List.replicate (N - 1) false, rfl, by omega, by simp, HYA.out.1, HYA.out.2.1, HYA.out.2.2⟩
      case round =>
        obtain ⟨i, R6, m, rfl, hi, hml, hy6, hz6, hzR6⟩ := hrel
        have HY6 := Lib.hid (And.intro hy6 (And.intro hz6 hzR6))
        by_cases hlt : i < n
        · obtain ⟨bb, o, x, rfl, hbw, hx, hxb, q0⟩ := (HA.out.same hy6.s0).at_ hlt
          obtain ⟨K, hK1, hK2, hK⟩ := ch_numK x N hxb.1 hN1
          have hiz2 : (i : Int) < n := by omega
          have hNz : ((N : Int) == 0) = false := beq_eq_false_iff_ne.2 (by omega)
          have hNz2 : ¬ (N : Int) = 0 := by omega
          have htm : x.tmod N = x % N := Int.tmod_eq_emod_of_nonneg hxb.1
          clear hy6 hz6 hzR6 hx
          have HX0 := Lib.hid q0
          by_cases hK2' : 2 ≤ K
          · have hcm := ch_commit N K (fl m) hK2' hK2 hN2
            have est : stC N (fun j => if j = K then true else fl m j) = stC N (fl (m.set (K - 2) true)) := stC_congr fun j _ _ => fl_set m K hK2' (by omega) j
            rw [est] at hcm
            have HCM := Lib.hid hcm
            have hKz : (1 : Int) < K := by omega
            have hK10 : (K : Int) < 10 := by omega
            have hset := arrC_set m K hK2' (by omega) true
            have HSET := Lib.hid hset
            clear hcm est hset
            go_wp2_with fail
            refine (ycommit_v HY6.out.1 K HCM.out rfl).mono ?_
            rintro e w2 ⟨A2, c2, R2, rfl, h2, ho2, _⟩
            have hz2 := ho2.chg.at_ HY6.out.2.1 HY6.out.2.2
            have hzR2 : ¬ R2 z := ho2.not (lt_of_at HY6.out.2.1) HY6.out.2.2
            have fz := frozen_at hz2
            have lz := lt_of_at hz2
            have hcz : ∃ v, w2.cell? ⟨z, K, none⟩ = some v := by
              rw [cell_at hz2]
              obtain ⟨k, rfl⟩ : ∃ k, K = k + 2 := ⟨K - 2, by omega⟩
              exact ⟨_, arrC_get m k (by omega)⟩
            obtain ⟨v0, hcz⟩ := hcz
            have H2 := Lib.hid (And.intro h2 (And.intro hz2 hzR2))
            clear h2 ho2 hz2 hzR2 q0
            go_wp2
            go_roundw
            case rel =>
              have hq : Yt w (w2.setCell ⟨z, K, none⟩ (.bool true)) b R2 (stC N (fl (m.set (K - 2) true))) := H2.out.1.chg (Q := fun x => x = z) ((Chg.refl _ w2).set1 z K _ rfl) (fun x e => by subst e; exact ⟨hzw, H2.out.2.2⟩)
              have hzz := at_setCell (i := K) (.bool true) H2.out.2.1
              rw [HSET.out] at hzz
              first
              | exact ⟨i + 1, R2, m.set (K - 2) true, by go_num, by omega, by rw [List.length_set]; exact hml, hq, hzz, H2.out.2.2⟩
              | ((repeat apply Exists.intro); exact ⟨⟨i + 1, R2, m.set (K - 2) true, by go_num, by omega, by rw [List.length_set]; exact hml, hq, hzz, H2.out.2.2⟩, rfl⟩)
            case measure => simp [intOf]; omega
          · have hK1' : K = 1 := by omega
            have hroot := ch_root (N - 1) (by omega) m hml
            rw [show N - 1 + 1 = N by omega] at hroot
            have HCM := Lib.hid hroot
            clear hroot
            rw [hK1'] at hK
            obtain ⟨E, hE⟩ : ∃ E, E = (1 : Int) :: lst m 2 := ⟨_, rfl⟩
            have hEl : E.length ≤ 9 := by rw [hE, List.length_cons]; have := lst_len m 2; omega
            rw [← hE] at HCM
            have HE := Lib.hid hE
            clear hE hK2'
            go_wp2_with fail
            refine (ycommit_v HY6.out.1 1 HCM.out rfl).mono ?_
            rintro e w5 ⟨A2, c2, R2, rfl, h2, ho2, hI2⟩
            have hz2 := ho2.chg.at_ HY6.out.2.1 HY6.out.2.2
            have hzR2 : ¬ R2 z := ho2.not (lt_of_at HY6.out.2.1) HY6.out.2.2
            have hlz := lt_of_at hz2
            have H2 := Lib.hid (And.intro h2 (And.intro hz2 (And.intro hzR2 hI2)))
            clear h2 ho2 hI2 hz2 hzR2 q0
            go_wp2_with fail
            go_loopw [15, 16] (fun v15 v16 wq => ∃ (J : Nat) (v : Value), v16 = .int .i64 J ∧ 2 ≤ J ∧ J ≤ N + 1 ∧ v15 = v ∧ wq.ownsRow w5.heap.size 3 1 v (1 :: lst (m.take (J - 2)) 2).length (ints (1 :: lst (m.take (J - 2)) 2)) ∧ wq.heap[z]? = some (.cells (arrC (List.replicate (J - 2) false ++ m.drop (J - 2))).toArray 32 (0, 0)) ∧ Chg (fun x => x = z) w5 wq) (fun v15 v16 wq => N + 2 - (intOf v16).toNat)
            case atStart => exact ⟨2, _, rfl, by omega, by omega, rfl, World.ownsRow_lit w5 #[.int .i64 1] 1 (by omega) (by unfold maxLen; omega) rfl, at_alloc H2.out.2.1, (Chg.refl _ w5).alloc _⟩
            case round =>
              obtain ⟨J, v, rfl, hJ2, hJ, rfl, hown, hzc, hch⟩ := hrel
              have hMl : (List.replicate (J - 2) false ++ m.drop (J - 2)).length = m.length := by rw [List.length_append, List.length_replicate, List.length_drop]; omega
              have HCH := Lib.hid hch
              by_cases hlt2 : J ≤ N
              · have hJz : (J : Int) ≤ (N : Int) := by omega
                have hJ10 : (J : Int) < 10 := by omega
                have hget : (List.replicate (J - 2) false ++ m.drop (J - 2)).getD (J - 2) false = m.getD (J - 2) false := by
                  rw [List.getD_eq_getElem?_getD, List.getElem?_append_right (by simp), List.length_replicate, Nat.sub_self, List.getElem?_drop, Nat.add_zero, ← List.getD_eq_getElem?_getD]
                have hcz : wr.cell? ⟨z, J, none⟩ = some (.bool (m.getD (J - 2) false)) := by
                  rw [cell_at hzc]
                  have := arrC_get (List.replicate (J - 2) false ++ m.drop (J - 2)) (J - 2) (by omega)
                  rw [hget, show J - 2 + 2 = J by omega] at this
                  exact this
                have hset := arrC_set (List.replicate (J - 2) false ++ m.drop (J - 2)) J hJ2 (by omega) false
                have hset2 : (List.replicate (J - 2) false ++ m.drop (J - 2)).set (J - 2) false = List.replicate (J + 1 - 2) false ++ m.drop (J + 1 - 2) := by
                  have e : m.drop (J - 2) = m.getD (J - 2) false :: m.drop (J - 2 + 1) := by
                    rw [List.drop_eq_getElem_cons (by omega), List.getD_eq_getElem?_getD, List.getElem?_eq_getElem (by omega)]; rfl
                  rw [e, List.set_append_right _ _ (by simp), List.length_replicate, Nat.sub_self, List.set_cons_zero, show J + 1 - 2 = (J - 2) + 1 by omega, List.replicate_succ', List.append_assoc]; rfl
                rw [hset2] at hset
                have hlst := lst_take m 2 (J - 2) (by omega)
                rw [show J - 2 + 1 = J + 1 - 2 by omega] at hlst
                have fz := frozen_at hzc
                have lz := lt_of_at hzc
                have hw5 := hch.size
                have hll : (1 :: lst (m.take (J - 2)) 2).length ≤ 10 := by
                  have := lst_len (m.take (J - 2)) 2
                  rw [List.length_cons]
                  rw [List.length_take] at this
                  omega
                obtain ⟨W, hW⟩ : ∃ W, W = (1 : Int) :: lst (m.take (J - 2)) 2 := ⟨_, rfl⟩
                rw [← hW] at hown hll
                have HW := Lib.hid hW
                have HS := Lib.hid (And.intro hset hlst)
                have HO := Lib.hid (And.intro hown hzc)
                clear hget hset hset2 hlst hown hzc hW hch
                cases hf : m.getD (J - 2) false with
                | true =>
                  rw [hf] at hcz
                  have HF := Lib.hid hf
                  clear hf
                  go_wp2_with (at_builtin; refine wpl_append1 w5.heap.size 3 (.int .i64 0) 1 8 Try.underlying29 info3 rfl (by omega) u15 W.length (ints W) (HO.out.1.alloc _) rfl wr.heap.size 1 [.int .i64 J] rfl (at_new wr _) rfl (by simp [Value.oneCell']) (by omega) (by omega) (by simp; omega) ?_)
                  intro g4 c4 w7 hown4 hgr hor hgl4
                  have hbk := HO.out.1.lt
                  have hk4 : Chg (fun x => some x = u15.ownBlock) wr w7 := Chg.grownO ((Chg.refl (fun _ => False) wr).alloc _) hgr
                  have hz7 := hk4.at_ HO.out.2 (fun e => by have := (hbk z e.symm).1; omega)
                  have hch7 : Chg (fun x => x = z) w5 w7 := HCH.out.then_ hk4 (fun x hx e => by have := (hbk x e.symm).1; omega)
                  have f7 := frozen_at hz7
                  have l7 := lt_of_at hz7
                  have hc7 : ∃ v, w7.cell? ⟨z, J, none⟩ = some v := by
                    rw [cell_at hz7]
                    have := arrC_get (List.replicate (J - 2) false ++ m.drop (J - 2)) (J - 2) (by omega)
                    rw [show J - 2 + 2 = J by omega] at this
                    exact ⟨_, this⟩
                  obtain ⟨v7, hc7⟩ := hc7
                  have hg4z : g4 ≠ z := fun e => by
                    rcases hor with q | q
                    · have := (hbk g4 q).1; omega
                    · simp at q; omega
                  have H7 := Lib.hid (And.intro hown4 (And.intro hz7 (And.intro hch7 hg4z)))
                  clear hown4 hgr hor hgl4 hk4 hz7 hch7 hbk hg4z fz lz hcz
                  go_wp2
                  go_roundw
                  case rel =>
                    have k7 : Chg (fun x => x = z) w7 (w7.setCell ⟨z, J, none⟩ (.bool false)) := (Chg.refl _ w7).set1 z J _ rfl
                    have hzz := at_setCell (i := J) (.bool false) H7.out.2.1
                    rw [HS.out.1] at hzz
                    have hoo := own_push (N := W.length + 1) rfl H7.out.1
                    have hoo2 := own_chgz hoo k7 (fun z' hz' q => by simp [Value.ownBlock] at hz'; exact H7.out.2.2.2 (hz'.trans q))
                    have hlj : (1 : Int) :: lst (m.take (J + 1 - 2)) 2 = W ++ [(J : Int)] := by
                      rw [HS.out.2, if_pos HF.out, HW.out]
                      have : (2 : Int) + ((J - 2 : Nat) : Int) = J := by omega
                      rw [this]; rfl
                    rw [← hlj] at hoo2
                    first
                    | exact ⟨J + 1, _, by go_num, by omega, by omega, rfl, hoo2, hzz, H7.out.2.2.1.trans k7⟩
                    | ((repeat apply Exists.intro); exact ⟨⟨J + 1, _, by go_num, by omega, by omega, rfl, hoo2, hzz, H7.out.2.2.1.trans k7⟩, rfl⟩)
                  case measure => simp [intOf]; omega
                | false =>
                  rw [hf] at hcz
                  have HF := Lib.hid hf
                  clear hf
                  go_wp2
                  go_roundw
                  case rel =>
                    have k7 : Chg (fun x => x = z) wr (wr.setCell ⟨z, J, none⟩ (.bool false)) := (Chg.refl _ wr).set1 z J _ rfl
                    have hzz := at_setCell (i := J) (.bool false) HO.out.2
                    rw [HS.out.1] at hzz
                    have hbk := HO.out.1.lt
                    have hoo2 := own_chgz HO.out.1 k7 (fun z' hz' q => by have := (hbk z' hz').1; omega)
                    have hlj : (1 : Int) :: lst (m.take (J + 1 - 2)) 2 = W := by
                      rw [HS.out.2, if_neg (by rw [HF.out]; simp), HW.out, List.append_nil]
                    rw [← hlj] at hoo2
                    first
                    | exact ⟨J + 1, _, by go_num, by omega, by omega, rfl, hoo2, hzz, HCH.out.trans k7⟩
                    | ((repeat apply Exists.intro); exact ⟨⟨J + 1, _, by go_num, by omega, by omega, rfl, hoo2, hzz, HCH.out.trans k7⟩, rfl⟩)
                  case measure => simp [intOf]; omega
              · have hJN : J = N + 1 := by omega
                have hJz : ¬ (J : Int) ≤ (N : Int) := by omega
                have ht : m.take (J - 2) = m := List.take_of_length_le (by omega)
                have hd : m.drop (J - 2) = [] := List.drop_of_length_le (by omega)
                rw [ht, ← HE.out] at hown
                rw [hd, List.append_nil, show J - 2 = N - 1 by omega] at hzc
                rcases hown.2 with ⟨_, e0⟩ | ⟨g5, cap5, cur5, rfl, _⟩
                · have := HE.out; rw [this] at e0; simp at e0
                have hI2 := H2.out.2.2.2
                have hne : ∀ a', A2 = some a' → a'.block ≠ z := fun a' ha' q => by
                  obtain ⟨g, o', hA, hc⟩ := hI2.1.2 (by rw [HE.out]; simp)
                  rw [hA] at ha'
                  cases ha'
                  have h0 := hc 0 1 (by rw [HE.out]; rfl)
                  have q' : g = z := q
                  subst q'
                  rw [cell_at H2.out.2.1] at h0
                  exact arrC_int _ _ h0
                have hIA : IntsAt wr A2 E.length E := ⟨rfl, fun q => by
                  obtain ⟨g, o', hA, hc⟩ := hI2.1.2 q
                  exact ⟨g, o', hA, fun j x hj => hch.cell (hc j x hj) (hne _ hA)⟩⟩
                have hIB : IntsAt wr (some ⟨g5, 0, none⟩) E.length E := own_ints hown
                have HI5 := Lib.hid (lints_ok A2 (some ⟨g5, 0, none⟩) E.length E.length c2 cap5 E E wr hIA hIB (by omega) (by omega))
                have HZC := Lib.hid hzc
                clear hown hIA hIB hzc hch hI2 hne ht hd hJN
                go_wp2_with fail
                refine HI5.out.mono ?_
                rintro e w8 ⟨rfl, hs8⟩
                have HS8 := Lib.hid hs8
                clear hs8
                go_wp2
                go_roundw
                case rel =>
                  have est : stC N (fun _ => false) = stC N (fl (List.replicate (N - 1) false)) := stC_congr fun j _ _ => (fl_none _ _).symm
                  have hy8 := (H2.out.1.chg HCH.out (fun x e => by subst e; exact ⟨hzw, H2.out.2.2.1⟩)).same HS8.out
                  rw [est] at hy8
                  first
                  | exact ⟨i + 1, R2, _, by go_num, by omega, by simp, hy8, HS8.out.at_ HZC.out (fun q => q), H2.out.2.2.1⟩
                  | ((repeat apply Exists.intro); exact ⟨⟨i + 1, R2, _, by go_num, by omega, by simp, hy8, HS8.out.at_ HZC.out (fun q => q), H2.out.2.2.1⟩, rfl⟩)
                case measure => simp [intOf]; omega
        · have hin : i = n := by omega
          have hiz2 : ¬ (i : Int) < n := by omega
          have HS6 := Lib.hid hy6.s0
          clear hy6 hz6 hzR6
          go_wp2_with fail
          refine (example18_ok _).mono ?_
          rintro e w9 ⟨rfl, hs9⟩
          have HS9 := Lib.hid (HS6.out.trans hs9)
          clear hs9
          go_wp2
          go_ret
          exact ⟨rfl, HS9.out⟩
end Go.Proofs.Ytehcfeibfpgamaa
