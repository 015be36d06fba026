/- SubsurfaceApplication: the walk (printed by app18.py). -/
import Derived.Test.YtehcfeibfpgamaaDo18
import Derived.Test.YtehcfeibfpgamaaRoot18
import Derived.Test.YtehcfeibfpgamaaPath
set_option linter.unusedVariables false
set_option linter.unusedSimpArgs false
set_option maxRecDepth 100000
namespace Go.Proofs.Ytehcfeibfpgamaa
open Go.RowKit

theorem app_law {S : Fo} {i : Int} (h : S.ok) (hi : hasB S i = true) : Ranked S (i :: (visS 10 (aplS S i) i).2) ∧ ∀ x ∈ i :: (visS 10 (aplS S i) i).2, inP (parOf S) x i = true ∧ hasB S x = true := by
  have h1 := visS_law 10 S (aplS S i) i (Keeps.apl h i) hi
  constructor
  · refine List.pairwise_cons.2 ⟨fun z hz => ?_, h1.2⟩
    have h2 := h1.1 z hz
    refine ⟨h2.2.1, fun e => ?_⟩
    have h3 := (in_plen h.deep (h.has_ne h2.2.2) h2.1).2.1
    have h4 := h.deep.plen_up (h.has_ne hi)
    rw [← e] at h4
    omega
  · intro x hx
    rcases List.mem_cons.1 hx with rfl | q
    · exact ⟨h.self_in x, hi⟩
    · exact ⟨(h1.1 x q).1, (h1.1 x q).2.2⟩
theorem app_len {S : Fo} {i : Int} (h : S.ok) (hi : hasB S i = true) : (i :: (visS 10 (aplS S i) i).2).length ≤ S.length := by
  have h1 := app_law h hi
  have := nodup_le _ (S.map Nd.id) (ranked_nodup h1.1) (fun x hx => hasB_iff.1 (h1.2 x hx).2)
  rwa [List.length_map] at this
theorem rootOf_keeps {S T : Fo} (h : Keeps S T) (i : Int) : rootOf T i = rootOf S i := by unfold rootOf; rw [hasB_ids h.ids, h.par]
set_option maxHeartbeats 8000000 in
theorem SubsurfaceApplication_walk (A : Option Addr) (n cap : Nat) (l : List YOp) (id : Int) (w : World) (h : OArg w A n l) :
    Calls Try.prog 8 #[.slice A n cap, .int .i64 id] w fun e w' => e = .returned (.bool true) ∧ Same w w' := by
  have hm := h.2.2
  unfold maxLen at hm
  have HA := Lib.hid h
  clear h
  by_cases hn : 60 < n
  · go_enter Try.func8, Try.ntmps8
    go_wp2_with fail
    refine (example18_ok w).mono ?_
    rintro e w9 ⟨rfl, hs9⟩
    have HS9 := Lib.hid hs9
    clear hs9
    go_wp2
    go_ret
    exact ⟨rfl, HS9.out⟩
  have hz : ¬ (60 : Int) < n := by omega
  go_enter Try.func8, Try.ntmps8
  go_wp2_with fail
  refine (build_v A n cap l w HA.out (by omega)).mono ?_
  rintro e w1 ⟨b, R, rfl, hy, hlen⟩
  obtain ⟨S, hS⟩ : ∃ S, S = buildS l := ⟨_, rfl⟩
  rw [← hS] at hy hlen
  have HY := Lib.hid hy
  clear hy hS
  cases hi : hasB S id with
  | false =>
    have hc : comR S id = (S, [], 8) := by unfold comR; rw [if_neg (by rw [hi]; simp)]
    have HCM := Lib.hid hc
    clear hi hc
    go_wp2_with fail
    refine (ycommit_v HY.out id HCM.out rfl).mono ?_
    rintro e w2 ⟨B, c, R2, rfl, hy2, _, _⟩
    have HS2 := Lib.hid hy2.s0
    clear hy2
    go_wp2_with fail
    refine (example18_ok _).mono ?_
    rintro e w9 ⟨rfl, hs9⟩
    have HS9 := Lib.hid (HS2.out.trans hs9)
    clear hs9
    go_wp2
    go_ret
    exact ⟨rfl, HS9.out⟩
  | true =>
  cases hsy : synB S id with
  | true =>
    have hc : comR S id = (cchS S id, [], 0) := by unfold comR; rw [if_pos hi, if_pos hsy]
    have HCM := Lib.hid hc
    clear hi hsy hc
    go_wp2_with fail
    refine (ycommit_v HY.out id HCM.out rfl).mono ?_
    rintro e w2 ⟨B, c, R2, rfl, hy2, _, _⟩
    have HS2 := Lib.hid hy2.s0
    clear hy2
    go_wp2_with fail
    refine (example18_ok _).mono ?_
    rintro e w9 ⟨rfl, hs9⟩
    have HS9 := Lib.hid (HS2.out.trans hs9)
    clear hs9
    go_wp2
    go_ret
    exact ⟨rfl, HS9.out⟩
  | false =>
    obtain ⟨L, hL⟩ : ∃ L, L = id :: (visS 10 (aplS S id) id).2 := ⟨_, rfl⟩
    obtain ⟨T, hT⟩ : ∃ T, T = (visS 10 (aplS S id) id).1 := ⟨_, rfl⟩
    have hc : comR S id = (T, L, 0) := by unfold comR; rw [if_pos hi, if_neg (by rw [hsy]; simp), hL, hT]
    have hK : Keeps S T := by rw [hT]; exact (Keeps.apl HY.out.ok id).trans (visS_keeps 10 _ id (apl_ok HY.out.ok))
    have hlaw := app_law HY.out.ok hi
    have hLl := app_len HY.out.ok hi
    rw [← hL] at hlaw hLl
    have hL0 : L[0]? = some id := by rw [hL]; rfl
    have hLp : 0 < L.length := by rw [hL]; simp
    have HCM := Lib.hid hc
    have HLAW := Lib.hid (And.intro hK (And.intro hlaw.1 (And.intro hlaw.2 hL0)))
    have HI := Lib.hid hi
    have hLz : ((L.length : Int) == 0) = false := beq_eq_false_iff_ne.2 (by omega)
    clear hi hsy hc hK hlaw hL0 hL hT
    go_wp2_with fail
    refine (ycommit_v HY.out id HCM.out rfl).mono ?_
    rintro e w2 ⟨B, c, R2, rfl, hy2, _, hI2⟩
    obtain ⟨g, o, rfl, hcells⟩ := hI2.1.2 hLp
    have hc0 := hcells 0 id HLAW.out.2.2.2
    rw [Nat.add_zero] at hc0
    have HY2 := Lib.hid hy2
    have HC := Lib.hid hcells
    clear hy2 hI2 hcells
    go_wp2_with fail
    go_loopw [9, 10, 11] (fun v9 v10 v11 wr => ∃ j : Nat, v9 = .int .i64 j ∧ j ≤ L.length ∧ Same w2 wr) (fun v9 v10 v11 wr => L.length - (intOf v9).toNat)
    case atStart => exact ⟨0, rfl, by omega, Chg.refl _ _⟩
    case round =>
      obtain ⟨j, rfl, hj, hsm⟩ := hrel
      by_cases hlt : j < L.length
      · obtain ⟨x, hx⟩ : ∃ x, L[j]? = some x := ⟨_, List.getElem?_eq_getElem hlt⟩
        have q := hsm.cell (HC.out j x hx) (fun q => q)
        have hjz : (j : Int) < L.length := by omega
        have HSM := Lib.hid hsm
        have HX := Lib.hid hx
        obtain ⟨p, hp⟩ : ∃ p, p = parOf T x := ⟨_, rfl⟩
        have HPP := Lib.hid hp
        have hmx := HLAW.out.2.2.1 x (List.mem_of_getElem? hx)
        have hroot : rootOf T x = rootOf T id := by
          rw [rootOf_keeps HLAW.out.1, rootOf_keeps HLAW.out.1]
          exact rootOf_in HY.out.ok _ x id (Nat.le_refl _) hmx.2 hmx.1
        have HRT := Lib.hid hroot
        clear hsm hx hp hc0 hmx hroot
        go_wp2_with fail
        refine (yparent_v (HY2.out.same HSM.out) x).mono ?_
        rintro e w4 ⟨rfl, rfl⟩
        rw [← HPP.out]
        go_wp2_with fail
        go_loopw [11] (fun v11 wq => ∃ k : Nat, v11 = .int .i64 k ∧ k ≤ L.length ∧ Same w2 wq) (fun v11 wq => L.length - (intOf v11).toNat)
        case atStart => exact ⟨0, rfl, by omega, HSM.out⟩
        case round =>
          obtain ⟨k, rfl, hk, hsm⟩ := hrel
          have HS3 := Lib.hid hsm
          by_cases hkL : k < L.length
          · obtain ⟨y, hy⟩ : ∃ y, L[k]? = some y := ⟨_, List.getElem?_eq_getElem hkL⟩
            have p0 := hsm.cell (HC.out k y hy) (fun q => q)
            have p1 := hsm.cell (HC.out j x HX.out) (fun q => q)
            have hkz : (k : Int) < L.length := by omega
            have hrk : ∀ a b : Nat, ∀ u v : Int, L[a]? = some u → L[b]? = some v → a < b → v ≠ u ∧ v ≠ parOf T u := fun a b u v ha hb hab => by
              obtain ⟨ha1, ha2⟩ := List.getElem?_eq_some_iff.1 ha
              obtain ⟨hb1, hb2⟩ := List.getElem?_eq_some_iff.1 hb
              have := List.pairwise_iff_getElem.1 HLAW.out.2.1 a b ha1 hb1 hab
              rw [ha2, hb2] at this
              rw [HLAW.out.1.par]
              exact this
            have hyx : k ≠ j → y ≠ x := fun hne => by
              rcases Nat.lt_or_gt_of_ne hne with q | q
              · exact fun e => (hrk k j y x hy HX.out q).1 e.symm
              · exact (hrk j k x y HX.out hy q).1
            have hyp : j < k → y ≠ p := fun hlt2 => by rw [HPP.out]; exact (hrk j k x y HX.out hy hlt2).2
            clear hrk hy q
            by_cases hkj : k = j
            · have hkk : ((k : Int) != j) = false := bne_eq_false_iff_eq.2 (by omega)
              have hgt : ¬ (j : Int) < k := by omega
              by_cases hj0 : 0 < j
              · have hj0z : (0 : Int) < j := by omega
                cases hyq : (y == p) with
                | true =>
                  clear hyx hyp hkj
                  clear hsm
                  go_wp2_with fail
                  refine region_path (S := (fun w' => w'.cell? ⟨g, o + k, none⟩ = some (.int .i64 y) ∧ w'.cell? ⟨g, o + j, none⟩ = some (.int .i64 x))) 99 [(0, true), (1, true), (2, true), (3, true), (4, true), (5, true), (6, true), (7, true), (8, true), (9, true), (10, true), (11, true), (12, true), (13, true), (14, true), (15, true), (16, true), (17, true), (18, true), (19, true), (20, true), (21, true), (22, true), (23, true), (24, true), (25, true), (26, true), (27, true), (28, true), (29, true), (30, true)] (by kernel_rfl) (by kernel_rfl) (by kernel_rfl) ⟨p0, p1⟩ ?_
                  have hsd := HS3.out.drew; generalize wr.drew = wd at *
                  refine path_read (i := 0) (v := ?v1_0) rfl (by rfl) (fun _ _ _ h => h) ?hy1_0 ?_
                  case hy1_0 => ((intro w hSw; (try dsimp only at hSw); go_simp) <;> (try with_reducible rfl))
                  try simp only [Act.put, List.setIfInBounds_toArray, List.set_cons_zero, List.set_cons_succ]
                  refine path_read (i := 1) (v := ?v1_1) rfl (by rfl) (fun _ _ _ h => h) ?hy1_1 ?_
                  case hy1_1 => ((intro w hSw; (try dsimp only at hSw); go_simp) <;> (try with_reducible rfl))
                  try simp only [Act.put, List.setIfInBounds_toArray, List.set_cons_zero, List.set_cons_succ]
                  refine path_read (i := 2) (v := (.bool false) ) rfl (by rfl) (fun _ _ _ h => h) ?hy1_2 ?_
                  case hy1_2 => (intro w hSw;  (go_simp; try simp [hkk]; try omega))
                  try simp only [Act.put, List.setIfInBounds_toArray, List.set_cons_zero, List.set_cons_succ]
                  refine path_read (i := 3) (v := ?v1_3) rfl (by rfl) (fun _ _ _ h => h) ?hy1_3 ?_
                  case hy1_3 => ((intro w hSw; (try dsimp only at hSw); go_simp) <;> (try with_reducible rfl))
                  try simp only [Act.put, List.setIfInBounds_toArray, List.set_cons_zero, List.set_cons_succ]
                  refine path_pass (i := 4) rfl (by rfl) (fun _ _ _ h => h) ?_
                  try simp only [Act.put, List.setIfInBounds_toArray, List.set_cons_zero, List.set_cons_succ]
                  refine path_pass (i := 5) rfl (by rfl) (fun _ _ _ h => h) ?_
                  try simp only [Act.put, List.setIfInBounds_toArray, List.set_cons_zero, List.set_cons_succ]
                  refine path_pass (i := 6) rfl (by rfl) (fun _ _ _ h => h) ?_
                  try simp only [Act.put, List.setIfInBounds_toArray, List.set_cons_zero, List.set_cons_succ]
                  refine path_pass (i := 7) rfl (by rfl) (fun _ _ _ h => h) ?_
                  try simp only [Act.put, List.setIfInBounds_toArray, List.set_cons_zero, List.set_cons_succ]
                  refine path_pass (i := 8) rfl (by rfl) (fun _ _ _ h => h) ?_
                  try simp only [Act.put, List.setIfInBounds_toArray, List.set_cons_zero, List.set_cons_succ]
                  refine path_pass (i := 9) rfl (by rfl) (fun _ _ _ h => h) ?_
                  try simp only [Act.put, List.setIfInBounds_toArray, List.set_cons_zero, List.set_cons_succ]
                  refine path_pass (i := 10) rfl (by rfl) (fun _ _ _ h => h) ?_
                  try simp only [Act.put, List.setIfInBounds_toArray, List.set_cons_zero, List.set_cons_succ]
                  refine path_pass (i := 11) rfl (by rfl) (fun _ _ _ h => h) ?_
                  try simp only [Act.put, List.setIfInBounds_toArray, List.set_cons_zero, List.set_cons_succ]
                  refine path_pass (i := 12) rfl (by rfl) (fun _ _ _ h => h) ?_
                  try simp only [Act.put, List.setIfInBounds_toArray, List.set_cons_zero, List.set_cons_succ]
                  refine path_read (i := 13) (v := ?v1_13) rfl (by rfl) (fun _ _ _ h => h) ?hy1_13 ?_
                  case hy1_13 => ((intro w hSw; (try dsimp only at hSw); go_simp) <;> (try with_reducible rfl))
                  try simp only [Act.put, List.setIfInBounds_toArray, List.set_cons_zero, List.set_cons_succ]
                  refine path_read (i := 14) (v := ?v1_14) rfl (by rfl) (fun _ _ _ h => h) ?hy1_14 ?_
                  case hy1_14 => ((intro w hSw; (try dsimp only at hSw); go_simp) <;> (try with_reducible rfl))
                  try simp only [Act.put, List.setIfInBounds_toArray, List.set_cons_zero, List.set_cons_succ]
                  refine path_read (i := 15) (v := ?v1_15) rfl (by rfl) (fun _ _ _ h => h) ?hy1_15 ?_
                  case hy1_15 => ((intro w hSw; (try dsimp only at hSw); go_simp) <;> (try with_reducible rfl))
                  try simp only [Act.put, List.setIfInBounds_toArray, List.set_cons_zero, List.set_cons_succ]
                  refine path_read (i := 16) (v := (.bool true) ) rfl (by rfl) (fun _ _ _ h => h) ?hy1_16 ?_
                  case hy1_16 => (intro w hSw;  (go_simp; (try simp); (try omega)))
                  try simp only [Act.put, List.setIfInBounds_toArray, List.set_cons_zero, List.set_cons_succ]
                  refine path_read (i := 17) (v := ?v1_17) rfl (by rfl) (fun _ _ _ h => h) ?hy1_17 ?_
                  case hy1_17 => ((intro w hSw; (try dsimp only at hSw); go_simp) <;> (try with_reducible rfl))
                  try simp only [Act.put, List.setIfInBounds_toArray, List.set_cons_zero, List.set_cons_succ]
                  refine path_read (i := 18) (v := ?v1_18) rfl (by rfl) (fun _ _ _ h => h) ?hy1_18 ?_
                  case hy1_18 => ((intro w hSw; (try dsimp only at hSw); go_simp) <;> (try with_reducible rfl))
                  try simp only [Act.put, List.setIfInBounds_toArray, List.set_cons_zero, List.set_cons_succ]
                  refine path_read (i := 19) (v := ?v1_19) rfl (by rfl) (fun _ _ _ h => h) ?hy1_19 ?_
                  case hy1_19 => ((intro w hSw; (try dsimp only at hSw); go_simp) <;> (try with_reducible rfl))
                  try simp only [Act.put, List.setIfInBounds_toArray, List.set_cons_zero, List.set_cons_succ]
                  refine path_read (i := 20) (v := ?v1_20) rfl (by rfl) (fun _ _ _ h => h) ?hy1_20 ?_
                  case hy1_20 => ((intro w hSw; (try dsimp only at hSw); go_simp) <;> (try with_reducible rfl))
                  try simp only [Act.put, List.setIfInBounds_toArray, List.set_cons_zero, List.set_cons_succ]
                  refine path_read (i := 21) (v := ?v1_21) rfl (by rfl) (fun _ _ _ h => h) ?hy1_21 ?_
                  case hy1_21 => ((intro w hSw; (try dsimp only at hSw); go_simp) <;> (try with_reducible rfl))
                  try simp only [Act.put, List.setIfInBounds_toArray, List.set_cons_zero, List.set_cons_succ]
                  refine path_read (i := 22) (v := ?v1_22) rfl (by rfl) (fun _ _ _ h => h) ?hy1_22 ?_
                  case hy1_22 => ((intro w hSw; (try dsimp only at hSw); go_simp) <;> (try with_reducible rfl))
                  try simp only [Act.put, List.setIfInBounds_toArray, List.set_cons_zero, List.set_cons_succ]
                  refine path_read (i := 23) (v := (.bool true) ) rfl (by rfl) (fun _ _ _ h => h) ?hy1_23 ?_
                  case hy1_23 => (intro w hSw;  (go_simp; try simp [hyq]))
                  try simp only [Act.put, List.setIfInBounds_toArray, List.set_cons_zero, List.set_cons_succ]
                  refine path_read (i := 24) (v := ?v1_24) rfl (by rfl) (fun _ _ _ h => h) ?hy1_24 ?_
                  case hy1_24 => ((intro w hSw; (try dsimp only at hSw); go_simp) <;> (try with_reducible rfl))
                  try simp only [Act.put, List.setIfInBounds_toArray, List.set_cons_zero, List.set_cons_succ]
                  refine path_read (i := 25) (v := ?v1_25) rfl (by rfl) (fun _ _ _ h => h) ?hy1_25 ?_
                  case hy1_25 => ((intro w hSw; (try dsimp only at hSw); go_simp) <;> (try with_reducible rfl))
                  try simp only [Act.put, List.setIfInBounds_toArray, List.set_cons_zero, List.set_cons_succ]
                  refine path_read (i := 26) (v := ?v1_26) rfl (by rfl) (fun _ _ _ h => h) ?hy1_26 ?_
                  case hy1_26 => ((intro w hSw; (try dsimp only at hSw); go_simp) <;> (try with_reducible rfl))
                  try simp only [Act.put, List.setIfInBounds_toArray, List.set_cons_zero, List.set_cons_succ]
                  refine path_read (i := 27) (v := ?v1_27) rfl (by rfl) (fun _ _ _ h => h) ?hy1_27 ?_
                  case hy1_27 => ((intro w hSw; (try dsimp only at hSw); go_simp) <;> (try with_reducible rfl))
                  try simp only [Act.put, List.setIfInBounds_toArray, List.set_cons_zero, List.set_cons_succ]
                  refine path_read (i := 28) (v := (.bool false) ) rfl (by rfl) (fun _ _ _ h => h) ?hy1_28 ?_
                  case hy1_28 => (intro w hSw;  (go_simp; (try simp); (try omega)))
                  try simp only [Act.put, List.setIfInBounds_toArray, List.set_cons_zero, List.set_cons_succ]
                  refine path_read (i := 29) (v := ?v1_29) rfl (by rfl) (fun _ _ _ h => h) ?hy1_29 ?_
                  case hy1_29 => ((intro w hSw; (try dsimp only at hSw); go_simp) <;> (try with_reducible rfl))
                  try simp only [Act.put, List.setIfInBounds_toArray, List.set_cons_zero, List.set_cons_succ]
                  refine path_read (i := 30) (v := ?v1_30) rfl (by rfl) (fun _ _ _ h => h) ?hy1_30 ?_
                  case hy1_30 => ((intro w hSw; (try dsimp only at hSw); go_simp) <;> (try with_reducible rfl))
                  try simp only [Act.put, List.setIfInBounds_toArray, List.set_cons_zero, List.set_cons_succ]
                  refine path_end ?_
                  go_wp2
                  go_roundw
                  case rel => first | exact ⟨k + 1, by go_num, by omega, hsd⟩ | ((repeat apply Exists.intro); exact ⟨⟨k + 1, by go_num, by omega, hsd⟩, rfl⟩)
                  case measure => simp [intOf]; omega
                | false =>
                  clear hyx hyp hkj
                  clear hsm
                  go_wp2_with fail
                  refine region_path (S := (fun w' => w'.cell? ⟨g, o + k, none⟩ = some (.int .i64 y) ∧ w'.cell? ⟨g, o + j, none⟩ = some (.int .i64 x))) 99 [(0, true), (1, true), (2, true), (3, true), (4, true), (5, true), (6, true), (7, true), (8, true), (9, true), (10, true), (11, true), (12, true), (13, true), (14, true), (15, true), (16, true), (17, true), (18, true), (19, true), (20, true), (21, true), (22, true), (23, true), (24, true), (25, true), (26, true), (27, true), (28, true), (29, true), (30, true)] (by kernel_rfl) (by kernel_rfl) (by kernel_rfl) ⟨p0, p1⟩ ?_
                  have hsd := HS3.out.drew; generalize wr.drew = wd at *
                  refine path_read (i := 0) (v := ?v2_0) rfl (by rfl) (fun _ _ _ h => h) ?hy2_0 ?_
                  case hy2_0 => ((intro w hSw; (try dsimp only at hSw); go_simp) <;> (try with_reducible rfl))
                  try simp only [Act.put, List.setIfInBounds_toArray, List.set_cons_zero, List.set_cons_succ]
                  refine path_read (i := 1) (v := ?v2_1) rfl (by rfl) (fun _ _ _ h => h) ?hy2_1 ?_
                  case hy2_1 => ((intro w hSw; (try dsimp only at hSw); go_simp) <;> (try with_reducible rfl))
                  try simp only [Act.put, List.setIfInBounds_toArray, List.set_cons_zero, List.set_cons_succ]
                  refine path_read (i := 2) (v := (.bool false) ) rfl (by rfl) (fun _ _ _ h => h) ?hy2_2 ?_
                  case hy2_2 => (intro w hSw;  (go_simp; try simp [hkk]; try omega))
                  try simp only [Act.put, List.setIfInBounds_toArray, List.set_cons_zero, List.set_cons_succ]
                  refine path_read (i := 3) (v := ?v2_3) rfl (by rfl) (fun _ _ _ h => h) ?hy2_3 ?_
                  case hy2_3 => ((intro w hSw; (try dsimp only at hSw); go_simp) <;> (try with_reducible rfl))
                  try simp only [Act.put, List.setIfInBounds_toArray, List.set_cons_zero, List.set_cons_succ]
                  refine path_pass (i := 4) rfl (by rfl) (fun _ _ _ h => h) ?_
                  try simp only [Act.put, List.setIfInBounds_toArray, List.set_cons_zero, List.set_cons_succ]
                  refine path_pass (i := 5) rfl (by rfl) (fun _ _ _ h => h) ?_
                  try simp only [Act.put, List.setIfInBounds_toArray, List.set_cons_zero, List.set_cons_succ]
                  refine path_pass (i := 6) rfl (by rfl) (fun _ _ _ h => h) ?_
                  try simp only [Act.put, List.setIfInBounds_toArray, List.set_cons_zero, List.set_cons_succ]
                  refine path_pass (i := 7) rfl (by rfl) (fun _ _ _ h => h) ?_
                  try simp only [Act.put, List.setIfInBounds_toArray, List.set_cons_zero, List.set_cons_succ]
                  refine path_pass (i := 8) rfl (by rfl) (fun _ _ _ h => h) ?_
                  try simp only [Act.put, List.setIfInBounds_toArray, List.set_cons_zero, List.set_cons_succ]
                  refine path_pass (i := 9) rfl (by rfl) (fun _ _ _ h => h) ?_
                  try simp only [Act.put, List.setIfInBounds_toArray, List.set_cons_zero, List.set_cons_succ]
                  refine path_pass (i := 10) rfl (by rfl) (fun _ _ _ h => h) ?_
                  try simp only [Act.put, List.setIfInBounds_toArray, List.set_cons_zero, List.set_cons_succ]
                  refine path_pass (i := 11) rfl (by rfl) (fun _ _ _ h => h) ?_
                  try simp only [Act.put, List.setIfInBounds_toArray, List.set_cons_zero, List.set_cons_succ]
                  refine path_pass (i := 12) rfl (by rfl) (fun _ _ _ h => h) ?_
                  try simp only [Act.put, List.setIfInBounds_toArray, List.set_cons_zero, List.set_cons_succ]
                  refine path_read (i := 13) (v := ?v2_13) rfl (by rfl) (fun _ _ _ h => h) ?hy2_13 ?_
                  case hy2_13 => ((intro w hSw; (try dsimp only at hSw); go_simp) <;> (try with_reducible rfl))
                  try simp only [Act.put, List.setIfInBounds_toArray, List.set_cons_zero, List.set_cons_succ]
                  refine path_read (i := 14) (v := ?v2_14) rfl (by rfl) (fun _ _ _ h => h) ?hy2_14 ?_
                  case hy2_14 => ((intro w hSw; (try dsimp only at hSw); go_simp) <;> (try with_reducible rfl))
                  try simp only [Act.put, List.setIfInBounds_toArray, List.set_cons_zero, List.set_cons_succ]
                  refine path_read (i := 15) (v := ?v2_15) rfl (by rfl) (fun _ _ _ h => h) ?hy2_15 ?_
                  case hy2_15 => ((intro w hSw; (try dsimp only at hSw); go_simp) <;> (try with_reducible rfl))
                  try simp only [Act.put, List.setIfInBounds_toArray, List.set_cons_zero, List.set_cons_succ]
                  refine path_read (i := 16) (v := (.bool true) ) rfl (by rfl) (fun _ _ _ h => h) ?hy2_16 ?_
                  case hy2_16 => (intro w hSw;  (go_simp; (try simp); (try omega)))
                  try simp only [Act.put, List.setIfInBounds_toArray, List.set_cons_zero, List.set_cons_succ]
                  refine path_read (i := 17) (v := ?v2_17) rfl (by rfl) (fun _ _ _ h => h) ?hy2_17 ?_
                  case hy2_17 => ((intro w hSw; (try dsimp only at hSw); go_simp) <;> (try with_reducible rfl))
                  try simp only [Act.put, List.setIfInBounds_toArray, List.set_cons_zero, List.set_cons_succ]
                  refine path_read (i := 18) (v := ?v2_18) rfl (by rfl) (fun _ _ _ h => h) ?hy2_18 ?_
                  case hy2_18 => ((intro w hSw; (try dsimp only at hSw); go_simp) <;> (try with_reducible rfl))
                  try simp only [Act.put, List.setIfInBounds_toArray, List.set_cons_zero, List.set_cons_succ]
                  refine path_read (i := 19) (v := ?v2_19) rfl (by rfl) (fun _ _ _ h => h) ?hy2_19 ?_
                  case hy2_19 => ((intro w hSw; (try dsimp only at hSw); go_simp) <;> (try with_reducible rfl))
                  try simp only [Act.put, List.setIfInBounds_toArray, List.set_cons_zero, List.set_cons_succ]
                  refine path_read (i := 20) (v := ?v2_20) rfl (by rfl) (fun _ _ _ h => h) ?hy2_20 ?_
                  case hy2_20 => ((intro w hSw; (try dsimp only at hSw); go_simp) <;> (try with_reducible rfl))
                  try simp only [Act.put, List.setIfInBounds_toArray, List.set_cons_zero, List.set_cons_succ]
                  refine path_read (i := 21) (v := ?v2_21) rfl (by rfl) (fun _ _ _ h => h) ?hy2_21 ?_
                  case hy2_21 => ((intro w hSw; (try dsimp only at hSw); go_simp) <;> (try with_reducible rfl))
                  try simp only [Act.put, List.setIfInBounds_toArray, List.set_cons_zero, List.set_cons_succ]
                  refine path_read (i := 22) (v := ?v2_22) rfl (by rfl) (fun _ _ _ h => h) ?hy2_22 ?_
                  case hy2_22 => ((intro w hSw; (try dsimp only at hSw); go_simp) <;> (try with_reducible rfl))
                  try simp only [Act.put, List.setIfInBounds_toArray, List.set_cons_zero, List.set_cons_succ]
                  refine path_read (i := 23) (v := (.bool false) ) rfl (by rfl) (fun _ _ _ h => h) ?hy2_23 ?_
                  case hy2_23 => (intro w hSw;  (go_simp; try simp [hyq]))
                  try simp only [Act.put, List.setIfInBounds_toArray, List.set_cons_zero, List.set_cons_succ]
                  refine path_read (i := 24) (v := ?v2_24) rfl (by rfl) (fun _ _ _ h => h) ?hy2_24 ?_
                  case hy2_24 => ((intro w hSw; (try dsimp only at hSw); go_simp) <;> (try with_reducible rfl))
                  try simp only [Act.put, List.setIfInBounds_toArray, List.set_cons_zero, List.set_cons_succ]
                  refine path_read (i := 25) (v := ?v2_25) rfl (by rfl) (fun _ _ _ h => h) ?hy2_25 ?_
                  case hy2_25 => ((intro w hSw; (try dsimp only at hSw); go_simp) <;> (try with_reducible rfl))
                  try simp only [Act.put, List.setIfInBounds_toArray, List.set_cons_zero, List.set_cons_succ]
                  refine path_pass (i := 26) rfl (by rfl) (fun _ _ _ h => h) ?_
                  try simp only [Act.put, List.setIfInBounds_toArray, List.set_cons_zero, List.set_cons_succ]
                  refine path_pass (i := 27) rfl (by rfl) (fun _ _ _ h => h) ?_
                  try simp only [Act.put, List.setIfInBounds_toArray, List.set_cons_zero, List.set_cons_succ]
                  refine path_pass (i := 28) rfl (by rfl) (fun _ _ _ h => h) ?_
                  try simp only [Act.put, List.setIfInBounds_toArray, List.set_cons_zero, List.set_cons_succ]
                  refine path_read (i := 29) (v := ?v2_29) rfl (by rfl) (fun _ _ _ h => h) ?hy2_29 ?_
                  case hy2_29 => ((intro w hSw; (try dsimp only at hSw); go_simp) <;> (try with_reducible rfl))
                  try simp only [Act.put, List.setIfInBounds_toArray, List.set_cons_zero, List.set_cons_succ]
                  refine path_read (i := 30) (v := ?v2_30) rfl (by rfl) (fun _ _ _ h => h) ?hy2_30 ?_
                  case hy2_30 => ((intro w hSw; (try dsimp only at hSw); go_simp) <;> (try with_reducible rfl))
                  try simp only [Act.put, List.setIfInBounds_toArray, List.set_cons_zero, List.set_cons_succ]
                  refine path_end ?_
                  go_wp2
                  go_roundw
                  case rel => first | exact ⟨k + 1, by go_num, by omega, hsd⟩ | ((repeat apply Exists.intro); exact ⟨⟨k + 1, by go_num, by omega, hsd⟩, rfl⟩)
                  case measure => simp [intOf]; omega
              · have hj0z : ¬ (0 : Int) < j := by omega
                clear hyx hyp hkj
                clear hsm
                go_wp2_with fail
                refine region_path (S := (fun w' => w'.cell? ⟨g, o + k, none⟩ = some (.int .i64 y) ∧ w'.cell? ⟨g, o + j, none⟩ = some (.int .i64 x))) 99 [(0, true), (1, true), (2, true), (3, true), (4, true), (5, true), (6, true), (7, true), (8, true), (9, true), (10, true), (11, true), (12, true), (13, true), (14, true), (15, true), (16, true), (17, true), (18, true), (19, true), (20, true), (21, true), (22, true), (23, true), (24, true), (25, true), (26, true), (27, true), (28, true), (29, true), (30, true)] (by kernel_rfl) (by kernel_rfl) (by kernel_rfl) ⟨p0, p1⟩ ?_
                have hsd := HS3.out.drew; generalize wr.drew = wd at *
                refine path_read (i := 0) (v := ?v3_0) rfl (by rfl) (fun _ _ _ h => h) ?hy3_0 ?_
                case hy3_0 => ((intro w hSw; (try dsimp only at hSw); go_simp) <;> (try with_reducible rfl))
                try simp only [Act.put, List.setIfInBounds_toArray, List.set_cons_zero, List.set_cons_succ]
                refine path_read (i := 1) (v := ?v3_1) rfl (by rfl) (fun _ _ _ h => h) ?hy3_1 ?_
                case hy3_1 => ((intro w hSw; (try dsimp only at hSw); go_simp) <;> (try with_reducible rfl))
                try simp only [Act.put, List.setIfInBounds_toArray, List.set_cons_zero, List.set_cons_succ]
                refine path_read (i := 2) (v := (.bool false) ) rfl (by rfl) (fun _ _ _ h => h) ?hy3_2 ?_
                case hy3_2 => (intro w hSw;  (go_simp; try simp [hkk]; try omega))
                try simp only [Act.put, List.setIfInBounds_toArray, List.set_cons_zero, List.set_cons_succ]
                refine path_read (i := 3) (v := ?v3_3) rfl (by rfl) (fun _ _ _ h => h) ?hy3_3 ?_
                case hy3_3 => ((intro w hSw; (try dsimp only at hSw); go_simp) <;> (try with_reducible rfl))
                try simp only [Act.put, List.setIfInBounds_toArray, List.set_cons_zero, List.set_cons_succ]
                refine path_pass (i := 4) rfl (by rfl) (fun _ _ _ h => h) ?_
                try simp only [Act.put, List.setIfInBounds_toArray, List.set_cons_zero, List.set_cons_succ]
                refine path_pass (i := 5) rfl (by rfl) (fun _ _ _ h => h) ?_
                try simp only [Act.put, List.setIfInBounds_toArray, List.set_cons_zero, List.set_cons_succ]
                refine path_pass (i := 6) rfl (by rfl) (fun _ _ _ h => h) ?_
                try simp only [Act.put, List.setIfInBounds_toArray, List.set_cons_zero, List.set_cons_succ]
                refine path_pass (i := 7) rfl (by rfl) (fun _ _ _ h => h) ?_
                try simp only [Act.put, List.setIfInBounds_toArray, List.set_cons_zero, List.set_cons_succ]
                refine path_pass (i := 8) rfl (by rfl) (fun _ _ _ h => h) ?_
                try simp only [Act.put, List.setIfInBounds_toArray, List.set_cons_zero, List.set_cons_succ]
                refine path_pass (i := 9) rfl (by rfl) (fun _ _ _ h => h) ?_
                try simp only [Act.put, List.setIfInBounds_toArray, List.set_cons_zero, List.set_cons_succ]
                refine path_pass (i := 10) rfl (by rfl) (fun _ _ _ h => h) ?_
                try simp only [Act.put, List.setIfInBounds_toArray, List.set_cons_zero, List.set_cons_succ]
                refine path_pass (i := 11) rfl (by rfl) (fun _ _ _ h => h) ?_
                try simp only [Act.put, List.setIfInBounds_toArray, List.set_cons_zero, List.set_cons_succ]
                refine path_pass (i := 12) rfl (by rfl) (fun _ _ _ h => h) ?_
                try simp only [Act.put, List.setIfInBounds_toArray, List.set_cons_zero, List.set_cons_succ]
                refine path_read (i := 13) (v := ?v3_13) rfl (by rfl) (fun _ _ _ h => h) ?hy3_13 ?_
                case hy3_13 => ((intro w hSw; (try dsimp only at hSw); go_simp) <;> (try with_reducible rfl))
                try simp only [Act.put, List.setIfInBounds_toArray, List.set_cons_zero, List.set_cons_succ]
                refine path_read (i := 14) (v := ?v3_14) rfl (by rfl) (fun _ _ _ h => h) ?hy3_14 ?_
                case hy3_14 => ((intro w hSw; (try dsimp only at hSw); go_simp) <;> (try with_reducible rfl))
                try simp only [Act.put, List.setIfInBounds_toArray, List.set_cons_zero, List.set_cons_succ]
                refine path_read (i := 15) (v := ?v3_15) rfl (by rfl) (fun _ _ _ h => h) ?hy3_15 ?_
                case hy3_15 => ((intro w hSw; (try dsimp only at hSw); go_simp) <;> (try with_reducible rfl))
                try simp only [Act.put, List.setIfInBounds_toArray, List.set_cons_zero, List.set_cons_succ]
                refine path_read (i := 16) (v := (.bool false) ) rfl (by rfl) (fun _ _ _ h => h) ?hy3_16 ?_
                case hy3_16 => (intro w hSw;  (go_simp; (try simp); (try omega)))
                try simp only [Act.put, List.setIfInBounds_toArray, List.set_cons_zero, List.set_cons_succ]
                refine path_read (i := 17) (v := ?v3_17) rfl (by rfl) (fun _ _ _ h => h) ?hy3_17 ?_
                case hy3_17 => ((intro w hSw; (try dsimp only at hSw); go_simp) <;> (try with_reducible rfl))
                try simp only [Act.put, List.setIfInBounds_toArray, List.set_cons_zero, List.set_cons_succ]
                refine path_pass (i := 18) rfl (by rfl) (fun _ _ _ h => h) ?_
                try simp only [Act.put, List.setIfInBounds_toArray, List.set_cons_zero, List.set_cons_succ]
                refine path_pass (i := 19) rfl (by rfl) (fun _ _ _ h => h) ?_
                try simp only [Act.put, List.setIfInBounds_toArray, List.set_cons_zero, List.set_cons_succ]
                refine path_pass (i := 20) rfl (by rfl) (fun _ _ _ h => h) ?_
                try simp only [Act.put, List.setIfInBounds_toArray, List.set_cons_zero, List.set_cons_succ]
                refine path_pass (i := 21) rfl (by rfl) (fun _ _ _ h => h) ?_
                try simp only [Act.put, List.setIfInBounds_toArray, List.set_cons_zero, List.set_cons_succ]
                refine path_pass (i := 22) rfl (by rfl) (fun _ _ _ h => h) ?_
                try simp only [Act.put, List.setIfInBounds_toArray, List.set_cons_zero, List.set_cons_succ]
                refine path_pass (i := 23) rfl (by rfl) (fun _ _ _ h => h) ?_
                try simp only [Act.put, List.setIfInBounds_toArray, List.set_cons_zero, List.set_cons_succ]
                refine path_read (i := 24) (v := ?v3_24) rfl (by rfl) (fun _ _ _ h => h) ?hy3_24 ?_
                case hy3_24 => ((intro w hSw; (try dsimp only at hSw); go_simp) <;> (try with_reducible rfl))
                try simp only [Act.put, List.setIfInBounds_toArray, List.set_cons_zero, List.set_cons_succ]
                refine path_read (i := 25) (v := ?v3_25) rfl (by rfl) (fun _ _ _ h => h) ?hy3_25 ?_
                case hy3_25 => ((intro w hSw; (try dsimp only at hSw); go_simp) <;> (try with_reducible rfl))
                try simp only [Act.put, List.setIfInBounds_toArray, List.set_cons_zero, List.set_cons_succ]
                refine path_pass (i := 26) rfl (by rfl) (fun _ _ _ h => h) ?_
                try simp only [Act.put, List.setIfInBounds_toArray, List.set_cons_zero, List.set_cons_succ]
                refine path_pass (i := 27) rfl (by rfl) (fun _ _ _ h => h) ?_
                try simp only [Act.put, List.setIfInBounds_toArray, List.set_cons_zero, List.set_cons_succ]
                refine path_pass (i := 28) rfl (by rfl) (fun _ _ _ h => h) ?_
                try simp only [Act.put, List.setIfInBounds_toArray, List.set_cons_zero, List.set_cons_succ]
                refine path_read (i := 29) (v := ?v3_29) rfl (by rfl) (fun _ _ _ h => h) ?hy3_29 ?_
                case hy3_29 => ((intro w hSw; (try dsimp only at hSw); go_simp) <;> (try with_reducible rfl))
                try simp only [Act.put, List.setIfInBounds_toArray, List.set_cons_zero, List.set_cons_succ]
                refine path_read (i := 30) (v := ?v3_30) rfl (by rfl) (fun _ _ _ h => h) ?hy3_30 ?_
                case hy3_30 => ((intro w hSw; (try dsimp only at hSw); go_simp) <;> (try with_reducible rfl))
                try simp only [Act.put, List.setIfInBounds_toArray, List.set_cons_zero, List.set_cons_succ]
                refine path_end ?_
                go_wp2
                go_roundw
                case rel => first | exact ⟨k + 1, by go_num, by omega, hsd⟩ | ((repeat apply Exists.intro); exact ⟨⟨k + 1, by go_num, by omega, hsd⟩, rfl⟩)
                case measure => simp [intOf]; omega
            · have hkk : ((k : Int) != j) = true := bne_iff_ne.2 (by omega)
              have hyb : (y == x) = false := beq_eq_false_iff_ne.2 (hyx hkj)
              by_cases hj0 : 0 < j
              · have hj0z : (0 : Int) < j := by omega
                cases hyq : (y == p) with
                | true =>
                  have hgt : ¬ (j : Int) < k := fun q => hyp (by omega) (beq_iff_eq.1 hyq)
                  clear hyx hyp
                  clear hsm
                  go_wp2_with fail
                  refine region_path (S := (fun w' => w'.cell? ⟨g, o + k, none⟩ = some (.int .i64 y) ∧ w'.cell? ⟨g, o + j, none⟩ = some (.int .i64 x))) 99 [(0, true), (1, true), (2, true), (3, true), (4, true), (5, true), (6, true), (7, true), (8, true), (9, true), (10, true), (11, true), (12, true), (13, true), (14, true), (15, true), (16, true), (17, true), (18, true), (19, true), (20, true), (21, true), (22, true), (23, true), (24, true), (25, true), (26, true), (27, true), (28, true), (29, true), (30, true)] (by kernel_rfl) (by kernel_rfl) (by kernel_rfl) ⟨p0, p1⟩ ?_
                  have hsd := HS3.out.drew; generalize wr.drew = wd at *
                  refine path_read (i := 0) (v := ?v4_0) rfl (by rfl) (fun _ _ _ h => h) ?hy4_0 ?_
                  case hy4_0 => ((intro w hSw; (try dsimp only at hSw); go_simp) <;> (try with_reducible rfl))
                  try simp only [Act.put, List.setIfInBounds_toArray, List.set_cons_zero, List.set_cons_succ]
                  refine path_read (i := 1) (v := ?v4_1) rfl (by rfl) (fun _ _ _ h => h) ?hy4_1 ?_
                  case hy4_1 => ((intro w hSw; (try dsimp only at hSw); go_simp) <;> (try with_reducible rfl))
                  try simp only [Act.put, List.setIfInBounds_toArray, List.set_cons_zero, List.set_cons_succ]
                  refine path_read (i := 2) (v := (.bool true) ) rfl (by rfl) (fun _ _ _ h => h) ?hy4_2 ?_
                  case hy4_2 => (intro w hSw;  (go_simp; try simp [hkk]; try omega))
                  try simp only [Act.put, List.setIfInBounds_toArray, List.set_cons_zero, List.set_cons_succ]
                  refine path_read (i := 3) (v := ?v4_3) rfl (by rfl) (fun _ _ _ h => h) ?hy4_3 ?_
                  case hy4_3 => ((intro w hSw; (try dsimp only at hSw); go_simp) <;> (try with_reducible rfl))
                  try simp only [Act.put, List.setIfInBounds_toArray, List.set_cons_zero, List.set_cons_succ]
                  refine path_read (i := 4) (v := ?v4_4) rfl (by rfl) (fun _ _ _ h => h) ?hy4_4 ?_
                  case hy4_4 => ((intro w hSw; (try dsimp only at hSw); go_simp) <;> (try with_reducible rfl))
                  try simp only [Act.put, List.setIfInBounds_toArray, List.set_cons_zero, List.set_cons_succ]
                  refine path_read (i := 5) (v := ?v4_5) rfl (by rfl) (fun _ _ _ h => h) ?hy4_5 ?_
                  case hy4_5 => ((intro w hSw; (try dsimp only at hSw); go_simp) <;> (try with_reducible rfl))
                  try simp only [Act.put, List.setIfInBounds_toArray, List.set_cons_zero, List.set_cons_succ]
                  refine path_read (i := 6) (v := ?v4_6) rfl (by rfl) (fun _ _ _ h => h) ?hy4_6 ?_
                  case hy4_6 => ((intro w hSw; (try dsimp only at hSw); go_simp) <;> (try with_reducible rfl))
                  try simp only [Act.put, List.setIfInBounds_toArray, List.set_cons_zero, List.set_cons_succ]
                  refine path_read (i := 7) (v := ?v4_7) rfl (by rfl) (fun _ _ _ h => h) ?hy4_7 ?_
                  case hy4_7 => ((intro w hSw; (try dsimp only at hSw); go_simp) <;> (try with_reducible rfl))
                  try simp only [Act.put, List.setIfInBounds_toArray, List.set_cons_zero, List.set_cons_succ]
                  refine path_read (i := 8) (v := ?v4_8) rfl (by rfl) (fun _ _ _ h => h) ?hy4_8 ?_
                  case hy4_8 => ((intro w hSw; (try dsimp only at hSw); go_simp) <;> (try with_reducible rfl))
                  try simp only [Act.put, List.setIfInBounds_toArray, List.set_cons_zero, List.set_cons_succ]
                  refine path_read (i := 9) (v := ?v4_9) rfl (by rfl) (fun _ _ _ h => h) ?hy4_9 ?_
                  case hy4_9 => ((intro w hSw; (try dsimp only at hSw); go_simp) <;> (try with_reducible rfl))
                  try simp only [Act.put, List.setIfInBounds_toArray, List.set_cons_zero, List.set_cons_succ]
                  refine path_read (i := 10) (v := ?v4_10) rfl (by rfl) (fun _ _ _ h => h) ?hy4_10 ?_
                  case hy4_10 => ((intro w hSw; (try dsimp only at hSw); go_simp) <;> (try with_reducible rfl))
                  try simp only [Act.put, List.setIfInBounds_toArray, List.set_cons_zero, List.set_cons_succ]
                  refine path_read (i := 11) (v := ?v4_11) rfl (by rfl) (fun _ _ _ h => h) ?hy4_11 ?_
                  case hy4_11 => ((intro w hSw; (try dsimp only at hSw); go_simp) <;> (try with_reducible rfl))
                  try simp only [Act.put, List.setIfInBounds_toArray, List.set_cons_zero, List.set_cons_succ]
                  refine path_read (i := 12) (v := (.bool false) ) rfl (by rfl) (fun _ _ _ h => h) ?hy4_12 ?_
                  case hy4_12 => (intro w hSw;  (go_simp; try simp [hyb]))
                  try simp only [Act.put, List.setIfInBounds_toArray, List.set_cons_zero, List.set_cons_succ]
                  refine path_read (i := 13) (v := ?v4_13) rfl (by rfl) (fun _ _ _ h => h) ?hy4_13 ?_
                  case hy4_13 => ((intro w hSw; (try dsimp only at hSw); go_simp) <;> (try with_reducible rfl))
                  try simp only [Act.put, List.setIfInBounds_toArray, List.set_cons_zero, List.set_cons_succ]
                  refine path_read (i := 14) (v := ?v4_14) rfl (by rfl) (fun _ _ _ h => h) ?hy4_14 ?_
                  case hy4_14 => ((intro w hSw; (try dsimp only at hSw); go_simp) <;> (try with_reducible rfl))
                  try simp only [Act.put, List.setIfInBounds_toArray, List.set_cons_zero, List.set_cons_succ]
                  refine path_read (i := 15) (v := ?v4_15) rfl (by rfl) (fun _ _ _ h => h) ?hy4_15 ?_
                  case hy4_15 => ((intro w hSw; (try dsimp only at hSw); go_simp) <;> (try with_reducible rfl))
                  try simp only [Act.put, List.setIfInBounds_toArray, List.set_cons_zero, List.set_cons_succ]
                  refine path_read (i := 16) (v := (.bool true) ) rfl (by rfl) (fun _ _ _ h => h) ?hy4_16 ?_
                  case hy4_16 => (intro w hSw;  (go_simp; (try simp); (try omega)))
                  try simp only [Act.put, List.setIfInBounds_toArray, List.set_cons_zero, List.set_cons_succ]
                  refine path_read (i := 17) (v := ?v4_17) rfl (by rfl) (fun _ _ _ h => h) ?hy4_17 ?_
                  case hy4_17 => ((intro w hSw; (try dsimp only at hSw); go_simp) <;> (try with_reducible rfl))
                  try simp only [Act.put, List.setIfInBounds_toArray, List.set_cons_zero, List.set_cons_succ]
                  refine path_read (i := 18) (v := ?v4_18) rfl (by rfl) (fun _ _ _ h => h) ?hy4_18 ?_
                  case hy4_18 => ((intro w hSw; (try dsimp only at hSw); go_simp) <;> (try with_reducible rfl))
                  try simp only [Act.put, List.setIfInBounds_toArray, List.set_cons_zero, List.set_cons_succ]
                  refine path_read (i := 19) (v := ?v4_19) rfl (by rfl) (fun _ _ _ h => h) ?hy4_19 ?_
                  case hy4_19 => ((intro w hSw; (try dsimp only at hSw); go_simp) <;> (try with_reducible rfl))
                  try simp only [Act.put, List.setIfInBounds_toArray, List.set_cons_zero, List.set_cons_succ]
                  refine path_read (i := 20) (v := ?v4_20) rfl (by rfl) (fun _ _ _ h => h) ?hy4_20 ?_
                  case hy4_20 => ((intro w hSw; (try dsimp only at hSw); go_simp) <;> (try with_reducible rfl))
                  try simp only [Act.put, List.setIfInBounds_toArray, List.set_cons_zero, List.set_cons_succ]
                  refine path_read (i := 21) (v := ?v4_21) rfl (by rfl) (fun _ _ _ h => h) ?hy4_21 ?_
                  case hy4_21 => ((intro w hSw; (try dsimp only at hSw); go_simp) <;> (try with_reducible rfl))
                  try simp only [Act.put, List.setIfInBounds_toArray, List.set_cons_zero, List.set_cons_succ]
                  refine path_read (i := 22) (v := ?v4_22) rfl (by rfl) (fun _ _ _ h => h) ?hy4_22 ?_
                  case hy4_22 => ((intro w hSw; (try dsimp only at hSw); go_simp) <;> (try with_reducible rfl))
                  try simp only [Act.put, List.setIfInBounds_toArray, List.set_cons_zero, List.set_cons_succ]
                  refine path_read (i := 23) (v := (.bool true) ) rfl (by rfl) (fun _ _ _ h => h) ?hy4_23 ?_
                  case hy4_23 => (intro w hSw;  (go_simp; try simp [hyq]))
                  try simp only [Act.put, List.setIfInBounds_toArray, List.set_cons_zero, List.set_cons_succ]
                  refine path_read (i := 24) (v := ?v4_24) rfl (by rfl) (fun _ _ _ h => h) ?hy4_24 ?_
                  case hy4_24 => ((intro w hSw; (try dsimp only at hSw); go_simp) <;> (try with_reducible rfl))
                  try simp only [Act.put, List.setIfInBounds_toArray, List.set_cons_zero, List.set_cons_succ]
                  refine path_read (i := 25) (v := ?v4_25) rfl (by rfl) (fun _ _ _ h => h) ?hy4_25 ?_
                  case hy4_25 => ((intro w hSw; (try dsimp only at hSw); go_simp) <;> (try with_reducible rfl))
                  try simp only [Act.put, List.setIfInBounds_toArray, List.set_cons_zero, List.set_cons_succ]
                  refine path_read (i := 26) (v := ?v4_26) rfl (by rfl) (fun _ _ _ h => h) ?hy4_26 ?_
                  case hy4_26 => ((intro w hSw; (try dsimp only at hSw); go_simp) <;> (try with_reducible rfl))
                  try simp only [Act.put, List.setIfInBounds_toArray, List.set_cons_zero, List.set_cons_succ]
                  refine path_read (i := 27) (v := ?v4_27) rfl (by rfl) (fun _ _ _ h => h) ?hy4_27 ?_
                  case hy4_27 => ((intro w hSw; (try dsimp only at hSw); go_simp) <;> (try with_reducible rfl))
                  try simp only [Act.put, List.setIfInBounds_toArray, List.set_cons_zero, List.set_cons_succ]
                  refine path_read (i := 28) (v := (.bool false) ) rfl (by rfl) (fun _ _ _ h => h) ?hy4_28 ?_
                  case hy4_28 => (intro w hSw;  (go_simp; (try simp); (try omega)))
                  try simp only [Act.put, List.setIfInBounds_toArray, List.set_cons_zero, List.set_cons_succ]
                  refine path_read (i := 29) (v := ?v4_29) rfl (by rfl) (fun _ _ _ h => h) ?hy4_29 ?_
                  case hy4_29 => ((intro w hSw; (try dsimp only at hSw); go_simp) <;> (try with_reducible rfl))
                  try simp only [Act.put, List.setIfInBounds_toArray, List.set_cons_zero, List.set_cons_succ]
                  refine path_read (i := 30) (v := ?v4_30) rfl (by rfl) (fun _ _ _ h => h) ?hy4_30 ?_
                  case hy4_30 => ((intro w hSw; (try dsimp only at hSw); go_simp) <;> (try with_reducible rfl))
                  try simp only [Act.put, List.setIfInBounds_toArray, List.set_cons_zero, List.set_cons_succ]
                  refine path_end ?_
                  go_wp2
                  go_roundw
                  case rel => first | exact ⟨k + 1, by go_num, by omega, hsd⟩ | ((repeat apply Exists.intro); exact ⟨⟨k + 1, by go_num, by omega, hsd⟩, rfl⟩)
                  case measure => simp [intOf]; omega
                | false =>
                  clear hyx hyp
                  clear hsm
                  go_wp2_with fail
                  refine region_path (S := (fun w' => w'.cell? ⟨g, o + k, none⟩ = some (.int .i64 y) ∧ w'.cell? ⟨g, o + j, none⟩ = some (.int .i64 x))) 99 [(0, true), (1, true), (2, true), (3, true), (4, true), (5, true), (6, true), (7, true), (8, true), (9, true), (10, true), (11, true), (12, true), (13, true), (14, true), (15, true), (16, true), (17, true), (18, true), (19, true), (20, true), (21, true), (22, true), (23, true), (24, true), (25, true), (26, true), (27, true), (28, true), (29, true), (30, true)] (by kernel_rfl) (by kernel_rfl) (by kernel_rfl) ⟨p0, p1⟩ ?_
                  have hsd := HS3.out.drew; generalize wr.drew = wd at *
                  refine path_read (i := 0) (v := ?v5_0) rfl (by rfl) (fun _ _ _ h => h) ?hy5_0 ?_
                  case hy5_0 => ((intro w hSw; (try dsimp only at hSw); go_simp) <;> (try with_reducible rfl))
                  try simp only [Act.put, List.setIfInBounds_toArray, List.set_cons_zero, List.set_cons_succ]
                  refine path_read (i := 1) (v := ?v5_1) rfl (by rfl) (fun _ _ _ h => h) ?hy5_1 ?_
                  case hy5_1 => ((intro w hSw; (try dsimp only at hSw); go_simp) <;> (try with_reducible rfl))
                  try simp only [Act.put, List.setIfInBounds_toArray, List.set_cons_zero, List.set_cons_succ]
                  refine path_read (i := 2) (v := (.bool true) ) rfl (by rfl) (fun _ _ _ h => h) ?hy5_2 ?_
                  case hy5_2 => (intro w hSw;  (go_simp; try simp [hkk]; try omega))
                  try simp only [Act.put, List.setIfInBounds_toArray, List.set_cons_zero, List.set_cons_succ]
                  refine path_read (i := 3) (v := ?v5_3) rfl (by rfl) (fun _ _ _ h => h) ?hy5_3 ?_
                  case hy5_3 => ((intro w hSw; (try dsimp only at hSw); go_simp) <;> (try with_reducible rfl))
                  try simp only [Act.put, List.setIfInBounds_toArray, List.set_cons_zero, List.set_cons_succ]
                  refine path_read (i := 4) (v := ?v5_4) rfl (by rfl) (fun _ _ _ h => h) ?hy5_4 ?_
                  case hy5_4 => ((intro w hSw; (try dsimp only at hSw); go_simp) <;> (try with_reducible rfl))
                  try simp only [Act.put, List.setIfInBounds_toArray, List.set_cons_zero, List.set_cons_succ]
                  refine path_read (i := 5) (v := ?v5_5) rfl (by rfl) (fun _ _ _ h => h) ?hy5_5 ?_
                  case hy5_5 => ((intro w hSw; (try dsimp only at hSw); go_simp) <;> (try with_reducible rfl))
                  try simp only [Act.put, List.setIfInBounds_toArray, List.set_cons_zero, List.set_cons_succ]
                  refine path_read (i := 6) (v := ?v5_6) rfl (by rfl) (fun _ _ _ h => h) ?hy5_6 ?_
                  case hy5_6 => ((intro w hSw; (try dsimp only at hSw); go_simp) <;> (try with_reducible rfl))
                  try simp only [Act.put, List.setIfInBounds_toArray, List.set_cons_zero, List.set_cons_succ]
                  refine path_read (i := 7) (v := ?v5_7) rfl (by rfl) (fun _ _ _ h => h) ?hy5_7 ?_
                  case hy5_7 => ((intro w hSw; (try dsimp only at hSw); go_simp) <;> (try with_reducible rfl))
                  try simp only [Act.put, List.setIfInBounds_toArray, List.set_cons_zero, List.set_cons_succ]
                  refine path_read (i := 8) (v := ?v5_8) rfl (by rfl) (fun _ _ _ h => h) ?hy5_8 ?_
                  case hy5_8 => ((intro w hSw; (try dsimp only at hSw); go_simp) <;> (try with_reducible rfl))
                  try simp only [Act.put, List.setIfInBounds_toArray, List.set_cons_zero, List.set_cons_succ]
                  refine path_read (i := 9) (v := ?v5_9) rfl (by rfl) (fun _ _ _ h => h) ?hy5_9 ?_
                  case hy5_9 => ((intro w hSw; (try dsimp only at hSw); go_simp) <;> (try with_reducible rfl))
                  try simp only [Act.put, List.setIfInBounds_toArray, List.set_cons_zero, List.set_cons_succ]
                  refine path_read (i := 10) (v := ?v5_10) rfl (by rfl) (fun _ _ _ h => h) ?hy5_10 ?_
                  case hy5_10 => ((intro w hSw; (try dsimp only at hSw); go_simp) <;> (try with_reducible rfl))
                  try simp only [Act.put, List.setIfInBounds_toArray, List.set_cons_zero, List.set_cons_succ]
                  refine path_read (i := 11) (v := ?v5_11) rfl (by rfl) (fun _ _ _ h => h) ?hy5_11 ?_
                  case hy5_11 => ((intro w hSw; (try dsimp only at hSw); go_simp) <;> (try with_reducible rfl))
                  try simp only [Act.put, List.setIfInBounds_toArray, List.set_cons_zero, List.set_cons_succ]
                  refine path_read (i := 12) (v := (.bool false) ) rfl (by rfl) (fun _ _ _ h => h) ?hy5_12 ?_
                  case hy5_12 => (intro w hSw;  (go_simp; try simp [hyb]))
                  try simp only [Act.put, List.setIfInBounds_toArray, List.set_cons_zero, List.set_cons_succ]
                  refine path_read (i := 13) (v := ?v5_13) rfl (by rfl) (fun _ _ _ h => h) ?hy5_13 ?_
                  case hy5_13 => ((intro w hSw; (try dsimp only at hSw); go_simp) <;> (try with_reducible rfl))
                  try simp only [Act.put, List.setIfInBounds_toArray, List.set_cons_zero, List.set_cons_succ]
                  refine path_read (i := 14) (v := ?v5_14) rfl (by rfl) (fun _ _ _ h => h) ?hy5_14 ?_
                  case hy5_14 => ((intro w hSw; (try dsimp only at hSw); go_simp) <;> (try with_reducible rfl))
                  try simp only [Act.put, List.setIfInBounds_toArray, List.set_cons_zero, List.set_cons_succ]
                  refine path_read (i := 15) (v := ?v5_15) rfl (by rfl) (fun _ _ _ h => h) ?hy5_15 ?_
                  case hy5_15 => ((intro w hSw; (try dsimp only at hSw); go_simp) <;> (try with_reducible rfl))
                  try simp only [Act.put, List.setIfInBounds_toArray, List.set_cons_zero, List.set_cons_succ]
                  refine path_read (i := 16) (v := (.bool true) ) rfl (by rfl) (fun _ _ _ h => h) ?hy5_16 ?_
                  case hy5_16 => (intro w hSw;  (go_simp; (try simp); (try omega)))
                  try simp only [Act.put, List.setIfInBounds_toArray, List.set_cons_zero, List.set_cons_succ]
                  refine path_read (i := 17) (v := ?v5_17) rfl (by rfl) (fun _ _ _ h => h) ?hy5_17 ?_
                  case hy5_17 => ((intro w hSw; (try dsimp only at hSw); go_simp) <;> (try with_reducible rfl))
                  try simp only [Act.put, List.setIfInBounds_toArray, List.set_cons_zero, List.set_cons_succ]
                  refine path_read (i := 18) (v := ?v5_18) rfl (by rfl) (fun _ _ _ h => h) ?hy5_18 ?_
                  case hy5_18 => ((intro w hSw; (try dsimp only at hSw); go_simp) <;> (try with_reducible rfl))
                  try simp only [Act.put, List.setIfInBounds_toArray, List.set_cons_zero, List.set_cons_succ]
                  refine path_read (i := 19) (v := ?v5_19) rfl (by rfl) (fun _ _ _ h => h) ?hy5_19 ?_
                  case hy5_19 => ((intro w hSw; (try dsimp only at hSw); go_simp) <;> (try with_reducible rfl))
                  try simp only [Act.put, List.setIfInBounds_toArray, List.set_cons_zero, List.set_cons_succ]
                  refine path_read (i := 20) (v := ?v5_20) rfl (by rfl) (fun _ _ _ h => h) ?hy5_20 ?_
                  case hy5_20 => ((intro w hSw; (try dsimp only at hSw); go_simp) <;> (try with_reducible rfl))
                  try simp only [Act.put, List.setIfInBounds_toArray, List.set_cons_zero, List.set_cons_succ]
                  refine path_read (i := 21) (v := ?v5_21) rfl (by rfl) (fun _ _ _ h => h) ?hy5_21 ?_
                  case hy5_21 => ((intro w hSw; (try dsimp only at hSw); go_simp) <;> (try with_reducible rfl))
                  try simp only [Act.put, List.setIfInBounds_toArray, List.set_cons_zero, List.set_cons_succ]
                  refine path_read (i := 22) (v := ?v5_22) rfl (by rfl) (fun _ _ _ h => h) ?hy5_22 ?_
                  case hy5_22 => ((intro w hSw; (try dsimp only at hSw); go_simp) <;> (try with_reducible rfl))
                  try simp only [Act.put, List.setIfInBounds_toArray, List.set_cons_zero, List.set_cons_succ]
                  refine path_read (i := 23) (v := (.bool false) ) rfl (by rfl) (fun _ _ _ h => h) ?hy5_23 ?_
                  case hy5_23 => (intro w hSw;  (go_simp; try simp [hyq]))
                  try simp only [Act.put, List.setIfInBounds_toArray, List.set_cons_zero, List.set_cons_succ]
                  refine path_read (i := 24) (v := ?v5_24) rfl (by rfl) (fun _ _ _ h => h) ?hy5_24 ?_
                  case hy5_24 => ((intro w hSw; (try dsimp only at hSw); go_simp) <;> (try with_reducible rfl))
                  try simp only [Act.put, List.setIfInBounds_toArray, List.set_cons_zero, List.set_cons_succ]
                  refine path_read (i := 25) (v := ?v5_25) rfl (by rfl) (fun _ _ _ h => h) ?hy5_25 ?_
                  case hy5_25 => ((intro w hSw; (try dsimp only at hSw); go_simp) <;> (try with_reducible rfl))
                  try simp only [Act.put, List.setIfInBounds_toArray, List.set_cons_zero, List.set_cons_succ]
                  refine path_pass (i := 26) rfl (by rfl) (fun _ _ _ h => h) ?_
                  try simp only [Act.put, List.setIfInBounds_toArray, List.set_cons_zero, List.set_cons_succ]
                  refine path_pass (i := 27) rfl (by rfl) (fun _ _ _ h => h) ?_
                  try simp only [Act.put, List.setIfInBounds_toArray, List.set_cons_zero, List.set_cons_succ]
                  refine path_pass (i := 28) rfl (by rfl) (fun _ _ _ h => h) ?_
                  try simp only [Act.put, List.setIfInBounds_toArray, List.set_cons_zero, List.set_cons_succ]
                  refine path_read (i := 29) (v := ?v5_29) rfl (by rfl) (fun _ _ _ h => h) ?hy5_29 ?_
                  case hy5_29 => ((intro w hSw; (try dsimp only at hSw); go_simp) <;> (try with_reducible rfl))
                  try simp only [Act.put, List.setIfInBounds_toArray, List.set_cons_zero, List.set_cons_succ]
                  refine path_read (i := 30) (v := ?v5_30) rfl (by rfl) (fun _ _ _ h => h) ?hy5_30 ?_
                  case hy5_30 => ((intro w hSw; (try dsimp only at hSw); go_simp) <;> (try with_reducible rfl))
                  try simp only [Act.put, List.setIfInBounds_toArray, List.set_cons_zero, List.set_cons_succ]
                  refine path_end ?_
                  go_wp2
                  go_roundw
                  case rel => first | exact ⟨k + 1, by go_num, by omega, hsd⟩ | ((repeat apply Exists.intro); exact ⟨⟨k + 1, by go_num, by omega, hsd⟩, rfl⟩)
                  case measure => simp [intOf]; omega
              · have hj0z : ¬ (0 : Int) < j := by omega
                clear hyx hyp
                clear hsm
                go_wp2_with fail
                refine region_path (S := (fun w' => w'.cell? ⟨g, o + k, none⟩ = some (.int .i64 y) ∧ w'.cell? ⟨g, o + j, none⟩ = some (.int .i64 x))) 99 [(0, true), (1, true), (2, true), (3, true), (4, true), (5, true), (6, true), (7, true), (8, true), (9, true), (10, true), (11, true), (12, true), (13, true), (14, true), (15, true), (16, true), (17, true), (18, true), (19, true), (20, true), (21, true), (22, true), (23, true), (24, true), (25, true), (26, true), (27, true), (28, true), (29, true), (30, true)] (by kernel_rfl) (by kernel_rfl) (by kernel_rfl) ⟨p0, p1⟩ ?_
                have hsd := HS3.out.drew; generalize wr.drew = wd at *
                refine path_read (i := 0) (v := ?v6_0) rfl (by rfl) (fun _ _ _ h => h) ?hy6_0 ?_
                case hy6_0 => ((intro w hSw; (try dsimp only at hSw); go_simp) <;> (try with_reducible rfl))
                try simp only [Act.put, List.setIfInBounds_toArray, List.set_cons_zero, List.set_cons_succ]
                refine path_read (i := 1) (v := ?v6_1) rfl (by rfl) (fun _ _ _ h => h) ?hy6_1 ?_
                case hy6_1 => ((intro w hSw; (try dsimp only at hSw); go_simp) <;> (try with_reducible rfl))
                try simp only [Act.put, List.setIfInBounds_toArray, List.set_cons_zero, List.set_cons_succ]
                refine path_read (i := 2) (v := (.bool true) ) rfl (by rfl) (fun _ _ _ h => h) ?hy6_2 ?_
                case hy6_2 => (intro w hSw;  (go_simp; try simp [hkk]; try omega))
                try simp only [Act.put, List.setIfInBounds_toArray, List.set_cons_zero, List.set_cons_succ]
                refine path_read (i := 3) (v := ?v6_3) rfl (by rfl) (fun _ _ _ h => h) ?hy6_3 ?_
                case hy6_3 => ((intro w hSw; (try dsimp only at hSw); go_simp) <;> (try with_reducible rfl))
                try simp only [Act.put, List.setIfInBounds_toArray, List.set_cons_zero, List.set_cons_succ]
                refine path_read (i := 4) (v := ?v6_4) rfl (by rfl) (fun _ _ _ h => h) ?hy6_4 ?_
                case hy6_4 => ((intro w hSw; (try dsimp only at hSw); go_simp) <;> (try with_reducible rfl))
                try simp only [Act.put, List.setIfInBounds_toArray, List.set_cons_zero, List.set_cons_succ]
                refine path_read (i := 5) (v := ?v6_5) rfl (by rfl) (fun _ _ _ h => h) ?hy6_5 ?_
                case hy6_5 => ((intro w hSw; (try dsimp only at hSw); go_simp) <;> (try with_reducible rfl))
                try simp only [Act.put, List.setIfInBounds_toArray, List.set_cons_zero, List.set_cons_succ]
                refine path_read (i := 6) (v := ?v6_6) rfl (by rfl) (fun _ _ _ h => h) ?hy6_6 ?_
                case hy6_6 => ((intro w hSw; (try dsimp only at hSw); go_simp) <;> (try with_reducible rfl))
                try simp only [Act.put, List.setIfInBounds_toArray, List.set_cons_zero, List.set_cons_succ]
                refine path_read (i := 7) (v := ?v6_7) rfl (by rfl) (fun _ _ _ h => h) ?hy6_7 ?_
                case hy6_7 => ((intro w hSw; (try dsimp only at hSw); go_simp) <;> (try with_reducible rfl))
                try simp only [Act.put, List.setIfInBounds_toArray, List.set_cons_zero, List.set_cons_succ]
                refine path_read (i := 8) (v := ?v6_8) rfl (by rfl) (fun _ _ _ h => h) ?hy6_8 ?_
                case hy6_8 => ((intro w hSw; (try dsimp only at hSw); go_simp) <;> (try with_reducible rfl))
                try simp only [Act.put, List.setIfInBounds_toArray, List.set_cons_zero, List.set_cons_succ]
                refine path_read (i := 9) (v := ?v6_9) rfl (by rfl) (fun _ _ _ h => h) ?hy6_9 ?_
                case hy6_9 => ((intro w hSw; (try dsimp only at hSw); go_simp) <;> (try with_reducible rfl))
                try simp only [Act.put, List.setIfInBounds_toArray, List.set_cons_zero, List.set_cons_succ]
                refine path_read (i := 10) (v := ?v6_10) rfl (by rfl) (fun _ _ _ h => h) ?hy6_10 ?_
                case hy6_10 => ((intro w hSw; (try dsimp only at hSw); go_simp) <;> (try with_reducible rfl))
                try simp only [Act.put, List.setIfInBounds_toArray, List.set_cons_zero, List.set_cons_succ]
                refine path_read (i := 11) (v := ?v6_11) rfl (by rfl) (fun _ _ _ h => h) ?hy6_11 ?_
                case hy6_11 => ((intro w hSw; (try dsimp only at hSw); go_simp) <;> (try with_reducible rfl))
                try simp only [Act.put, List.setIfInBounds_toArray, List.set_cons_zero, List.set_cons_succ]
                refine path_read (i := 12) (v := (.bool false) ) rfl (by rfl) (fun _ _ _ h => h) ?hy6_12 ?_
                case hy6_12 => (intro w hSw;  (go_simp; try simp [hyb]))
                try simp only [Act.put, List.setIfInBounds_toArray, List.set_cons_zero, List.set_cons_succ]
                refine path_read (i := 13) (v := ?v6_13) rfl (by rfl) (fun _ _ _ h => h) ?hy6_13 ?_
                case hy6_13 => ((intro w hSw; (try dsimp only at hSw); go_simp) <;> (try with_reducible rfl))
                try simp only [Act.put, List.setIfInBounds_toArray, List.set_cons_zero, List.set_cons_succ]
                refine path_read (i := 14) (v := ?v6_14) rfl (by rfl) (fun _ _ _ h => h) ?hy6_14 ?_
                case hy6_14 => ((intro w hSw; (try dsimp only at hSw); go_simp) <;> (try with_reducible rfl))
                try simp only [Act.put, List.setIfInBounds_toArray, List.set_cons_zero, List.set_cons_succ]
                refine path_read (i := 15) (v := ?v6_15) rfl (by rfl) (fun _ _ _ h => h) ?hy6_15 ?_
                case hy6_15 => ((intro w hSw; (try dsimp only at hSw); go_simp) <;> (try with_reducible rfl))
                try simp only [Act.put, List.setIfInBounds_toArray, List.set_cons_zero, List.set_cons_succ]
                refine path_read (i := 16) (v := (.bool false) ) rfl (by rfl) (fun _ _ _ h => h) ?hy6_16 ?_
                case hy6_16 => (intro w hSw;  (go_simp; (try simp); (try omega)))
                try simp only [Act.put, List.setIfInBounds_toArray, List.set_cons_zero, List.set_cons_succ]
                refine path_read (i := 17) (v := ?v6_17) rfl (by rfl) (fun _ _ _ h => h) ?hy6_17 ?_
                case hy6_17 => ((intro w hSw; (try dsimp only at hSw); go_simp) <;> (try with_reducible rfl))
                try simp only [Act.put, List.setIfInBounds_toArray, List.set_cons_zero, List.set_cons_succ]
                refine path_pass (i := 18) rfl (by rfl) (fun _ _ _ h => h) ?_
                try simp only [Act.put, List.setIfInBounds_toArray, List.set_cons_zero, List.set_cons_succ]
                refine path_pass (i := 19) rfl (by rfl) (fun _ _ _ h => h) ?_
                try simp only [Act.put, List.setIfInBounds_toArray, List.set_cons_zero, List.set_cons_succ]
                refine path_pass (i := 20) rfl (by rfl) (fun _ _ _ h => h) ?_
                try simp only [Act.put, List.setIfInBounds_toArray, List.set_cons_zero, List.set_cons_succ]
                refine path_pass (i := 21) rfl (by rfl) (fun _ _ _ h => h) ?_
                try simp only [Act.put, List.setIfInBounds_toArray, List.set_cons_zero, List.set_cons_succ]
                refine path_pass (i := 22) rfl (by rfl) (fun _ _ _ h => h) ?_
                try simp only [Act.put, List.setIfInBounds_toArray, List.set_cons_zero, List.set_cons_succ]
                refine path_pass (i := 23) rfl (by rfl) (fun _ _ _ h => h) ?_
                try simp only [Act.put, List.setIfInBounds_toArray, List.set_cons_zero, List.set_cons_succ]
                refine path_read (i := 24) (v := ?v6_24) rfl (by rfl) (fun _ _ _ h => h) ?hy6_24 ?_
                case hy6_24 => ((intro w hSw; (try dsimp only at hSw); go_simp) <;> (try with_reducible rfl))
                try simp only [Act.put, List.setIfInBounds_toArray, List.set_cons_zero, List.set_cons_succ]
                refine path_read (i := 25) (v := ?v6_25) rfl (by rfl) (fun _ _ _ h => h) ?hy6_25 ?_
                case hy6_25 => ((intro w hSw; (try dsimp only at hSw); go_simp) <;> (try with_reducible rfl))
                try simp only [Act.put, List.setIfInBounds_toArray, List.set_cons_zero, List.set_cons_succ]
                refine path_pass (i := 26) rfl (by rfl) (fun _ _ _ h => h) ?_
                try simp only [Act.put, List.setIfInBounds_toArray, List.set_cons_zero, List.set_cons_succ]
                refine path_pass (i := 27) rfl (by rfl) (fun _ _ _ h => h) ?_
                try simp only [Act.put, List.setIfInBounds_toArray, List.set_cons_zero, List.set_cons_succ]
                refine path_pass (i := 28) rfl (by rfl) (fun _ _ _ h => h) ?_
                try simp only [Act.put, List.setIfInBounds_toArray, List.set_cons_zero, List.set_cons_succ]
                refine path_read (i := 29) (v := ?v6_29) rfl (by rfl) (fun _ _ _ h => h) ?hy6_29 ?_
                case hy6_29 => ((intro w hSw; (try dsimp only at hSw); go_simp) <;> (try with_reducible rfl))
                try simp only [Act.put, List.setIfInBounds_toArray, List.set_cons_zero, List.set_cons_succ]
                refine path_read (i := 30) (v := ?v6_30) rfl (by rfl) (fun _ _ _ h => h) ?hy6_30 ?_
                case hy6_30 => ((intro w hSw; (try dsimp only at hSw); go_simp) <;> (try with_reducible rfl))
                try simp only [Act.put, List.setIfInBounds_toArray, List.set_cons_zero, List.set_cons_succ]
                refine path_end ?_
                go_wp2
                go_roundw
                case rel => first | exact ⟨k + 1, by go_num, by omega, hsd⟩ | ((repeat apply Exists.intro); exact ⟨⟨k + 1, by go_num, by omega, hsd⟩, rfl⟩)
                case measure => simp [intOf]; omega
          · obtain rfl : k = L.length := by omega
            have hkz : ¬ (L.length : Int) < L.length := by omega
            have q2 := hsm.cell (HC.out j x HX.out) (fun q => q)
            clear hsm q
            go_wp2_with fail
            refine (yroot_v (HY2.out.same HS3.out) x).mono ?_
            rintro e w5 ⟨rfl, rfl⟩
            rw [HRT.out]
            go_wp2_with fail
            refine (yroot_v (HY2.out.same HS3.out) id).mono ?_
            rintro e w5 ⟨rfl, rfl⟩
            go_wp2
            go_roundw
            case rel => first | exact ⟨j + 1, by go_num, by omega, HS3.out⟩ | ((repeat apply Exists.intro); exact ⟨⟨j + 1, by go_num, by omega, HS3.out⟩, rfl⟩)
            case measure => simp [intOf]; omega
      · obtain rfl : j = L.length := by omega
        have hjz : ¬ (L.length : Int) < L.length := by omega
        have HSM := Lib.hid hsm
        clear hsm hc0
        go_wp2_with fail
        refine (example18_ok _).mono ?_
        rintro e w9 ⟨rfl, hs9⟩
        have HS9 := Lib.hid ((HY2.out.s0.trans HSM.out).trans hs9)
        clear hs9
        go_wp2
        go_ret
        exact ⟨rfl, HS9.out⟩
end Go.Proofs.Ytehcfeibfpgamaa
