/- SubsurfaceOrder: the walk. -/
import Derived.Test.YtehcfeibfpgamaaDo18
import Derived.Test.YtehcfeibfpgamaaRoot18
set_option linter.unusedVariables false
set_option linter.unusedSimpArgs false
set_option maxRecDepth 100000
namespace Go.Proofs.Ytehcfeibfpgamaa
open Go.RowKit

theorem has_succ (L : List (Int × Int × Int)) (x : Int × Int × Int) {j : Nat} {t : Int × Int × Int} (h : L[j]? = some t) : (L.take (j + 1)).contains x = ((L.take j).contains x || x == t) := by
  rw [List.take_add_one, h, List.contains_eq_any_beq, List.contains_eq_any_beq, List.any_append]
  simp
set_option maxHeartbeats 4000000 in
theorem SubsurfaceOrder_walk (A : Option Addr) (n cap : Nat) (l : List YOp) (id : Int) (w : World) (h : OArg w A n l) :
    Calls Try.prog 6 #[.slice A n cap, .int .i64 id] w fun e w' => e = .returned (.bool true) ∧ Same w w' := by
  have hm := h.2.2
  unfold maxLen at hm
  have HA := Lib.hid h
  clear h
  by_cases hn : 60 < n
  · go_enter Try.func6, Try.ntmps6
    go_wp2_with fail
    refine (example18_ok w).mono ?_
    rintro e w9 ⟨rfl, hs9⟩
    have HS9 := Lib.hid hs9
    clear hs9
    go_wp2
    go_ret
    exact ⟨rfl, HS9.out⟩
  have hz : ¬ (60 : Int) < n := by omega
  go_enter Try.func6, Try.ntmps6
  go_wp2_with fail
  refine (build_v A n cap l w HA.out (by omega)).mono ?_
  rintro e w1 ⟨b, R, rfl, hy, hlen⟩
  obtain ⟨S, hS⟩ : ∃ S, S = buildS l := ⟨_, rfl⟩
  rw [← hS] at hy hlen
  have HY := Lib.hid hy
  clear hy hS
  obtain ⟨L, hL⟩ : ∃ L, L = ordL S id := ⟨_, rfl⟩
  have HL := Lib.hid hL
  have hLl : L.length ≤ 60 := by
    rw [hL]
    unfold ordL
    split
    · rename_i q; exact Nat.le_trans (ord_len addW HY.out.ok 10 0 0 q) hlen
    · simp
  clear hL hlen
  go_wp2_with fail
  refine (yorder_v HY.out id HL.out.symm rfl).mono ?_
  rintro e w2 ⟨B, c, rfl, hp, hs2⟩
  have HY2 := Lib.hid (HY.out.same hs2)
  have HP := Lib.hid hp
  clear hp hs2
  go_wp2_with fail
  refine (yroot_v HY2.out id).mono ?_
  rintro e w3 ⟨rfl, rfl⟩
  obtain ⟨r, hr⟩ : ∃ r, r = rootOf S id := ⟨_, rfl⟩
  rw [← hr]
  have HR := Lib.hid hr
  clear hr
  go_wp2_with fail
  go_loopw [8, 9] (fun v8 v9 wr => ∃ (j : Nat) (f : Bool), v9 = .int .i64 j ∧ j ≤ L.length ∧ v8 = .bool f ∧ f = ((r == 0) || (L.take j).contains (id, 0, 0)) ∧ Same w3 wr) (fun v8 v9 wr => L.length - (intOf v9).toNat)
  case atStart => exact ⟨0, r == 0, rfl, by omega, rfl, by simp, Chg.refl _ _⟩
  case round =>
    obtain ⟨j, f, rfl, hj, rfl, hf, hsm⟩ := hrel
    have HF := Lib.hid hf
    clear hf
    by_cases hlt : j < L.length
    · obtain ⟨g, rfl, hcells⟩ := HP.out.1 (by omega)
      obtain ⟨t, ht⟩ : ∃ t, L[j]? = some t := ⟨_, List.getElem?_eq_getElem hlt⟩
      obtain ⟨c0, c1, c2⟩ := hcells j t ht
      have q0 := hsm.cell c0 (fun q => q)
      have q1 := hsm.cell c1 (fun q => q)
      have q2 := hsm.cell c2 (fun q => q)
      have hiid : hasB S id = true := by
        cases hi : hasB S id with
        | true => rfl
        | false =>
          have e := HL.out
          unfold ordL at e
          rw [if_neg (by rw [hi]; simp)] at e
          rw [e] at hlt
          simp at hlt
      have hLe : L = ordS addW S 10 id 0 0 := by rw [HL.out]; unfold ordL; rw [if_pos hiid]
      have hlaw := ord_law addW HY2.out.ok 10 id 0 0 hiid
      rw [← hLe] at hlaw
      have htm : t ∈ L := List.mem_of_getElem? ht
      have ht1 := hlaw.1 t htm
      have hroot : rootOf S t.1 = r := by rw [HR.out]; exact rootOf_in HY2.out.ok _ t.1 id (Nat.le_refl _) ht1.2 ht1.1
      have hpos := has_pos HY2.out.ok ht1.2
      have hss := has_succ L (id, 0, 0) ht
      have hpw := hlaw.2
      have HT := Lib.hid (And.intro ht (And.intro hroot (And.intro hss hpw)))
      have HC := Lib.hid hcells
      have HSM := Lib.hid hsm
      have hjz : (j : Int) < L.length := by omega
      obtain ⟨a, x, y⟩ := t
      dsimp only at q0 q1 q2 hpos
      clear hcells ht c0 c1 c2 hiid hLe hlaw htm ht1 hroot hss hpw hsm
      by_cases ha : a = id
      · obtain rfl : id = a := ha.symm
        by_cases hx : x = 0
        · obtain rfl : 0 = x := hx.symm
          by_cases hy : y = 0
          · obtain rfl : 0 = y := hy.symm
            have hbe : ((id, (0 : Int), (0 : Int)) == (id, 0, 0)) = true := by simp
            have HBE := Lib.hid hbe
            clear hbe
            go_wp2_with fail
            refine (yroot_v (HY2.out.same HSM.out) _).mono ?_
            rintro e w4 ⟨rfl, rfl⟩
            rw [HT.out.2.1]
            go_wp2_with fail
            refine (yroot_v (HY2.out.same HSM.out) id).mono ?_
            rintro e w4 ⟨rfl, rfl⟩
            rw [← HR.out]
            go_wp2_with fail
            go_loopw [10] (fun v10 wq => ∃ k : Nat, v10 = .int .i64 k ∧ k ≤ j ∧ Same w3 wq) (fun v10 wq => j - (intOf v10).toNat)
            case atStart => exact ⟨0, rfl, by omega, HSM.out⟩
            case round =>
              obtain ⟨k, rfl, hk, hsm⟩ := hrel
              have HS3 := Lib.hid hsm
              by_cases hkj : k < j
              · obtain ⟨t2, ht2⟩ : ∃ t2, L[k]? = some t2 := ⟨_, List.getElem?_eq_getElem (by omega)⟩
                have p0 := hsm.cell (HC.out k t2 ht2).1 (fun q => q)
                have p1 := hsm.cell (HC.out j _ HT.out.1).1 (fun q => q)
                dsimp only at p1
                have hpw := List.pairwise_iff_getElem.1 HT.out.2.2.2 k j (by omega) (by omega) hkj
                rw [List.getElem?_eq_getElem (by omega)] at ht2
                have ht1 := HT.out.1
                rw [List.getElem?_eq_getElem (by omega)] at ht1
                rw [Option.some.inj ht2, Option.some.inj ht1] at hpw
                have hne : (t2.1 == id) = false := beq_eq_false_iff_ne.2 hpw
                have hkz : (k : Int) < j := by omega
                have hkL : (k : Int) < L.length := by omega
                clear ht2 ht1 hpw hsm q0 q1 q2
                go_wp2
                refine wp_still (by kernel_rfl) (by kernel_rfl) ?_
                repeat still_step
                try refine wpStill_nil ?_
                go_wp2
                go_roundw
                case rel => first | exact ⟨k + 1, by go_num, by omega, HS3.out.drew⟩ | ((repeat apply Exists.intro); exact ⟨⟨k + 1, by go_num, by omega, HS3.out.drew⟩, rfl⟩)
                case measure => simp [intOf]; omega
              · obtain rfl : k = j := by omega
                have hkz : ¬ (k : Int) < k := by omega
                clear hsm q0 q1 q2
                go_wp2
                go_roundw
                case rel =>
                  first
                  | exact ⟨k + 1, true, by go_num, by omega, rfl, by rw [HT.out.2.2.1, HBE.out, ← Bool.or_assoc, ← HF.out]; simp, HS3.out⟩
                  | ((repeat apply Exists.intro); exact ⟨⟨k + 1, true, by go_num, by omega, rfl, by rw [HT.out.2.2.1, HBE.out, ← Bool.or_assoc, ← HF.out]; simp, HS3.out⟩, rfl⟩)
                case measure => simp [intOf]; omega
          · have hy2 : ¬ 0 = y := fun q => hy q.symm
            have hbe : ((id, (0 : Int), (0 : Int)) == (id, 0, y)) = false := by simp [*]
            have HBE := Lib.hid hbe
            clear hbe
            go_wp2_with fail
            refine (yroot_v (HY2.out.same HSM.out) _).mono ?_
            rintro e w4 ⟨rfl, rfl⟩
            rw [HT.out.2.1]
            go_wp2_with fail
            refine (yroot_v (HY2.out.same HSM.out) id).mono ?_
            rintro e w4 ⟨rfl, rfl⟩
            rw [← HR.out]
            go_wp2_with fail
            go_loopw [10] (fun v10 wq => ∃ k : Nat, v10 = .int .i64 k ∧ k ≤ j ∧ Same w3 wq) (fun v10 wq => j - (intOf v10).toNat)
            case atStart => exact ⟨0, rfl, by omega, HSM.out⟩
            case round =>
              obtain ⟨k, rfl, hk, hsm⟩ := hrel
              have HS3 := Lib.hid hsm
              by_cases hkj : k < j
              · obtain ⟨t2, ht2⟩ : ∃ t2, L[k]? = some t2 := ⟨_, List.getElem?_eq_getElem (by omega)⟩
                have p0 := hsm.cell (HC.out k t2 ht2).1 (fun q => q)
                have p1 := hsm.cell (HC.out j _ HT.out.1).1 (fun q => q)
                dsimp only at p1
                have hpw := List.pairwise_iff_getElem.1 HT.out.2.2.2 k j (by omega) (by omega) hkj
                rw [List.getElem?_eq_getElem (by omega)] at ht2
                have ht1 := HT.out.1
                rw [List.getElem?_eq_getElem (by omega)] at ht1
                rw [Option.some.inj ht2, Option.some.inj ht1] at hpw
                have hne : (t2.1 == id) = false := beq_eq_false_iff_ne.2 hpw
                have hkz : (k : Int) < j := by omega
                have hkL : (k : Int) < L.length := by omega
                clear ht2 ht1 hpw hsm q0 q1 q2
                go_wp2
                refine wp_still (by kernel_rfl) (by kernel_rfl) ?_
                repeat still_step
                try refine wpStill_nil ?_
                go_wp2
                go_roundw
                case rel => first | exact ⟨k + 1, by go_num, by omega, HS3.out.drew⟩ | ((repeat apply Exists.intro); exact ⟨⟨k + 1, by go_num, by omega, HS3.out.drew⟩, rfl⟩)
                case measure => simp [intOf]; omega
              · obtain rfl : k = j := by omega
                have hkz : ¬ (k : Int) < k := by omega
                clear hsm q0 q1 q2
                go_wp2
                go_roundw
                case rel =>
                  first
                  | exact ⟨k + 1, f, by go_num, by omega, rfl, by rw [HT.out.2.2.1, HBE.out, ← Bool.or_assoc, ← HF.out]; simp, HS3.out⟩
                  | ((repeat apply Exists.intro); exact ⟨⟨k + 1, f, by go_num, by omega, rfl, by rw [HT.out.2.2.1, HBE.out, ← Bool.or_assoc, ← HF.out]; simp, HS3.out⟩, rfl⟩)
                case measure => simp [intOf]; omega
        · have hx2 : ¬ 0 = x := fun q => hx q.symm
          have hbe : ((id, (0 : Int), (0 : Int)) == (id, x, y)) = false := by simp [*]
          have HBE := Lib.hid hbe
          clear hbe
          go_wp2_with fail
          refine (yroot_v (HY2.out.same HSM.out) _).mono ?_
          rintro e w4 ⟨rfl, rfl⟩
          rw [HT.out.2.1]
          go_wp2_with fail
          refine (yroot_v (HY2.out.same HSM.out) id).mono ?_
          rintro e w4 ⟨rfl, rfl⟩
          rw [← HR.out]
          go_wp2_with fail
          go_loopw [10] (fun v10 wq => ∃ k : Nat, v10 = .int .i64 k ∧ k ≤ j ∧ Same w3 wq) (fun v10 wq => j - (intOf v10).toNat)
          case atStart => exact ⟨0, rfl, by omega, HSM.out⟩
          case round =>
            obtain ⟨k, rfl, hk, hsm⟩ := hrel
            have HS3 := Lib.hid hsm
            by_cases hkj : k < j
            · obtain ⟨t2, ht2⟩ : ∃ t2, L[k]? = some t2 := ⟨_, List.getElem?_eq_getElem (by omega)⟩
              have p0 := hsm.cell (HC.out k t2 ht2).1 (fun q => q)
              have p1 := hsm.cell (HC.out j _ HT.out.1).1 (fun q => q)
              dsimp only at p1
              have hpw := List.pairwise_iff_getElem.1 HT.out.2.2.2 k j (by omega) (by omega) hkj
              rw [List.getElem?_eq_getElem (by omega)] at ht2
              have ht1 := HT.out.1
              rw [List.getElem?_eq_getElem (by omega)] at ht1
              rw [Option.some.inj ht2, Option.some.inj ht1] at hpw
              have hne : (t2.1 == id) = false := beq_eq_false_iff_ne.2 hpw
              have hkz : (k : Int) < j := by omega
              have hkL : (k : Int) < L.length := by omega
              clear ht2 ht1 hpw hsm q0 q1 q2
              go_wp2
              refine wp_still (by kernel_rfl) (by kernel_rfl) ?_
              repeat still_step
              try refine wpStill_nil ?_
              go_wp2
              go_roundw
              case rel => first | exact ⟨k + 1, by go_num, by omega, HS3.out.drew⟩ | ((repeat apply Exists.intro); exact ⟨⟨k + 1, by go_num, by omega, HS3.out.drew⟩, rfl⟩)
              case measure => simp [intOf]; omega
            · obtain rfl : k = j := by omega
              have hkz : ¬ (k : Int) < k := by omega
              clear hsm q0 q1 q2
              go_wp2
              go_roundw
              case rel =>
                first
                | exact ⟨k + 1, f, by go_num, by omega, rfl, by rw [HT.out.2.2.1, HBE.out, ← Bool.or_assoc, ← HF.out]; simp, HS3.out⟩
                | ((repeat apply Exists.intro); exact ⟨⟨k + 1, f, by go_num, by omega, rfl, by rw [HT.out.2.2.1, HBE.out, ← Bool.or_assoc, ← HF.out]; simp, HS3.out⟩, rfl⟩)
              case measure => simp [intOf]; omega
      · have ha2 : ¬ id = a := fun q => ha q.symm
        have hbe : ((id, (0 : Int), (0 : Int)) == (a, x, y)) = false := by simp [*]
        have HBE := Lib.hid hbe
        clear hbe
        go_wp2_with fail
        refine (yroot_v (HY2.out.same HSM.out) _).mono ?_
        rintro e w4 ⟨rfl, rfl⟩
        rw [HT.out.2.1]
        go_wp2_with fail
        refine (yroot_v (HY2.out.same HSM.out) id).mono ?_
        rintro e w4 ⟨rfl, rfl⟩
        rw [← HR.out]
        go_wp2_with fail
        go_loopw [10] (fun v10 wq => ∃ k : Nat, v10 = .int .i64 k ∧ k ≤ j ∧ Same w3 wq) (fun v10 wq => j - (intOf v10).toNat)
        case atStart => exact ⟨0, rfl, by omega, HSM.out⟩
        case round =>
          obtain ⟨k, rfl, hk, hsm⟩ := hrel
          have HS3 := Lib.hid hsm
          by_cases hkj : k < j
          · obtain ⟨t2, ht2⟩ : ∃ t2, L[k]? = some t2 := ⟨_, List.getElem?_eq_getElem (by omega)⟩
            have p0 := hsm.cell (HC.out k t2 ht2).1 (fun q => q)
            have p1 := hsm.cell (HC.out j _ HT.out.1).1 (fun q => q)
            dsimp only at p1
            have hpw := List.pairwise_iff_getElem.1 HT.out.2.2.2 k j (by omega) (by omega) hkj
            rw [List.getElem?_eq_getElem (by omega)] at ht2
            have ht1 := HT.out.1
            rw [List.getElem?_eq_getElem (by omega)] at ht1
            rw [Option.some.inj ht2, Option.some.inj ht1] at hpw
            have hne : (t2.1 == a) = false := beq_eq_false_iff_ne.2 hpw
            have hkz : (k : Int) < j := by omega
            have hkL : (k : Int) < L.length := by omega
            clear ht2 ht1 hpw hsm q0 q1 q2
            go_wp2
            refine wp_still (by kernel_rfl) (by kernel_rfl) ?_
            repeat still_step
            try refine wpStill_nil ?_
            go_wp2
            go_roundw
            case rel => first | exact ⟨k + 1, by go_num, by omega, HS3.out.drew⟩ | ((repeat apply Exists.intro); exact ⟨⟨k + 1, by go_num, by omega, HS3.out.drew⟩, rfl⟩)
            case measure => simp [intOf]; omega
          · obtain rfl : k = j := by omega
            have hkz : ¬ (k : Int) < k := by omega
            clear hsm q0 q1 q2
            go_wp2
            go_roundw
            case rel =>
              first
              | exact ⟨k + 1, f, by go_num, by omega, rfl, by rw [HT.out.2.2.1, HBE.out, ← Bool.or_assoc, ← HF.out]; simp, HS3.out⟩
              | ((repeat apply Exists.intro); exact ⟨⟨k + 1, f, by go_num, by omega, rfl, by rw [HT.out.2.2.1, HBE.out, ← Bool.or_assoc, ← HF.out]; simp, HS3.out⟩, rfl⟩)
            case measure => simp [intOf]; omega
    · obtain rfl : j = L.length := by omega
      have hjz : ¬ (L.length : Int) < L.length := by omega
      have HSM := Lib.hid hsm
      have hfull : f = ((r == 0) || L.contains (id, 0, 0)) := by have := HF.out; rwa [List.take_length] at this
      cases hi : hasB S id with
      | false =>
        have hr0 : r = 0 := by rw [HR.out]; exact rootOf_no hi
        have hf : f = true := by rw [hfull, hr0]; rfl
        have hL0 : L.length = 0 := by rw [HL.out]; unfold ordL; rw [if_neg (by rw [hi]; simp)]; rfl
        subst hf hr0
        clear hfull hi hsm HF
        go_wp2_with fail
        refine (yroot_v (HY2.out.same HSM.out) id).mono ?_
        rintro e w4 ⟨rfl, rfl⟩
        rw [← HR.out]
        go_wp2_with fail
        refine (example18_ok _).mono ?_
        rintro e w9 ⟨rfl, hs9⟩
        have HS9 := Lib.hid ((HY2.out.s0.trans HSM.out).trans hs9)
        clear hs9
        go_wp2
        go_ret
        exact ⟨rfl, HS9.out⟩
      | true =>
        have hr0 : r ≠ 0 := by rw [HR.out]; exact (rootOf_facts HY2.out.ok hi).2.1
        have hrb : (r != 0) = true := bne_iff_ne.2 hr0
        have hf : f = true := by
          have hm : (id, (0 : Int), (0 : Int)) ∈ L := by
            rw [HL.out]
            unfold ordL
            rw [if_pos hi]
            exact ord_self addW HY2.out.ok 9 0 0 hi
          rw [hfull, List.contains_iff_mem.2 hm]
          simp
        subst hf
        clear hfull hi hsm HF hr0
        go_wp2_with fail
        refine (yroot_v (HY2.out.same HSM.out) id).mono ?_
        rintro e w4 ⟨rfl, rfl⟩
        rw [← HR.out]
        go_wp2_with fail
        refine (example18_ok _).mono ?_
        rintro e w9 ⟨rfl, hs9⟩
        have HS9 := Lib.hid ((HY2.out.s0.trans HSM.out).trans hs9)
        clear hs9
        go_wp2
        go_ret
        exact ⟨rfl, HS9.out⟩
end Go.Proofs.Ytehcfeibfpgamaa
