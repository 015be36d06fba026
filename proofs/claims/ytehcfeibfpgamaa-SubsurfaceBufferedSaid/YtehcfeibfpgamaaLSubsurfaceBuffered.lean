/- SubsurfaceBuffered: the walk. -/
import Derived.Test.YtehcfeibfpgamaaDo18
import Derived.Test.YtehcfeibfpgamaaRoot18
set_option linter.unusedVariables false
set_option linter.unusedSimpArgs false
set_option maxRecDepth 100000
namespace Go.Proofs.Ytehcfeibfpgamaa
open Go.RowKit

/-- The same as far as the orders go. -/
structure SameO (S T : Fo) : Prop where
  ids : T.map Nd.id = S.map Nd.id
  cur : ∀ i, curOf T i = curOf S i
  cx : ∀ i, cxOf T i = cxOf S i
  cy : ∀ i, cyOf T i = cyOf S i
theorem SameO.refl (S : Fo) : SameO S S := ⟨rfl, fun _ => rfl, fun _ => rfl, fun _ => rfl⟩
theorem SameO.trans {S T U : Fo} (h : SameO S T) (k : SameO T U) : SameO S U := ⟨k.ids.trans h.ids, fun i => (k.cur i).trans (h.cur i), fun i => (k.cx i).trans (h.cx i), fun i => (k.cy i).trans (h.cy i)⟩
theorem SameO.upd (S : Fo) (j : Int) (g : Nd → Nd) (hid : ∀ n, (g n).id = n.id) (h1 : ∀ n, (g n).cur = n.cur) (h2 : ∀ n, (g n).cx = n.cx) (h3 : ∀ n, (g n).cy = n.cy) : SameO S (Go.Proofs.Ytehcfeibfpgamaa.upd S j g) := by
  have hg := fun i => get_upd (S := S) (i := j) (j := i) g hid
  refine ⟨map_ids _ (fun n => by split; exact hid n; rfl), fun i => ?_, fun i => ?_, fun i => ?_⟩
  · unfold curOf
    rw [hg i]
    split
    · rename_i e; subst e; cases get S i <;> simp [h1]
    · rfl
  · unfold cxOf
    rw [hg i]
    split
    · rename_i e; subst e; cases get S i <;> simp [h2]
    · rfl
  · unfold cyOf
    rw [hg i]
    split
    · rename_i e; subst e; cases get S i <;> simp [h3]
    · rfl
theorem SameO.ord {S T : Fo} (h : SameO S T) (add : Int → Int → Int) : ∀ (k : Nat) (i x y : Int), ordS add T k i x y = ordS add S k i x y
  | 0, _, _, _ => rfl
  | k + 1, i, x, y => by
    unfold ordS
    rw [h.cur i]
    congr 1
    funext c
    rw [h.cx c, h.cy c, h.ord add k]
theorem SameO.ordL {S T : Fo} (h : SameO S T) (i : Int) : Go.Proofs.Ytehcfeibfpgamaa.ordL T i = Go.Proofs.Ytehcfeibfpgamaa.ordL S i := by unfold Go.Proofs.Ytehcfeibfpgamaa.ordL; rw [hasB_ids h.ids, h.ord]
theorem same_do (S : Fo) (x : YOp) (h1 : ¬ x.kind < 4) (h2 : ¬ 6 < x.kind) : SameO S (doS S x).1 := by
  unfold doS
  rw [if_neg (by omega), if_neg (by omega), if_neg (by omega)]
  by_cases h4 : x.kind = 4
  · rw [if_pos h4]
    unfold plcR
    split
    · split
      · exact SameO.refl S
      · exact SameO.upd S _ _ (fun n => rfl) (fun n => rfl) (fun n => rfl) (fun n => rfl)
    · exact SameO.refl S
  · rw [if_neg h4]
    by_cases h5 : x.kind = 5
    · rw [if_pos h5]
      unfold posR
      split
      · split
        · exact SameO.refl S
        · exact SameO.upd S _ _ (fun n => rfl) (fun n => rfl) (fun n => rfl) (fun n => rfl)
      · exact SameO.refl S
    · rw [if_neg h5, if_pos (by omega)]
      unfold synR
      split
      · exact SameO.upd S _ _ (fun n => rfl) (fun n => rfl) (fun n => rfl) (fun n => rfl)
      · exact SameO.refl S
set_option maxHeartbeats 8000000 in
theorem SubsurfaceBuffered_walk (A : Option Addr) (n cap : Nat) (l : List YOp) (B : Option Addr) (m cb : Nat) (l2 : List YOp) (root : Int) (w : World) (h : OArg w A n l) (h2 : OArg w B m l2) :
    Calls Try.prog 5 #[.slice A n cap, .slice B m cb, .int .i64 root] w fun e w' => e = .returned (.bool true) ∧ Same w w' := by
  have hm1 := h.2.2
  have hm2 := h2.2.2
  unfold maxLen at hm1 hm2
  have HA := Lib.hid h
  have HB := Lib.hid h2
  clear h h2
  by_cases hn : 60 < n
  · go_enter Try.func5, Try.ntmps5
    go_wp2_with fail
    refine (example18_ok w).mono ?_
    rintro e w9 ⟨rfl, hs9⟩
    have HS9 := Lib.hid hs9
    clear hs9
    go_wp2
    go_ret
    exact ⟨rfl, HS9.out⟩
  have hz : ¬ (60 : Int) < n := by omega
  by_cases hn2 : 20 < m
  · go_enter Try.func5, Try.ntmps5
    go_wp2_with fail
    refine (example18_ok w).mono ?_
    rintro e w9 ⟨rfl, hs9⟩
    have HS9 := Lib.hid hs9
    clear hs9
    go_wp2
    go_ret
    exact ⟨rfl, HS9.out⟩
  have hz2 : ¬ (20 : Int) < m := by omega
  go_enter Try.func5, Try.ntmps5
  go_wp2_with fail
  refine (build_v A n cap l w HA.out (by omega)).mono ?_
  rintro e w1 ⟨b, R, rfl, hy, hlen⟩
  obtain ⟨S, hS⟩ : ∃ S, S = buildS l := ⟨_, rfl⟩
  rw [← hS] at hy hlen
  have HY := Lib.hid hy
  clear hy hS
  obtain ⟨L, hL⟩ : ∃ L, ordL S root = L := ⟨_, rfl⟩
  have HL := Lib.hid hL
  have hLl : L.length ≤ 60 := by
    rw [← hL]
    unfold ordL
    split
    · rename_i q; exact Nat.le_trans (ord_len addW HY.out.ok 10 0 0 q) hlen
    · simp
  clear hL
  go_wp2_with fail
  refine (yorder_v HY.out root HL.out rfl).mono ?_
  rintro e w2 ⟨C, c, rfl, hp, hs2⟩
  have HY2 := Lib.hid (HY.out.same hs2)
  have HP := Lib.hid hp
  clear hp hs2
  go_wp2_with fail
  go_loopw [10] (fun v10 wr => ∃ (j : Nat) (R1 : Nat → Prop) (T : Fo), v10 = .int .i64 j ∧ j ≤ m ∧ Yt w wr b R1 T ∧ SameO S T ∧ Go.Proofs.Ytehcfeibfpgamaa.HP wr R1 C L) (fun v10 wr => m - (intOf v10).toNat)
  case atStart => exact ⟨0, R, S, rfl, by omega, HY2.out, SameO.refl S, HP.out⟩
  case round =>
    obtain ⟨j, R1, T, rfl, hj, hy, hso, hp⟩ := hrel
    have hTl : T.length ≤ 60 := by have := congrArg List.length hso.ids; simp at this; omega
    by_cases hlt : j < m
    · obtain ⟨bb, o, x, rfl, hbw, hx, q0, q1, q2, q3, q4⟩ := (HB.out.same hy.s0).at_ hlt
      have hjz : (j : Int) < m := by omega
      have hx0 := same_do T x
      have HXD := Lib.hid hx0
      obtain ⟨k, xi, xa, xb, xo⟩ := x
      dsimp only at q0 q1 q2 q3 q4
      have HR := Lib.hid (And.intro hy (And.intro hso hp))
      clear hy hso hp hx hx0
      by_cases h4 : k < 4
      · go_wp2_with fail
        go_roundw
        case rel => first | exact ⟨j + 1, R1, T, by go_num, by omega, HR.out.1.same ((Chg.refl _ _).alloc _), HR.out.2.1, HR.out.2.2.same ((Chg.refl _ _).alloc _)⟩ | ((repeat apply Exists.intro); exact ⟨⟨j + 1, R1, T, by go_num, by omega, HR.out.1.same ((Chg.refl _ _).alloc _), HR.out.2.1, HR.out.2.2.same ((Chg.refl _ _).alloc _)⟩, rfl⟩)
        case measure => simp [intOf]; omega
      by_cases h6 : 6 < k
      · go_wp2_with fail
        go_roundw
        case rel => first | exact ⟨j + 1, R1, T, by go_num, by omega, HR.out.1.same ((Chg.refl _ _).alloc _), HR.out.2.1, HR.out.2.2.same ((Chg.refl _ _).alloc _)⟩ | ((repeat apply Exists.intro); exact ⟨⟨j + 1, R1, T, by go_num, by omega, HR.out.1.same ((Chg.refl _ _).alloc _), HR.out.2.1, HR.out.2.2.same ((Chg.refl _ _).alloc _)⟩, rfl⟩)
        case measure => simp [intOf]; omega
      go_wp2_with fail
      refine (do_v (HR.out.1.same ((Chg.refl _ _).alloc (.cells #[.int .i64 k, .int .i64 xi, .int .i64 xa, .int .i64 xb, .bool xo] 42))) (by omega) ⟨k, xi, xa, xb, xo⟩).mono ?_
      rintro e w5 ⟨A5, c5, R5, rfl, hy5, ho5, _⟩
      have HR5 := Lib.hid (And.intro hy5 (And.intro (HR.out.2.1.trans (HXD.out h4 h6)) ((HR.out.2.2.same ((Chg.refl _ _).alloc _)).own ho5)))
      clear hy5 ho5 q0 q1 q2 q3 q4
      go_wp2
      go_roundw
      case rel => first | exact ⟨j + 1, R5, _, by go_num, by omega, HR5.out.1, HR5.out.2.1, HR5.out.2.2⟩ | ((repeat apply Exists.intro); exact ⟨⟨j + 1, R5, _, by go_num, by omega, HR5.out.1, HR5.out.2.1, HR5.out.2.2⟩, rfl⟩)
      case measure => simp [intOf]; omega
    · obtain rfl : j = m := by omega
      have hjz : ¬ (j : Int) < j := by omega
      have hLT : ordL T root = L := by rw [hso.ordL, HL.out]
      have HR := Lib.hid (And.intro hy (And.intro hLT hp))
      clear hy hso hp hLT
      go_wp2_with fail
      refine (yorder_v HR.out.1 root HR.out.2.1 rfl).mono ?_
      rintro e w5 ⟨D, d, rfl, hp5, hs5⟩
      have HR5 := Lib.hid (And.intro (HR.out.1.same hs5) (And.intro (HR.out.2.2.same hs5) hp5))
      clear hp5 hs5
      go_wp2_with fail
      go_loopw [13] (fun v13 wq => ∃ k : Nat, v13 = .int .i64 k ∧ k ≤ L.length ∧ Same w5 wq) (fun v13 wq => L.length - (intOf v13).toNat)
      case atStart => exact ⟨0, rfl, by omega, Chg.refl _ _⟩
      case round =>
        obtain ⟨k, rfl, hk, hsm⟩ := hrel
        have HS3 := Lib.hid hsm
        by_cases hkL : k < L.length
        · obtain ⟨t, ht⟩ : ∃ t, L[k]? = some t := ⟨_, List.getElem?_eq_getElem hkL⟩
          obtain ⟨g1, rfl, hc1⟩ := HR5.out.2.1.1 (by omega)
          obtain ⟨g2, rfl, hc2⟩ := HR5.out.2.2.1 (by omega)
          obtain ⟨c0, c1, c2⟩ := hc1 k t ht
          obtain ⟨d0, d1, d2⟩ := hc2 k t ht
          have p0 := hsm.cell c0 (fun q => q)
          have p1 := hsm.cell c1 (fun q => q)
          have p2 := hsm.cell c2 (fun q => q)
          have r0 := hsm.cell d0 (fun q => q)
          have r1 := hsm.cell d1 (fun q => q)
          have r2 := hsm.cell d2 (fun q => q)
          have hkz : (k : Int) < L.length := by omega
          clear c0 c1 c2 d0 d1 d2 hc1 hc2 ht hsm
          go_wp2
          refine wp_still (by kernel_rfl) (by kernel_rfl) ?_
          repeat still_step
          try refine wpStill_nil ?_
          go_wp2
          go_roundw
          case rel => first | exact ⟨k + 1, by go_num, by omega, HS3.out.drew⟩ | ((repeat apply Exists.intro); exact ⟨⟨k + 1, by go_num, by omega, HS3.out.drew⟩, rfl⟩)
          case measure => simp [intOf]; omega
        · obtain rfl : k = L.length := by omega
          have hkz : ¬ (L.length : Int) < L.length := by omega
          clear hsm
          go_wp2_with fail
          refine (example18_ok _).mono ?_
          rintro e w9 ⟨rfl, hs9⟩
          have HS9 := Lib.hid ((HR5.out.1.s0.trans HS3.out).trans hs9)
          clear hs9
          go_wp2
          go_ret
          exact ⟨rfl, HS9.out⟩
end Go.Proofs.Ytehcfeibfpgamaa
