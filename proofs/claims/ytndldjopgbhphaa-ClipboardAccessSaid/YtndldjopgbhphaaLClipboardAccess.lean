/- The walk of ClipboardAccess: for all arguments it returns true and leaves what was there as it was. -/
import Derived.Test.YtndldjopgbhphaaEx42
import Derived.Test.YtndldjopgbhphaaArg42
import Derived.Test.YtndldjopgbhphaaPath
import Derived.Test.YtndldjopgbhphaaFlowS
import Derived.Deep.LoopGhost
import Derived.Deep.DeepCutAuto
set_option linter.unusedVariables false
set_option linter.unusedSimpArgs false
set_option maxRecDepth 100000
namespace Go.Proofs.Ytndldjopgbhphaa
open Go.RowKit

/-- Where the first loop stands. -/
structure AccS (w wr : World) (b : Nat) (R : Nat → Prop) (L : SLog) (c : CSt) (foc : Int) (i : Nat) : Prop where
  ses : Ses w wr w.heap.size b R L c
  foc : c.focus = foc
  own : c.owner = 0 → c.fmts = []
  offs : c.offers ≤ i
  flows : c.flows = []
section
variable {w wr w1 : World} {b : Nat} {R R1 : Nat → Prop} {L L1 : SLog} {c : CSt} {foc : Int} {i j : Nat}
theorem AccS.keep (h : AccS w wr b R L c foc i) (hs : Ses w w1 w.heap.size b R1 L1 c) (hj : i ≤ j) : AccS w w1 b R1 L1 c foc j := ⟨hs, h.foc, h.own, Nat.le_trans h.offs hj, h.flows⟩
theorem AccS.set (h : AccS w wr b R L c foc i) {cl : Int} {fs : List ByteArray} {a n : Int} (hs : Ses w w1 w.heap.size b R1 L1 (c.set L cl fs a n)) (hj : i ≤ j) : AccS w w1 b R1 L1 (c.set L cl fs a n) foc j := by
  have hcl : c.setE L cl fs a n = 0 → 1 ≤ cl := by
    unfold CSt.setE
    intro q
    split at q
    · cases q
    · omega
  refine ⟨hs, ?_, ?_, ?_, ?_⟩
  · unfold CSt.set; split <;> exact h.foc
  · unfold CSt.set
    split
    · rename_i q
      intro (q2 : cl = 0)
      have := hcl q
      omega
    · exact h.own
  · unfold CSt.set; split <;> exact Nat.le_trans h.offs hj
  · unfold CSt.set; split <;> exact h.flows
theorem AccS.focus (h : AccS w wr b R L c foc i) {cl : Int} (hs : Ses w w1 w.heap.size b R1 L1 (c.foc cl)) : AccS w w1 b R1 L1 (c.foc cl) (max cl 0) (i + 1) := by
  refine ⟨hs, rfl, h.own, ?_, h.flows⟩
  have := h.offs
  unfold CSt.foc
  dsimp only
  split <;> omega
end

theorem acc_foc {w wr w1 : World} {b : Nat} {R R1 : Nat → Prop} {L L1 : SLog} {c : CSt} {foc : Int} {i : Nat} (h : AccS w wr b R L c foc i) {cl f2 : Int} (hs : Ses w w1 w.heap.size b R1 L1 (c.foc cl)) (hf : f2 = max cl 0) : AccS w w1 b R1 L1 (c.foc cl) f2 (i + 1) := by
  subst hf; exact h.focus hs
theorem has_take {xs : List ByteArray} {x y : ByteArray} {i : Nat} (h : xs[i]? = some y) : hasS (xs.take (i + 1)) x = (hasS (xs.take i) x || decide (x = y)) := by
  unfold hasS
  rw [List.take_add_one, h]
  simp
theorem acc_off {w wr : World} {lb b : Nat} {R : Nat → Prop} {L : SLog} {c : CSt} {x : COp} (h : x.ok w) (hs : Ses w wr lb b R L c) : 0 < x.len → ∀ g o, x.A = some ⟨g, o, none⟩ → ¬ R g := by
  intro hn g o hA hr
  obtain ⟨b2, o2, hA2, hb2, _⟩ := h.2.2.2.2.1.2 hn
  rw [hA] at hA2
  cases hA2
  have := hs.fresh _ hr
  omega

set_option maxHeartbeats 16000000 in
theorem ClipboardAccess_walk (A : Option Addr) (len cap : Nat) (l : List COp) (client : Int) (want : ByteArray) (w : World) (h : COpsAt w A len l) (hc0 : -9223372036854775808 ≤ client) (hc1 : client ≤ 9223372036854775807) :
    Calls Try.prog 5 #[.slice A len cap, .int .i64 client, .string want] w fun e w' => e = .returned (.bool true) ∧ Same w w' := by
  have HI := Lib.hid h
  have HC := Lib.hid (And.intro hc0 hc1)
  have hlm := h.2.2
  unfold maxLen at hlm
  go_enter Try.func5, Try.ntmps5
  go_wp2_with fail
  refine (heavy_ok A len cap l w h).mono ?_
  rintro e w1 ⟨v, rfl, rfl, hv⟩
  clear h hc0 hc1
  cases v
  · have hl' : len ≤ 80 := hv rfl
    clear hv hlm
    by_cases hw : 100 < (want.size : Int)
    · as_aux_lemma =>
        go_wp2_with fail
        refine (example42_ok _).mono ?_
        rintro e w1 ⟨rfl, hs⟩
        have HS := Lib.hid hs
        clear hs
        go_wp2
        go_ret
        exact ⟨rfl, HS.out⟩
    · go_wp2_with fail
      refine (ses_lognew _).mono ?_
      rintro e w1 ⟨rfl, hl1, hs1⟩
      have HL1 := Lib.hid hl1
      have HS1 := Lib.hid hs1
      clear hl1 hs1
      go_wp2_with fail
      refine (ses_new (w0 := w) HL1.out (Nat.le_refl _) HS1.out).mono ?_
      rintro e w2 ⟨b, R2, rfl, hses, _, _⟩
      have H2 := Lib.hid hses
      clear hses HL1 HS1
      go_wp2
      go_loopg [9, 10, 11] len (fun g v9 v10 v11 wr => ∃ (i : Nat), i ≤ len ∧ g = len - i ∧ v11 = .int .i64 i ∧ ∃ iss foc R L c, v9 = .int .u32 iss ∧ v10 = .int .i64 foc ∧ AccS w wr b R L c foc i)
      case atStart => exact ⟨0, by omega, by omega, rfl, 0, 0, R2, SLog.new, CSt.new, rfl, rfl, H2.out, rfl, fun _ => rfl, Nat.le_refl _, rfl⟩
      case round =>
        obtain ⟨i, hi, hg, rfl, iss, foc, R, L, c, rfl, rfl, hst⟩ := hrel
        have HG := Lib.hid hg
        have HS := Lib.hid hst
        clear hg hst
        by_cases hlt : i < len
        · have hii : (i : Int) < len := by omega
          obtain ⟨ab, ao, x, rfl, hab, _, hok, c0, c1, c2, c3, c4⟩ := HI.out.at_ hlt
          have g0 := HS.out.ses.same.cell c0 (fun q => q)
          have g1 := HS.out.ses.same.cell c1 (fun q => q)
          have g2 := HS.out.ses.same.cell c2 (fun q => q)
          have g3 := HS.out.ses.same.cell c3 (fun q => q)
          have g4 := HS.out.ses.same.cell c4 (fun q => q)
          have HX := Lib.hid hok
          clear c0 c1 c2 c3 c4 hok
          have hbx := at_new wr (.cells #[.int .i64 x.kind, .int .i64 x.client, .int .i64 x.n, .int .i64 x.acts, .slice x.A x.len x.cap] 49)
          have HB := Lib.hid (HS.out.keep (HS.out.ses.keep ((Chg.refl _ wr).alloc (.cells #[.int .i64 x.kind, .int .i64 x.client, .int .i64 x.n, .int .i64 x.acts, .slice x.A x.len x.cap] 49))) (Nat.le_refl _))
          have HNB : Hid (¬ R wr.heap.size) := Lib.hid (fun q => by have := HS.out.ses.clip.lt _ q; omega)
          obtain ⟨k0, k1, k2, k3, k4, kf, kl⟩ := box5 hbx
          clear hbx
          go_upto_region 12 with (fail)
          generalize wr.alloc (.cells #[.int .i64 x.kind, .int .i64 x.client, .int .i64 x.n, .int .i64 x.acts, .slice x.A x.len x.cap] 49) = wB at *
          clear g0 g1 g2 g3 g4
          by_cases hk1 : x.kind = 1
          · as_aux_lemma =>
              rw [hk1] at k0
              go_wp2_with fail
              refine region_path (S := (fun w' => w'.cell? ⟨wr.heap.size, 0, none⟩ = some (.int .i64 1) ∧ w'.cell? ⟨wr.heap.size, 1, none⟩ = some (.int .i64 x.client) ∧ w'.cell? ⟨wr.heap.size, 2, none⟩ = some (.int .i64 x.n) ∧ w'.cell? ⟨wr.heap.size, 3, none⟩ = some (.int .i64 x.acts) ∧ w'.cell? ⟨wr.heap.size, 4, none⟩ = some (.slice x.A x.len x.cap))) 99 [(0, true), (1, true), (2, true), (3, true), (4, true), (5, true), (6, true), (7, true), (8, true), (9, true), (10, false), (11, false)] (by kernel_rfl) (by kernel_rfl) (by kernel_rfl) ⟨k0, k1, k2, k3, k4⟩ ?_
              refine path_read (i := 0) (v := ?v1_0) rfl (by rfl) (fun _ _ _ h => h) ?hy1_0 ?_
              case hy1_0 => ((intro w hSw; (try dsimp only at hSw); go_simp) <;> (try with_reducible rfl))
              try simp only [Act.put, List.setIfInBounds_toArray, List.set_cons_zero, List.set_cons_succ]
              refine path_read (i := 1) (v := ?v1_1) rfl (by rfl) (fun _ _ _ h => h) ?hy1_1 ?_
              case hy1_1 => ((intro w hSw; (try dsimp only at hSw); go_simp) <;> (try with_reducible rfl))
              try simp only [Act.put, List.setIfInBounds_toArray, List.set_cons_zero, List.set_cons_succ]
              refine path_read (i := 2) (v := ?v1_2) rfl (by rfl) (fun _ _ _ h => h) ?hy1_2 ?_
              case hy1_2 => ((intro w hSw; (try dsimp only at hSw); go_simp) <;> (try with_reducible rfl))
              try simp only [Act.put, List.setIfInBounds_toArray, List.set_cons_zero, List.set_cons_succ]
              refine path_read (i := 3) (v := ?v1_3) rfl (by rfl) (fun _ _ _ h => h) ?hy1_3 ?_
              case hy1_3 => ((intro w hSw; (try dsimp only at hSw); go_simp) <;> (try with_reducible rfl))
              try simp only [Act.put, List.setIfInBounds_toArray, List.set_cons_zero, List.set_cons_succ]
              refine path_read (i := 4) (v := ?v1_4) rfl (by rfl) (fun _ _ _ h => h) ?hy1_4 ?_
              case hy1_4 => ((intro w hSw; (try dsimp only at hSw); go_simp) <;> (try with_reducible rfl))
              try simp only [Act.put, List.setIfInBounds_toArray, List.set_cons_zero, List.set_cons_succ]
              refine path_read (i := 5) (v := ?v1_5) rfl (by rfl) (fun _ _ _ h => h) ?hy1_5 ?_
              case hy1_5 => ((intro w hSw; (try dsimp only at hSw); go_simp) <;> (try with_reducible rfl))
              try simp only [Act.put, List.setIfInBounds_toArray, List.set_cons_zero, List.set_cons_succ]
              refine path_read (i := 6) (v := ?v1_6) rfl (by rfl) (fun _ _ _ h => h) ?hy1_6 ?_
              case hy1_6 => ((intro w hSw; (try dsimp only at hSw); go_simp) <;> (try with_reducible rfl))
              try simp only [Act.put, List.setIfInBounds_toArray, List.set_cons_zero, List.set_cons_succ]
              refine path_read (i := 7) (v := ?v1_7) rfl (by rfl) (fun _ _ _ h => h) ?hy1_7 ?_
              case hy1_7 => ((intro w hSw; (try dsimp only at hSw); go_simp) <;> (try with_reducible rfl))
              try simp only [Act.put, List.setIfInBounds_toArray, List.set_cons_zero, List.set_cons_succ]
              refine path_read (i := 8) (v := ?v1_8) rfl (by rfl) (fun _ _ _ h => h) ?hy1_8 ?_
              case hy1_8 => ((intro w hSw; (try dsimp only at hSw); go_simp) <;> (try with_reducible rfl))
              try simp only [Act.put, List.setIfInBounds_toArray, List.set_cons_zero, List.set_cons_succ]
              refine path_read (i := 9) (v := ?v1_9) rfl (by rfl) (fun _ _ _ h => h) ?hy1_9 ?_
              case hy1_9 => ((intro w hSw; (try dsimp only at hSw); go_simp) <;> (try with_reducible rfl))
              try simp only [Act.put, List.setIfInBounds_toArray, List.set_cons_zero, List.set_cons_succ]
              refine path_do (i := 10) rfl ?_
              go_wp2_with ((first | (go_at_call 20; refine (quoted_ok iss 1 x.client x.n x.acts x.A x.len x.cap _).mono ?_; rintro e w5 ⟨rfl, hs5⟩; have HK5 := Lib.hid (Chg.trans (Chg.refl (fun _ => False) wB).drew hs5); have hqc := And.intro (HK5.out.cell k0 (fun q => q)) (And.intro (HK5.out.cell k1 (fun q => q)) (And.intro (HK5.out.cell k2 (fun q => q)) (And.intro (HK5.out.cell k3 (fun q => q)) (HK5.out.cell k4 (fun q => q))))); clear hs5) | (go_at_call 15; refine (ses_set _ _ x.client x.acts (quoteV iss x.n) x.A x.len x.cap x.fs (HB.out.ses.keep HK5.out) (HX.out.2.2.2.2.chg2 (HB.out.ses.same.trans HK5.out) (fun _ _ _ _ q => q)) (acc_off HX.out HB.out.ses) rfl rfl).mono ?_; rintro e w6 ⟨R6, rfl, hses, hown⟩; have H6 := Lib.hid hses; have hqd := And.intro (hown.chg.cell hqc.1 HNB.out) (And.intro (hown.chg.cell hqc.2.1 HNB.out) (And.intro (hown.chg.cell hqc.2.2.1 HNB.out) (And.intro (hown.chg.cell hqc.2.2.2.1 HNB.out) (hown.chg.cell hqc.2.2.2.2 HNB.out)))); clear hses hown)))
              refine ⟨.inr ?keep1_10, ?_⟩
              case keep1_10 => ((first | exact hqd | exact hqc))
              try simp only [Act.put, List.setIfInBounds_toArray, List.set_cons_zero, List.set_cons_succ]
              refine path_do (i := 11) rfl ?_
              go_wp2_with ((first | (go_at_call 20; refine (quoted_ok iss 1 x.client x.n x.acts x.A x.len x.cap _).mono ?_; rintro e w5 ⟨rfl, hs5⟩; have HK5 := Lib.hid (Chg.trans (Chg.refl (fun _ => False) wB).drew hs5); have hqc := And.intro (HK5.out.cell k0 (fun q => q)) (And.intro (HK5.out.cell k1 (fun q => q)) (And.intro (HK5.out.cell k2 (fun q => q)) (And.intro (HK5.out.cell k3 (fun q => q)) (HK5.out.cell k4 (fun q => q))))); clear hs5) | (go_at_call 15; refine (ses_set _ _ x.client x.acts (quoteV iss x.n) x.A x.len x.cap x.fs (HB.out.ses.keep HK5.out) (HX.out.2.2.2.2.chg2 (HB.out.ses.same.trans HK5.out) (fun _ _ _ _ q => q)) (acc_off HX.out HB.out.ses) rfl rfl).mono ?_; rintro e w6 ⟨R6, rfl, hses, hown⟩; have H6 := Lib.hid hses; have hqd := And.intro (hown.chg.cell hqc.1 HNB.out) (And.intro (hown.chg.cell hqc.2.1 HNB.out) (And.intro (hown.chg.cell hqc.2.2.1 HNB.out) (And.intro (hown.chg.cell hqc.2.2.2.1 HNB.out) (hown.chg.cell hqc.2.2.2.2 HNB.out)))); clear hses hown)))
              refine ⟨.inr ?keep1_11, ?_⟩
              case keep1_11 => ((first | exact hqd | exact hqc))
              try simp only [Act.put, List.setIfInBounds_toArray, List.set_cons_zero, List.set_cons_succ]
              refine path_end ?_
              go_wp2
              go_roundg (len - (i + 1))
              case measure => have := HG.out; omega
              case rel => exact ⟨i + 1, by omega, by rfl, by go_num, iss, foc, R6, L, _, rfl, rfl, HB.out.set H6.out (by omega)⟩
          · by_cases hk3 : x.kind = 3
            · have hkk : (3 : Int) ≠ 1 := by decide
              by_cases hcl : x.client < 1
              · as_aux_lemma =>
                  go_wp2_with fail
                  refine (ses_focus0 (c.foc x.client) x.client HB.out.ses (by have := HB.out.offs; omega) hcl rfl).mono ?_
                  rintro e w6 ⟨R6, rfl, hses, hown⟩
                  have H6 := Lib.hid hses
                  have j1 := hown.chg.cell k1 HNB.out
                  clear hses hown k0 k1 k2 k3 k4
                  go_wp2
                  go_roundg (len - (i + 1))
                  case measure => have := HG.out; omega
                  case rel => exact ⟨i + 1, by omega, by rfl, by go_num, iss, _, R6, L, _, rfl, rfl, acc_foc HB.out H6.out (by omega)⟩
              · as_aux_lemma =>
                  have hcl1 : 1 ≤ x.client := by omega
                  go_wp2_with fail
                  refine (ses_focus (c.foc x.client) x.client _ HB.out.ses (by have := HB.out.offs; omega) hcl1 rfl rfl).mono ?_
                  rintro e w6 ⟨R6, g6, rfl, _, _, _, hses, hown⟩
                  have H6 := Lib.hid hses
                  have j1 := hown.chg.cell k1 HNB.out
                  clear hses hown k0 k1 k2 k3 k4
                  go_wp2
                  go_roundg (len - (i + 1))
                  case measure => have := HG.out; omega
                  case rel => exact ⟨i + 1, by omega, by rfl, by go_num, iss, _, R6, L, _, rfl, rfl, acc_foc HB.out H6.out (by omega)⟩
            · by_cases hk6 : x.kind = 6
              · as_aux_lemma =>
                  go_wp2_with fail
                  refine (ses_issue _ _ x.client 1 _ HB.out.ses HX.out.2.1.2 (by omega) rfl rfl).mono ?_
                  rintro e w6 ⟨rfl, hses, _⟩
                  have H6 := Lib.hid hses
                  clear hses
                  go_wp2
                  all_goals go_roundg (len - (i + 1))
                  any_goals case measure => have := HG.out; omega
                  all_goals exact ⟨i + 1, by omega, by rfl, by go_num, _, foc, R, _, c, rfl, rfl, HB.out.keep H6.out (by omega)⟩
              · as_aux_lemma =>
                  go_wp2
                  go_roundg (len - (i + 1))
                  case measure => have := HG.out; omega
                  case rel => exact ⟨i + 1, by omega, by rfl, by go_num, iss, foc, R, L, c, rfl, rfl, HB.out.keep HB.out.ses (by omega)⟩
        · have hii : ¬ (i : Int) < len := by omega
          obtain ⟨fs, hfs⟩ : ∃ fs, c.sees client = fs := ⟨_, rfl⟩
          obtain ⟨n, hn⟩ : ∃ n, fs.length = n := ⟨_, rfl⟩
          have HF := Lib.hid (And.intro hfs hn)
          clear hfs
          go_wp2_with fail
          refine (ses_formats fs client n HS.out.ses HF.out.1 HF.out.2).mono ?_
          rintro e w8 ⟨A8, cap8, rfl, hsa, hk8, _⟩
          have H8 := Lib.hid (HS.out.keep (HS.out.ses.keep hk8) (Nat.le_refl i))
          have HA := Lib.hid hsa
          have hn0 : n ≤ 9223372036854775807 := by have h1 := hsa.2.1; have h2 := hsa.2.2; unfold maxLen at h2; omega
          clear hsa hk8 hn
          go_wp2
          go_loop [14, 15] (fun v14 v15 => ∃ k : Nat, k ≤ n ∧ v15 = .int .i64 k ∧ v14 = .bool (hasS (fs.take k) want)) (fun _ v15 => n - (intOf v15).toNat)
          case atStart => exact ⟨0, by omega, rfl, rfl⟩
          case round =>
            obtain ⟨k, hk, rfl, rfl⟩ := hrel
            obtain ⟨hb, hhb⟩ : ∃ hb, hasS (fs.take k) want = hb := ⟨_, rfl⟩
            rw [hhb]
            have HH := Lib.hid hhb
            clear hhb
            by_cases hlt2 : k < n
            · have hil : k < fs.length := by rw [HF.out.2]; exact hlt2
              obtain ⟨b8, o8, rfl, hbl, hc⟩ := HA.out.1.2 (by omega)
              obtain ⟨y, hy⟩ : ∃ y, y = fs[k] := ⟨_, rfl⟩
              have hy2 : fs[k]? = some y := by rw [hy]; exact List.getElem?_eq_getElem hil
              have hcell := hc k y hy2
              have HY := Lib.hid hy2
              have hkk : (k : Int) < n := by omega
              clear hc hy hy2 hbl hil
              cases hb
              · by_cases hb : y = want
                · subst hb
                  go_wp2
                  go_round
                  case rel => exact ⟨k + 1, by omega, by go_num, by rw [has_take HY.out, HH.out]; simp⟩
                  case measure => simp [intOf]; omega
                · have hb' : decide (y = want) = false := decide_eq_false hb
                  have hne := toList_ne hb
                  have HB := Lib.hid hb
                  clear hb
                  go_wp2
                  go_round
                  case rel => exact ⟨k + 1, by omega, by go_num, by rw [has_take HY.out, HH.out, decide_eq_false (fun q => HB.out q.symm)]; rfl⟩
                  case measure => simp [intOf]; omega
              · go_wp2
                go_round
                case rel => exact ⟨k + 1, by omega, by go_num, by rw [has_take HY.out, HH.out]; rfl⟩
                case measure => simp [intOf]; omega
            · have hkk : ¬ (k : Int) < n := by omega
              have HH2 : Hid (hasS fs want = hb) := Lib.hid (by have h1 := HH.out; rwa [show k = fs.length by rw [HF.out.2]; omega, List.take_length] at h1)
              clear HH
              by_cases hfar : client < 1 ∨ client ≠ foc
              · have HN : Hid (fs = []) := Lib.hid (by rw [← HF.out.1]; unfold CSt.sees; rw [HS.out.foc, if_pos hfar])
                have hn1 : n = 0 := by rw [← HF.out.2, HN.out]; rfl
                have HE : Hid (c.rcvE client want 16 = 17) := Lib.hid (by unfold CSt.rcvE; rw [HS.out.foc, if_pos hfar])
                subst hn1
                rcases (show client < 1 ∨ ¬ client < 1 ∧ ¬ client = foc by omega) with hf | ⟨hf, hf2⟩
                · as_aux_lemma =>
                    go_wp2_with fail
                    refine (ses_rcv_no 17 client 16 want H8.out.ses HE.out (by decide)).mono ?_
                    rintro e w9 ⟨rfl, rfl⟩
                    go_wp2_with fail
                    refine (example42_ok _).mono ?_
                    rintro e w10 ⟨rfl, hk10⟩
                    have HK := Lib.hid (H8.out.ses.same.trans hk10)
                    clear hk10
                    go_wp2
                    go_ret
                    exact ⟨rfl, HK.out⟩
                · have hf3 : (client == foc) = false := by simp [hf2]
                  have hf4 : (client != foc) = true := by simp [hf2]
                  have hf5 : ¬ foc = client := fun q => hf2 q.symm
                  cases hb
                  · as_aux_lemma =>
                      go_wp2_with fail
                      refine (ses_rcv_no 17 client 16 want H8.out.ses HE.out (by decide)).mono ?_
                      rintro e w9 ⟨rfl, rfl⟩
                      go_wp2_with fail
                      refine (example42_ok _).mono ?_
                      rintro e w10 ⟨rfl, hk10⟩
                      have HK := Lib.hid (H8.out.ses.same.trans hk10)
                      clear hk10
                      go_wp2
                      go_ret
                      exact ⟨rfl, HK.out⟩
                  · as_aux_lemma =>
                      go_wp2_with fail
                      refine (ses_rcv_no 17 client 16 want H8.out.ses HE.out (by decide)).mono ?_
                      rintro e w9 ⟨rfl, rfl⟩
                      go_wp2_with fail
                      refine (example42_ok _).mono ?_
                      rintro e w10 ⟨rfl, hk10⟩
                      have HK := Lib.hid (H8.out.ses.same.trans hk10)
                      clear hk10
                      go_wp2
                      go_ret
                      exact ⟨rfl, HK.out⟩
              · have HN : Hid (fs = c.fmts) := Lib.hid (by rw [← HF.out.1]; unfold CSt.sees; rw [HS.out.foc, if_neg hfar])
                have hf1 : 1 ≤ client := by omega
                have hf2 : client = foc := by omega
                have hnf : ¬ client < 1 := by omega
                subst hf2
                cases hb
                · have HE : Hid (c.rcvE client want 16 = 8) := Lib.hid (by unfold CSt.rcvE; rw [HS.out.foc, if_neg hfar, ← HN.out, HH2.out, if_pos (.inr rfl)])
                  by_cases hn2 : 0 < n
                  · have ho : ¬ c.owner = 0 := fun q => by
                      have h1 := HS.out.own q
                      have h2 := HF.out.2
                      rw [HN.out, h1] at h2
                      simp at h2
                      omega
                    have hn3 : (0 : Int) < n := by omega
                    clear hfar
                    as_aux_lemma =>
                      go_wp2_with fail
                      refine (ses_rcv_no 8 client 16 want H8.out.ses HE.out (by decide)).mono ?_
                      rintro e w9 ⟨rfl, rfl⟩
                      go_wp2_with fail
                      refine (ses_owner c.owner H8.out.ses rfl).mono ?_
                      rintro e w9 ⟨rfl, rfl⟩
                      go_wp2_with fail
                      refine (example42_ok _).mono ?_
                      rintro e w10 ⟨rfl, hk10⟩
                      have HK := Lib.hid (H8.out.ses.same.trans hk10)
                      clear hk10
                      go_wp2
                      go_ret
                      exact ⟨rfl, HK.out⟩
                  · have hn3 : ¬ (0 : Int) < n := by omega
                    clear hfar
                    as_aux_lemma =>
                      go_wp2_with fail
                      refine (ses_rcv_no 8 client 16 want H8.out.ses HE.out (by decide)).mono ?_
                      rintro e w9 ⟨rfl, rfl⟩
                      go_wp2_with fail
                      refine (example42_ok _).mono ?_
                      rintro e w10 ⟨rfl, hk10⟩
                      have HK := Lib.hid (H8.out.ses.same.trans hk10)
                      clear hk10
                      go_wp2
                      go_ret
                      exact ⟨rfl, HK.out⟩
                · have HP : Hid (¬ c.fmts = []) := Lib.hid (fun q => by have h1 := HH2.out; rw [HN.out, q] at h1; cases h1)
                  have ho : ¬ c.owner = 0 := fun q => HP.out (HS.out.own q)
                  have HE : Hid (c.rcvE client want 16 = 0) := Lib.hid (by unfold CSt.rcvE; rw [HS.out.foc, if_neg hfar, ← HN.out, HH2.out, if_neg (by rintro (q | q); exact ho q; cases q), if_neg (by omega)])
                  have hn3 : (0 : Int) < n := by
                    have h2 := HF.out.2
                    rw [HN.out] at h2
                    have h3 := List.length_pos_iff.2 HP.out
                    omega
                  clear hfar
                  as_aux_lemma =>
                    go_wp2_with fail
                    refine (ses_rcv client 16 want H8.out.ses HE.out (by rw [H8.out.flows]; decide)).mono ?_
                    rintro e w9 ⟨R9, pb, Rp, rfl, hses, _⟩
                    have H9 := Lib.hid hses
                    clear hses
                    go_wp2_with fail
                    refine (ses_owner c.owner H9.out rfl).mono ?_
                    rintro e w9 ⟨rfl, rfl⟩
                    go_wp2_with fail
                    refine (example42_ok _).mono ?_
                    rintro e w10 ⟨rfl, hk10⟩
                    have HK := Lib.hid (H9.out.same.trans hk10)
                    clear hk10
                    go_wp2
                    go_ret
                    exact ⟨rfl, HK.out⟩
  · clear hv hlm
    as_aux_lemma =>
      go_wp2_with fail
      refine (example42_ok _).mono ?_
      rintro e w1 ⟨rfl, hs⟩
      have HS := Lib.hid hs
      clear hs
      go_wp2
      go_ret
      exact ⟨rfl, HS.out⟩
end Go.Proofs.Ytndldjopgbhphaa
