/- compositorref40.Check: the same answer. -/
import Derived.Test.YtndldjopgbhphaaPk39
set_option linter.unusedVariables false
set_option linter.unusedSimpArgs false
set_option maxRecDepth 100000
namespace Go.Proofs.Ytndldjopgbhphaa
open Go.RowKit

set_option maxRecDepth 100000 in
set_option maxHeartbeats 4000000 in
theorem ucheck_ok (A : Option Addr) (n cap : Nat) (fs : List ByteArray) (acts : Int) (w : World) (h : StrsAt w A n fs) (hc : n ≤ cap) (hm : cap ≤ maxLen) (hz : ∀ f ∈ fs, f.size ≤ 140737488351232) :
    Calls Try.prog 63 #[.agg #[.slice A n cap, .int .i64 acts]] w fun e w' => e = .returned (.int .i64 (checkV fs acts)) ∧ Same w w' := by
  have hl := h.1
  have h0 := at_new w (.cells #[.slice A n cap, .int .i64 acts] 60)
  have c0 : (w.alloc (.cells #[.slice A n cap, .int .i64 acts] 60)).cell? ⟨w.heap.size, 0, none⟩ = some (.slice A n cap) := by rw [cell_of_row _ _ 0 _ _ _ h0]; rfl
  have c1 : (w.alloc (.cells #[.slice A n cap, .int .i64 acts] 60)).cell? ⟨w.heap.size, 1, none⟩ = some (.int .i64 acts) := by rw [cell_of_row _ _ 1 _ _ _ h0]; rfl
  have HA := Lib.hid (h.same ((Chg.refl (fun _ => False) w).alloc (.cells #[.slice A n cap, .int .i64 acts] 60)))
  have HC := Lib.hid (And.intro c0 c1)
  have HZ := Lib.hid hz
  have hcap : cap ≤ 9223372036854775807 := by unfold maxLen at hm; exact hm
  clear hm h h0 c0 c1 hz
  by_cases h16 : 16 < n
  · have HE := Lib.hid (check_limit (acts := acts) (show 16 < fs.length by omega))
    have h16' : (16 : Int) < n := by omega
    go_enter Try.func63, Try.ntmps63
    go_wp2
    go_ret
    exact ⟨by rw [HE.out]; rfl, (Chg.refl (fun _ => False) w).alloc _⟩
  · have h16' : ¬ (16 : Int) < n := by omega
    have H16 := Lib.hid (show ¬ 16 < fs.length by omega)
    have HL := Lib.hid hl
    clear hl
    go_enter Try.func63, Try.ntmps63
    go_wp2
    go_loop [3] (fun v3 => ∃ i : Nat, i ≤ n ∧ v3 = .int .i64 i ∧ ∀ (j : Nat) x, j < i → fs[j]? = some x → validB x = true) (fun v3 => n - (intOf v3).toNat)
    case atStart => exact ⟨0, by omega, rfl, fun j _ hj => by omega⟩
    case round =>
      obtain ⟨i, hi, rfl, hf⟩ := hrel
      have HF := Lib.hid hf
      clear hf
      by_cases hlt : i < n
      · have hil : i < fs.length := by rw [HL.out]; exact hlt
        obtain ⟨b, o, rfl, hbl, hc⟩ := HA.out.2 (by omega)
        obtain ⟨y, hy⟩ : ∃ y, y = fs[i] := ⟨_, rfl⟩
        have hy2 : fs[i]? = some y := by rw [hy]; exact List.getElem?_eq_getElem hil
        have hcell := hc i y hy2
        have hyz := HZ.out y (List.mem_of_getElem? hy2)
        have HY := Lib.hid hy2
        have hii : (i : Int) < n := by omega
        clear hc hy hy2 hbl hil
        cases hb : validB y
        · have HB := Lib.hid hb
          clear hb
          go_wp2_with fail
          refine (uvalid_v _ y hyz _ HB.out).mono ?_
          rintro e w' ⟨rfl, rfl⟩
          go_wp2
          go_ret
          exact ⟨by rw [check_syntax H16.out HY.out HB.out]; rfl, (Chg.refl (fun _ => False) w).alloc _⟩
        · have HB := Lib.hid hb
          clear hb
          go_wp2_with fail
          refine (uvalid_v _ y hyz _ HB.out).mono ?_
          rintro e w' ⟨rfl, rfl⟩
          go_wp2
          go_round
          case rel =>
            refine ⟨i + 1, by omega, by go_num, fun j x hj hx => ?_⟩
            by_cases hji : j = i
            · subst hji
              rw [HY.out] at hx
              cases hx
              exact HB.out
            · exact HF.out j x (by omega) hx
          case measure => simp [intOf]; omega
      · have hie : i = n := by omega
        have hlt' : ¬ (i : Int) < n := by omega
        have HV := Lib.hid (show ∀ (j : Nat) x, fs[j]? = some x → validB x = true from fun j x hx => HF.out j x (by rw [hie, ← HL.out]; exact (List.getElem?_eq_some_iff.1 hx).1) hx)
        clear HF hie
        go_wp2
        go_loopg [4] n (fun g v4 wr => Same (w.alloc (.cells #[.slice A n cap, .int .i64 acts] 60)) wr ∧ ∃ i : Nat, i ≤ n ∧ g = n - i ∧ v4 = .int .i64 i ∧ ∀ j, j < i → dupAt fs j = false)
        case atStart => exact ⟨Chg.refl _ _, 0, by omega, by omega, rfl, fun j hj => by omega⟩
        case round =>
          obtain ⟨hs, i, hi, hg, rfl, hf⟩ := hrel
          have HF := Lib.hid hf
          have HG := Lib.hid hg
          have HS := Lib.hid hs
          have hbox := hs.cell HC.out.1 (fun q => q)
          have hbox1 := hs.cell HC.out.2 (fun q => q)
          clear hf hg hs
          by_cases hlt : i < n
          · have hil : i < fs.length := by rw [HL.out]; exact hlt
            have HT := Lib.hid ((HA.out.same HS.out).take hi)
            obtain ⟨b, o, rfl, hbl, hc⟩ := (HA.out.same HS.out).2 (by omega)
            obtain ⟨y, hy⟩ : ∃ y, y = fs[i] := ⟨_, rfl⟩
            have hy2 : fs[i]? = some y := by rw [hy]; exact List.getElem?_eq_getElem hil
            have hcell := hc i y hy2
            have hdd : dupAt fs i = hasS (fs.take i) y := by unfold dupAt; rw [List.getD_eq_getElem?_getD, hy2]; rfl
            have HY := Lib.hid hdd
            have HIL := Lib.hid hil
            have hii : (i : Int) < n := by omega
            have hic : (i : Int) ≤ cap := by omega
            clear hc hy hy2 hbl hil hdd hbox1
            cases hb : hasS (fs.take i) y
            · have HB := Lib.hid hb
              clear hb
              go_wp2_with fail
              refine region_path (S := (fun w' => w'.cell? ⟨w.heap.size, 0, none⟩ = some (.slice (some ⟨b, o, none⟩) n cap) ∧ w'.cell? ⟨b, o + i, none⟩ = some (.string y))) 99 [(0, true), (1, true), (2, true), (3, true), (4, true), (5, true), (6, true), (7, true), (8, true), (9, false)] (by kernel_rfl) (by kernel_rfl) (by kernel_rfl) ⟨hbox, hcell⟩ ?_
              refine path_read (i := 0) (v := ?v133_0) rfl (by rfl) (fun _ _ _ h => h) ?hy133_0 ?_
              case hy133_0 => ((intro w hSw; (try dsimp only at hSw); go_simp) <;> (try with_reducible rfl))
              try simp only [Act.put, List.setIfInBounds_toArray, List.set_cons_zero, List.set_cons_succ]
              refine path_read (i := 1) (v := ?v133_1) rfl (by rfl) (fun _ _ _ h => h) ?hy133_1 ?_
              case hy133_1 => ((intro w hSw; (try dsimp only at hSw); go_simp) <;> (try with_reducible rfl))
              try simp only [Act.put, List.setIfInBounds_toArray, List.set_cons_zero, List.set_cons_succ]
              refine path_read (i := 2) (v := ?v133_2) rfl (by rfl) (fun _ _ _ h => h) ?hy133_2 ?_
              case hy133_2 => ((intro w hSw; (try dsimp only at hSw); go_simp) <;> (try with_reducible rfl))
              try simp only [Act.put, List.setIfInBounds_toArray, List.set_cons_zero, List.set_cons_succ]
              refine path_read (i := 3) (v := ?v133_3) rfl (by rfl) (fun _ _ _ h => h) ?hy133_3 ?_
              case hy133_3 => ((intro w hSw; (try dsimp only at hSw); go_simp) <;> (try with_reducible rfl))
              try simp only [Act.put, List.setIfInBounds_toArray, List.set_cons_zero, List.set_cons_succ]
              refine path_read (i := 4) (v := ?v133_4) rfl (by rfl) (fun _ _ _ h => h) ?hy133_4 ?_
              case hy133_4 => ((intro w hSw; (try dsimp only at hSw); go_simp) <;> (try with_reducible rfl))
              try simp only [Act.put, List.setIfInBounds_toArray, List.set_cons_zero, List.set_cons_succ]
              refine path_read (i := 5) (v := ?v133_5) rfl (by rfl) (fun _ _ _ h => h) ?hy133_5 ?_
              case hy133_5 => ((intro w hSw; (try dsimp only at hSw); go_simp) <;> (try with_reducible rfl))
              try simp only [Act.put, List.setIfInBounds_toArray, List.set_cons_zero, List.set_cons_succ]
              refine path_read (i := 6) (v := ?v133_6) rfl (by rfl) (fun _ _ _ h => h) ?hy133_6 ?_
              case hy133_6 => ((intro w hSw; (try dsimp only at hSw); go_simp) <;> (try with_reducible rfl))
              try simp only [Act.put, List.setIfInBounds_toArray, List.set_cons_zero, List.set_cons_succ]
              refine path_read (i := 7) (v := ?v133_7) rfl (by rfl) (fun _ _ _ h => h) ?hy133_7 ?_
              case hy133_7 => ((intro w hSw; (try dsimp only at hSw); go_simp) <;> (try with_reducible rfl))
              try simp only [Act.put, List.setIfInBounds_toArray, List.set_cons_zero, List.set_cons_succ]
              refine path_read (i := 8) (v := ?v133_8) rfl (by rfl) (fun _ _ _ h => h) ?hy133_8 ?_
              case hy133_8 => ((intro w hSw; (try dsimp only at hSw); go_simp) <;> (try with_reducible rfl))
              try simp only [Act.put, List.setIfInBounds_toArray, List.set_cons_zero, List.set_cons_succ]
              refine path_do (i := 9) rfl ?_
              go_wp2_with ((go_at_call 86; refine (uhas_v _ _ i cap (fs.take i) y _ (HT.out.same (Chg.refl (fun _ => False) wr).drew) (by omega) HB.out).mono ?_; rintro e w9 ⟨rfl, rfl⟩))
              (first | refine ⟨.inr ?keep133_9, ?_⟩ | refine ⟨?keep133_9, ?_⟩)
              case keep133_9 => ((exact ⟨hbox, hcell⟩))
              try simp only [Act.put, List.setIfInBounds_toArray, List.set_cons_zero, List.set_cons_succ]
              refine path_end ?_
              go_wp2
              go_roundg (n - (i + 1))
              case measure => have := HG.out; omega
              case rel =>
                refine ⟨HS.out.drew, i + 1, by omega, by rfl, by go_num, fun j hj => ?_⟩
                by_cases hji : j = i
                · rw [hji, HY.out, HB.out]
                · exact HF.out j (by omega)
            · have HB := Lib.hid hb
              clear hb
              go_wp2_with fail
              refine region_path (S := (fun w' => w'.cell? ⟨w.heap.size, 0, none⟩ = some (.slice (some ⟨b, o, none⟩) n cap) ∧ w'.cell? ⟨b, o + i, none⟩ = some (.string y))) 99 [(0, true), (1, true), (2, true), (3, true), (4, true), (5, true), (6, true), (7, true), (8, true), (9, false)] (by kernel_rfl) (by kernel_rfl) (by kernel_rfl) ⟨hbox, hcell⟩ ?_
              refine path_read (i := 0) (v := ?v134_0) rfl (by rfl) (fun _ _ _ h => h) ?hy134_0 ?_
              case hy134_0 => ((intro w hSw; (try dsimp only at hSw); go_simp) <;> (try with_reducible rfl))
              try simp only [Act.put, List.setIfInBounds_toArray, List.set_cons_zero, List.set_cons_succ]
              refine path_read (i := 1) (v := ?v134_1) rfl (by rfl) (fun _ _ _ h => h) ?hy134_1 ?_
              case hy134_1 => ((intro w hSw; (try dsimp only at hSw); go_simp) <;> (try with_reducible rfl))
              try simp only [Act.put, List.setIfInBounds_toArray, List.set_cons_zero, List.set_cons_succ]
              refine path_read (i := 2) (v := ?v134_2) rfl (by rfl) (fun _ _ _ h => h) ?hy134_2 ?_
              case hy134_2 => ((intro w hSw; (try dsimp only at hSw); go_simp) <;> (try with_reducible rfl))
              try simp only [Act.put, List.setIfInBounds_toArray, List.set_cons_zero, List.set_cons_succ]
              refine path_read (i := 3) (v := ?v134_3) rfl (by rfl) (fun _ _ _ h => h) ?hy134_3 ?_
              case hy134_3 => ((intro w hSw; (try dsimp only at hSw); go_simp) <;> (try with_reducible rfl))
              try simp only [Act.put, List.setIfInBounds_toArray, List.set_cons_zero, List.set_cons_succ]
              refine path_read (i := 4) (v := ?v134_4) rfl (by rfl) (fun _ _ _ h => h) ?hy134_4 ?_
              case hy134_4 => ((intro w hSw; (try dsimp only at hSw); go_simp) <;> (try with_reducible rfl))
              try simp only [Act.put, List.setIfInBounds_toArray, List.set_cons_zero, List.set_cons_succ]
              refine path_read (i := 5) (v := ?v134_5) rfl (by rfl) (fun _ _ _ h => h) ?hy134_5 ?_
              case hy134_5 => ((intro w hSw; (try dsimp only at hSw); go_simp) <;> (try with_reducible rfl))
              try simp only [Act.put, List.setIfInBounds_toArray, List.set_cons_zero, List.set_cons_succ]
              refine path_read (i := 6) (v := ?v134_6) rfl (by rfl) (fun _ _ _ h => h) ?hy134_6 ?_
              case hy134_6 => ((intro w hSw; (try dsimp only at hSw); go_simp) <;> (try with_reducible rfl))
              try simp only [Act.put, List.setIfInBounds_toArray, List.set_cons_zero, List.set_cons_succ]
              refine path_read (i := 7) (v := ?v134_7) rfl (by rfl) (fun _ _ _ h => h) ?hy134_7 ?_
              case hy134_7 => ((intro w hSw; (try dsimp only at hSw); go_simp) <;> (try with_reducible rfl))
              try simp only [Act.put, List.setIfInBounds_toArray, List.set_cons_zero, List.set_cons_succ]
              refine path_read (i := 8) (v := ?v134_8) rfl (by rfl) (fun _ _ _ h => h) ?hy134_8 ?_
              case hy134_8 => ((intro w hSw; (try dsimp only at hSw); go_simp) <;> (try with_reducible rfl))
              try simp only [Act.put, List.setIfInBounds_toArray, List.set_cons_zero, List.set_cons_succ]
              refine path_do (i := 9) rfl ?_
              go_wp2_with ((go_at_call 86; refine (uhas_v _ _ i cap (fs.take i) y _ (HT.out.same (Chg.refl (fun _ => False) wr).drew) (by omega) HB.out).mono ?_; rintro e w9 ⟨rfl, rfl⟩))
              (first | refine ⟨.inr ?keep134_9, ?_⟩ | refine ⟨?keep134_9, ?_⟩)
              case keep134_9 => ((exact ⟨hbox, hcell⟩))
              try simp only [Act.put, List.setIfInBounds_toArray, List.set_cons_zero, List.set_cons_succ]
              refine path_end ?_
              go_wp2
              go_ret
              exact ⟨by rw [check_dup H16.out HV.out HIL.out (HY.out.trans HB.out)]; rfl, (((Chg.refl (fun _ => False) w).alloc _).trans HS.out).drew⟩
          · have hie : i = n := by omega
            have hlt' : ¬ (i : Int) < n := by omega
            have HE := Lib.hid (check_end (acts := acts) H16.out HV.out (fun j hj => HF.out j (by rw [hie, ← HL.out]; exact hj)))
            clear HF hie
            by_cases h0 : acts < 0
            · go_wp2
              go_ret
              exact ⟨by rw [HE.out, if_pos (.inl h0)]; rfl, ((Chg.refl (fun _ => False) w).alloc _).trans HS.out⟩
            · by_cases h7 : 7 < acts
              · go_wp2
                go_ret
                exact ⟨by rw [HE.out, if_pos (.inr h7)]; rfl, ((Chg.refl (fun _ => False) w).alloc _).trans HS.out⟩
              · go_wp2
                go_ret
                exact ⟨by rw [HE.out, if_neg (by omega)]; rfl, ((Chg.refl (fun _ => False) w).alloc _).trans HS.out⟩
end Go.Proofs.Ytndldjopgbhphaa
