/- Parts of the walk, packed: UCheck, Law43. -/
import Derived.Test.YteolilggeaffaaaPk19
import Derived.Test.YteolilggeaffaaaPk18
set_option linter.unusedVariables false
set_option linter.unusedSimpArgs false
set_option maxRecDepth 100000
namespace Go.Proofs.Yteolilggeaffaaa
open Go.RowKit

set_option maxRecDepth 100000 in
set_option maxHeartbeats 4000000 in
theorem ucheck_ok (A : Option Addr) (n cap : Nat) (fs : List ByteArray) (acts : Int) (w : World) (h : StrsAt w A n fs) (hc : n ≤ cap) (hm : cap ≤ maxLen) (hz : ∀ f ∈ fs, f.size ≤ 140737488351232) :
    Calls Try.prog 33 #[.agg #[.slice A n cap, .int .i64 acts]] w fun e w' => e = .returned (.int .i64 (checkV fs acts)) ∧ Same w w' := by
  have hl := h.1
  have h0 := at_new w (.cells #[.slice A n cap, .int .i64 acts] 24)
  have c0 : (w.alloc (.cells #[.slice A n cap, .int .i64 acts] 24)).cell? ⟨w.heap.size, 0, none⟩ = some (.slice A n cap) := by rw [cell_of_row _ _ 0 _ _ _ h0]; rfl
  have c1 : (w.alloc (.cells #[.slice A n cap, .int .i64 acts] 24)).cell? ⟨w.heap.size, 1, none⟩ = some (.int .i64 acts) := by rw [cell_of_row _ _ 1 _ _ _ h0]; rfl
  have HA := Lib.hid (h.same ((Chg.refl (fun _ => False) w).alloc (.cells #[.slice A n cap, .int .i64 acts] 24)))
  have HC := Lib.hid (And.intro c0 c1)
  have HZ := Lib.hid hz
  have hcap : cap ≤ 9223372036854775807 := by unfold maxLen at hm; exact hm
  clear hm h h0 c0 c1 hz
  by_cases h16 : 16 < n
  · have HE := Lib.hid (check_limit (acts := acts) (show 16 < fs.length by omega))
    have h16' : (16 : Int) < n := by omega
    go_enter Try.func33, Try.ntmps33
    go_wp2
    go_ret
    exact ⟨by rw [HE.out]; rfl, (Chg.refl (fun _ => False) w).alloc _⟩
  · have h16' : ¬ (16 : Int) < n := by omega
    have H16 := Lib.hid (show ¬ 16 < fs.length by omega)
    have HL := Lib.hid hl
    clear hl
    go_enter Try.func33, Try.ntmps33
    go_wp2
    go_loop [3] (fun v3 => ∃ i : Nat, i ≤ n ∧ v3 = .int .i64 i ∧ ∀ (j : Nat) x, j < i → fs[j]? = some x → validB x = true) (fun v3 => n - (intOf v3).toNat)
    case atStart => exact ⟨0, by omega, rfl, fun j _ hj => by omega⟩
    case round =>
      obtain ⟨i, hi, rfl, hf⟩ := hrel
      have HF := Lib.hid hf
      clear hf
      by_cases hlt : i < n
      · have hil : i < fs.length := by rw [HL.out]; exact hlt
        obtain ⟨b, o, rfl, hbl, hc⟩ := HA.out.2 (by omega)
        obtain ⟨y, hy⟩ : ∃ y, y = fs[i] := ⟨_, rfl⟩
        have hy2 : fs[i]? = some y := by rw [hy]; exact List.getElem?_eq_getElem hil
        have hcell := hc i y hy2
        have hyz := HZ.out y (List.mem_of_getElem? hy2)
        have HY := Lib.hid hy2
        have hii : (i : Int) < n := by omega
        clear hc hy hy2 hbl hil
        cases hb : validB y
        · have HB := Lib.hid hb
          clear hb
          go_wp2_with fail
          refine (uvalid_v _ y hyz _ HB.out).mono ?_
          rintro e w' ⟨rfl, rfl⟩
          go_wp2
          go_ret
          exact ⟨by rw [check_syntax H16.out HY.out HB.out]; rfl, (Chg.refl (fun _ => False) w).alloc _⟩
        · have HB := Lib.hid hb
          clear hb
          go_wp2_with fail
          refine (uvalid_v _ y hyz _ HB.out).mono ?_
          rintro e w' ⟨rfl, rfl⟩
          go_wp2
          go_round
          case rel =>
            refine ⟨i + 1, by omega, by go_num, fun j x hj hx => ?_⟩
            by_cases hji : j = i
            · subst hji
              rw [HY.out] at hx
              cases hx
              exact HB.out
            · exact HF.out j x (by omega) hx
          case measure => simp [intOf]; omega
      · have hie : i = n := by omega
        have hlt' : ¬ (i : Int) < n := by omega
        have HV := Lib.hid (show ∀ (j : Nat) x, fs[j]? = some x → validB x = true from fun j x hx => HF.out j x (by rw [hie, ← HL.out]; exact (List.getElem?_eq_some_iff.1 hx).1) hx)
        clear HF hie
        go_wp2
        go_loopg [4] n (fun g v4 wr => Same (w.alloc (.cells #[.slice A n cap, .int .i64 acts] 24)) wr ∧ ∃ i : Nat, i ≤ n ∧ g = n - i ∧ v4 = .int .i64 i ∧ ∀ j, j < i → dupAt fs j = false)
        case atStart => exact ⟨Chg.refl _ _, 0, by omega, by omega, rfl, fun j hj => by omega⟩
        case round =>
          obtain ⟨hs, i, hi, hg, rfl, hf⟩ := hrel
          have HF := Lib.hid hf
          have HG := Lib.hid hg
          have HS := Lib.hid hs
          have hbox := hs.cell HC.out.1 (fun q => q)
          have hbox1 := hs.cell HC.out.2 (fun q => q)
          clear hf hg hs
          by_cases hlt : i < n
          · have hil : i < fs.length := by rw [HL.out]; exact hlt
            have HT := Lib.hid ((HA.out.same HS.out).take hi)
            obtain ⟨b, o, rfl, hbl, hc⟩ := (HA.out.same HS.out).2 (by omega)
            obtain ⟨y, hy⟩ : ∃ y, y = fs[i] := ⟨_, rfl⟩
            have hy2 : fs[i]? = some y := by rw [hy]; exact List.getElem?_eq_getElem hil
            have hcell := hc i y hy2
            have hdd : dupAt fs i = hasS (fs.take i) y := by unfold dupAt; rw [List.getD_eq_getElem?_getD, hy2]; rfl
            have HY := Lib.hid hdd
            have HIL := Lib.hid hil
            have hii : (i : Int) < n := by omega
            have hic : (i : Int) ≤ cap := by omega
            clear hc hy hy2 hbl hil hdd hbox1
            cases hb : hasS (fs.take i) y
            · have HB := Lib.hid hb
              clear hb
              go_wp2_with fail
              refine region_path (S := (fun w' => w'.cell? ⟨w.heap.size, 0, none⟩ = some (.slice (some ⟨b, o, none⟩) n cap) ∧ w'.cell? ⟨b, o + i, none⟩ = some (.string y))) 99 [(0, true), (1, true), (2, true), (3, true), (4, true), (5, true), (6, true), (7, true), (8, true), (9, false)] (by kernel_rfl) (by kernel_rfl) (by kernel_rfl) ⟨hbox, hcell⟩ ?_
              refine path_read (i := 0) (v := ?v37_0) rfl (by rfl) (fun _ _ _ h => h) ?hy37_0 ?_
              case hy37_0 => ((intro w hSw; (try dsimp only at hSw); go_simp) <;> (try with_reducible rfl))
              try simp only [Act.put, List.setIfInBounds_toArray, List.set_cons_zero, List.set_cons_succ]
              refine path_read (i := 1) (v := ?v37_1) rfl (by rfl) (fun _ _ _ h => h) ?hy37_1 ?_
              case hy37_1 => ((intro w hSw; (try dsimp only at hSw); go_simp) <;> (try with_reducible rfl))
              try simp only [Act.put, List.setIfInBounds_toArray, List.set_cons_zero, List.set_cons_succ]
              refine path_read (i := 2) (v := ?v37_2) rfl (by rfl) (fun _ _ _ h => h) ?hy37_2 ?_
              case hy37_2 => ((intro w hSw; (try dsimp only at hSw); go_simp) <;> (try with_reducible rfl))
              try simp only [Act.put, List.setIfInBounds_toArray, List.set_cons_zero, List.set_cons_succ]
              refine path_read (i := 3) (v := ?v37_3) rfl (by rfl) (fun _ _ _ h => h) ?hy37_3 ?_
              case hy37_3 => ((intro w hSw; (try dsimp only at hSw); go_simp) <;> (try with_reducible rfl))
              try simp only [Act.put, List.setIfInBounds_toArray, List.set_cons_zero, List.set_cons_succ]
              refine path_read (i := 4) (v := ?v37_4) rfl (by rfl) (fun _ _ _ h => h) ?hy37_4 ?_
              case hy37_4 => ((intro w hSw; (try dsimp only at hSw); go_simp) <;> (try with_reducible rfl))
              try simp only [Act.put, List.setIfInBounds_toArray, List.set_cons_zero, List.set_cons_succ]
              refine path_read (i := 5) (v := ?v37_5) rfl (by rfl) (fun _ _ _ h => h) ?hy37_5 ?_
              case hy37_5 => ((intro w hSw; (try dsimp only at hSw); go_simp) <;> (try with_reducible rfl))
              try simp only [Act.put, List.setIfInBounds_toArray, List.set_cons_zero, List.set_cons_succ]
              refine path_read (i := 6) (v := ?v37_6) rfl (by rfl) (fun _ _ _ h => h) ?hy37_6 ?_
              case hy37_6 => ((intro w hSw; (try dsimp only at hSw); go_simp) <;> (try with_reducible rfl))
              try simp only [Act.put, List.setIfInBounds_toArray, List.set_cons_zero, List.set_cons_succ]
              refine path_read (i := 7) (v := ?v37_7) rfl (by rfl) (fun _ _ _ h => h) ?hy37_7 ?_
              case hy37_7 => ((intro w hSw; (try dsimp only at hSw); go_simp) <;> (try with_reducible rfl))
              try simp only [Act.put, List.setIfInBounds_toArray, List.set_cons_zero, List.set_cons_succ]
              refine path_read (i := 8) (v := ?v37_8) rfl (by rfl) (fun _ _ _ h => h) ?hy37_8 ?_
              case hy37_8 => ((intro w hSw; (try dsimp only at hSw); go_simp) <;> (try with_reducible rfl))
              try simp only [Act.put, List.setIfInBounds_toArray, List.set_cons_zero, List.set_cons_succ]
              refine path_do (i := 9) rfl ?_
              go_wp2_with ((go_at_call 62; refine (uhas_v _ _ i cap (fs.take i) y _ (HT.out.same (Chg.refl (fun _ => False) wr).drew) (by omega) HB.out).mono ?_; rintro e w9 ⟨rfl, rfl⟩))
              (first | refine ⟨.inr ?keep37_9, ?_⟩ | refine ⟨?keep37_9, ?_⟩)
              case keep37_9 => ((exact ⟨hbox, hcell⟩))
              try simp only [Act.put, List.setIfInBounds_toArray, List.set_cons_zero, List.set_cons_succ]
              refine path_end ?_
              go_wp2
              go_roundg (n - (i + 1))
              case measure => have := HG.out; omega
              case rel =>
                refine ⟨HS.out.drew, i + 1, by omega, by rfl, by go_num, fun j hj => ?_⟩
                by_cases hji : j = i
                · rw [hji, HY.out, HB.out]
                · exact HF.out j (by omega)
            · have HB := Lib.hid hb
              clear hb
              go_wp2_with fail
              refine region_path (S := (fun w' => w'.cell? ⟨w.heap.size, 0, none⟩ = some (.slice (some ⟨b, o, none⟩) n cap) ∧ w'.cell? ⟨b, o + i, none⟩ = some (.string y))) 99 [(0, true), (1, true), (2, true), (3, true), (4, true), (5, true), (6, true), (7, true), (8, true), (9, false)] (by kernel_rfl) (by kernel_rfl) (by kernel_rfl) ⟨hbox, hcell⟩ ?_
              refine path_read (i := 0) (v := ?v38_0) rfl (by rfl) (fun _ _ _ h => h) ?hy38_0 ?_
              case hy38_0 => ((intro w hSw; (try dsimp only at hSw); go_simp) <;> (try with_reducible rfl))
              try simp only [Act.put, List.setIfInBounds_toArray, List.set_cons_zero, List.set_cons_succ]
              refine path_read (i := 1) (v := ?v38_1) rfl (by rfl) (fun _ _ _ h => h) ?hy38_1 ?_
              case hy38_1 => ((intro w hSw; (try dsimp only at hSw); go_simp) <;> (try with_reducible rfl))
              try simp only [Act.put, List.setIfInBounds_toArray, List.set_cons_zero, List.set_cons_succ]
              refine path_read (i := 2) (v := ?v38_2) rfl (by rfl) (fun _ _ _ h => h) ?hy38_2 ?_
              case hy38_2 => ((intro w hSw; (try dsimp only at hSw); go_simp) <;> (try with_reducible rfl))
              try simp only [Act.put, List.setIfInBounds_toArray, List.set_cons_zero, List.set_cons_succ]
              refine path_read (i := 3) (v := ?v38_3) rfl (by rfl) (fun _ _ _ h => h) ?hy38_3 ?_
              case hy38_3 => ((intro w hSw; (try dsimp only at hSw); go_simp) <;> (try with_reducible rfl))
              try simp only [Act.put, List.setIfInBounds_toArray, List.set_cons_zero, List.set_cons_succ]
              refine path_read (i := 4) (v := ?v38_4) rfl (by rfl) (fun _ _ _ h => h) ?hy38_4 ?_
              case hy38_4 => ((intro w hSw; (try dsimp only at hSw); go_simp) <;> (try with_reducible rfl))
              try simp only [Act.put, List.setIfInBounds_toArray, List.set_cons_zero, List.set_cons_succ]
              refine path_read (i := 5) (v := ?v38_5) rfl (by rfl) (fun _ _ _ h => h) ?hy38_5 ?_
              case hy38_5 => ((intro w hSw; (try dsimp only at hSw); go_simp) <;> (try with_reducible rfl))
              try simp only [Act.put, List.setIfInBounds_toArray, List.set_cons_zero, List.set_cons_succ]
              refine path_read (i := 6) (v := ?v38_6) rfl (by rfl) (fun _ _ _ h => h) ?hy38_6 ?_
              case hy38_6 => ((intro w hSw; (try dsimp only at hSw); go_simp) <;> (try with_reducible rfl))
              try simp only [Act.put, List.setIfInBounds_toArray, List.set_cons_zero, List.set_cons_succ]
              refine path_read (i := 7) (v := ?v38_7) rfl (by rfl) (fun _ _ _ h => h) ?hy38_7 ?_
              case hy38_7 => ((intro w hSw; (try dsimp only at hSw); go_simp) <;> (try with_reducible rfl))
              try simp only [Act.put, List.setIfInBounds_toArray, List.set_cons_zero, List.set_cons_succ]
              refine path_read (i := 8) (v := ?v38_8) rfl (by rfl) (fun _ _ _ h => h) ?hy38_8 ?_
              case hy38_8 => ((intro w hSw; (try dsimp only at hSw); go_simp) <;> (try with_reducible rfl))
              try simp only [Act.put, List.setIfInBounds_toArray, List.set_cons_zero, List.set_cons_succ]
              refine path_do (i := 9) rfl ?_
              go_wp2_with ((go_at_call 62; refine (uhas_v _ _ i cap (fs.take i) y _ (HT.out.same (Chg.refl (fun _ => False) wr).drew) (by omega) HB.out).mono ?_; rintro e w9 ⟨rfl, rfl⟩))
              (first | refine ⟨.inr ?keep38_9, ?_⟩ | refine ⟨?keep38_9, ?_⟩)
              case keep38_9 => ((exact ⟨hbox, hcell⟩))
              try simp only [Act.put, List.setIfInBounds_toArray, List.set_cons_zero, List.set_cons_succ]
              refine path_end ?_
              go_wp2
              go_ret
              exact ⟨by rw [check_dup H16.out HV.out HIL.out (HY.out.trans HB.out)]; rfl, (((Chg.refl (fun _ => False) w).alloc _).trans HS.out).drew⟩
          · have hie : i = n := by omega
            have hlt' : ¬ (i : Int) < n := by omega
            have HE := Lib.hid (check_end (acts := acts) H16.out HV.out (fun j hj => HF.out j (by rw [hie, ← HL.out]; exact hj)))
            clear HF hie
            by_cases h0 : acts < 0
            · go_wp2
              go_ret
              exact ⟨by rw [HE.out, if_pos (.inl h0)]; rfl, ((Chg.refl (fun _ => False) w).alloc _).trans HS.out⟩
            · by_cases h7 : 7 < acts
              · go_wp2
                go_ret
                exact ⟨by rw [HE.out, if_pos (.inr h7)]; rfl, ((Chg.refl (fun _ => False) w).alloc _).trans HS.out⟩
              · go_wp2
                go_ret
                exact ⟨by rw [HE.out, if_neg (by omega)]; rfl, ((Chg.refl (fun _ => False) w).alloc _).trans HS.out⟩
end Go.Proofs.Yteolilggeaffaaa

namespace Go.Proofs.Yteolilggeaffaaa
open Go.RowKit

theorem infoUOff : (Try.prog.info? 24).map (fun i => i.size) = some 2 := by kernel_rfl
theorem run_load_uof {w : World} {g : Nat} {a b : Value} (h : w.heap[g]? = some (.cells #[a, b] 24 (0, 0))) : (loadVar 24 ⟨g, 0, none⟩).run Try.prog w = .ok (.agg #[a, b]) w :=
  run_loadMid (P := Try.prog) (C := [a, b]) 24 0 2 _ h infoUOff Try.underlying24 rfl (by simp)
theorem box_cells {w : World} {g : Nat} {a b : Value} {T : TypeId} (h : w.heap[g]? = some (.cells #[a, b] T (0, 0))) : w.cell? ⟨g, 0, none⟩ = some a ∧ w.cell? ⟨g, 1, none⟩ = some b :=
  ⟨cell_at (C := [a, b]) h 0, cell_at (C := [a, b]) h 1⟩
theorem at_new2 (w : World) (o o2 : Obj) : ((w.alloc o).alloc o2).heap[w.heap.size + 1]? = some o2 := by
  have e := at_new (w.alloc o) o2
  have hs : (w.alloc o).heap.size = w.heap.size + 1 := by simp
  rw [hs] at e
  exact e
theorem DSes.base {w0 w1 w2 : World} {lb b : Nat} {R : Nat → Prop} {L : SLog} {d : DSt} (h : DSes w1 w2 lb b R L d) (k : Same w0 w1) : DSes w0 w2 lb b R L d :=
  ⟨h.log, h.drag, fun x hx => Nat.le_trans k.size (h.fresh x hx), Nat.le_trans k.size h.lfresh, k.trans h.same⟩
/-- What the law was given is not the drag's. -/
theorem DSes.far {w0 w : World} {lb b : Nat} {R : Nat → Prop} {L : SLog} {d : DSt} (h : DSes w0 w lb b R L d) {A : Option Addr} {n cap : Nat} {fs : List ByteArray} (ha : SArg w0 A n cap fs) : 0 < n → ∀ g o, A = some ⟨g, o, none⟩ → ¬ R g := by
  intro hn g o hA q
  obtain ⟨b', o', hA', hb, _⟩ := ha.1.2 hn
  rw [hA] at hA'
  cases hA'
  have := h.fresh g q
  omega
set_option maxRecDepth 100000 in
theorem prog_ok (A : Option Addr) (n cap : Nat) (acts : Int) (w : World) :
    Calls Try.prog 32 #[.agg #[.slice A n cap, .int .i64 acts]] w fun e w' => e = .returned (.agg #[.slice A n cap, .int .i64 acts]) ∧ Same w w' := by
  go_enter Try.func32, Try.ntmps32
  go_wp2
  exact bodyPost_ret (results_cell1 Try.results32 rfl (run_load_off (at_new2 _ _ _))) rfl ⟨rfl, ((Chg.refl _ _).alloc _).alloc _⟩
theorem ucheck_v (v : Int) (A : Option Addr) (n cap : Nat) (fs : List ByteArray) (acts : Int) (w : World) (h : StrsAt w A n fs) (hc : n ≤ cap) (hm : cap ≤ maxLen) (hz : ∀ f ∈ fs, f.size ≤ 140737488351232) (hv : checkV fs acts = v) :
    Calls Try.prog 33 #[.agg #[.slice A n cap, .int .i64 acts]] w fun e w' => e = .returned (.int .i64 v) ∧ Same w w' := by
  subst hv
  exact ucheck_ok A n cap fs acts w h hc hm hz
theorem inI0 : inI 0 := ⟨by omega, by omega⟩
theorem zeroOp_ok {w : World} (x : OArg) (h : x.ok w) : DOp.ok w ⟨0, 0, 0, 0, 0, 0, 0, 0, 0, ⟨#[]⟩, x⟩ := ⟨inI0, inI0, inI0, inI0, inI0, inI0, inI0, inI0, ⟨Int.le_refl _, by show (0 : Int) ≤ 4294967295; omega⟩, Nat.zero_le _, h⟩
def SmallOut (x : OArg) (w : World) (e : Ending) (w' : World) : Prop := ∃ v, e = .returned (.bool v) ∧ Same w w' ∧ (v = true → checkV x.fs x.acts = 0 ∧ x.len ≤ 20 ∧ ∀ f ∈ x.fs, f.size ≤ 100)
set_option maxHeartbeats 1000000 in
theorem small_ok (x : OArg) (w : World) (h : x.ok w) : Calls Try.prog 10 #[.agg #[.slice x.A x.len x.cap, .int .i64 x.acts]] w (SmallOut x w) := by
  have HZ := Lib.hid (zeroOp_ok x (w := w.alloc (.cells #[.slice x.A x.len x.cap, .int .i64 x.acts] 24)) (h.same ((Chg.refl _ w).alloc _)))
  have HH := Lib.hid h
  obtain ⟨A, len, cap, fs, acts⟩ := x
  clear h
  go_enter Try.func10, Try.ntmps10
  go_wp2_with fail
  have HLD : Hid (DOpsAt ((w.alloc (.cells #[.slice A len cap, .int .i64 acts] 24)).alloc (.cells #[.int .i64 0, .int .i64 0, .int .i64 0, .int .i64 0, .int .i64 0, .int .i64 0, .int .i64 0, .int .i64 0, .int .u32 0, .string ⟨#[]⟩, .slice A len cap, .int .i64 acts] 67)) (some ⟨w.heap.size + 1, 0, none⟩) 1 [⟨0, 0, 0, 0, 0, 0, 0, 0, 0, ⟨#[]⟩, ⟨A, len, cap, fs, acts⟩⟩]) := Lib.hid (by
    have e := dops_one _ HZ.out
    have hs : (w.alloc (.cells #[.slice A len cap, .int .i64 acts] 24)).heap.size = w.heap.size + 1 := by simp
    rw [hs] at e
    exact e)
  refine (light43_ok _ 1 1 _ _ HLD.out).mono ?_
  rintro e w1 ⟨v, rfl, rfl, hl⟩
  cases v
  · clear hl
    go_wp2
    go_ret
    exact ⟨false, rfl, ((Chg.refl _ _).alloc _).alloc _, fun q => by cases q⟩
  · have HL : Hid (len ≤ 20 ∧ ∀ f ∈ fs, f.size ≤ 100) := Lib.hid (((hl rfl).2 _ (List.mem_singleton.2 rfl)).2)
    clear hl
    obtain ⟨v, hv⟩ : ∃ v, checkV fs acts = v := ⟨_, rfl⟩
    have HV := Lib.hid hv
    clear hv
    go_wp2_with fail
    refine (ucheck_v v A len cap fs acts _ (HH.out.1.1.same (((Chg.refl _ _).alloc _).alloc _)) HH.out.1.2.1 HH.out.1.2.2 (fun f hf => by have := HL.out.2 f hf; omega) HV.out).mono ?_
    rintro e w2 ⟨rfl, hs⟩
    have HS := Lib.hid hs
    clear hs
    by_cases h0 : v = 0
    · have h0b : (v == 0) = true := by simp [h0]
      have H0 := Lib.hid h0
      clear h0
      go_wp2
      go_ret
      exact ⟨true, rfl, (((Chg.refl _ _).alloc _).alloc _).trans HS.out, fun _ => ⟨HV.out.trans H0.out, HL.out⟩⟩
    · have h0b : (v == 0) = false := by simp [h0]
      clear h0
      go_wp2
      go_ret
      exact ⟨false, rfl, (((Chg.refl _ _).alloc _).alloc _).trans HS.out, fun q => by cases q⟩
/-- The law's session: log, drag, last serial, pipes. -/
def SessAt (w : World) (sb lb b : Nat) (last : Int) (PA : Option Addr) (pn pc : Nat) : Prop := w.heap[sb]? = some (.cells [.pointer (some ⟨lb, 0, none⟩), .pointer (some ⟨b, 0, none⟩), .int .u32 last, .slice PA pn pc].toArray 36 (0, 0))
theorem SessAt.chg {S : Nat → Prop} {w w' : World} {sb lb b pn pc : Nat} {last : Int} {PA : Option Addr} (h : SessAt w sb lb b last PA pn pc) (k : Chg S w w') (hs : ¬ S sb) : SessAt w' sb lb b last PA pn pc := k.at_ h hs
theorem SessAt.cells {w : World} {sb lb b pn pc : Nat} {last : Int} {PA : Option Addr} (h : SessAt w sb lb b last PA pn pc) : w.cell? ⟨sb, 0, none⟩ = some (.pointer (some ⟨lb, 0, none⟩)) ∧ w.cell? ⟨sb, 1, none⟩ = some (.pointer (some ⟨b, 0, none⟩)) ∧ w.cell? ⟨sb, 2, none⟩ = some (.int .u32 last) ∧ w.cell? ⟨sb, 3, none⟩ = some (.slice PA pn pc) := by
  refine ⟨?_, ?_, ?_, ?_⟩ <;> (rw [cell_at h]; rfl)
theorem SessAt.lt {w : World} {sb lb b pn pc : Nat} {last : Int} {PA : Option Addr} (h : SessAt w sb lb b last PA pn pc) : sb < w.heap.size := lt_of_at h
def BeginOut (w : World) (e : Ending) (w' : World) : Prop :=
  ∃ sb lb b R, e = .returned (.tuple #[.pointer (some ⟨sb, 0, none⟩), .bool true]) ∧ SessAt w' sb lb b 0 none 0 0 ∧ DSes w w' lb b R SLog.new DSt.new ∧ w.heap.size ≤ sb ∧ ¬ R sb ∧ sb ≠ lb
theorem begin_ok (w : World) : Calls Try.prog 22 #[] w (BeginOut w) := by
  go_enter Try.func22, Try.ntmps22
  go_wp2_with fail
  refine (ds_lognew _).mono ?_
  rintro e w1 ⟨rfl, hl1, hs1⟩
  have HL1 := Lib.hid hl1
  have HS1 := Lib.hid hs1
  clear hl1 hs1
  go_wp2_with fail
  refine (ds_new (w0 := w) HL1.out (Nat.le_refl _) HS1.out).mono ?_
  rintro e w2 ⟨b, R, rfl, hses, hk, hn⟩
  have H2 := Lib.hid hses
  have HS2 := Lib.hid (HS1.out.trans hk).size
  clear hses HL1 HS1 hk hn
  go_upto_region 3 with (fail)
  have hat : SessAt (w2.alloc (.cells #[.pointer (some ⟨w.heap.size, 0, none⟩), .pointer (some ⟨b, 0, none⟩), .int .u32 0, .slice none 0 0] 36)) w2.heap.size w.heap.size b 0 none 0 0 := at_new _ _
  have HAT := Lib.hid hat
  have c1 := hat.cells.2.1
  clear hat
  refine region_path (S := (fun w' => w'.cell? ⟨w2.heap.size, 1, none⟩ = some (.pointer (some ⟨b, 0, none⟩)))) 99 [(0, true), (1, true), (2, true), (3, true), (4, true), (5, true), (6, true), (7, true), (8, true), (9, true), (10, true), (11, true)] (by kernel_rfl) (by kernel_rfl) (by kernel_rfl) ((Chg.refl (fun _ => False) _).drew.cell c1 (fun q => q)) ?_
  refine path_read (i := 0) (v := ?v39_0) rfl (by rfl) (fun _ _ _ h => h) ?hy39_0 ?_
  case hy39_0 => ((intro w hSw; (try dsimp only at hSw); go_simp) <;> (try with_reducible rfl))
  try simp only [Act.put, List.setIfInBounds_toArray, List.set_cons_zero, List.set_cons_succ]
  refine path_read (i := 1) (v := ?v39_1) rfl (by rfl) (fun _ _ _ h => h) ?hy39_1 ?_
  case hy39_1 => ((intro w hSw; (try dsimp only at hSw); go_simp) <;> (try with_reducible rfl))
  try simp only [Act.put, List.setIfInBounds_toArray, List.set_cons_zero, List.set_cons_succ]
  refine path_read (i := 2) (v := ?v39_2) rfl (by rfl) (fun _ _ _ h => h) ?hy39_2 ?_
  case hy39_2 => ((intro w hSw; (try dsimp only at hSw); go_simp) <;> (try with_reducible rfl))
  try simp only [Act.put, List.setIfInBounds_toArray, List.set_cons_zero, List.set_cons_succ]
  refine path_read (i := 3) (v := ?v39_3) rfl (by rfl) (fun _ _ _ h => h) ?hy39_3 ?_
  case hy39_3 => ((intro w hSw; (try dsimp only at hSw); go_simp) <;> (try with_reducible rfl))
  try simp only [Act.put, List.setIfInBounds_toArray, List.set_cons_zero, List.set_cons_succ]
  refine path_read (i := 4) (v := ?v39_4) rfl (by rfl) (fun _ _ _ h => h) ?hy39_4 ?_
  case hy39_4 => ((intro w hSw; (try dsimp only at hSw); go_simp) <;> (try with_reducible rfl))
  try simp only [Act.put, List.setIfInBounds_toArray, List.set_cons_zero, List.set_cons_succ]
  refine path_read (i := 5) (v := ?v39_5) rfl (by rfl) (fun _ _ _ h => h) ?hy39_5 ?_
  case hy39_5 => ((intro w hSw; (try dsimp only at hSw); go_simp) <;> (try with_reducible rfl))
  try simp only [Act.put, List.setIfInBounds_toArray, List.set_cons_zero, List.set_cons_succ]
  refine path_read (i := 6) (v := ?v39_6) rfl (by rfl) (fun _ _ _ h => h) ?hy39_6 ?_
  case hy39_6 => ((intro w hSw; (try dsimp only at hSw); go_simp) <;> (try with_reducible rfl))
  try simp only [Act.put, List.setIfInBounds_toArray, List.set_cons_zero, List.set_cons_succ]
  refine path_read (i := 7) (v := ?v39_7) rfl (by rfl) (fun _ _ _ h => h) ?hy39_7 ?_
  case hy39_7 => ((intro w hSw; (try dsimp only at hSw); go_simp) <;> (try with_reducible rfl))
  try simp only [Act.put, List.setIfInBounds_toArray, List.set_cons_zero, List.set_cons_succ]
  refine path_read (i := 8) (v := ?v39_8) rfl (by rfl) (fun _ _ _ h => h) ?hy39_8 ?_
  case hy39_8 => ((intro w hSw; (try dsimp only at hSw); go_simp) <;> (try with_reducible rfl))
  try simp only [Act.put, List.setIfInBounds_toArray, List.set_cons_zero, List.set_cons_succ]
  refine path_read (i := 9) (v := ?v39_9) rfl (by rfl) (fun _ _ _ h => h) ?hy39_9 ?_
  case hy39_9 => ((intro w hSw; (try dsimp only at hSw); go_simp) <;> (try with_reducible rfl))
  try simp only [Act.put, List.setIfInBounds_toArray, List.set_cons_zero, List.set_cons_succ]
  refine path_read (i := 10) (v := ?v39_10) rfl (by rfl) (fun _ _ _ h => h) ?hy39_10 ?_
  case hy39_10 => ((intro w hSw; (try dsimp only at hSw); go_simp) <;> (try with_reducible rfl))
  try simp only [Act.put, List.setIfInBounds_toArray, List.set_cons_zero, List.set_cons_succ]
  refine path_read (i := 11) (v := ?v39_11) rfl (by rfl) (fun _ _ _ h => h) ?hy39_11 ?_
  case hy39_11 => ((intro w hSw; (try dsimp only at hSw); go_simp) <;> (try with_reducible rfl))
  try simp only [Act.put, List.setIfInBounds_toArray, List.set_cons_zero, List.set_cons_succ]
  refine path_end ?_
  go_wp2
  go_ret2
  exact ⟨_, _, b, R, rfl, HAT.out.chg ((Chg.refl (fun _ => False) _).drew) (fun q => q), H2.out.keep (((Chg.refl (fun _ => False) _).alloc _).drew), HS2.out, fun q => by have := H2.out.lt _ q; omega, fun e => by have := H2.out.llt; omega⟩
/-- A drag with a target. -/
def dragD (fs : List ByteArray) (acts : Int) : DSt := ⟨1, fs, acts, 2, 7, ByteArray.empty, 0, 0, 1, true, 0, [], 0⟩
def drag1 (fs : List ByteArray) (acts : Int) : DSt := ⟨1, fs, acts, 0, 0, ByteArray.empty, 0, 0, 0, false, 0, [], 0⟩
theorem drag_start {fs : List ByteArray} {acts : Int} (h : checkV fs acts = 0) : DSt.startE DSt.new exL 1 5 0 fs acts 1 = 0 ∧ DSt.start DSt.new exL 1 5 0 fs acts 1 = drag1 fs acts := by
  have hv : validD exL 1 5 1 = true := by decide +kernel
  have e : DSt.startE DSt.new exL 1 5 0 fs acts 1 = 0 := by
    unfold DSt.startE
    rw [if_neg (by decide), if_neg (by decide), if_neg (by rw [h]; decide), hv]
    rfl
  exact ⟨e, by unfold DSt.start; rw [if_pos e]; rfl⟩
theorem drag_mv (fs : List ByteArray) (acts : Int) : DSt.mv (drag1 fs acts) 2 7 0 = dragD fs acts := by rfl
theorem drag_mvL (fs : List ByteArray) (acts : Int) : DSt.mvL (drag1 fs acts) exL 2 7 = exL2 := by rfl
theorem drag_mvO (fs : List ByteArray) (acts : Int) : DSt.mvO (drag1 fs acts) exL 2 7 0 0 0 = [delivC 2 7 14 0 0 0 1 0 2] := by rfl
def DragOut (fs : List ByteArray) (acts : Int) (w : World) (e : Ending) (w' : World) : Prop :=
  ∃ sb lb b R, e = .returned (.tuple #[.pointer (some ⟨sb, 0, none⟩), .bool true]) ∧ SessAt w' sb lb b 0 none 0 0 ∧ DSes w w' lb b R exL2 (dragD fs acts) ∧ w.heap.size ≤ sb ∧ ¬ R sb ∧ sb ≠ lb
set_option maxHeartbeats 2000000 in
theorem dragging_ok (x : OArg) (w : World) (h : x.ok w) (h0 : checkV x.fs x.acts = 0) : Calls Try.prog 12 #[.agg #[.slice x.A x.len x.cap, .int .i64 x.acts]] w (DragOut x.fs x.acts w) := by
  obtain ⟨A, n, cap, fs, acts⟩ := x
  have HH := Lib.hid h
  have H0 : Hid (checkV fs acts = 0) := Lib.hid h0
  clear h h0
  go_enter Try.func12, Try.ntmps12
  go_wp2_with fail
  refine (begin_ok _).mono ?_
  rintro e w1 ⟨sb, lb, b, R, rfl, hat, hses, hsb, hR, hne⟩
  have HAT := Lib.hid hat
  have H1 := Lib.hid hses
  have HN := Lib.hid (And.intro hsb (And.intro hR hne))
  obtain ⟨c0, c1, c2, c3⟩ := hat.cells
  have hl := hat.lt
  clear hat hses hsb hR hne
  have HBOX : Hid (w1.heap[w.heap.size]? = some (.cells #[.slice A n cap, .int .i64 acts] 24 (0, 0))) := Lib.hid (H1.out.same.at_ (at_new w _) (fun q => q))
  go_wp2_with fail
  refine (ds_issue exL 1 1 5 4 H1.out (by omega) (by omega) (by decide +kernel) rfl).mono ?_
  rintro e w2 ⟨rfl, hses, hk⟩
  have H2 := Lib.hid hses
  have HAT := Lib.hid (HAT.out.chg hk HN.out.2.2)
  have HBOX := Lib.hid (hk.at_ HBOX.out (by have := H1.out.lfresh; simp at this; omega))
  clear hses hk c0 c1 c2 c3 hl
  have k1 := HAT.out.cells.2.1
  obtain ⟨k2, k4⟩ := box_cells HBOX.out
  have k3 := HAT.out.lt
  go_wp2_with fail
  refine region_path (S := (fun w' => w'.cell? ⟨sb, 1, none⟩ = some (.pointer (some ⟨b, 0, none⟩)) ∧ w'.cell? ⟨w.heap.size, 0, none⟩ = some (.slice A n cap) ∧ w'.cell? ⟨w.heap.size, 1, none⟩ = some (.int .i64 acts))) 99 [(0, true), (1, true), (2, true), (3, true), (4, true), (6, true), (5, false), (7, false), (8, true), (9, true), (10, true), (11, true), (12, true), (13, true), (14, false), (15, true), (16, true), (17, true)] (by kernel_rfl) (by kernel_rfl) (by kernel_rfl) (⟨(Chg.refl (fun _ => False) _).drew.cell k1 (fun q => q), box_cells ((Chg.refl (fun _ => False) _).drew.at_ HBOX.out (fun q => q))⟩) ?_
  refine path_read (i := 0) (v := ?v40_0) rfl (by rfl) (fun _ _ _ h => h) ?hy40_0 ?_
  case hy40_0 => ((intro w hSw; (try dsimp only at hSw); go_simp) <;> (try with_reducible rfl))
  try simp only [Act.put, List.setIfInBounds_toArray, List.set_cons_zero, List.set_cons_succ]
  refine path_read (i := 1) (v := ?v40_1) rfl (by rfl) (fun _ _ _ h => h) ?hy40_1 ?_
  case hy40_1 => ((intro w hSw; (try dsimp only at hSw); go_simp) <;> (try with_reducible rfl))
  try simp only [Act.put, List.setIfInBounds_toArray, List.set_cons_zero, List.set_cons_succ]
  refine path_read (i := 2) (v := ?v40_2) rfl (by rfl) (fun _ _ _ h => h) ?hy40_2 ?_
  case hy40_2 => ((intro w hSw; (try dsimp only at hSw); go_simp) <;> (try with_reducible rfl))
  try simp only [Act.put, List.setIfInBounds_toArray, List.set_cons_zero, List.set_cons_succ]
  refine path_read (i := 3) (v := ?v40_3) rfl (by rfl) (fun _ _ _ h => h) ?hy40_3 ?_
  case hy40_3 => ((intro w hSw; (try dsimp only at hSw); go_simp) <;> (try with_reducible rfl))
  try simp only [Act.put, List.setIfInBounds_toArray, List.set_cons_zero, List.set_cons_succ]
  refine path_read (i := 4) (v := ?v40_4) rfl (by rfl) (fun _ _ _ h => h) ?hy40_4 ?_
  case hy40_4 => ((intro w hSw; (try dsimp only at hSw); go_simp) <;> (try with_reducible rfl))
  try simp only [Act.put, List.setIfInBounds_toArray, List.set_cons_zero, List.set_cons_succ]
  refine path_read (i := 6) (v := ?v40_6) rfl (by rfl) (fun _ _ _ h => h) ?hy40_6 ?_
  case hy40_6 => ((intro w hSw; (try dsimp only at hSw); go_simp) <;> (try with_reducible rfl))
  try simp only [Act.put, List.setIfInBounds_toArray, List.set_cons_zero, List.set_cons_succ]
  refine path_do (i := 5) rfl ?_
  go_wp2_with ((first | (go_at_call 32; go_loud (refine (prog_ok A n cap acts _).mono ?_; rintro e w3 ⟨rfl, hk⟩; have HX3 := Lib.hid ((Chg.refl (fun _ => False) w2).drew.trans hk); have H3 := Lib.hid (H2.out.keep HX3.out); have HAT := Lib.hid (HAT.out.chg HX3.out (fun q => q)); have HBOX := Lib.hid (HX3.out.at_ HBOX.out (fun q => q)); clear hk)) | (go_at_call 31; go_loud (refine (ds_start (drag1 fs acts) 0 1 5 0 acts 1 A n cap fs H3.out (HH.out.1.same (((Chg.refl _ w).alloc _).trans H3.out.same)) (H3.out.far (HH.out.1.same ((Chg.refl _ w).alloc _))) (drag_start H0.out).1 (drag_start H0.out).2).mono ?_; rintro e w4 ⟨R4, rfl, hses, hk⟩; have H4 := Lib.hid hses; have HN4 : Hid (_ ∧ ¬ R4 sb ∧ sb ≠ lb) := Lib.hid (And.intro HN.out.1 (And.intro (fun q => by rcases hk.new sb q with q | q; (exact HN.out.2.1 q); (have := HAT.out.lt; omega)) HN.out.2.2)); have HAT := Lib.hid (HAT.out.chg hk.chg HN.out.2.1); have HBOX := Lib.hid (hk.chg.at_ HBOX.out (fun q => by have := H3.out.fresh _ q; simp at this; omega)); have HN := HN4; clear hses hk)) | (go_at_call 20; go_loud (refine (ds_move (dragD fs acts) exL2 _ 2 7 0 0 0 H4.out (by show 0 < 1000000; omega) (by omega) (by omega) (drag_mv fs acts) (drag_mvL fs acts) (drag_mvO fs acts)).mono ?_; rintro e w5 ⟨v, rfl, hout, hses, hk⟩; obtain ⟨gb, capb, rfl, _, _, _, _⟩ := hout.one; have H5 := Lib.hid hses; have HAT := Lib.hid (HAT.out.chg hk (fun q => by rcases q with q | q; (exact HN.out.2.1 (by rw [q]; exact H4.out.drag.rb)); (exact HN.out.2.2 q))); have HBOX := Lib.hid (hk.at_ HBOX.out (fun q => by rcases q with q | q; (have := H4.out.fresh _ H4.out.drag.rb; simp at this; omega); (have := H4.out.lfresh; simp at this; omega))); clear hses hk hout))))
  (first | refine ⟨.inr ?keep40_5, ?_⟩ | refine ⟨?keep40_5, ?_⟩)
  case keep40_5 => (exact ⟨HAT.out.cells.2.1, box_cells HBOX.out⟩)
  try simp only [Act.put, List.setIfInBounds_toArray, List.set_cons_zero, List.set_cons_succ]
  refine path_do (i := 7) rfl ?_
  go_wp2_with ((first | (go_at_call 32; go_loud (refine (prog_ok A n cap acts _).mono ?_; rintro e w3 ⟨rfl, hk⟩; have HX3 := Lib.hid ((Chg.refl (fun _ => False) w2).drew.trans hk); have H3 := Lib.hid (H2.out.keep HX3.out); have HAT := Lib.hid (HAT.out.chg HX3.out (fun q => q)); have HBOX := Lib.hid (HX3.out.at_ HBOX.out (fun q => q)); clear hk)) | (go_at_call 31; go_loud (refine (ds_start (drag1 fs acts) 0 1 5 0 acts 1 A n cap fs H3.out (HH.out.1.same (((Chg.refl _ w).alloc _).trans H3.out.same)) (H3.out.far (HH.out.1.same ((Chg.refl _ w).alloc _))) (drag_start H0.out).1 (drag_start H0.out).2).mono ?_; rintro e w4 ⟨R4, rfl, hses, hk⟩; have H4 := Lib.hid hses; have HN4 : Hid (_ ∧ ¬ R4 sb ∧ sb ≠ lb) := Lib.hid (And.intro HN.out.1 (And.intro (fun q => by rcases hk.new sb q with q | q; (exact HN.out.2.1 q); (have := HAT.out.lt; omega)) HN.out.2.2)); have HAT := Lib.hid (HAT.out.chg hk.chg HN.out.2.1); have HBOX := Lib.hid (hk.chg.at_ HBOX.out (fun q => by have := H3.out.fresh _ q; simp at this; omega)); have HN := HN4; clear hses hk)) | (go_at_call 20; go_loud (refine (ds_move (dragD fs acts) exL2 _ 2 7 0 0 0 H4.out (by show 0 < 1000000; omega) (by omega) (by omega) (drag_mv fs acts) (drag_mvL fs acts) (drag_mvO fs acts)).mono ?_; rintro e w5 ⟨v, rfl, hout, hses, hk⟩; obtain ⟨gb, capb, rfl, _, _, _, _⟩ := hout.one; have H5 := Lib.hid hses; have HAT := Lib.hid (HAT.out.chg hk (fun q => by rcases q with q | q; (exact HN.out.2.1 (by rw [q]; exact H4.out.drag.rb)); (exact HN.out.2.2 q))); have HBOX := Lib.hid (hk.at_ HBOX.out (fun q => by rcases q with q | q; (have := H4.out.fresh _ H4.out.drag.rb; simp at this; omega); (have := H4.out.lfresh; simp at this; omega))); clear hses hk hout))))
  (first | refine ⟨.inr ?keep40_7, ?_⟩ | refine ⟨?keep40_7, ?_⟩)
  case keep40_7 => (exact ⟨HAT.out.cells.2.1, box_cells HBOX.out⟩)
  try simp only [Act.put, List.setIfInBounds_toArray, List.set_cons_zero, List.set_cons_succ]
  refine path_read (i := 8) (v := ?v40_8) rfl (by rfl) (fun _ _ _ h => h) ?hy40_8 ?_
  case hy40_8 => ((intro w hSw; (try dsimp only at hSw); go_simp) <;> (try with_reducible rfl))
  try simp only [Act.put, List.setIfInBounds_toArray, List.set_cons_zero, List.set_cons_succ]
  refine path_read (i := 9) (v := ?v40_9) rfl (by rfl) (fun _ _ _ h => h) ?hy40_9 ?_
  case hy40_9 => ((intro w hSw; (try dsimp only at hSw); go_simp) <;> (try with_reducible rfl))
  try simp only [Act.put, List.setIfInBounds_toArray, List.set_cons_zero, List.set_cons_succ]
  refine path_read (i := 10) (v := ?v40_10) rfl (by rfl) (fun _ _ _ h => h) ?hy40_10 ?_
  case hy40_10 => ((intro w hSw; (try dsimp only at hSw); go_simp) <;> (try with_reducible rfl))
  try simp only [Act.put, List.setIfInBounds_toArray, List.set_cons_zero, List.set_cons_succ]
  refine path_read (i := 11) (v := ?v40_11) rfl (by rfl) (fun _ _ _ h => h) ?hy40_11 ?_
  case hy40_11 => ((intro w hSw; (try dsimp only at hSw); go_simp) <;> (try with_reducible rfl))
  try simp only [Act.put, List.setIfInBounds_toArray, List.set_cons_zero, List.set_cons_succ]
  refine path_read (i := 12) (v := ?v40_12) rfl (by rfl) (fun _ _ _ h => h) ?hy40_12 ?_
  case hy40_12 => ((intro w hSw; (try dsimp only at hSw); go_simp) <;> (try with_reducible rfl))
  try simp only [Act.put, List.setIfInBounds_toArray, List.set_cons_zero, List.set_cons_succ]
  refine path_read (i := 13) (v := ?v40_13) rfl (by rfl) (fun _ _ _ h => h) ?hy40_13 ?_
  case hy40_13 => ((intro w hSw; (try dsimp only at hSw); go_simp) <;> (try with_reducible rfl))
  try simp only [Act.put, List.setIfInBounds_toArray, List.set_cons_zero, List.set_cons_succ]
  refine path_do (i := 14) rfl ?_
  go_wp2_with ((first | (go_at_call 32; go_loud (refine (prog_ok A n cap acts _).mono ?_; rintro e w3 ⟨rfl, hk⟩; have HX3 := Lib.hid ((Chg.refl (fun _ => False) w2).drew.trans hk); have H3 := Lib.hid (H2.out.keep HX3.out); have HAT := Lib.hid (HAT.out.chg HX3.out (fun q => q)); have HBOX := Lib.hid (HX3.out.at_ HBOX.out (fun q => q)); clear hk)) | (go_at_call 31; go_loud (refine (ds_start (drag1 fs acts) 0 1 5 0 acts 1 A n cap fs H3.out (HH.out.1.same (((Chg.refl _ w).alloc _).trans H3.out.same)) (H3.out.far (HH.out.1.same ((Chg.refl _ w).alloc _))) (drag_start H0.out).1 (drag_start H0.out).2).mono ?_; rintro e w4 ⟨R4, rfl, hses, hk⟩; have H4 := Lib.hid hses; have HN4 : Hid (_ ∧ ¬ R4 sb ∧ sb ≠ lb) := Lib.hid (And.intro HN.out.1 (And.intro (fun q => by rcases hk.new sb q with q | q; (exact HN.out.2.1 q); (have := HAT.out.lt; omega)) HN.out.2.2)); have HAT := Lib.hid (HAT.out.chg hk.chg HN.out.2.1); have HBOX := Lib.hid (hk.chg.at_ HBOX.out (fun q => by have := H3.out.fresh _ q; simp at this; omega)); have HN := HN4; clear hses hk)) | (go_at_call 20; go_loud (refine (ds_move (dragD fs acts) exL2 _ 2 7 0 0 0 H4.out (by show 0 < 1000000; omega) (by omega) (by omega) (drag_mv fs acts) (drag_mvL fs acts) (drag_mvO fs acts)).mono ?_; rintro e w5 ⟨v, rfl, hout, hses, hk⟩; obtain ⟨gb, capb, rfl, _, _, _, _⟩ := hout.one; have H5 := Lib.hid hses; have HAT := Lib.hid (HAT.out.chg hk (fun q => by rcases q with q | q; (exact HN.out.2.1 (by rw [q]; exact H4.out.drag.rb)); (exact HN.out.2.2 q))); have HBOX := Lib.hid (hk.at_ HBOX.out (fun q => by rcases q with q | q; (have := H4.out.fresh _ H4.out.drag.rb; simp at this; omega); (have := H4.out.lfresh; simp at this; omega))); clear hses hk hout))))
  (first | refine ⟨.inr ?keep40_14, ?_⟩ | refine ⟨?keep40_14, ?_⟩)
  case keep40_14 => (exact ⟨HAT.out.cells.2.1, box_cells HBOX.out⟩)
  try simp only [Act.put, List.setIfInBounds_toArray, List.set_cons_zero, List.set_cons_succ]
  refine path_read (i := 15) (v := ?v40_15) rfl (by rfl) (fun _ _ _ h => h) ?hy40_15 ?_
  case hy40_15 => ((intro w hSw; (try dsimp only at hSw); go_simp) <;> (try with_reducible rfl))
  try simp only [Act.put, List.setIfInBounds_toArray, List.set_cons_zero, List.set_cons_succ]
  refine path_read (i := 16) (v := ?v40_16) rfl (by rfl) (fun _ _ _ h => h) ?hy40_16 ?_
  case hy40_16 => ((intro w hSw; (try dsimp only at hSw); go_simp) <;> (try with_reducible rfl))
  try simp only [Act.put, List.setIfInBounds_toArray, List.set_cons_zero, List.set_cons_succ]
  refine path_read (i := 17) (v := ?v40_17) rfl (by rfl) (fun _ _ _ h => h) ?hy40_17 ?_
  case hy40_17 => ((intro w hSw; (try dsimp only at hSw); go_simp) <;> (try with_reducible rfl))
  try simp only [Act.put, List.setIfInBounds_toArray, List.set_cons_zero, List.set_cons_succ]
  refine path_end ?_
  go_wp2
  go_ret2
  exact ⟨sb, lb, b, _, rfl, HAT.out, H5.out.base ((Chg.refl _ w).alloc _), by have := HN.out.1; simp at this; omega, HN.out.2.1, HN.out.2.2⟩
end Go.Proofs.Yteolilggeaffaaa
