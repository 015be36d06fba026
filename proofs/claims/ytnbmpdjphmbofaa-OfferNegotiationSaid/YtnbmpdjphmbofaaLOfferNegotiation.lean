/- The walk of OfferNegotiation: for all arguments it returns true and leaves what was there as it was. -/
import Derived.Test.YtnbmpdjphmbofaaLOfferChecks
import Derived.Test.YtnbmpdjphmbofaaLOfferActions
import Derived.Deep.LoopGhost
set_option linter.unusedVariables false
set_option linter.unusedSimpArgs false
namespace Go.Proofs.Ytnbmpdjphmbofaa
open Go.RowKit

def negP (c u : Int) : Prop := (c = 0 ∧ u = 0) ∨ (c ≠ 0 ∧ (u = 1 ∨ u = 2 ∨ u = 4) ∧ bits BinOp.and IntKind.i64 u c = u)
instance (c u : Int) : Decidable (negP c u) := by unfold negP; infer_instance
theorem neg_action (s t p m : Int) : negP (commonV s t) (actionV s t p m) := by
  rw [action_eq]
  have hr := common8 s t
  generalize commonV s t = c at hr
  unfold uactionV
  generalize (bits BinOp.and IntKind.i64 m 4 != 0) = a
  generalize (bits BinOp.and IntKind.i64 m 1 != 0) = b
  cases hs : singleV p
  · simp only [Bool.false_and, Bool.false_eq_true, if_false]
    clear hs
    rcases range8 hr with rfl | rfl | rfl | rfl | rfl | rfl | rfl | rfl <;> cases a <;> cases b <;> decide
  · rcases single_iff hs with rfl | rfl | rfl <;> rcases range8 hr with rfl | rfl | rfl | rfl | rfl | rfl | rfl | rfl <;> cases a <;> cases b <;> decide

theorem choose_first {fs ws : List ByteArray} {t : ByteArray} {b : Bool} {i : Nat} {y : ByteArray} (h : chooseV fs ws = (t, b)) (hn : (ws.take i).any (hasS fs) = false) (hy : ws[i]? = some y) (hh : hasS fs y = true) : t = y ∧ b = true := by
  obtain ⟨hi, he⟩ := List.getElem?_eq_some_iff.1 hy
  have hsp : ws = ws.take i ++ y :: ws.drop (i + 1) := by rw [← he, ← List.drop_eq_getElem_cons hi, List.take_append_drop]
  unfold chooseV at h
  rw [hsp, List.find?_append] at h
  have hf : (ws.take i).find? (fun x => hasS fs x) = none := by
    rw [List.find?_eq_none]
    intro x hx
    rw [List.any_eq_false] at hn
    exact hn x hx
  rw [hf, Option.none_or, List.find?_cons, hh] at h
  simp only [Prod.mk.injEq] at h
  exact ⟨h.1.symm, h.2.symm⟩
theorem choose_some {fs ws : List ByteArray} {t : ByteArray} {b : Bool} {i : Nat} (h : chooseV fs ws = (t, b)) (hn : (ws.take i).any (hasS fs) = true) : b = true := by
  obtain ⟨x, hx, hh⟩ := List.any_eq_true.1 hn
  have hw := List.mem_of_mem_take hx
  unfold chooseV at h
  cases hf : ws.find? (fun x => hasS fs x) with
  | none => exact absurd hh (List.find?_eq_none.1 hf x hw)
  | some z => rw [hf] at h; simp only [Prod.mk.injEq] at h; exact h.2.symm
theorem choose_any {fs ws : List ByteArray} {t : ByteArray} {b : Bool} (h : chooseV fs ws = (t, b)) : ws.any (hasS fs) = b ∧ (b = false → t = ByteArray.empty) := by
  unfold chooseV at h
  cases hf : ws.find? (fun x => hasS fs x) with
  | none =>
    rw [hf] at h
    simp only [Prod.mk.injEq] at h
    obtain ⟨rfl, rfl⟩ := h
    refine ⟨?_, fun _ => rfl⟩
    rw [List.any_eq_false]
    exact List.find?_eq_none.1 hf
  | some z =>
    rw [hf] at h
    simp only [Prod.mk.injEq] at h
    obtain ⟨rfl, rfl⟩ := h
    refine ⟨List.any_eq_true.2 ⟨z, List.mem_of_find?_eq_some hf, List.find?_some hf⟩, fun h => by cases h⟩

/-- The two boxes. -/
def negW (w : World) (A : Option Addr) (n cap : Nat) (acts s t p m : Int) : World := (w.alloc (offBox A n cap acts)).alloc (askBox s t p m)
theorem neg_box {w w' : World} {A : Option Addr} {n cap : Nat} {acts s t p m : Int} (h : Same (negW w A n cap acts s t p m) w') :
    (w'.cell? ⟨w.heap.size, 0, none⟩ = some (.slice A n cap) ∧ w'.cell? ⟨w.heap.size, 1, none⟩ = some (.int .i64 acts) ∧ (loadVar 24 ⟨w.heap.size, 0, none⟩).run Try.prog w' = .ok (.agg #[.slice A n cap, .int .i64 acts]) w') ∧
    w'.cell? ⟨w.heap.size + 1, 0, none⟩ = some (.int .i64 s) ∧ w'.cell? ⟨w.heap.size + 1, 1, none⟩ = some (.int .i64 t) ∧ w'.cell? ⟨w.heap.size + 1, 2, none⟩ = some (.int .i64 p) ∧ w'.cell? ⟨w.heap.size + 1, 3, none⟩ = some (.int .i64 m) := by
  refine ⟨off_box (((Chg.refl (fun _ => False) (w.alloc (offBox A n cap acts))).alloc _).trans h), ?_⟩
  have hz : (w.alloc (offBox A n cap acts)).heap.size = w.heap.size + 1 := by simp
  have := ask_cells h
  rw [hz] at this
  exact this

set_option maxRecDepth 100000 in
set_option maxHeartbeats 4000000 in
theorem neg_far (A : Option Addr) (n cap : Nat) (fs : List ByteArray) (acts : Int) (B : Option Addr) (k cb : Nat) (ws : List ByteArray) (s t p m : Int) (w : World) (h : SArg w A n cap fs) (hw : SArg w B k cb ws) (hb : lightB fs = false ∨ (lightB fs = true ∧ lightB ws = false)) :
    Calls Try.prog 5 #[.agg #[.slice A n cap, .int .i64 acts], .slice B k cb, .agg #[.int .i64 s, .int .i64 t, .int .i64 p, .int .i64 m]] w fun e w' => e = .returned (.bool true) ∧ Same w w' := by
  have hs0 : Same w (negW w A n cap acts s t p m) := ((Chg.refl (fun _ => False) w).alloc _).alloc _
  have HA : Hid (SArg (negW w A n cap acts s t p m) A n cap fs) := Lib.hid ⟨h.1.same hs0, h.2⟩
  have HW : Hid (SArg (negW w A n cap acts s t p m) B k cb ws) := Lib.hid ⟨hw.1.same hs0, hw.2⟩
  have HS0 := Lib.hid hs0
  clear h hw hs0
  rcases hb with hb | ⟨hb, hb2⟩
  · have HB := Lib.hid hb
    clear hb
    go_enter Try.func5, Try.ntmps5
    go_wp2_with fail
    refine (light_v _ A n cap fs _ HA.out HB.out).mono ?_
    rintro e w' ⟨rfl, rfl⟩
    go_wp2_with fail
    refine (example40_ok _).mono ?_
    rintro e w2 ⟨rfl, hs2⟩
    have HS2 := Lib.hid hs2
    clear hs2
    go_wp2
    go_ret
    exact ⟨rfl, HS0.out.trans HS2.out⟩
  · have HB := Lib.hid hb
    have HB2 := Lib.hid hb2
    clear hb hb2
    go_enter Try.func5, Try.ntmps5
    go_wp2_with fail
    refine (light_v _ A n cap fs _ HA.out HB.out).mono ?_
    rintro e w' ⟨rfl, rfl⟩
    go_wp2_with fail
    refine (light_v _ B k cb ws _ HW.out HB2.out).mono ?_
    rintro e w' ⟨rfl, rfl⟩
    go_wp2_with fail
    refine (example40_ok _).mono ?_
    rintro e w2 ⟨rfl, hs2⟩
    have HS2 := Lib.hid hs2
    clear hs2
    go_wp2
    go_ret
    exact ⟨rfl, HS0.out.trans HS2.out⟩

set_option maxRecDepth 100000 in
set_option maxHeartbeats 8000000 in
theorem neg_near (A : Option Addr) (n cap : Nat) (fs : List ByteArray) (acts : Int) (B : Option Addr) (k cb : Nat) (ws : List ByteArray) (s t p m : Int) (w : World) (h : SArg w A n cap fs) (hw : SArg w B k cb ws) (hb : lightB fs = true) (hb2 : lightB ws = true) :
    Calls Try.prog 5 #[.agg #[.slice A n cap, .int .i64 acts], .slice B k cb, .agg #[.int .i64 s, .int .i64 t, .int .i64 p, .int .i64 m]] w fun e w' => e = .returned (.bool true) ∧ Same w w' := by
  have hs0 : Same w (negW w A n cap acts s t p m) := ((Chg.refl (fun _ => False) w).alloc _).alloc _
  have HA : Hid (SArg (negW w A n cap acts s t p m) A n cap fs) := Lib.hid ⟨h.1.same hs0, h.2⟩
  have HW : Hid (SArg (negW w A n cap acts s t p m) B k cb ws) := Lib.hid ⟨hw.1.same hs0, hw.2⟩
  have HS0 := Lib.hid hs0
  have HC := Lib.hid (fun (w' : World) (h : Same (negW w A n cap acts s t p m) w') => neg_box h)
  have hn : n ≤ 40 := by have := (light_len hb).1; rw [h.1.1] at this; exact this
  have hk : k ≤ 40 := by have := (light_len hb2).1; rw [hw.1.1] at this; exact this
  have HB := Lib.hid hb
  have HB2 := Lib.hid hb2
  obtain ⟨st, ok, hch⟩ : ∃ st ok, chooseV fs ws = (st, ok) := ⟨_, _, rfl⟩
  obtain ⟨v, hv⟩ : ∃ v, actionV s t p m = v := ⟨_, rfl⟩
  have HCH := Lib.hid hch
  have HV := Lib.hid hv
  have HN := Lib.hid (show negP (commonV s t) v by rw [← hv]; exact neg_action s t p m)
  clear h hw hs0 hb hb2 hch hv
  go_enter Try.func5, Try.ntmps5
  go_wp2_with fail
  refine (light_v _ A n cap fs _ HA.out HB.out).mono ?_
  rintro e w' ⟨rfl, rfl⟩
  go_wp2_with fail
  refine (light_v _ B k cb ws _ HW.out HB2.out).mono ?_
  rintro e w' ⟨rfl, rfl⟩
  have hld := (HC.out _ (Chg.refl _ _)).1.2.2
  unfold negW offBox askBox at hld
  go_wp2_with (refine wpl_loadv _ _ _ rfl hld ?_)
  refine (prog_ok A n cap acts _).mono ?_
  rintro e w1 ⟨rfl, hs1⟩
  have HS1 : Hid (Same (negW w A n cap acts s t p m) w1) := Lib.hid hs1
  clear hs1 hld
  go_wp2_with fail
  refine (choose_v st ok A n cap fs acts B k cb ws _ (HA.out.1.same HS1.out) (by omega) (HW.out.1.same HS1.out) (by omega) HCH.out).mono ?_
  rintro e w2 ⟨rfl, hs2⟩
  have HS2 := Lib.hid (HS1.out.trans hs2)
  clear hs2 HS1
  go_wp2_with fail
  go_loopg [9, 10] k (fun g v9 v10 wr => Same (negW w A n cap acts s t p m) wr ∧ ∃ i : Nat, i ≤ k ∧ g = k - i ∧ v10 = .int .i64 i ∧ v9 = .bool ((ws.take i).any (hasS fs)))
  case atStart => exact ⟨HS2.out, 0, by omega, by omega, rfl, rfl⟩
  case round =>
    obtain ⟨hs, i, hi, hg, rfl, rfl⟩ := hrel
    have HG := Lib.hid hg
    have HS := Lib.hid hs
    obtain ⟨⟨c0, c1, cl⟩, a0, a1, a2, a3⟩ := HC.out _ hs
    clear hg hs c1 cl
    by_cases hlt : i < k
    · have hil : i < ws.length := by rw [HW.out.1.1]; exact hlt
      obtain ⟨b, o, rfl, hbl, hc⟩ := (HW.out.1.same HS.out).2 (by omega)
      obtain ⟨y, hy⟩ : ∃ y, y = ws[i] := ⟨_, rfl⟩
      have hy2 : ws[i]? = some y := by rw [hy]; exact List.getElem?_eq_getElem hil
      have hcell := hc i y hy2
      have HY := Lib.hid hy2
      have hii : (i : Int) < k := by omega
      have htk : ws.take (i + 1) = ws.take i ++ [y] := by rw [List.take_add_one, hy2]; rfl
      have HT := Lib.hid (show (ws.take (i + 1)).any (hasS fs) = ((ws.take i).any (hasS fs) || hasS fs y) by rw [htk, List.any_append, List.any_cons, List.any_nil, Bool.or_false])
      clear hc hy hy2 hbl hil htk a0 a1 a2 a3
      cases hh : hasS fs y
      · have HH := Lib.hid hh
        clear hh
        as_aux_lemma =>
          go_wp2_with fail
          refine region_path (S := (fun w' => w'.cell? ⟨w.heap.size, 0, none⟩ = some (.slice A n cap) ∧ w'.cell? ⟨b, o + i, none⟩ = some (.string y))) 99 [(0, true), (1, true), (2, true), (3, true), (4, true), (5, true), (6, false)] (by kernel_rfl) (by kernel_rfl) (by kernel_rfl) ⟨c0, hcell⟩ ?_
          refine path_read (i := 0) (v := ?v1_0) rfl (by rfl) (fun _ _ _ h => h) ?hy1_0 ?_
          case hy1_0 => ((intro w hSw; (try dsimp only at hSw); go_simp) <;> (try with_reducible rfl))
          try simp only [Act.put, List.setIfInBounds_toArray, List.set_cons_zero, List.set_cons_succ]
          refine path_read (i := 1) (v := ?v1_1) rfl (by rfl) (fun _ _ _ h => h) ?hy1_1 ?_
          case hy1_1 => ((intro w hSw; (try dsimp only at hSw); go_simp) <;> (try with_reducible rfl))
          try simp only [Act.put, List.setIfInBounds_toArray, List.set_cons_zero, List.set_cons_succ]
          refine path_read (i := 2) (v := ?v1_2) rfl (by rfl) (fun _ _ _ h => h) ?hy1_2 ?_
          case hy1_2 => ((intro w hSw; (try dsimp only at hSw); go_simp) <;> (try with_reducible rfl))
          try simp only [Act.put, List.setIfInBounds_toArray, List.set_cons_zero, List.set_cons_succ]
          refine path_read (i := 3) (v := ?v1_3) rfl (by rfl) (fun _ _ _ h => h) ?hy1_3 ?_
          case hy1_3 => ((intro w hSw; (try dsimp only at hSw); go_simp) <;> (try with_reducible rfl))
          try simp only [Act.put, List.setIfInBounds_toArray, List.set_cons_zero, List.set_cons_succ]
          refine path_read (i := 4) (v := ?v1_4) rfl (by rfl) (fun _ _ _ h => h) ?hy1_4 ?_
          case hy1_4 => ((intro w hSw; (try dsimp only at hSw); go_simp) <;> (try with_reducible rfl))
          try simp only [Act.put, List.setIfInBounds_toArray, List.set_cons_zero, List.set_cons_succ]
          refine path_read (i := 5) (v := ?v1_5) rfl (by rfl) (fun _ _ _ h => h) ?hy1_5 ?_
          case hy1_5 => ((intro w hSw; (try dsimp only at hSw); go_simp) <;> (try with_reducible rfl))
          try simp only [Act.put, List.setIfInBounds_toArray, List.set_cons_zero, List.set_cons_succ]
          refine path_do (i := 6) rfl ?_
          go_wp2_with ((go_at_call 20; refine (uhas_v _ _ n cap fs y _ ((HA.out.1.same HS.out).same (Chg.refl (fun _ => False) wr).drew) (by omega) HH.out).mono ?_; rintro e w9 ⟨rfl, rfl⟩))
          refine ⟨.inr ?keep1_6, ?_⟩
          case keep1_6 => ((exact ⟨c0, hcell⟩))
          try simp only [Act.put, List.setIfInBounds_toArray, List.set_cons_zero, List.set_cons_succ]
          refine path_end ?_
          go_wp2
          go_roundg (k - (i + 1))
          case measure => have := HG.out; omega
          case rel => exact ⟨HS.out.drew, i + 1, by omega, by rfl, by go_num, by rw [HT.out, HH.out, Bool.or_false]⟩
      · have HH := Lib.hid hh
        clear hh
        cases hf : (ws.take i).any (hasS fs)
        · have hfi := choose_first HCH.out hf HY.out HH.out
          obtain ⟨rfl, rfl⟩ := hfi
          have HF := Lib.hid hf
          clear hf
          as_aux_lemma =>
            go_wp2_with fail
            refine region_path (S := (fun w' => w'.cell? ⟨w.heap.size, 0, none⟩ = some (.slice A n cap) ∧ w'.cell? ⟨b, o + i, none⟩ = some (.string st))) 99 [(0, true), (1, true), (2, true), (3, true), (4, true), (5, true), (6, false)] (by kernel_rfl) (by kernel_rfl) (by kernel_rfl) ⟨c0, hcell⟩ ?_
            refine path_read (i := 0) (v := ?v2_0) rfl (by rfl) (fun _ _ _ h => h) ?hy2_0 ?_
            case hy2_0 => ((intro w hSw; (try dsimp only at hSw); go_simp) <;> (try with_reducible rfl))
            try simp only [Act.put, List.setIfInBounds_toArray, List.set_cons_zero, List.set_cons_succ]
            refine path_read (i := 1) (v := ?v2_1) rfl (by rfl) (fun _ _ _ h => h) ?hy2_1 ?_
            case hy2_1 => ((intro w hSw; (try dsimp only at hSw); go_simp) <;> (try with_reducible rfl))
            try simp only [Act.put, List.setIfInBounds_toArray, List.set_cons_zero, List.set_cons_succ]
            refine path_read (i := 2) (v := ?v2_2) rfl (by rfl) (fun _ _ _ h => h) ?hy2_2 ?_
            case hy2_2 => ((intro w hSw; (try dsimp only at hSw); go_simp) <;> (try with_reducible rfl))
            try simp only [Act.put, List.setIfInBounds_toArray, List.set_cons_zero, List.set_cons_succ]
            refine path_read (i := 3) (v := ?v2_3) rfl (by rfl) (fun _ _ _ h => h) ?hy2_3 ?_
            case hy2_3 => ((intro w hSw; (try dsimp only at hSw); go_simp) <;> (try with_reducible rfl))
            try simp only [Act.put, List.setIfInBounds_toArray, List.set_cons_zero, List.set_cons_succ]
            refine path_read (i := 4) (v := ?v2_4) rfl (by rfl) (fun _ _ _ h => h) ?hy2_4 ?_
            case hy2_4 => ((intro w hSw; (try dsimp only at hSw); go_simp) <;> (try with_reducible rfl))
            try simp only [Act.put, List.setIfInBounds_toArray, List.set_cons_zero, List.set_cons_succ]
            refine path_read (i := 5) (v := ?v2_5) rfl (by rfl) (fun _ _ _ h => h) ?hy2_5 ?_
            case hy2_5 => ((intro w hSw; (try dsimp only at hSw); go_simp) <;> (try with_reducible rfl))
            try simp only [Act.put, List.setIfInBounds_toArray, List.set_cons_zero, List.set_cons_succ]
            refine path_do (i := 6) rfl ?_
            go_wp2_with ((go_at_call 20; refine (uhas_v _ _ n cap fs st _ ((HA.out.1.same HS.out).same (Chg.refl (fun _ => False) wr).drew) (by omega) HH.out).mono ?_; rintro e w9 ⟨rfl, rfl⟩))
            refine ⟨.inr ?keep2_6, ?_⟩
            case keep2_6 => ((exact ⟨c0, hcell⟩))
            try simp only [Act.put, List.setIfInBounds_toArray, List.set_cons_zero, List.set_cons_succ]
            refine path_end ?_
            go_wp2
            go_roundg (k - (i + 1))
            case measure => have := HG.out; omega
            case rel => exact ⟨HS.out.drew, i + 1, by omega, by rfl, by go_num, by rw [HT.out, HH.out, Bool.or_true]⟩
        · have hfi := choose_some HCH.out hf
          subst hfi
          have HF := Lib.hid hf
          clear hf
          as_aux_lemma =>
            go_wp2_with fail
            refine region_path (S := (fun w' => w'.cell? ⟨w.heap.size, 0, none⟩ = some (.slice A n cap) ∧ w'.cell? ⟨b, o + i, none⟩ = some (.string y))) 99 [(0, true), (1, true), (2, true), (3, true), (4, true), (5, true), (6, false)] (by kernel_rfl) (by kernel_rfl) (by kernel_rfl) ⟨c0, hcell⟩ ?_
            refine path_read (i := 0) (v := ?v3_0) rfl (by rfl) (fun _ _ _ h => h) ?hy3_0 ?_
            case hy3_0 => ((intro w hSw; (try dsimp only at hSw); go_simp) <;> (try with_reducible rfl))
            try simp only [Act.put, List.setIfInBounds_toArray, List.set_cons_zero, List.set_cons_succ]
            refine path_read (i := 1) (v := ?v3_1) rfl (by rfl) (fun _ _ _ h => h) ?hy3_1 ?_
            case hy3_1 => ((intro w hSw; (try dsimp only at hSw); go_simp) <;> (try with_reducible rfl))
            try simp only [Act.put, List.setIfInBounds_toArray, List.set_cons_zero, List.set_cons_succ]
            refine path_read (i := 2) (v := ?v3_2) rfl (by rfl) (fun _ _ _ h => h) ?hy3_2 ?_
            case hy3_2 => ((intro w hSw; (try dsimp only at hSw); go_simp) <;> (try with_reducible rfl))
            try simp only [Act.put, List.setIfInBounds_toArray, List.set_cons_zero, List.set_cons_succ]
            refine path_read (i := 3) (v := ?v3_3) rfl (by rfl) (fun _ _ _ h => h) ?hy3_3 ?_
            case hy3_3 => ((intro w hSw; (try dsimp only at hSw); go_simp) <;> (try with_reducible rfl))
            try simp only [Act.put, List.setIfInBounds_toArray, List.set_cons_zero, List.set_cons_succ]
            refine path_read (i := 4) (v := ?v3_4) rfl (by rfl) (fun _ _ _ h => h) ?hy3_4 ?_
            case hy3_4 => ((intro w hSw; (try dsimp only at hSw); go_simp) <;> (try with_reducible rfl))
            try simp only [Act.put, List.setIfInBounds_toArray, List.set_cons_zero, List.set_cons_succ]
            refine path_read (i := 5) (v := ?v3_5) rfl (by rfl) (fun _ _ _ h => h) ?hy3_5 ?_
            case hy3_5 => ((intro w hSw; (try dsimp only at hSw); go_simp) <;> (try with_reducible rfl))
            try simp only [Act.put, List.setIfInBounds_toArray, List.set_cons_zero, List.set_cons_succ]
            refine path_do (i := 6) rfl ?_
            go_wp2_with ((go_at_call 20; refine (uhas_v _ _ n cap fs y _ ((HA.out.1.same HS.out).same (Chg.refl (fun _ => False) wr).drew) (by omega) HH.out).mono ?_; rintro e w9 ⟨rfl, rfl⟩))
            refine ⟨.inr ?keep3_6, ?_⟩
            case keep3_6 => ((exact ⟨c0, hcell⟩))
            try simp only [Act.put, List.setIfInBounds_toArray, List.set_cons_zero, List.set_cons_succ]
            refine path_end ?_
            go_wp2
            go_roundg (k - (i + 1))
            case measure => have := HG.out; omega
            case rel => exact ⟨HS.out.drew, i + 1, by omega, by rfl, by go_num, by rw [HT.out, HH.out, Bool.or_true]⟩
    · have hlt' : ¬ (i : Int) < k := by omega
      have hany := choose_any HCH.out
      rw [List.take_of_length_le (by rw [HW.out.1.1]; omega), hany.1]
      have HE := Lib.hid hany.2
      clear hany
      have hcm : commonV s t = bits BinOp.and IntKind.i64 (bits BinOp.and IntKind.i64 s t) 7 := rfl
      have hneg := HN.out
      rw [hcm] at hneg
      clear hcm
      rcases hneg with ⟨h0, rfl⟩ | ⟨h0, h1, h2⟩
      · cases ok
        all_goals
          try (have he := HE.out rfl; subst he)
          as_aux_lemma =>
            go_wp2_with fail
            refine (action_v 0 s t p m _ HV.out).mono ?_
            rintro e w3 ⟨rfl, hs3⟩
            have HS3 := Lib.hid (HS.out.trans hs3)
            obtain ⟨_, e0, e1, _, _⟩ := HC.out _ HS3.out
            clear hs3
            go_wp2_with fail
            refine (example40_ok _).mono ?_
            rintro e w4 ⟨rfl, hs4⟩
            have HS4 := Lib.hid (HS3.out.trans hs4)
            clear hs4
            go_wp2
            go_ret
            exact ⟨rfl, HS0.out.trans HS4.out⟩
      · have h0' : (bits BinOp.and IntKind.i64 (bits BinOp.and IntKind.i64 s t) 7 == 0) = false := by rw [beq_eq_false_iff_ne]; exact h0
        have h0'' : (bits BinOp.and IntKind.i64 (bits BinOp.and IntKind.i64 s t) 7 != 0) = true := by rw [bne_iff_ne]; exact h0
        clear h0
        rcases h1 with rfl | rfl | rfl <;> cases ok
        all_goals
          try (have he := HE.out rfl; subst he)
          as_aux_lemma =>
            go_wp2_with fail
            refine (action_v _ s t p m _ HV.out).mono ?_
            rintro e w3 ⟨rfl, hs3⟩
            have HS3 := Lib.hid (HS.out.trans hs3)
            obtain ⟨_, e0, e1, _, _⟩ := HC.out _ HS3.out
            clear hs3
            go_wp2_with fail
            refine (example40_ok _).mono ?_
            rintro e w4 ⟨rfl, hs4⟩
            have HS4 := Lib.hid (HS3.out.trans hs4)
            clear hs4
            go_wp2
            go_ret
            exact ⟨rfl, HS0.out.trans HS4.out⟩

theorem OfferNegotiation_walk (x : OArg) (B : Option Addr) (k cb : Nat) (ws : List ByteArray) (q : AskArg) (w : World) (h : x.ok w) (hw : SArg w B k cb ws) :
    Calls Try.prog 5 #[.agg x.cells.toArray, .slice B k cb, .agg q.cells.toArray] w fun e w' => e = .returned (.bool true) ∧ Same w w' := by
  obtain ⟨A, n, cap, fs, acts⟩ := x
  obtain ⟨s, t, p, m⟩ := q
  cases hb : lightB fs
  · exact neg_far A n cap fs acts B k cb ws s t p m w h hw (.inl hb)
  · cases hb2 : lightB ws
    · exact neg_far A n cap fs acts B k cb ws s t p m w h hw (.inr ⟨hb, hb2⟩)
    · exact neg_near A n cap fs acts B k cb ws s t p m w h hw hb hb2
end Go.Proofs.Ytnbmpdjphmbofaa
