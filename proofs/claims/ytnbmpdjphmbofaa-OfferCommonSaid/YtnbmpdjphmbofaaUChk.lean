/- compositorref40.Choose: the same answers. -/
import Derived.Test.YtnbmpdjphmbofaaUHas
import Derived.Test.YtnbmpdjphmbofaaChs
set_option linter.unusedVariables false
set_option linter.unusedSimpArgs false
set_option maxRecDepth 100000
namespace Go.Proofs.Ytnbmpdjphmbofaa
open Go.RowKit

set_option maxRecDepth 100000 in
set_option maxHeartbeats 4000000 in
theorem uchoose_ok (A : Option Addr) (n cap : Nat) (fs : List ByteArray) (acts : Int) (B : Option Addr) (m cb : Nat) (ws : List ByteArray) (w : World) (h : StrsAt w A n fs) (hn : n ≤ 1000000) (hb : StrsAt w B m ws) (hm : m ≤ 1000000) :
    Calls Try.prog 21 #[.agg #[.slice A n cap, .int .i64 acts], .slice B m cb] w fun e w' => e = .returned (.tuple #[.string (chooseV fs ws).1, .bool (chooseV fs ws).2]) ∧ Same w w' := by
  have h0 := at_new w (.cells #[.slice A n cap, .int .i64 acts] 24)
  have c0 : (w.alloc (.cells #[.slice A n cap, .int .i64 acts] 24)).cell? ⟨w.heap.size, 0, none⟩ = some (.slice A n cap) := by rw [cell_of_row _ _ 0 _ _ _ h0]; rfl
  have HA := Lib.hid (h.same ((Chg.refl (fun _ => False) w).alloc (.cells #[.slice A n cap, .int .i64 acts] 24)))
  have HB := Lib.hid (hb.same ((Chg.refl (fun _ => False) w).alloc (.cells #[.slice A n cap, .int .i64 acts] 24)))
  have HC0 := Lib.hid c0
  have HW : Hid (∃ W, W = w.alloc (.cells #[.slice A n cap, .int .i64 acts] 24)) := Lib.hid ⟨_, rfl⟩
  clear h hb h0 c0
  go_enter Try.func21, Try.ntmps21
  go_wp2
  go_loopg [6] m (fun g v6 wr => Same (w.alloc (.cells #[.slice A n cap, .int .i64 acts] 24)) wr ∧ ∃ i : Nat, i ≤ m ∧ g = m - i ∧ v6 = .int .i64 i ∧ chooseV fs ws = chooseV fs (ws.drop i))
  case atStart => exact ⟨Chg.refl _ _, 0, by omega, by omega, rfl, rfl⟩
  case round =>
    obtain ⟨hs, i, hi, hg, rfl, hf⟩ := hrel
    have HF := Lib.hid hf
    have HG := Lib.hid hg
    have HS := Lib.hid hs
    clear hf hg hs
    by_cases hlt : i < m
    · have hil : i < ws.length := by rw [HB.out.1]; exact hlt
      obtain ⟨b, o, rfl, hbl, hc⟩ := (HB.out.same HS.out).2 (by omega)
      obtain ⟨y, hy⟩ : ∃ y, y = ws[i] := ⟨_, rfl⟩
      have hcell := hc i y (by rw [hy]; exact List.getElem?_eq_getElem hil)
      have hbox := HS.out.cell HC0.out (fun q => q)
      have HD := Lib.hid (show ws.drop i = y :: ws.drop (i + 1) by rw [hy]; exact List.drop_eq_getElem_cons hil)
      have hii : (i : Int) < m := by omega
      clear hc hy hbl hil
      cases hb : hasS fs y
      · have HH := Lib.hid hb
        clear hb
        go_wp2_with fail
        refine region_path (S := (fun w' => w'.cell? ⟨w.heap.size, 0, none⟩ = some (.slice A n cap) ∧ w'.cell? ⟨b, o + i, none⟩ = some (.string y))) 99 [(0, true), (1, true), (2, true), (3, true), (4, true), (5, true), (6, false)] (by kernel_rfl) (by kernel_rfl) (by kernel_rfl) ⟨hbox, hcell⟩ ?_
        refine path_read (i := 0) (v := ?v1_0) rfl (by rfl) (fun _ _ _ h => h) ?hy1_0 ?_
        case hy1_0 => ((intro w hSw; (try dsimp only at hSw); go_simp) <;> (try with_reducible rfl))
        try simp only [Act.put, List.setIfInBounds_toArray, List.set_cons_zero, List.set_cons_succ]
        refine path_read (i := 1) (v := ?v1_1) rfl (by rfl) (fun _ _ _ h => h) ?hy1_1 ?_
        case hy1_1 => ((intro w hSw; (try dsimp only at hSw); go_simp) <;> (try with_reducible rfl))
        try simp only [Act.put, List.setIfInBounds_toArray, List.set_cons_zero, List.set_cons_succ]
        refine path_read (i := 2) (v := ?v1_2) rfl (by rfl) (fun _ _ _ h => h) ?hy1_2 ?_
        case hy1_2 => ((intro w hSw; (try dsimp only at hSw); go_simp) <;> (try with_reducible rfl))
        try simp only [Act.put, List.setIfInBounds_toArray, List.set_cons_zero, List.set_cons_succ]
        refine path_read (i := 3) (v := ?v1_3) rfl (by rfl) (fun _ _ _ h => h) ?hy1_3 ?_
        case hy1_3 => ((intro w hSw; (try dsimp only at hSw); go_simp) <;> (try with_reducible rfl))
        try simp only [Act.put, List.setIfInBounds_toArray, List.set_cons_zero, List.set_cons_succ]
        refine path_read (i := 4) (v := ?v1_4) rfl (by rfl) (fun _ _ _ h => h) ?hy1_4 ?_
        case hy1_4 => ((intro w hSw; (try dsimp only at hSw); go_simp) <;> (try with_reducible rfl))
        try simp only [Act.put, List.setIfInBounds_toArray, List.set_cons_zero, List.set_cons_succ]
        refine path_read (i := 5) (v := ?v1_5) rfl (by rfl) (fun _ _ _ h => h) ?hy1_5 ?_
        case hy1_5 => ((intro w hSw; (try dsimp only at hSw); go_simp) <;> (try with_reducible rfl))
        try simp only [Act.put, List.setIfInBounds_toArray, List.set_cons_zero, List.set_cons_succ]
        refine path_do (i := 6) rfl ?_
        go_wp2_with ((go_at_call 20; refine (uhas_v _ _ n cap fs y _ ((HA.out.same HS.out).same (Chg.refl (fun _ => False) wr).drew) hn HH.out).mono ?_; rintro e w9 ⟨rfl, rfl⟩))
        (first | refine ⟨.inr ?keep1_6, ?_⟩ | refine ⟨?keep1_6, ?_⟩)
        case keep1_6 => ((exact ⟨hbox, hcell⟩))
        try simp only [Act.put, List.setIfInBounds_toArray, List.set_cons_zero, List.set_cons_succ]
        refine path_end ?_
        go_wp2
        go_roundg (m - (i + 1))
        case measure => have := HG.out; omega
        case rel => exact ⟨HS.out.drew, i + 1, by omega, by rfl, by go_num, by rw [HF.out, HD.out, choose_cons, HH.out]; rfl⟩
      · have HH := Lib.hid hb
        clear hb
        have HE := Lib.hid (show chooseV fs ws = (y, true) by rw [HF.out, HD.out, choose_cons, HH.out]; rfl)
        go_wp2_with fail
        refine region_path (S := (fun w' => w'.cell? ⟨w.heap.size, 0, none⟩ = some (.slice A n cap) ∧ w'.cell? ⟨b, o + i, none⟩ = some (.string y))) 99 [(0, true), (1, true), (2, true), (3, true), (4, true), (5, true), (6, false)] (by kernel_rfl) (by kernel_rfl) (by kernel_rfl) ⟨hbox, hcell⟩ ?_
        refine path_read (i := 0) (v := ?v2_0) rfl (by rfl) (fun _ _ _ h => h) ?hy2_0 ?_
        case hy2_0 => ((intro w hSw; (try dsimp only at hSw); go_simp) <;> (try with_reducible rfl))
        try simp only [Act.put, List.setIfInBounds_toArray, List.set_cons_zero, List.set_cons_succ]
        refine path_read (i := 1) (v := ?v2_1) rfl (by rfl) (fun _ _ _ h => h) ?hy2_1 ?_
        case hy2_1 => ((intro w hSw; (try dsimp only at hSw); go_simp) <;> (try with_reducible rfl))
        try simp only [Act.put, List.setIfInBounds_toArray, List.set_cons_zero, List.set_cons_succ]
        refine path_read (i := 2) (v := ?v2_2) rfl (by rfl) (fun _ _ _ h => h) ?hy2_2 ?_
        case hy2_2 => ((intro w hSw; (try dsimp only at hSw); go_simp) <;> (try with_reducible rfl))
        try simp only [Act.put, List.setIfInBounds_toArray, List.set_cons_zero, List.set_cons_succ]
        refine path_read (i := 3) (v := ?v2_3) rfl (by rfl) (fun _ _ _ h => h) ?hy2_3 ?_
        case hy2_3 => ((intro w hSw; (try dsimp only at hSw); go_simp) <;> (try with_reducible rfl))
        try simp only [Act.put, List.setIfInBounds_toArray, List.set_cons_zero, List.set_cons_succ]
        refine path_read (i := 4) (v := ?v2_4) rfl (by rfl) (fun _ _ _ h => h) ?hy2_4 ?_
        case hy2_4 => ((intro w hSw; (try dsimp only at hSw); go_simp) <;> (try with_reducible rfl))
        try simp only [Act.put, List.setIfInBounds_toArray, List.set_cons_zero, List.set_cons_succ]
        refine path_read (i := 5) (v := ?v2_5) rfl (by rfl) (fun _ _ _ h => h) ?hy2_5 ?_
        case hy2_5 => ((intro w hSw; (try dsimp only at hSw); go_simp) <;> (try with_reducible rfl))
        try simp only [Act.put, List.setIfInBounds_toArray, List.set_cons_zero, List.set_cons_succ]
        refine path_do (i := 6) rfl ?_
        go_wp2_with ((go_at_call 20; refine (uhas_v _ _ n cap fs y _ ((HA.out.same HS.out).same (Chg.refl (fun _ => False) wr).drew) hn HH.out).mono ?_; rintro e w9 ⟨rfl, rfl⟩))
        (first | refine ⟨.inr ?keep2_6, ?_⟩ | refine ⟨?keep2_6, ?_⟩)
        case keep2_6 => ((exact ⟨hbox, hcell⟩))
        try simp only [Act.put, List.setIfInBounds_toArray, List.set_cons_zero, List.set_cons_succ]
        refine path_end ?_
        go_wp2
        go_ret2
        exact ⟨by rw [HE.out]; rfl, (((Chg.refl (fun _ => False) w).alloc _).trans HS.out).drew⟩
    · have hlt' : ¬ (i : Int) < m := by omega
      have HE := Lib.hid (show chooseV fs ws = (ByteArray.empty, false) by rw [HF.out, show i = ws.length by rw [HB.out.1]; omega, List.drop_length]; rfl)
      go_wp2
      go_ret2
      exact ⟨by rw [HE.out]; rfl, ((Chg.refl (fun _ => False) w).alloc _).trans HS.out⟩
end Go.Proofs.Ytnbmpdjphmbofaa
