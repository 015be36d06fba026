/- compositorref40.Same: equal offers. -/
import Derived.Test.YtnbmpdjphmbofaaUChk
import Derived.Deep.LoopGhost
set_option linter.unusedVariables false
set_option linter.unusedSimpArgs false
set_option maxRecDepth 100000
namespace Go.Proofs.Ytnbmpdjphmbofaa
open Go.RowKit

set_option maxRecDepth 100000 in
set_option maxHeartbeats 4000000 in
theorem usame_ok (A : Option Addr) (n cap : Nat) (fs : List ByteArray) (acts : Int) (B : Option Addr) (m cb : Nat) (w : World) (h : StrsAt w A n fs) (hn : n ≤ 1000000) (hb : StrsAt w B m fs) :
    Calls Try.prog 22 #[.agg #[.slice A n cap, .int .i64 acts], .agg #[.slice B m cb, .int .i64 acts]] w fun e w' => e = .returned (.bool true) ∧ Same w w' := by
  have hnm : m = n := by rw [← hb.1, h.1]
  subst hnm
  have hs0 : Same w ((w.alloc (.cells #[.slice A m cap, .int .i64 acts] 24)).alloc (.cells #[.slice B m cb, .int .i64 acts] 24)) := ((Chg.refl (fun _ => False) w).alloc _).alloc _
  have hz : (w.alloc (.cells #[.slice A m cap, .int .i64 acts] 24)).heap.size = w.heap.size + 1 := by simp
  have g0 := at_alloc (o' := .cells #[.slice B m cb, .int .i64 acts] 24) (at_new w (.cells #[.slice A m cap, .int .i64 acts] 24))
  have g1 := at_new (w.alloc (.cells #[.slice A m cap, .int .i64 acts] 24)) (.cells #[.slice B m cb, .int .i64 acts] 24)
  rw [hz] at g1
  have HA := Lib.hid (h.same hs0)
  have HB := Lib.hid (hb.same hs0)
  have HG := Lib.hid (And.intro g0 g1)
  clear h hb hs0 g0 g1 hz
  go_enter Try.func22, Try.ntmps22
  go_wp2
  go_loopg [5] m (fun g v5 wr => Same ((w.alloc (.cells #[.slice A m cap, .int .i64 acts] 24)).alloc (.cells #[.slice B m cb, .int .i64 acts] 24)) wr ∧ ∃ i : Nat, i ≤ m ∧ g = m - i ∧ v5 = .int .i64 i)
  case atStart => exact ⟨Chg.refl _ _, 0, by omega, by omega, rfl⟩
  case round =>
    obtain ⟨hs, i, hi, hg, rfl⟩ := hrel
    have HGk := Lib.hid hg
    have HS := Lib.hid hs
    have a0 := cell_at (C := [.slice A m cap, .int .i64 acts]) (hs.at_ HG.out.1 (fun q => q)) 0
    have b0 := cell_at (C := [.slice B m cb, .int .i64 acts]) (hs.at_ HG.out.2 (fun q => q)) 0
    simp only [List.getElem?_cons_zero] at a0 b0
    clear hg hs
    by_cases hlt : i < m
    · have hil : i < fs.length := by rw [HA.out.1]; exact hlt
      obtain ⟨ba, oa, rfl, _, hca⟩ := (HA.out.same HS.out).2 (by omega)
      obtain ⟨bb, ob, rfl, _, hcb⟩ := (HB.out.same HS.out).2 (by omega)
      obtain ⟨y, hy⟩ : ∃ y, y = fs[i] := ⟨_, rfl⟩
      have hy2 : fs[i]? = some y := by rw [hy]; exact List.getElem?_eq_getElem hil
      have ca := hca i y hy2
      have cbb := hcb i y hy2
      have hii : (i : Int) < m := by omega
      clear hca hcb hy hy2 hil
      go_wp2_with fail
      refine region_path (S := (fun w' => w'.cell? ⟨w.heap.size, 0, none⟩ = some (.slice (some ⟨ba, oa, none⟩) m cap) ∧ w'.cell? ⟨w.heap.size + 1, 0, none⟩ = some (.slice (some ⟨bb, ob, none⟩) m cb) ∧ w'.cell? ⟨ba, oa + i, none⟩ = some (.string y) ∧ w'.cell? ⟨bb, ob + i, none⟩ = some (.string y))) 99 [(0, true), (1, true), (2, true), (3, true), (4, true), (5, true), (6, true), (7, true), (8, true), (9, true), (10, true)] (by kernel_rfl) (by kernel_rfl) (by kernel_rfl) ⟨a0, b0, ca, cbb⟩ ?_
      refine path_read (i := 0) (v := ?v1_0) rfl (by rfl) (fun _ _ _ h => h) ?hy1_0 ?_
      case hy1_0 => ((intro w hSw; (try dsimp only at hSw); go_simp) <;> (try with_reducible rfl))
      try simp only [Act.put, List.setIfInBounds_toArray, List.set_cons_zero, List.set_cons_succ]
      refine path_read (i := 1) (v := ?v1_1) rfl (by rfl) (fun _ _ _ h => h) ?hy1_1 ?_
      case hy1_1 => ((intro w hSw; (try dsimp only at hSw); go_simp) <;> (try with_reducible rfl))
      try simp only [Act.put, List.setIfInBounds_toArray, List.set_cons_zero, List.set_cons_succ]
      refine path_read (i := 2) (v := ?v1_2) rfl (by rfl) (fun _ _ _ h => h) ?hy1_2 ?_
      case hy1_2 => ((intro w hSw; (try dsimp only at hSw); go_simp) <;> (try with_reducible rfl))
      try simp only [Act.put, List.setIfInBounds_toArray, List.set_cons_zero, List.set_cons_succ]
      refine path_read (i := 3) (v := ?v1_3) rfl (by rfl) (fun _ _ _ h => h) ?hy1_3 ?_
      case hy1_3 => ((intro w hSw; (try dsimp only at hSw); go_simp) <;> (try with_reducible rfl))
      try simp only [Act.put, List.setIfInBounds_toArray, List.set_cons_zero, List.set_cons_succ]
      refine path_read (i := 4) (v := ?v1_4) rfl (by rfl) (fun _ _ _ h => h) ?hy1_4 ?_
      case hy1_4 => ((intro w hSw; (try dsimp only at hSw); go_simp) <;> (try with_reducible rfl))
      try simp only [Act.put, List.setIfInBounds_toArray, List.set_cons_zero, List.set_cons_succ]
      refine path_read (i := 5) (v := ?v1_5) rfl (by rfl) (fun _ _ _ h => h) ?hy1_5 ?_
      case hy1_5 => ((intro w hSw; (try dsimp only at hSw); go_simp) <;> (try with_reducible rfl))
      try simp only [Act.put, List.setIfInBounds_toArray, List.set_cons_zero, List.set_cons_succ]
      refine path_read (i := 6) (v := ?v1_6) rfl (by rfl) (fun _ _ _ h => h) ?hy1_6 ?_
      case hy1_6 => ((intro w hSw; (try dsimp only at hSw); go_simp) <;> (try with_reducible rfl))
      try simp only [Act.put, List.setIfInBounds_toArray, List.set_cons_zero, List.set_cons_succ]
      refine path_read (i := 7) (v := ?v1_7) rfl (by rfl) (fun _ _ _ h => h) ?hy1_7 ?_
      case hy1_7 => ((intro w hSw; (try dsimp only at hSw); go_simp) <;> (try with_reducible rfl))
      try simp only [Act.put, List.setIfInBounds_toArray, List.set_cons_zero, List.set_cons_succ]
      refine path_read (i := 8) (v := ?v1_8) rfl (by rfl) (fun _ _ _ h => h) ?hy1_8 ?_
      case hy1_8 => ((intro w hSw; (try dsimp only at hSw); go_simp) <;> (try with_reducible rfl))
      try simp only [Act.put, List.setIfInBounds_toArray, List.set_cons_zero, List.set_cons_succ]
      refine path_read (i := 9) (v := ?v1_9) rfl (by rfl) (fun _ _ _ h => h) ?hy1_9 ?_
      case hy1_9 => ((intro w hSw; (try dsimp only at hSw); go_simp) <;> (try with_reducible rfl))
      try simp only [Act.put, List.setIfInBounds_toArray, List.set_cons_zero, List.set_cons_succ]
      refine path_read (i := 10) (v := ?v1_10) rfl (by rfl) (fun _ _ _ h => h) ?hy1_10 ?_
      case hy1_10 => ((intro w hSw; (try dsimp only at hSw); go_simp) <;> (try with_reducible rfl))
      try simp only [Act.put, List.setIfInBounds_toArray, List.set_cons_zero, List.set_cons_succ]
      refine path_end ?_
      go_wp2
      go_roundg (m - (i + 1))
      case measure => have := HGk.out; omega
      case rel => exact ⟨HS.out.drew, i + 1, by omega, by rfl, by go_num⟩
    · have hlt' : ¬ (i : Int) < m := by omega
      go_wp2
      go_ret
      exact ⟨rfl, (((Chg.refl (fun _ => False) w).alloc _).alloc _).trans HS.out⟩
end Go.Proofs.Ytnbmpdjphmbofaa
