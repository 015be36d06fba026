/- The walks of package serial, continued: Newer, matches, Find. -/
import Derived.Test.YtndldjopgbhphaaSerW
set_option linter.unusedVariables false
set_option linter.unusedSimpArgs false
set_option maxRecDepth 100000
namespace Go.Proofs.Ytndldjopgbhphaa
open Go.RowKit

theorem newer_ok (a b : Int) (w : World) :
    Calls Try.prog 83 #[.int .u32 a, .int .u32 b] w fun e w' => e = .returned (.bool (newerB a b)) ∧ w = w' := by
  go_enter Try.func83, Try.ntmps83
  go_wp2
  go_ret
  exact ⟨rfl, rfl⟩

theorem matches_ok (s c f k client kinds : Int) (w : World) (hk : 0 ≤ k) (hk2 : k ≤ 62) :
    Calls Try.prog 123 #[.agg #[.int .u32 s, .int .i64 c, .int .i64 f, .int .i64 k], .int .i64 client, .int .i64 kinds] w fun e w' => e = .returned (.bool (fitB c k client kinds)) ∧ Same w w' := by
  by_cases h1 : (c != 0) = true
  · by_cases h2 : (c == client) = true
    · have hr : fitB c k client kinds = kbit kinds k := by unfold fitB; rw [h1, h2]; rfl
      rw [hr]
      clear hr
      go_enter Try.func123, Try.ntmps123
      go_wp2
      go_ret
      exact ⟨rfl, (Chg.refl _ w).alloc _⟩
    · have h2' : (c == client) = false := by simpa using h2
      have hr : fitB c k client kinds = false := by unfold fitB; rw [h1, h2']; rfl
      rw [hr]
      clear hr h2
      go_enter Try.func123, Try.ntmps123
      go_wp2
      go_ret
      exact ⟨rfl, (Chg.refl _ w).alloc _⟩
  · have h1' : (c != 0) = false := by simpa using h1
    have hr : fitB c k client kinds = false := by unfold fitB; rw [h1']; rfl
    rw [hr]
    clear hr h1
    go_enter Try.func123, Try.ntmps123
    go_wp2
    go_ret
    exact ⟨rfl, (Chg.refl _ w).alloc _⟩

/-! ### Find -/
theorem infoEntries : (Try.prog.info? 114).map (fun i => i.size) = some 1024 := by kernel_rfl
theorem infoEntry : (Try.prog.info? 113).map (fun i => i.size) = some 4 := by kernel_rfl
theorem run_load_entries {w : World} {b : Nat} {L : SLog} (h : LogAt w b L) : (loadVar 114 ⟨b, 3, none⟩).run Try.prog w = .ok (.agg L.flat.toArray) w := by
  have hl : L.cells.length = 1027 := by
    unfold SLog.cells
    have := SLog.flat_len h.2
    unfold SLog.flat at this
    simp [this]
  have := run_loadMid (P := Try.prog) 114 3 1024 _ h.1 infoEntries Try.underlying114 rfl (by omega)
  rw [SLog.cells_drop L h.2] at this
  exact this
theorem run_load_entry {w : World} {g : Nat} {a c d e : Value} (h : w.heap[g]? = some (.cells #[a, c, d, e] 113 (0, 0))) : (loadVar 113 ⟨g, 0, none⟩).run Try.prog w = .ok (.agg #[a, c, d, e]) w :=
  run_loadMid (P := Try.prog) (C := [a, c, d, e]) 113 0 4 _ h infoEntry Try.underlying113 rfl (by simp)
theorem run_index_entries {w : World} {L : SLog} (h : L.ok) (i : Nat) (hi : i < 256) :
    (Instr.index 114 (.agg L.flat.toArray) (.int .i64 i)).run Try.prog w =
      .ok (.agg #[.int .u32 (EntsAt L i).s, .int .i64 (EntsAt L i).c, .int .i64 (EntsAt L i).f, .int .i64 (EntsAt L i).k]) w := by
  have h1 := SLog.flat_take h hi
  have hb : (i : Int) < 256 := by omega
  obtain ⟨j, hj, hn⟩ : ∃ j, Try.prog.info? 113 = some j ∧ j.size = 4 := by
    have := infoEntry
    cases h : Try.prog.info? 113 with
    | none => rw [h] at this; cases this
    | some i => rw [h] at this; exact ⟨i, rfl, by simpa using this⟩
  unfold Instr.index part sizeOf typeInfo isAgg
  simp [asIntOf, Sem.run_bind, run_underlying Try.underlying114, run_underlying Try.underlying113, hb, program, Sem.run, hj, hn]
  rw [if_pos hi, h1]
  rfl

theorem find_none (b : Nat) (w : World) (n : Int) (h0 : w.cell? ⟨b, 0, none⟩ = some (.bool true)) (hn : (n == 0) = true) :
    Calls Try.prog 122 #[.pointer (some ⟨b, 0, none⟩), .int .u32 n] w fun e w' => e = .returned (.tuple #[.agg #[.int .u32 0, .int .i64 0, .int .i64 0, .int .i64 0], .bool false]) ∧ Same w w' := by
  have hlt := World.block_lt_of_cell? w _ h0
  have hlt' : b ≠ w.heap.size := by have : b < w.heap.size := hlt; omega
  go_enter Try.func122, Try.ntmps122
  go_wp2
  go_step3
  go_wp2_with (go_at_call 55; refine (usable_ok _ _ ?_).mono ?_; rotate_left 1; rintro e w' ⟨rfl, rfl⟩; rotate_left 1; go_simp)
  rw [Exit.noGoto_ret]
  exact bodyPost_ret (v := .tuple #[.agg #[.int .u32 0, .int .i64 0, .int .i64 0, .int .i64 0], .bool false]) (by simp [results, Try.results122, go_sem]) rfl ⟨rfl, (Chg.refl _ w).alloc _⟩

def entZ : Array Value := #[.int .u32 0, .int .i64 0, .int .i64 0, .int .i64 0]
/-- What holds at the head of Find's i-th round. -/
def FindRel (w : World) (b : Nat) (L : SLog) (n : Int) (v : Value) (wr : World) : Prop :=
  ∃ i : Nat, i ≤ 256 ∧ v = .int .i64 i ∧ (∀ j, j < i → hitB n (EntsAt L j) = false) ∧ wr.heap[w.heap.size]? = some (.cells entZ 113 (0, 0)) ∧ wr.heap[w.heap.size + 1]? = some (.cells entZ 113 (0, 0)) ∧ Same w wr

/-- What Find hands back. -/
def entRes (e : Ent) : Value := .tuple #[.agg #[.int .u32 e.s, .int .i64 e.c, .int .i64 e.f, .int .i64 e.k], .bool (e.c != 0)]
theorem ents_split {L : SLog} (h : L.ok) : L.ents = (List.range 256).map (EntsAt L) := by
  apply List.ext_getElem
  · simp [h.len]
  · intro i h1 h2
    have : i < 256 := by simpa using h2
    simp [EntsAt, List.getElem?_eq_getElem h1]
theorem find_first {α : Type} (p : α → Bool) (g : Nat → α) (m : Nat) : ∀ i, i < m → (∀ j, j < i → p (g j) = false) → p (g i) = true → ((List.range m).map g).find? p = some (g i) := by
  intro i hi hn hp
  rw [List.find?_map]
  have : (List.range m).find? (p ∘ g) = some i := by
    rw [List.find?_range_eq_some]
    exact ⟨hp, List.mem_range.2 hi, fun j hj => by simp [hn j hj]⟩
  rw [this]; rfl
theorem find_nobody {α : Type} (p : α → Bool) (g : Nat → α) (m : Nat) (hn : ∀ j, j < m → p (g j) = false) : ((List.range m).map g).find? p = none := by
  rw [List.find?_eq_none]
  intro x hx
  simp at hx
  obtain ⟨j, hj, rfl⟩ := hx
  simp [hn j hj]
theorem SLog.find_hit {L : SLog} (h : L.ok) {n : Int} (hn : n ≠ 0) {i : Nat} (hi : i < 256) (hno : ∀ j, j < i → hitB n (EntsAt L j) = false) (hh : hitB n (EntsAt L i) = true) : L.find n = EntsAt L i := by
  unfold SLog.find
  rw [if_neg hn, ents_split h, find_first _ _ _ i hi hno hh]; rfl
theorem SLog.find_miss {L : SLog} (h : L.ok) {n : Int} (hn : n ≠ 0) (hno : ∀ j, j < 256 → hitB n (EntsAt L j) = false) : L.find n = Ent.zero := by
  unfold SLog.find
  rw [if_neg hn, ents_split h, find_nobody _ _ _ hno]; rfl

set_option maxRecDepth 100000 in
set_option maxHeartbeats 1000000 in
theorem find_some (b : Nat) (w : World) (n : Int) (L : SLog) (h : LogAt w b L) (hn : (n == 0) = false) :
    Calls Try.prog 122 #[.pointer (some ⟨b, 0, none⟩), .int .u32 n] w fun e w' => e = .returned (entRes (L.find n)) ∧ Same w w' := by
  have h0 := h.c0
  have hlt := World.block_lt_of_cell? w _ h0
  have hlt' : b ≠ w.heap.size := by have : b < w.heap.size := hlt; omega
  go_enter Try.func122, Try.ntmps122
  go_wp2
  go_step3
  go_wp2_with (first | (go_at_call 55; refine (usable_ok _ _ ?_).mono ?_; rotate_left 1; rintro e w' ⟨rfl, rfl⟩; rotate_left 1; go_simp) | (refine wpl_loadv (t := 114) _ ⟨b, 3, none⟩ (.agg L.flat.toArray) ?_ (run_load_entries (h.chg (((Chg.refl (fun _ => False) w).alloc _).alloc _) (fun q => q))) ?_; · simp [Act.eval]))
  go_step3
  go_wp2_with (first | (refine wpl_loadv (t := 114) _ ⟨b, 3, none⟩ (.agg L.flat.toArray) ?_ (run_load_entries (h.chg (((Chg.refl (fun _ => False) w).alloc _).alloc _) (fun q => q))) ?_; · simp [Act.eval]))
  go_loopw [21] (fun v wr => FindRel w b L n v wr) (fun v _ => 256 - (intOf v).toNat)
  case atStart =>
    exact ⟨0, by omega, rfl, fun j hj => by omega, heap_alloc2_old _ _ _, heap_alloc2_new _ _ _, ((Chg.refl _ w).alloc _).alloc _⟩
  case round =>
    obtain ⟨i, hi, rfl, hno, hz0, hz1, hsame⟩ := hrel
    have c10 := cell_at (C := entZ.toList) hz1 0
    have c11 := cell_at (C := entZ.toList) hz1 1
    have c12 := cell_at (C := entZ.toList) hz1 2
    have c13 := cell_at (C := entZ.toList) hz1 3
    have c00 := cell_at (C := entZ.toList) hz0 0
    have c01 := cell_at (C := entZ.toList) hz0 1
    have c02 := cell_at (C := entZ.toList) hz0 2
    have c03 := cell_at (C := entZ.toList) hz0 3
    simp only [entZ, List.getElem?_cons_zero, List.getElem?_cons_succ] at c10 c11 c12 c13 c00 c01 c02 c03
    have f1 := frozen_at hz1
    have f0 := frozen_at hz0
    have l1 : w.heap.size + 1 < wr.heap.size := lt_of_at hz1
    have l0 : w.heap.size < wr.heap.size := lt_of_at hz0
    have HS := Lib.hid hsame
    have HN := Lib.hid hno
    have HZ := Lib.hid (And.intro hz0 hz1)
    have HL := Lib.hid h
    by_cases hlt2 : i < 256
    · have hix := fun (w' : World) => run_index_entries (w := w') h.2 i hlt2
      have hb2 : (i : Int) < 256 := by omega
      obtain ⟨s, c, f, k, he⟩ : ∃ s c f k, EntsAt L i = ⟨s, c, f, k⟩ := ⟨_, _, _, _, rfl⟩
      rw [he] at hix
      have HE := Lib.hid he
      clear hno hz0 hz1 hsame h he
      by_cases hs : (s == n) = true
      · by_cases hc : (c != 0) = true
        · go_wp2
          go_region
          go_wp2
          rw [Exit.noGoto_ret]
          have hfin : L.find n = ⟨s, c, f, k⟩ := by
            rw [SLog.find_hit HL.out.2 (by simpa using hn) hlt2 HN.out (by rw [HE.out]; simp [hitB, hs, hc]), HE.out]
          refine bodyPost_ret (results_cell_tmp Try.results122 rfl (run_load_entry (a := .int .u32 s) (c := .int .i64 c) (d := .int .i64 f) (e := .int .i64 k) ?_)) rfl ⟨?_, ?_⟩
          · rw [heap_drew]
            refine at_alloc ?_
            refine at_setCell (C := [.int .u32 s, .int .i64 c, .int .i64 f, .int .i64 0]) _ ?_
            refine at_setCell (C := [.int .u32 s, .int .i64 c, .int .i64 0, .int .i64 0]) _ ?_
            refine at_setCell (C := [.int .u32 s, .int .i64 0, .int .i64 0, .int .i64 0]) _ ?_
            refine at_setCell (C := entZ.toList) _ ?_
            repeat refine at_setCell_other _ (by omega) ?_
            exact HZ.out.1
          · rw [hfin]; simp [entRes, hc]
          ·
            repeat (first | (with_reducible refine Chg.drew ?_) | (with_reducible refine Chg.drewN ?_ _) | (with_reducible refine Chg.alloc ?_ _) | (with_reducible refine Chg.setCell ?_ _ _ ?_; rotate_left 1; · (intro q; first | (simp; done) | (exfalso; revert q; simp; done) | (exfalso; revert q; simp; omega) | (simp; omega))))
            exact HS.out
        · have hc' : (c != 0) = false := by simpa using hc
          clear hc
          go_wp2
          go_roundw
          case rel =>
            exact ⟨i + 1, by omega, by go_num, fun j hj => by
              rcases Nat.lt_succ_iff_lt_or_eq.1 hj with h1 | rfl
              · exact HN.out j h1
              · rw [HE.out]; simp [hitB, hc'], at_alloc HZ.out.1, at_alloc HZ.out.2, HS.out.alloc _⟩
          case measure => simp [intOf]; omega
      · have hs' : (s == n) = false := by simpa using hs
        clear hs
        go_wp2
        go_roundw
        case rel =>
          exact ⟨i + 1, by omega, by go_num, fun j hj => by
            rcases Nat.lt_succ_iff_lt_or_eq.1 hj with h1 | rfl
            · exact HN.out j h1
            · rw [HE.out]; simp [hitB, hs'], at_alloc HZ.out.1, at_alloc HZ.out.2, HS.out.alloc _⟩
        case measure => simp [intOf]; omega
    · have hb2 : ¬ (i : Int) < 256 := by omega
      clear hno hz0 hz1 hsame h
      go_wp2
      go_region
      go_wp2
      rw [Exit.noGoto_ret]
      have hfin : L.find n = Ent.zero := SLog.find_miss HL.out.2 (by simpa using hn) (fun j hj => HN.out j (by omega))
      refine bodyPost_ret (results_cell_tmp Try.results122 rfl (run_load_entry (a := .int .u32 0) (c := .int .i64 0) (d := .int .i64 0) (e := .int .i64 0) ?_)) rfl ⟨?_, ?_⟩
      · rw [heap_drew]
        refine at_setCell (C := entZ.toList) _ ?_
        refine at_setCell (C := entZ.toList) _ ?_
        refine at_setCell (C := entZ.toList) _ ?_
        refine at_setCell (C := entZ.toList) _ ?_
        exact HZ.out.1
      · rw [hfin]; rfl
      ·
        repeat (first | (with_reducible refine Chg.drew ?_) | (with_reducible refine Chg.drewN ?_ _) | (with_reducible refine Chg.alloc ?_ _) | (with_reducible refine Chg.setCell ?_ _ _ ?_; rotate_left 1; · (intro q; first | (simp; done) | (exfalso; revert q; simp; done) | (exfalso; revert q; simp; omega) | (simp; omega))))
        exact HS.out
end Go.Proofs.Ytndldjopgbhphaa
