/- Parts of the walk, packed: SerX, SerY, SerL. -/
import Derived.Test.YteolilggeaffaaaSerW
set_option linter.unusedVariables false
set_option linter.unusedSimpArgs false
set_option maxRecDepth 100000
namespace Go.Proofs.Yteolilggeaffaaa
open Go.RowKit

theorem matches_ok (s c f k client kinds : Int) (w : World) (hk : 0 ≤ k) (hk2 : k ≤ 62) :
    Calls Try.prog 113 #[.agg #[.int .u32 s, .int .i64 c, .int .i64 f, .int .i64 k], .int .i64 client, .int .i64 kinds] w fun e w' => e = .returned (.bool (fitB c k client kinds)) ∧ Same w w' := by
  by_cases h1 : (c != 0) = true
  · by_cases h2 : (c == client) = true
    · have hr : fitB c k client kinds = kbit kinds k := by unfold fitB; rw [h1, h2]; rfl
      rw [hr]
      clear hr
      go_enter Try.func113, Try.ntmps113
      go_wp2
      go_ret
      exact ⟨rfl, (Chg.refl _ w).alloc _⟩
    · have h2' : (c == client) = false := by simpa using h2
      have hr : fitB c k client kinds = false := by unfold fitB; rw [h1, h2']; rfl
      rw [hr]
      clear hr h2
      go_enter Try.func113, Try.ntmps113
      go_wp2
      go_ret
      exact ⟨rfl, (Chg.refl _ w).alloc _⟩
  · have h1' : (c != 0) = false := by simpa using h1
    have hr : fitB c k client kinds = false := by unfold fitB; rw [h1']; rfl
    rw [hr]
    clear hr h1
    go_enter Try.func113, Try.ntmps113
    go_wp2
    go_ret
    exact ⟨rfl, (Chg.refl _ w).alloc _⟩

/-! ### Find -/
theorem infoEntries : (Try.prog.info? 125).map (fun i => i.size) = some 1024 := by kernel_rfl
theorem infoEntry : (Try.prog.info? 124).map (fun i => i.size) = some 4 := by kernel_rfl
theorem run_load_entries {w : World} {b : Nat} {L : SLog} (h : LogAt w b L) : (loadVar 125 ⟨b, 3, none⟩).run Try.prog w = .ok (.agg L.flat.toArray) w := by
  have hl : L.cells.length = 1027 := by
    unfold SLog.cells
    have := SLog.flat_len h.2
    unfold SLog.flat at this
    simp [this]
  have := run_loadMid (P := Try.prog) 125 3 1024 _ h.1 infoEntries Try.underlying125 rfl (by omega)
  rw [SLog.cells_drop L h.2] at this
  exact this
theorem run_load_entry {w : World} {g : Nat} {a c d e : Value} (h : w.heap[g]? = some (.cells #[a, c, d, e] 124 (0, 0))) : (loadVar 124 ⟨g, 0, none⟩).run Try.prog w = .ok (.agg #[a, c, d, e]) w :=
  run_loadMid (P := Try.prog) (C := [a, c, d, e]) 124 0 4 _ h infoEntry Try.underlying124 rfl (by simp)
theorem run_index_entries {w : World} {L : SLog} (h : L.ok) (i : Nat) (hi : i < 256) :
    (Instr.index 125 (.agg L.flat.toArray) (.int .i64 i)).run Try.prog w =
      .ok (.agg #[.int .u32 (EntsAt L i).s, .int .i64 (EntsAt L i).c, .int .i64 (EntsAt L i).f, .int .i64 (EntsAt L i).k]) w := by
  have h1 := SLog.flat_take h hi
  have hb : (i : Int) < 256 := by omega
  obtain ⟨j, hj, hn⟩ : ∃ j, Try.prog.info? 124 = some j ∧ j.size = 4 := by
    have := infoEntry
    cases h : Try.prog.info? 124 with
    | none => rw [h] at this; cases this
    | some i => rw [h] at this; exact ⟨i, rfl, by simpa using this⟩
  unfold Instr.index part sizeOf typeInfo isAgg
  simp [asIntOf, Sem.run_bind, run_underlying Try.underlying125, run_underlying Try.underlying124, hb, program, Sem.run, hj, hn]
  rw [if_pos hi, h1]
  rfl

theorem find_none (b : Nat) (w : World) (n : Int) (h0 : w.cell? ⟨b, 0, none⟩ = some (.bool true)) (hn : (n == 0) = true) :
    Calls Try.prog 110 #[.pointer (some ⟨b, 0, none⟩), .int .u32 n] w fun e w' => e = .returned (.tuple #[.agg #[.int .u32 0, .int .i64 0, .int .i64 0, .int .i64 0], .bool false]) ∧ Same w w' := by
  have hlt := World.block_lt_of_cell? w _ h0
  have hlt' : b ≠ w.heap.size := by have : b < w.heap.size := hlt; omega
  go_enter Try.func110, Try.ntmps110
  go_wp2
  go_step3
  go_wp2_with (go_at_call 65; refine (usable_ok _ _ ?_).mono ?_; rotate_left 1; rintro e w' ⟨rfl, rfl⟩; rotate_left 1; go_simp)
  rw [Exit.noGoto_ret]
  exact bodyPost_ret (v := .tuple #[.agg #[.int .u32 0, .int .i64 0, .int .i64 0, .int .i64 0], .bool false]) (by simp [results, Try.results110, go_sem]) rfl ⟨rfl, (Chg.refl _ w).alloc _⟩

def entZ : Array Value := #[.int .u32 0, .int .i64 0, .int .i64 0, .int .i64 0]
/-- What holds at the head of Find's i-th round. -/
def FindRel (w : World) (b : Nat) (L : SLog) (n : Int) (v : Value) (wr : World) : Prop :=
  ∃ i : Nat, i ≤ 256 ∧ v = .int .i64 i ∧ (∀ j, j < i → hitB n (EntsAt L j) = false) ∧ wr.heap[w.heap.size]? = some (.cells entZ 124 (0, 0)) ∧ wr.heap[w.heap.size + 1]? = some (.cells entZ 124 (0, 0)) ∧ Same w wr

/-- What Find hands back. -/
def entRes (e : Ent) : Value := .tuple #[.agg #[.int .u32 e.s, .int .i64 e.c, .int .i64 e.f, .int .i64 e.k], .bool (e.c != 0)]
theorem ents_split {L : SLog} (h : L.ok) : L.ents = (List.range 256).map (EntsAt L) := by
  apply List.ext_getElem
  · simp [h.len]
  · intro i h1 h2
    have : i < 256 := by simpa using h2
    simp [EntsAt, List.getElem?_eq_getElem h1]
theorem find_first {α : Type} (p : α → Bool) (g : Nat → α) (m : Nat) : ∀ i, i < m → (∀ j, j < i → p (g j) = false) → p (g i) = true → ((List.range m).map g).find? p = some (g i) := by
  intro i hi hn hp
  rw [List.find?_map]
  have : (List.range m).find? (p ∘ g) = some i := by
    rw [List.find?_range_eq_some]
    exact ⟨hp, List.mem_range.2 hi, fun j hj => by simp [hn j hj]⟩
  rw [this]; rfl
theorem find_nobody {α : Type} (p : α → Bool) (g : Nat → α) (m : Nat) (hn : ∀ j, j < m → p (g j) = false) : ((List.range m).map g).find? p = none := by
  rw [List.find?_eq_none]
  intro x hx
  simp at hx
  obtain ⟨j, hj, rfl⟩ := hx
  simp [hn j hj]
theorem SLog.find_hit {L : SLog} (h : L.ok) {n : Int} (hn : n ≠ 0) {i : Nat} (hi : i < 256) (hno : ∀ j, j < i → hitB n (EntsAt L j) = false) (hh : hitB n (EntsAt L i) = true) : L.find n = EntsAt L i := by
  unfold SLog.find
  rw [if_neg hn, ents_split h, find_first _ _ _ i hi hno hh]; rfl
theorem SLog.find_miss {L : SLog} (h : L.ok) {n : Int} (hn : n ≠ 0) (hno : ∀ j, j < 256 → hitB n (EntsAt L j) = false) : L.find n = Ent.zero := by
  unfold SLog.find
  rw [if_neg hn, ents_split h, find_nobody _ _ _ hno]; rfl

set_option maxRecDepth 100000 in
set_option maxHeartbeats 1000000 in
theorem find_some (b : Nat) (w : World) (n : Int) (L : SLog) (h : LogAt w b L) (hn : (n == 0) = false) :
    Calls Try.prog 110 #[.pointer (some ⟨b, 0, none⟩), .int .u32 n] w fun e w' => e = .returned (entRes (L.find n)) ∧ Same w w' := by
  have h0 := h.c0
  have hlt := World.block_lt_of_cell? w _ h0
  have hlt' : b ≠ w.heap.size := by have : b < w.heap.size := hlt; omega
  go_enter Try.func110, Try.ntmps110
  go_wp2
  go_step3
  go_wp2_with (first | (go_at_call 65; refine (usable_ok _ _ ?_).mono ?_; rotate_left 1; rintro e w' ⟨rfl, rfl⟩; rotate_left 1; go_simp) | (refine wpl_loadv (t := 125) _ ⟨b, 3, none⟩ (.agg L.flat.toArray) ?_ (run_load_entries (h.chg (((Chg.refl (fun _ => False) w).alloc _).alloc _) (fun q => q))) ?_; · simp [Act.eval]))
  go_step3
  go_wp2_with (first | (refine wpl_loadv (t := 125) _ ⟨b, 3, none⟩ (.agg L.flat.toArray) ?_ (run_load_entries (h.chg (((Chg.refl (fun _ => False) w).alloc _).alloc _) (fun q => q))) ?_; · simp [Act.eval]))
  go_loopw [21] (fun v wr => FindRel w b L n v wr) (fun v _ => 256 - (intOf v).toNat)
  case atStart =>
    exact ⟨0, by omega, rfl, fun j hj => by omega, heap_alloc2_old _ _ _, heap_alloc2_new _ _ _, ((Chg.refl _ w).alloc _).alloc _⟩
  case round =>
    obtain ⟨i, hi, rfl, hno, hz0, hz1, hsame⟩ := hrel
    have c10 := cell_at (C := entZ.toList) hz1 0
    have c11 := cell_at (C := entZ.toList) hz1 1
    have c12 := cell_at (C := entZ.toList) hz1 2
    have c13 := cell_at (C := entZ.toList) hz1 3
    have c00 := cell_at (C := entZ.toList) hz0 0
    have c01 := cell_at (C := entZ.toList) hz0 1
    have c02 := cell_at (C := entZ.toList) hz0 2
    have c03 := cell_at (C := entZ.toList) hz0 3
    simp only [entZ, List.getElem?_cons_zero, List.getElem?_cons_succ] at c10 c11 c12 c13 c00 c01 c02 c03
    have f1 := frozen_at hz1
    have f0 := frozen_at hz0
    have l1 : w.heap.size + 1 < wr.heap.size := lt_of_at hz1
    have l0 : w.heap.size < wr.heap.size := lt_of_at hz0
    have HS := Lib.hid hsame
    have HN := Lib.hid hno
    have HZ := Lib.hid (And.intro hz0 hz1)
    have HL := Lib.hid h
    by_cases hlt2 : i < 256
    · have hix := fun (w' : World) => run_index_entries (w := w') h.2 i hlt2
      have hb2 : (i : Int) < 256 := by omega
      obtain ⟨s, c, f, k, he⟩ : ∃ s c f k, EntsAt L i = ⟨s, c, f, k⟩ := ⟨_, _, _, _, rfl⟩
      rw [he] at hix
      have HE := Lib.hid he
      clear hno hz0 hz1 hsame h he
      by_cases hs : (s == n) = true
      · by_cases hc : (c != 0) = true
        · go_wp2
          go_region
          go_wp2
          rw [Exit.noGoto_ret]
          have hfin : L.find n = ⟨s, c, f, k⟩ := by
            rw [SLog.find_hit HL.out.2 (by simpa using hn) hlt2 HN.out (by rw [HE.out]; simp [hitB, hs, hc]), HE.out]
          refine bodyPost_ret (results_cell_tmp Try.results110 rfl (run_load_entry (a := .int .u32 s) (c := .int .i64 c) (d := .int .i64 f) (e := .int .i64 k) ?_)) rfl ⟨?_, ?_⟩
          · rw [heap_drew]
            refine at_alloc ?_
            refine at_setCell (C := [.int .u32 s, .int .i64 c, .int .i64 f, .int .i64 0]) _ ?_
            refine at_setCell (C := [.int .u32 s, .int .i64 c, .int .i64 0, .int .i64 0]) _ ?_
            refine at_setCell (C := [.int .u32 s, .int .i64 0, .int .i64 0, .int .i64 0]) _ ?_
            refine at_setCell (C := entZ.toList) _ ?_
            repeat refine at_setCell_other _ (by omega) ?_
            exact HZ.out.1
          · rw [hfin]; simp [entRes, hc]
          ·
            repeat (first | (with_reducible refine Chg.drew ?_) | (with_reducible refine Chg.drewN ?_ _) | (with_reducible refine Chg.alloc ?_ _) | (with_reducible refine Chg.setCell ?_ _ _ ?_; rotate_left 1; · (intro q; first | (simp; done) | (exfalso; revert q; simp; done) | (exfalso; revert q; simp; omega) | (simp; omega))))
            exact HS.out
        · have hc' : (c != 0) = false := by simpa using hc
          clear hc
          go_wp2
          go_roundw
          case rel =>
            exact ⟨i + 1, by omega, by go_num, fun j hj => by
              rcases Nat.lt_succ_iff_lt_or_eq.1 hj with h1 | rfl
              · exact HN.out j h1
              · rw [HE.out]; simp [hitB, hc'], at_alloc HZ.out.1, at_alloc HZ.out.2, HS.out.alloc _⟩
          case measure => simp [intOf]; omega
      · have hs' : (s == n) = false := by simpa using hs
        clear hs
        go_wp2
        go_roundw
        case rel =>
          exact ⟨i + 1, by omega, by go_num, fun j hj => by
            rcases Nat.lt_succ_iff_lt_or_eq.1 hj with h1 | rfl
            · exact HN.out j h1
            · rw [HE.out]; simp [hitB, hs'], at_alloc HZ.out.1, at_alloc HZ.out.2, HS.out.alloc _⟩
        case measure => simp [intOf]; omega
    · have hb2 : ¬ (i : Int) < 256 := by omega
      clear hno hz0 hz1 hsame h
      go_wp2
      go_region
      go_wp2
      rw [Exit.noGoto_ret]
      have hfin : L.find n = Ent.zero := SLog.find_miss HL.out.2 (by simpa using hn) (fun j hj => HN.out j (by omega))
      refine bodyPost_ret (results_cell_tmp Try.results110 rfl (run_load_entry (a := .int .u32 0) (c := .int .i64 0) (d := .int .i64 0) (e := .int .i64 0) ?_)) rfl ⟨?_, ?_⟩
      · rw [heap_drew]
        refine at_setCell (C := entZ.toList) _ ?_
        refine at_setCell (C := entZ.toList) _ ?_
        refine at_setCell (C := entZ.toList) _ ?_
        refine at_setCell (C := entZ.toList) _ ?_
        exact HZ.out.1
      · rw [hfin]; rfl
      ·
        repeat (first | (with_reducible refine Chg.drew ?_) | (with_reducible refine Chg.drewN ?_ _) | (with_reducible refine Chg.alloc ?_ _) | (with_reducible refine Chg.setCell ?_ _ _ ?_; rotate_left 1; · (intro q; first | (simp; done) | (exfalso; revert q; simp; done) | (exfalso; revert q; simp; omega) | (simp; omega))))
        exact HS.out
end Go.Proofs.Yteolilggeaffaaa

namespace Go.Proofs.Yteolilggeaffaaa
open Go.RowKit

theorem entRes_zero : entRes Ent.zero = .tuple #[.agg #[.int .u32 0, .int .i64 0, .int .i64 0, .int .i64 0], .bool false] := rfl
theorem find_ok (b : Nat) (w : World) (n : Int) (L : SLog) (h : LogAt w b L) :
    Calls Try.prog 110 #[.pointer (some ⟨b, 0, none⟩), .int .u32 n] w fun e w' => e = .returned (entRes (L.find n)) ∧ Same w w' := by
  by_cases hn : n = 0
  · have : L.find n = Ent.zero := by unfold SLog.find; rw [if_pos hn]
    rw [this, entRes_zero]
    exact find_none b w n h.c0 (by simpa using hn)
  · exact find_some b w n L h (by simpa using hn)

set_option maxRecDepth 100000 in
theorem check_ok (b : Nat) (w : World) (n client kinds : Int) (L : SLog) (h : LogAt w b L) :
    Calls Try.prog 109 #[.pointer (some ⟨b, 0, none⟩), .int .u32 n, .int .i64 client, .int .i64 kinds] w fun e w' => e = .returned (.int .i64 (L.check n client kinds)) ∧ Same w w' := by
  have hbd := (SLog.find_ok h.2 n).bounds
  have hf := find_ok b w n L h
  have h0 := h.c0
  clear h
  have hck : L.check n client kinds = if (L.find n).c = 0 then 13 else if fitB (L.find n).c (L.find n).k client kinds then 0 else 13 := rfl
  rw [hck]
  clear hck
  generalize L.find n = x at *
  obtain ⟨s, c, f, k⟩ := x
  simp only [entRes] at hf
  obtain ⟨_, _, _, _, _, _, hk0, hk1⟩ := hbd
  simp only at hk0 hk1 ⊢
  have HF := Lib.hid hf
  clear hf
  by_cases hc : c = 0
  · have hc' : (c != 0) = false := by simp [hc]
    rw [if_pos hc]
    rw [hc'] at HF
    clear hc hc'
    go_enter Try.func109, Try.ntmps109
    go_wp2_with (first | (go_at_call 65; refine (usable_ok _ _ (by assumption)).mono ?_; rintro e w' ⟨rfl, rfl⟩) | (go_at_call 110; refine HF.out.mono ?_; rintro e w1 ⟨rfl, hs1⟩; have HS := Lib.hid hs1; clear hs1))
    go_ret
    refine ⟨rfl, ?_⟩
    repeat (first | (with_reducible refine Chg.drew ?_) | (with_reducible refine Chg.drewN ?_ _) | (with_reducible refine Chg.alloc ?_ _) | (with_reducible refine Chg.setCell ?_ _ _ ?_; rotate_left 1; · (intro q; first | (simp; done) | (exfalso; revert q; simp; done) | (exfalso; revert q; simp; omega) | (simp; omega))))
    exact HS.out
  · have hc' : (c != 0) = true := by simp [hc]
    rw [if_neg hc]
    rw [hc'] at HF
    have hm := fun w => matches_ok s c f k client kinds w hk0 hk1
    have HM := Lib.hid hm
    clear hm hc hc'
    cases hfit : fitB c k client kinds with
    | true =>
      rw [hfit] at HM
      rw [if_pos rfl]
      clear hfit
      go_enter Try.func109, Try.ntmps109
      go_wp2_with (first | (go_at_call 65; refine (usable_ok _ _ (by assumption)).mono ?_; rintro e w' ⟨rfl, rfl⟩) | (go_at_call 110; refine HF.out.mono ?_; rintro e w1 ⟨rfl, hs1⟩; have HS := Lib.hid hs1; clear hs1) | (go_at_call 113; refine (HM.out _).mono ?_; rintro e w2 ⟨rfl, hs2⟩; have HS2 := Lib.hid hs2; clear hs2))
      go_ret
      refine ⟨rfl, Chg.trans ?_ HS2.out⟩
      repeat (first | (with_reducible refine Chg.drew ?_) | (with_reducible refine Chg.drewN ?_ _) | (with_reducible refine Chg.alloc ?_ _) | (with_reducible refine Chg.setCell ?_ _ _ ?_; rotate_left 1; · (intro q; first | (simp; done) | (exfalso; revert q; simp; done) | (exfalso; revert q; simp; omega) | (simp; omega))))
      exact HS.out
    | false =>
      rw [hfit] at HM
      rw [if_neg (by decide)]
      clear hfit
      go_enter Try.func109, Try.ntmps109
      go_wp2_with (first | (go_at_call 65; refine (usable_ok _ _ (by assumption)).mono ?_; rintro e w' ⟨rfl, rfl⟩) | (go_at_call 110; refine HF.out.mono ?_; rintro e w1 ⟨rfl, hs1⟩; have HS := Lib.hid hs1; clear hs1) | (go_at_call 113; refine (HM.out _).mono ?_; rintro e w2 ⟨rfl, hs2⟩; have HS2 := Lib.hid hs2; clear hs2))
      go_ret
      refine ⟨rfl, Chg.trans ?_ HS2.out⟩
      repeat (first | (with_reducible refine Chg.drew ?_) | (with_reducible refine Chg.drewN ?_ _) | (with_reducible refine Chg.alloc ?_ _) | (with_reducible refine Chg.setCell ?_ _ _ ?_; rotate_left 1; · (intro q; first | (simp; done) | (exfalso; revert q; simp; done) | (exfalso; revert q; simp; omega) | (simp; omega))))
      exact HS.out
end Go.Proofs.Yteolilggeaffaaa

namespace Go.Proofs.Yteolilggeaffaaa
open Go.RowKit

/-! ### Latest -/
theorem run_load_ent {w : World} {b : Nat} {L : SLog} (h : LogAt w b L) (i : Nat) (hi : i < 256) :
    (loadVar 124 ⟨b, 3 + i * 4, none⟩).run Try.prog w = .ok (.agg #[.int .u32 (EntsAt L i).s, .int .i64 (EntsAt L i).c, .int .i64 (EntsAt L i).f, .int .i64 (EntsAt L i).k]) w := by
  have hl : L.cells.length = 1027 := by
    unfold SLog.cells
    have := SLog.flat_len h.2
    unfold SLog.flat at this
    simp [this]
  have := run_loadMid (P := Try.prog) 124 (3 + i * 4) 4 _ h.1 infoEntry Try.underlying124 rfl (by omega)
  have e : (L.cells.drop (3 + i * 4)).take 4 = (EntsAt L i).cells := by
    have := SLog.flat_take h.2 hi
    unfold SLog.cells
    have e3 : 3 + i * 4 = i * 4 + 1 + 1 + 1 := by omega
    rw [e3]
    simp only [List.drop_succ_cons]
    exact this
  rw [e] at this
  exact this

theorem back_eq (a i : Nat) (ha : a < 256) (hi : i < 256) : (IntKind.i64.wrap (IntKind.i64.wrap (IntKind.i64.wrap ((a : Int) + 256) - 1) - (i : Int))).tmod 256 = (((a + 256 - 1 - i) % 256 : Nat) : Int) := by
  have e1 : IntKind.i64.wrap ((a : Int) + 256) = (a : Int) + 256 := IntWalk.i64_in _ (by omega)
  have e2 : IntKind.i64.wrap ((a : Int) + 256 - 1) = (a : Int) + 256 - 1 := IntWalk.i64_in _ (by omega)
  have e3 : IntKind.i64.wrap ((a : Int) + 256 - 1 - (i : Int)) = (a : Int) + 256 - 1 - (i : Int) := IntWalk.i64_in _ (by omega)
  rw [e1, e2, e3, Int.tmod_eq_emod_of_nonneg (by omega)]
  omega
def LatRel (w : World) (L : SLog) (client kinds : Int) (v : Value) (wr : World) : Prop :=
  ∃ i : Nat, i ≤ 256 ∧ v = .int .i64 i ∧ (∀ j, j < i → fitB (EntsAt L (L.back j)).c (EntsAt L (L.back j)).k client kinds = false) ∧ Same w wr

set_option maxRecDepth 100000 in
set_option maxHeartbeats 1000000 in
theorem latest_ok (b : Nat) (w : World) (client kinds : Int) (L : SLog) (h : LogAt w b L) :
    Calls Try.prog 112 #[.pointer (some ⟨b, 0, none⟩), .int .i64 client, .int .i64 kinds] w fun e w' => e = .returned (.int .u32 (L.latest client kinds)) ∧ Same w w' := by
  have h0 := h.c0
  have HL := Lib.hid h
  clear h
  go_enter Try.func112, Try.ntmps112
  go_wp2_with (first | (go_at_call 65; refine (usable_ok _ _ (by assumption)).mono ?_; rintro e w' ⟨rfl, rfl⟩))
  go_loopw [12] (fun v wr => LatRel w L client kinds v wr) (fun v _ => 256 - (intOf v).toNat)
  case atStart => exact ⟨0, by omega, rfl, fun j hj => by omega, Chg.refl _ w⟩
  case round =>
    obtain ⟨i, hi, rfl, hno, hsame⟩ := hrel
    have hL := HL.out.chg hsame (fun q => q)
    have c2 := hL.c2
    have HS := Lib.hid hsame
    have HN := Lib.hid hno
    have HR := Lib.hid hL
    have ha := hL.2.at_lt
    have ha' : (L.at_ : Int) < 256 := by omega
    clear hsame hno hL h0
    by_cases hlt2 : i < 256
    · have hb2 : (i : Int) < 256 := by omega
      have hback := back_eq L.at_ i ha hlt2
      have hlb : L.back i < 256 := Nat.mod_lt _ (by omega)
      have hbi : L.back i = (L.at_ + 256 - 1 - i) % 256 := rfl
      rw [← hbi] at hback
      have g0 := HR.out.e0 hlb
      have g1 := HR.out.e1 hlb
      have g2 := HR.out.e2 hlb
      have g3 := HR.out.e3 hlb
      have hek := (EntsAt_ok HR.out.2 (L.back i)).bounds
      have HX : Hid (EntsAt L (L.back i) = EntsAt L (L.back i)) := rfl
      clear hbi
      generalize hp : L.back i = p at *
      generalize he : EntsAt L p = x at *
      obtain ⟨s, c, f, k⟩ := x
      obtain ⟨_, _, _, _, _, _, hk0, hk1⟩ := hek
      simp only at hk0 hk1 g0 g1 g2 g3
      have HP := Lib.hid hp
      have HE := Lib.hid he
      have hp' : (p : Int) < 256 := by omega
      have HM := Lib.hid (fun w => matches_ok s c f k client kinds w hk0 hk1)
      clear hp he HX
      have hLn : b < wr.heap.size := lt_of_at HR.out.1
      cases hfit : fitB c k client kinds with
      | true =>
        rw [hfit] at HM
        have HFit := Lib.hid hfit
        clear hfit
        go_wp2
        go_region
        all_goals
          go_wp2_with (go_at_call 113; refine (HM.out _).mono ?_; rintro e w2 ⟨rfl, hs2⟩; have cx := hs2.cell (b := wr.heap.size) (o := 0) (x := .int .u32 s) (by simp) (fun q => q); have HS2 := Lib.hid hs2; clear hs2)
          go_ret
          have hfin : L.latest client kinds = s := by
            unfold SLog.latest
            rw [find_first (fun e => fitB e.c e.k client kinds) (fun i => EntsAt L (L.back i)) 256 i hlt2 HN.out (by rw [HP.out, HE.out]; exact HFit.out), HP.out, HE.out]
            rfl
          refine ⟨by rw [hfin]; rfl, Chg.trans ?_ HS2.out⟩
          repeat (first | (with_reducible refine Chg.drew ?_) | (with_reducible refine Chg.drewN ?_ _) | (with_reducible refine Chg.alloc ?_ _) | (with_reducible refine Chg.setCell ?_ _ _ ?_; rotate_left 1; · (intro q; first | (simp; done) | (exfalso; revert q; simp; done) | (exfalso; revert q; simp; omega) | (simp; omega))))
          exact HS.out
      | false =>
        rw [hfit] at HM
        have HFit := Lib.hid hfit
        clear hfit
        go_wp2
        go_region
        all_goals
          go_wp2_with (go_at_call 113; refine (HM.out _).mono ?_; rintro e w2 ⟨rfl, hs2⟩; have HS2 := Lib.hid hs2; clear hs2)
          go_roundw
          case rel =>
            refine ⟨i + 1, by omega, by go_num, fun j hj => ?_, Chg.trans ?_ HS2.out⟩
            · rcases Nat.lt_succ_iff_lt_or_eq.1 hj with h1 | rfl
              · exact HN.out j h1
              · rw [HP.out, HE.out]; exact HFit.out
            ·
              repeat (first | (with_reducible refine Chg.drew ?_) | (with_reducible refine Chg.drewN ?_ _) | (with_reducible refine Chg.alloc ?_ _) | (with_reducible refine Chg.setCell ?_ _ _ ?_; rotate_left 1; · (intro q; first | (simp; done) | (exfalso; revert q; simp; done) | (exfalso; revert q; simp; omega) | (simp; omega))))
              exact HS.out
          case measure => simp [intOf]; omega
    · have hb2 : ¬ (i : Int) < 256 := by omega
      go_wp2
      go_ret
      have hfin : L.latest client kinds = 0 := by
        unfold SLog.latest
        rw [find_nobody (fun e => fitB e.c e.k client kinds) (fun i => EntsAt L (L.back i)) 256 (fun j hj => HN.out j (by omega))]
        rfl
      exact ⟨by rw [hfin]; rfl, HS.out⟩
end Go.Proofs.Yteolilggeaffaaa
