/- compositorref40.Common and Same. -/
import Derived.Test.YtnbmpdjphmbofaaCom40
import Derived.Test.YtnbmpdjphmbofaaUChk
set_option linter.unusedVariables false
set_option linter.unusedSimpArgs false
set_option maxRecDepth 100000
namespace Go.Proofs.Ytnbmpdjphmbofaa
open Go.RowKit

theorem own_same {w0 w1 : World} {base e size n : Nat} {v : Value} {ys : List Value} {S : Nat → Prop} (h : w0.ownsRow base e size v n ys) (k : Chg S w0 w1) (hs : ∀ x, v.ownBlock = some x → ¬ S x) : w1.ownsRow base e size v n ys := by
  refine ⟨h.1, ?_⟩
  rcases h.2 with hn | ⟨g, cap, cur, rfl, hb, hgg, rest⟩
  · exact .inl hn
  · exact .inr ⟨g, cap, cur, rfl, hb, k.at_ hgg (hs g rfl), rest⟩
theorem ComS.keep {w wr wr' : World} {VA VB : Value} {aA aB acts : Int} {T : TypeId} {v : Value} {out : List ByteArray} (h : ComS w wr VA VB aA aB acts T v out) (k : Same wr wr') : ComS w wr' VA VB aA aB acts T v out :=
  ⟨h.same.trans k, k.at_ h.ha (fun q => q), k.at_ h.hb (fun q => q), k.at_ h.hr (fun q => q), k.at_ h.ho (fun q => q), ⟨own_same h.own.own k (fun _ _ q => q), Nat.le_trans h.own.le k.size⟩⟩

set_option maxRecDepth 100000 in
set_option maxHeartbeats 8000000 in
theorem ucommon_ok (A : Option Addr) (n cap : Nat) (fs : List ByteArray) (aA : Int) (B : Option Addr) (m cb : Nat) (gs : List ByteArray) (aB : Int) (w : World) (h : StrsAt w A n fs) (hn : n ≤ 40) (hg : StrsAt w B m gs) (hm : m ≤ 40) :
    Calls Try.prog 25 #[.agg #[.slice A n cap, .int .i64 aA], .agg #[.slice B m cb, .int .i64 aB]] w (ComOut fs gs (commonV aA aB) w) := by
  have HA := Lib.hid h
  have HB := Lib.hid hg
  clear h hg
  unfold commonV
  go_enter Try.func25, Try.ntmps25
  go_wp2_with fail
  go_loopg [6] n (fun g v6 wr => ∃ (i : Nat) (v : Value) (out : List ByteArray), i ≤ n ∧ g = n - i ∧ v6 = .int .i64 i ∧ out.length ≤ i ∧ comV fs gs = comFrom gs out (fs.drop i) ∧
    ComS w wr (.slice A n cap) (.slice B m cb) aA aB (bits BinOp.and IntKind.i64 (bits BinOp.and IntKind.i64 aA aB) 7) 24 v out)
  case atStart =>
    refine ⟨0, .slice none 0 0, [], by omega, by omega, rfl, by simp, rfl, ?_, at_alloc (at_alloc (at_alloc (at_new _ _))), at_alloc (at_alloc (at_new2 _ _ _)), at_alloc (at_new3 _ _ _ _), at_new4 _ _ _ _ _, ⟨World.ownsRow_nil _ _ _ _, by simp⟩⟩
    repeat (first | (with_reducible refine Chg.drew ?_) | (with_reducible refine Chg.drewN ?_ _) | (with_reducible refine Chg.alloc ?_ _) | (with_reducible refine Chg.setCell ?_ _ _ ?_; rotate_left 1; · (intro q; first | (simp; done) | (exfalso; revert q; simp; done) | (exfalso; revert q; simp; omega) | (simp; omega))))
    exact (Chg.refl _ w)
  case round =>
    obtain ⟨i, v, out, hi, hg, rfl, hol, hcom, hst⟩ := hrel
    obtain ⟨A', cap', rfl, hsa⟩ := StrsAt.of_own hst.own.own
    have HG := Lib.hid hg
    have HST := Lib.hid hst
    have HCOM := Lib.hid hcom
    have HSA := Lib.hid hsa
    have a0 := cell_at (C := [.slice A n cap, .int .i64 aA]) hst.ha 0
    have b0 := cell_at (C := [.slice B m cb, .int .i64 aB]) hst.hb 0
    have o0 := cell_at (C := [.slice A' out.length cap', .int .i64 (bits BinOp.and IntKind.i64 (bits BinOp.and IntKind.i64 aA aB) 7)]) hst.ho 0
    have o1 := cell_at (C := [.slice A' out.length cap', .int .i64 (bits BinOp.and IntKind.i64 (bits BinOp.and IntKind.i64 aA aB) 7)]) hst.ho 1
    have r0 := cell_at (C := [.slice none 0 0, .int .i64 0]) hst.hr 0
    have r1 := cell_at (C := [.slice none 0 0, .int .i64 0]) hst.hr 1
    simp only [List.getElem?_cons_zero, List.getElem?_cons_succ] at a0 b0 o0 o1 r0 r1
    have fO := frozen_at hst.ho
    have fR := frozen_at hst.hr
    have hOs := hst.own.le
    have HOU : Hid (∀ k, k ≤ w.heap.size + 1 + 1 + 1 → some k ≠ (Value.slice A' out.length cap').ownBlock) := Lib.hid fun k hk e => by have := hst.own.own.lt _ e.symm; omega
    clear hg hst hcom hsa
    by_cases hlt : i < n
    · have hil : i < fs.length := by rw [HA.out.1]; exact hlt
      obtain ⟨b, o, rfl, hbl, hc⟩ := (HA.out.same HST.out.same).2 (by omega)
      obtain ⟨y, hy⟩ : ∃ y, y = fs[i] := ⟨_, rfl⟩
      have hy2 : fs[i]? = some y := by rw [hy]; exact List.getElem?_eq_getElem hil
      have hcell := hc i y hy2
      have HD := Lib.hid (show comV fs gs = comFrom gs (comStep gs out y) (fs.drop (i + 1)) by rw [HCOM.out, List.drop_eq_getElem_cons hil, ← hy]; rfl)
      have hii : (i : Int) < n := by omega
      have HOUB : Hid (some b ≠ (Value.slice A' out.length cap').ownBlock) := Lib.hid fun e => by have h1 := HST.out.own.own.lt _ e.symm; obtain ⟨b2, o2, h2, h3, _⟩ := HA.out.2 (by omega); injection h2 with h2; injection h2 with h2; omega
      clear hc hy hy2 hbl hil
      cases hh : hasS gs y
      · have HH := Lib.hid hh
        clear hh
        as_aux_lemma =>
          go_wp2_with fail
          refine region_path (S := (fun w' => w'.cell? ⟨w.heap.size, 0, none⟩ = some (.slice (some ⟨b, o, none⟩) n cap) ∧ w'.cell? ⟨w.heap.size + 1, 0, none⟩ = some (.slice B m cb) ∧ w'.cell? ⟨w.heap.size + 1 + 1 + 1, 0, none⟩ = some (.slice A' out.length cap') ∧ w'.cell? ⟨b, o + i, none⟩ = some (.string y))) 99 [(0, true), (1, true), (2, true), (3, true), (4, true), (5, true), (6, true), (7, false), (8, true), (9, true), (10, true), (11, true), (12, true), (13, true), (14, true), (15, true), (16, true), (17, true), (18, true)] (by kernel_rfl) (by kernel_rfl) (by kernel_rfl) ⟨a0, b0, o0, hcell⟩ ?_
          refine path_read (i := 0) (v := ?v1_0) rfl (by rfl) (fun _ _ _ h => h) ?hy1_0 ?_
          case hy1_0 => ((intro w hSw; (try dsimp only at hSw); go_simp) <;> (try with_reducible rfl))
          try simp only [Act.put, List.setIfInBounds_toArray, List.set_cons_zero, List.set_cons_succ]
          refine path_read (i := 1) (v := ?v1_1) rfl (by rfl) (fun _ _ _ h => h) ?hy1_1 ?_
          case hy1_1 => ((intro w hSw; (try dsimp only at hSw); go_simp) <;> (try with_reducible rfl))
          try simp only [Act.put, List.setIfInBounds_toArray, List.set_cons_zero, List.set_cons_succ]
          refine path_read (i := 2) (v := ?v1_2) rfl (by rfl) (fun _ _ _ h => h) ?hy1_2 ?_
          case hy1_2 => ((intro w hSw; (try dsimp only at hSw); go_simp) <;> (try with_reducible rfl))
          try simp only [Act.put, List.setIfInBounds_toArray, List.set_cons_zero, List.set_cons_succ]
          refine path_read (i := 3) (v := ?v1_3) rfl (by rfl) (fun _ _ _ h => h) ?hy1_3 ?_
          case hy1_3 => ((intro w hSw; (try dsimp only at hSw); go_simp) <;> (try with_reducible rfl))
          try simp only [Act.put, List.setIfInBounds_toArray, List.set_cons_zero, List.set_cons_succ]
          refine path_read (i := 4) (v := ?v1_4) rfl (by rfl) (fun _ _ _ h => h) ?hy1_4 ?_
          case hy1_4 => ((intro w hSw; (try dsimp only at hSw); go_simp) <;> (try with_reducible rfl))
          try simp only [Act.put, List.setIfInBounds_toArray, List.set_cons_zero, List.set_cons_succ]
          refine path_read (i := 5) (v := ?v1_5) rfl (by rfl) (fun _ _ _ h => h) ?hy1_5 ?_
          case hy1_5 => ((intro w hSw; (try dsimp only at hSw); go_simp) <;> (try with_reducible rfl))
          try simp only [Act.put, List.setIfInBounds_toArray, List.set_cons_zero, List.set_cons_succ]
          refine path_read (i := 6) (v := ?v1_6) rfl (by rfl) (fun _ _ _ h => h) ?hy1_6 ?_
          case hy1_6 => ((intro w hSw; (try dsimp only at hSw); go_simp) <;> (try with_reducible rfl))
          try simp only [Act.put, List.setIfInBounds_toArray, List.set_cons_zero, List.set_cons_succ]
          refine path_do (i := 7) rfl ?_
          go_wp2_with ((go_at_call 20; refine (uhas_v _ _ m cb gs y _ ((HB.out.same HST.out.same).same (Chg.refl (fun _ => False) wr).drew) (by omega) HH.out).mono ?_; rintro e w9 ⟨rfl, rfl⟩))
          (first | refine ⟨.inr ?keep1_7, ?_⟩ | refine ⟨?keep1_7, ?_⟩)
          case keep1_7 => ((exact ⟨a0, b0, o0, hcell⟩))
          try simp only [Act.put, List.setIfInBounds_toArray, List.set_cons_zero, List.set_cons_succ]
          refine path_read (i := 8) (v := ?v1_8) rfl (by rfl) (fun _ _ _ h => h) ?hy1_8 ?_
          case hy1_8 => ((intro w hSw; (try dsimp only at hSw); go_simp) <;> (try with_reducible rfl))
          try simp only [Act.put, List.setIfInBounds_toArray, List.set_cons_zero, List.set_cons_succ]
          refine path_pass (i := 9) rfl (by rfl) (fun _ _ _ h => h) ?_
          try simp only [Act.put, List.setIfInBounds_toArray, List.set_cons_zero, List.set_cons_succ]
          refine path_pass (i := 10) rfl (by rfl) (fun _ _ _ h => h) ?_
          try simp only [Act.put, List.setIfInBounds_toArray, List.set_cons_zero, List.set_cons_succ]
          refine path_pass (i := 11) rfl (by rfl) (fun _ _ _ h => h) ?_
          try simp only [Act.put, List.setIfInBounds_toArray, List.set_cons_zero, List.set_cons_succ]
          refine path_pass (i := 12) rfl (by rfl) (fun _ _ _ h => h) ?_
          try simp only [Act.put, List.setIfInBounds_toArray, List.set_cons_zero, List.set_cons_succ]
          refine path_pass (i := 13) rfl (by rfl) (fun _ _ _ h => h) ?_
          try simp only [Act.put, List.setIfInBounds_toArray, List.set_cons_zero, List.set_cons_succ]
          refine path_pass (i := 14) rfl (by rfl) (fun _ _ _ h => h) ?_
          try simp only [Act.put, List.setIfInBounds_toArray, List.set_cons_zero, List.set_cons_succ]
          refine path_pass (i := 15) rfl (by rfl) (fun _ _ _ h => h) ?_
          try simp only [Act.put, List.setIfInBounds_toArray, List.set_cons_zero, List.set_cons_succ]
          refine path_pass (i := 16) rfl (by rfl) (fun _ _ _ h => h) ?_
          try simp only [Act.put, List.setIfInBounds_toArray, List.set_cons_zero, List.set_cons_succ]
          refine path_pass (i := 17) rfl (by rfl) (fun _ _ _ h => h) ?_
          try simp only [Act.put, List.setIfInBounds_toArray, List.set_cons_zero, List.set_cons_succ]
          refine path_read (i := 18) (v := ?v1_18) rfl (by rfl) (fun _ _ _ h => h) ?hy1_18 ?_
          case hy1_18 => ((intro w hSw; (try dsimp only at hSw); go_simp) <;> (try with_reducible rfl))
          try simp only [Act.put, List.setIfInBounds_toArray, List.set_cons_zero, List.set_cons_succ]
          refine path_end ?_
          go_wp2
          go_roundg (n - (i + 1))
          case measure => have := HG.out; omega
          case rel => exact ⟨i + 1, _, out, by omega, by rfl, by go_num, by omega, by rw [HD.out]; unfold comStep; rw [HH.out]; rfl, HST.out.keep (Chg.refl _ _).drew⟩
      · have HH := Lib.hid hh
        clear hh
        cases hu : hasS out y
        · have HU := Lib.hid hu
          clear hu
          as_aux_lemma =>
            go_wp2_with fail
            refine region_path (S := (fun w' => w'.cell? ⟨w.heap.size, 0, none⟩ = some (.slice (some ⟨b, o, none⟩) n cap) ∧ w'.cell? ⟨w.heap.size + 1, 0, none⟩ = some (.slice B m cb) ∧ w'.cell? ⟨w.heap.size + 1 + 1 + 1, 0, none⟩ = some (.slice A' out.length cap') ∧ w'.cell? ⟨b, o + i, none⟩ = some (.string y))) 99 [(0, true), (1, true), (2, true), (3, true), (4, true), (5, true), (6, true), (7, false), (8, true), (9, true), (10, true), (11, true), (12, true), (13, true), (14, true), (15, true), (16, false), (17, true), (18, true)] (by kernel_rfl) (by kernel_rfl) (by kernel_rfl) ⟨a0, b0, o0, hcell⟩ ?_
            refine path_read (i := 0) (v := ?v2_0) rfl (by rfl) (fun _ _ _ h => h) ?hy2_0 ?_
            case hy2_0 => ((intro w hSw; (try dsimp only at hSw); go_simp) <;> (try with_reducible rfl))
            try simp only [Act.put, List.setIfInBounds_toArray, List.set_cons_zero, List.set_cons_succ]
            refine path_read (i := 1) (v := ?v2_1) rfl (by rfl) (fun _ _ _ h => h) ?hy2_1 ?_
            case hy2_1 => ((intro w hSw; (try dsimp only at hSw); go_simp) <;> (try with_reducible rfl))
            try simp only [Act.put, List.setIfInBounds_toArray, List.set_cons_zero, List.set_cons_succ]
            refine path_read (i := 2) (v := ?v2_2) rfl (by rfl) (fun _ _ _ h => h) ?hy2_2 ?_
            case hy2_2 => ((intro w hSw; (try dsimp only at hSw); go_simp) <;> (try with_reducible rfl))
            try simp only [Act.put, List.setIfInBounds_toArray, List.set_cons_zero, List.set_cons_succ]
            refine path_read (i := 3) (v := ?v2_3) rfl (by rfl) (fun _ _ _ h => h) ?hy2_3 ?_
            case hy2_3 => ((intro w hSw; (try dsimp only at hSw); go_simp) <;> (try with_reducible rfl))
            try simp only [Act.put, List.setIfInBounds_toArray, List.set_cons_zero, List.set_cons_succ]
            refine path_read (i := 4) (v := ?v2_4) rfl (by rfl) (fun _ _ _ h => h) ?hy2_4 ?_
            case hy2_4 => ((intro w hSw; (try dsimp only at hSw); go_simp) <;> (try with_reducible rfl))
            try simp only [Act.put, List.setIfInBounds_toArray, List.set_cons_zero, List.set_cons_succ]
            refine path_read (i := 5) (v := ?v2_5) rfl (by rfl) (fun _ _ _ h => h) ?hy2_5 ?_
            case hy2_5 => ((intro w hSw; (try dsimp only at hSw); go_simp) <;> (try with_reducible rfl))
            try simp only [Act.put, List.setIfInBounds_toArray, List.set_cons_zero, List.set_cons_succ]
            refine path_read (i := 6) (v := ?v2_6) rfl (by rfl) (fun _ _ _ h => h) ?hy2_6 ?_
            case hy2_6 => ((intro w hSw; (try dsimp only at hSw); go_simp) <;> (try with_reducible rfl))
            try simp only [Act.put, List.setIfInBounds_toArray, List.set_cons_zero, List.set_cons_succ]
            refine path_do (i := 7) rfl ?_
            go_wp2_with ((first | (go_at_call 20; (with_reducible refine (uhas_v _ _ m cb gs y _ ((HB.out.same HST.out.same).same (Chg.refl (fun _ => False) wr).drew) (by omega) HH.out).mono ?_); rintro e w9 ⟨rfl, rfl⟩) | (go_at_call 20; refine (uhas_v _ _ _ _ out y _ (HSA.out.1.same (Chg.refl (fun _ => False) wr).drew) (by omega) HU.out).mono ?_; rintro e w9 ⟨rfl, rfl⟩)))
            (first | refine ⟨.inr ?keep2_7, ?_⟩ | refine ⟨?keep2_7, ?_⟩)
            case keep2_7 => ((exact ⟨a0, b0, o0, hcell⟩))
            try simp only [Act.put, List.setIfInBounds_toArray, List.set_cons_zero, List.set_cons_succ]
            refine path_read (i := 8) (v := ?v2_8) rfl (by rfl) (fun _ _ _ h => h) ?hy2_8 ?_
            case hy2_8 => ((intro w hSw; (try dsimp only at hSw); go_simp) <;> (try with_reducible rfl))
            try simp only [Act.put, List.setIfInBounds_toArray, List.set_cons_zero, List.set_cons_succ]
            refine path_read (i := 9) (v := ?v2_9) rfl (by rfl) (fun _ _ _ h => h) ?hy2_9 ?_
            case hy2_9 => ((intro w hSw; (try dsimp only at hSw); go_simp) <;> (try with_reducible rfl))
            try simp only [Act.put, List.setIfInBounds_toArray, List.set_cons_zero, List.set_cons_succ]
            refine path_read (i := 10) (v := ?v2_10) rfl (by rfl) (fun _ _ _ h => h) ?hy2_10 ?_
            case hy2_10 => ((intro w hSw; (try dsimp only at hSw); go_simp) <;> (try with_reducible rfl))
            try simp only [Act.put, List.setIfInBounds_toArray, List.set_cons_zero, List.set_cons_succ]
            refine path_read (i := 11) (v := ?v2_11) rfl (by rfl) (fun _ _ _ h => h) ?hy2_11 ?_
            case hy2_11 => ((intro w hSw; (try dsimp only at hSw); go_simp) <;> (try with_reducible rfl))
            try simp only [Act.put, List.setIfInBounds_toArray, List.set_cons_zero, List.set_cons_succ]
            refine path_read (i := 12) (v := ?v2_12) rfl (by rfl) (fun _ _ _ h => h) ?hy2_12 ?_
            case hy2_12 => ((intro w hSw; (try dsimp only at hSw); go_simp) <;> (try with_reducible rfl))
            try simp only [Act.put, List.setIfInBounds_toArray, List.set_cons_zero, List.set_cons_succ]
            refine path_read (i := 13) (v := ?v2_13) rfl (by rfl) (fun _ _ _ h => h) ?hy2_13 ?_
            case hy2_13 => ((intro w hSw; (try dsimp only at hSw); go_simp) <;> (try with_reducible rfl))
            try simp only [Act.put, List.setIfInBounds_toArray, List.set_cons_zero, List.set_cons_succ]
            refine path_read (i := 14) (v := ?v2_14) rfl (by rfl) (fun _ _ _ h => h) ?hy2_14 ?_
            case hy2_14 => ((intro w hSw; (try dsimp only at hSw); go_simp) <;> (try with_reducible rfl))
            try simp only [Act.put, List.setIfInBounds_toArray, List.set_cons_zero, List.set_cons_succ]
            refine path_read (i := 15) (v := ?v2_15) rfl (by rfl) (fun _ _ _ h => h) ?hy2_15 ?_
            case hy2_15 => ((intro w hSw; (try dsimp only at hSw); go_simp) <;> (try with_reducible rfl))
            try simp only [Act.put, List.setIfInBounds_toArray, List.set_cons_zero, List.set_cons_succ]
            refine path_do (i := 16) rfl ?_
            go_wp2_with ((first | (go_at_call 20; (with_reducible refine (uhas_v _ _ m cb gs y _ ((HB.out.same HST.out.same).same (Chg.refl (fun _ => False) wr).drew) (by omega) HH.out).mono ?_); rintro e w9 ⟨rfl, rfl⟩) | (go_at_call 20; refine (uhas_v _ _ _ _ out y _ (HSA.out.1.same (Chg.refl (fun _ => False) wr).drew) (by omega) HU.out).mono ?_; rintro e w9 ⟨rfl, rfl⟩)))
            (first | refine ⟨.inr ?keep2_16, ?_⟩ | refine ⟨?keep2_16, ?_⟩)
            case keep2_16 => ((exact ⟨a0, b0, o0, hcell⟩))
            try simp only [Act.put, List.setIfInBounds_toArray, List.set_cons_zero, List.set_cons_succ]
            refine path_read (i := 17) (v := ?v2_17) rfl (by rfl) (fun _ _ _ h => h) ?hy2_17 ?_
            case hy2_17 => ((intro w hSw; (try dsimp only at hSw); go_simp) <;> (try with_reducible rfl))
            try simp only [Act.put, List.setIfInBounds_toArray, List.set_cons_zero, List.set_cons_succ]
            refine path_read (i := 18) (v := ?v2_18) rfl (by rfl) (fun _ _ _ h => h) ?hy2_18 ?_
            case hy2_18 => ((intro w hSw; (try dsimp only at hSw); go_simp) <;> (try with_reducible rfl))
            try simp only [Act.put, List.setIfInBounds_toArray, List.set_cons_zero, List.set_cons_succ]
            refine path_end ?_
            go_wp2_with fail
            refine region_path (S := (fun w' => w'.cell? ⟨w.heap.size, 0, none⟩ = some (.slice (some ⟨b, o, none⟩) n cap) ∧ w'.cell? ⟨w.heap.size + 1, 0, none⟩ = some (.slice B m cb) ∧ w'.cell? ⟨w.heap.size + 1 + 1 + 1, 0, none⟩ = some (.slice A' out.length cap') ∧ w'.cell? ⟨b, o + i, none⟩ = some (.string y))) 10 [(0, true), (1, true), (2, true), (3, true), (4, true), (5, true), (6, true), (7, false), (8, false), (9, true), (10, false)] (by kernel_rfl) (by kernel_rfl) (by kernel_rfl) ⟨a0, b0, o0, hcell⟩ ?_
            refine path_read (i := 0) (v := ?v3_0) rfl (by rfl) (fun _ _ _ h => h) ?hy3_0 ?_
            case hy3_0 => ((intro w hSw; (try dsimp only at hSw); go_simp) <;> (try with_reducible rfl))
            try simp only [Act.put, List.setIfInBounds_toArray, List.set_cons_zero, List.set_cons_succ]
            refine path_read (i := 1) (v := ?v3_1) rfl (by rfl) (fun _ _ _ h => h) ?hy3_1 ?_
            case hy3_1 => ((intro w hSw; (try dsimp only at hSw); go_simp) <;> (try with_reducible rfl))
            try simp only [Act.put, List.setIfInBounds_toArray, List.set_cons_zero, List.set_cons_succ]
            refine path_read (i := 2) (v := ?v3_2) rfl (by rfl) (fun _ _ _ h => h) ?hy3_2 ?_
            case hy3_2 => ((intro w hSw; (try dsimp only at hSw); go_simp) <;> (try with_reducible rfl))
            try simp only [Act.put, List.setIfInBounds_toArray, List.set_cons_zero, List.set_cons_succ]
            refine path_read (i := 3) (v := ?v3_3) rfl (by rfl) (fun _ _ _ h => h) ?hy3_3 ?_
            case hy3_3 => ((intro w hSw; (try dsimp only at hSw); go_simp) <;> (try with_reducible rfl))
            try simp only [Act.put, List.setIfInBounds_toArray, List.set_cons_zero, List.set_cons_succ]
            refine path_read (i := 4) (v := ?v3_4) rfl (by rfl) (fun _ _ _ h => h) ?hy3_4 ?_
            case hy3_4 => ((intro w hSw; (try dsimp only at hSw); go_simp) <;> (try with_reducible rfl))
            try simp only [Act.put, List.setIfInBounds_toArray, List.set_cons_zero, List.set_cons_succ]
            refine path_read (i := 5) (v := ?v3_5) rfl (by rfl) (fun _ _ _ h => h) ?hy3_5 ?_
            case hy3_5 => ((intro w hSw; (try dsimp only at hSw); go_simp) <;> (try with_reducible rfl))
            try simp only [Act.put, List.setIfInBounds_toArray, List.set_cons_zero, List.set_cons_succ]
            refine path_read (i := 6) (v := ?v3_6) rfl (by rfl) (fun _ _ _ h => h) ?hy3_6 ?_
            case hy3_6 => ((intro w hSw; (try dsimp only at hSw); go_simp) <;> (try with_reducible rfl))
            try simp only [Act.put, List.setIfInBounds_toArray, List.set_cons_zero, List.set_cons_succ]
            refine path_do (i := 7) rfl ?_
            go_wp2_with ((at_builtin; refine wpl_append1 (w.heap.size + 1 + 1 + 1 + 1) 9 _ 1 16 Try.underlying22 infoStr rfl (by omega) (.slice A' out.length cap') out.length (strVals out) (((HST.out.keep (Chg.refl (fun _ => False) wr).drew).own.own.alloc _).drew) rfl wr.heap.size 1 [.string y] rfl (at_new _ _) rfl (by simp [Value.oneCell']) (by omega) (by omega) (by simp; omega) ?_; intro gg gcap w1 hown1 hgrow hat hlt1; have hk1 : Chg (fun x => some x = (Value.slice A' out.length cap').ownBlock) wr w1 := Chg.grownO (by (repeat (first | (with_reducible refine Chg.drew ?_) | (with_reducible refine Chg.alloc ?_ _))); exact Chg.refl _ _) hgrow; have HO1 := Lib.hid (hk1.at_ HST.out.ho (HOU.out _ (by omega))); have fO1 := frozen_at HO1.out; have o11 := hk1.cell o0 (HOU.out _ (by omega))))
            (first | refine ⟨.inr ?keep3_7, ?_⟩ | refine ⟨?keep3_7, ?_⟩)
            case keep3_7 => ((first | (exact ⟨hk1.cell a0 (HOU.out _ (by omega)), hk1.cell b0 (HOU.out _ (by omega)), hk1.cell o0 (HOU.out _ (by omega)), hk1.cell hcell (HOUB.out)⟩) | (have hka : Same wr (wr.drew.alloc (.cells #[.string y] 9)) := ((Chg.refl (fun _ => False) wr).drew).alloc _; exact ⟨hka.cell a0 (fun q => q), hka.cell b0 (fun q => q), hka.cell o0 (fun q => q), hka.cell hcell (fun q => q)⟩)))
            try simp only [Act.put, List.setIfInBounds_toArray, List.set_cons_zero, List.set_cons_succ]
            refine path_do (i := 8) rfl ?_
            (at_builtin; refine wpl_append1 (w.heap.size + 1 + 1 + 1 + 1) 9 _ 1 16 Try.underlying22 infoStr rfl (by omega) (.slice A' out.length cap') out.length (strVals out) (((HST.out.keep (Chg.refl (fun _ => False) wr).drew).own.own.alloc _).drew) rfl wr.heap.size 1 [.string y] rfl (at_new _ _) rfl (by simp [Value.oneCell']) (by omega) (by omega) (by simp; omega) ?_; intro gg gcap w1 hown1 hgrow hat hlt1; have hk1 : Chg (fun x => some x = (Value.slice A' out.length cap').ownBlock) wr w1 := Chg.grownO (by (repeat (first | (with_reducible refine Chg.drew ?_) | (with_reducible refine Chg.alloc ?_ _))); exact Chg.refl _ _) hgrow; have HO1 := Lib.hid (hk1.at_ HST.out.ho (HOU.out _ (by omega))); have fO1 := frozen_at HO1.out; have o11 := hk1.cell o0 (HOU.out _ (by omega)))
            refine path_next (.inr ?keep3_8) ?_
            case keep3_8 => ((first | (exact ⟨hk1.cell a0 (HOU.out _ (by omega)), hk1.cell b0 (HOU.out _ (by omega)), hk1.cell o0 (HOU.out _ (by omega)), hk1.cell hcell (HOUB.out)⟩) | (have hka : Same wr (wr.drew.alloc (.cells #[.string y] 9)) := ((Chg.refl (fun _ => False) wr).drew).alloc _; exact ⟨hka.cell a0 (fun q => q), hka.cell b0 (fun q => q), hka.cell o0 (fun q => q), hka.cell hcell (fun q => q)⟩)))
            try simp only [Act.put, List.setIfInBounds_toArray, List.set_cons_zero, List.set_cons_succ]
            refine path_read (i := 9) (v := ?v3_9) rfl (by rfl) (fun _ _ _ h => h) ?hy3_9 ?_
            case hy3_9 => ((intro w hSw; (try dsimp only at hSw); go_simp) <;> (try with_reducible rfl))
            try simp only [Act.put, List.setIfInBounds_toArray, List.set_cons_zero, List.set_cons_succ]
            refine path_do (i := 10) rfl ?_
            go_wp2_with ((at_builtin; refine wpl_append1 (w.heap.size + 1 + 1 + 1 + 1) 9 _ 1 16 Try.underlying22 infoStr rfl (by omega) (.slice A' out.length cap') out.length (strVals out) (((HST.out.keep (Chg.refl (fun _ => False) wr).drew).own.own.alloc _).drew) rfl wr.heap.size 1 [.string y] rfl (at_new _ _) rfl (by simp [Value.oneCell']) (by omega) (by omega) (by simp; omega) ?_; intro gg gcap w1 hown1 hgrow hat hlt1; have hk1 : Chg (fun x => some x = (Value.slice A' out.length cap').ownBlock) wr w1 := Chg.grownO (by (repeat (first | (with_reducible refine Chg.drew ?_) | (with_reducible refine Chg.alloc ?_ _))); exact Chg.refl _ _) hgrow; have HO1 := Lib.hid (hk1.at_ HST.out.ho (HOU.out _ (by omega))); have fO1 := frozen_at HO1.out; have o11 := hk1.cell o0 (HOU.out _ (by omega))))
            refine ⟨.inl (by first | rfl | trivial), ?_⟩
            refine path_end ?_
            go_wp2
            go_roundg (n - (i + 1))
            case measure => have := HG.out; omega
            case rel =>
              have hgl := hown1.lt gg rfl
              have hlen : (out ++ [y]).length = out.length + 1 := by simp
              refine ⟨i + 1, .slice (some ⟨gg, 0, none⟩) (out.length + 1) gcap, out ++ [y], by omega, by rfl, by go_num, by rw [hlen]; omega, by rw [HD.out]; unfold comStep; rw [HH.out, HU.out]; rfl, ?_⟩
              refine ⟨?_, ?_, ?_, ?_, ?_, ⟨?_, ?_⟩⟩
              · refine Chg.setCell ?_ _ _ (fun q => by simp at q; omega)
                exact HST.out.same.then_ hk1 (fun i hi q => HOU.out i (by omega) q)
              · exact at_setCell_other _ (by omega) (hk1.at_ HST.out.ha (HOU.out _ (by omega)))
              · exact at_setCell_other _ (by omega) (hk1.at_ HST.out.hb (HOU.out _ (by omega)))
              · exact at_setCell_other _ (by omega) (hk1.at_ HST.out.hr (HOU.out _ (by omega)))
              · exact at_setCell (i := 0) (.slice (some ⟨gg, 0, none⟩) (out.length + 1) gcap) (C := [.slice A' out.length cap', .int .i64 (bits BinOp.and IntKind.i64 (bits BinOp.and IntKind.i64 aA aB) 7)]) HO1.out
              · rw [hlen]
                unfold strVals
                rw [List.map_append]
                exact hown1.kept (grownBy_setCell _ _ _ _) (.inr (fun e => by simp [Value.ownBlock] at e; omega))
              · have := hk1.size
                simp
                omega
        · have HU := Lib.hid hu
          clear hu
          as_aux_lemma =>
            go_wp2_with fail
            refine region_path (S := (fun w' => w'.cell? ⟨w.heap.size, 0, none⟩ = some (.slice (some ⟨b, o, none⟩) n cap) ∧ w'.cell? ⟨w.heap.size + 1, 0, none⟩ = some (.slice B m cb) ∧ w'.cell? ⟨w.heap.size + 1 + 1 + 1, 0, none⟩ = some (.slice A' out.length cap') ∧ w'.cell? ⟨b, o + i, none⟩ = some (.string y))) 99 [(0, true), (1, true), (2, true), (3, true), (4, true), (5, true), (6, true), (7, false), (8, true), (9, true), (10, true), (11, true), (12, true), (13, true), (14, true), (15, true), (16, false), (17, true), (18, true)] (by kernel_rfl) (by kernel_rfl) (by kernel_rfl) ⟨a0, b0, o0, hcell⟩ ?_
            refine path_read (i := 0) (v := ?v4_0) rfl (by rfl) (fun _ _ _ h => h) ?hy4_0 ?_
            case hy4_0 => ((intro w hSw; (try dsimp only at hSw); go_simp) <;> (try with_reducible rfl))
            try simp only [Act.put, List.setIfInBounds_toArray, List.set_cons_zero, List.set_cons_succ]
            refine path_read (i := 1) (v := ?v4_1) rfl (by rfl) (fun _ _ _ h => h) ?hy4_1 ?_
            case hy4_1 => ((intro w hSw; (try dsimp only at hSw); go_simp) <;> (try with_reducible rfl))
            try simp only [Act.put, List.setIfInBounds_toArray, List.set_cons_zero, List.set_cons_succ]
            refine path_read (i := 2) (v := ?v4_2) rfl (by rfl) (fun _ _ _ h => h) ?hy4_2 ?_
            case hy4_2 => ((intro w hSw; (try dsimp only at hSw); go_simp) <;> (try with_reducible rfl))
            try simp only [Act.put, List.setIfInBounds_toArray, List.set_cons_zero, List.set_cons_succ]
            refine path_read (i := 3) (v := ?v4_3) rfl (by rfl) (fun _ _ _ h => h) ?hy4_3 ?_
            case hy4_3 => ((intro w hSw; (try dsimp only at hSw); go_simp) <;> (try with_reducible rfl))
            try simp only [Act.put, List.setIfInBounds_toArray, List.set_cons_zero, List.set_cons_succ]
            refine path_read (i := 4) (v := ?v4_4) rfl (by rfl) (fun _ _ _ h => h) ?hy4_4 ?_
            case hy4_4 => ((intro w hSw; (try dsimp only at hSw); go_simp) <;> (try with_reducible rfl))
            try simp only [Act.put, List.setIfInBounds_toArray, List.set_cons_zero, List.set_cons_succ]
            refine path_read (i := 5) (v := ?v4_5) rfl (by rfl) (fun _ _ _ h => h) ?hy4_5 ?_
            case hy4_5 => ((intro w hSw; (try dsimp only at hSw); go_simp) <;> (try with_reducible rfl))
            try simp only [Act.put, List.setIfInBounds_toArray, List.set_cons_zero, List.set_cons_succ]
            refine path_read (i := 6) (v := ?v4_6) rfl (by rfl) (fun _ _ _ h => h) ?hy4_6 ?_
            case hy4_6 => ((intro w hSw; (try dsimp only at hSw); go_simp) <;> (try with_reducible rfl))
            try simp only [Act.put, List.setIfInBounds_toArray, List.set_cons_zero, List.set_cons_succ]
            refine path_do (i := 7) rfl ?_
            go_wp2_with ((first | (go_at_call 20; (with_reducible refine (uhas_v _ _ m cb gs y _ ((HB.out.same HST.out.same).same (Chg.refl (fun _ => False) wr).drew) (by omega) HH.out).mono ?_); rintro e w9 ⟨rfl, rfl⟩) | (go_at_call 20; refine (uhas_v _ _ _ _ out y _ (HSA.out.1.same (Chg.refl (fun _ => False) wr).drew) (by omega) HU.out).mono ?_; rintro e w9 ⟨rfl, rfl⟩)))
            (first | refine ⟨.inr ?keep4_7, ?_⟩ | refine ⟨?keep4_7, ?_⟩)
            case keep4_7 => ((exact ⟨a0, b0, o0, hcell⟩))
            try simp only [Act.put, List.setIfInBounds_toArray, List.set_cons_zero, List.set_cons_succ]
            refine path_read (i := 8) (v := ?v4_8) rfl (by rfl) (fun _ _ _ h => h) ?hy4_8 ?_
            case hy4_8 => ((intro w hSw; (try dsimp only at hSw); go_simp) <;> (try with_reducible rfl))
            try simp only [Act.put, List.setIfInBounds_toArray, List.set_cons_zero, List.set_cons_succ]
            refine path_read (i := 9) (v := ?v4_9) rfl (by rfl) (fun _ _ _ h => h) ?hy4_9 ?_
            case hy4_9 => ((intro w hSw; (try dsimp only at hSw); go_simp) <;> (try with_reducible rfl))
            try simp only [Act.put, List.setIfInBounds_toArray, List.set_cons_zero, List.set_cons_succ]
            refine path_read (i := 10) (v := ?v4_10) rfl (by rfl) (fun _ _ _ h => h) ?hy4_10 ?_
            case hy4_10 => ((intro w hSw; (try dsimp only at hSw); go_simp) <;> (try with_reducible rfl))
            try simp only [Act.put, List.setIfInBounds_toArray, List.set_cons_zero, List.set_cons_succ]
            refine path_read (i := 11) (v := ?v4_11) rfl (by rfl) (fun _ _ _ h => h) ?hy4_11 ?_
            case hy4_11 => ((intro w hSw; (try dsimp only at hSw); go_simp) <;> (try with_reducible rfl))
            try simp only [Act.put, List.setIfInBounds_toArray, List.set_cons_zero, List.set_cons_succ]
            refine path_read (i := 12) (v := ?v4_12) rfl (by rfl) (fun _ _ _ h => h) ?hy4_12 ?_
            case hy4_12 => ((intro w hSw; (try dsimp only at hSw); go_simp) <;> (try with_reducible rfl))
            try simp only [Act.put, List.setIfInBounds_toArray, List.set_cons_zero, List.set_cons_succ]
            refine path_read (i := 13) (v := ?v4_13) rfl (by rfl) (fun _ _ _ h => h) ?hy4_13 ?_
            case hy4_13 => ((intro w hSw; (try dsimp only at hSw); go_simp) <;> (try with_reducible rfl))
            try simp only [Act.put, List.setIfInBounds_toArray, List.set_cons_zero, List.set_cons_succ]
            refine path_read (i := 14) (v := ?v4_14) rfl (by rfl) (fun _ _ _ h => h) ?hy4_14 ?_
            case hy4_14 => ((intro w hSw; (try dsimp only at hSw); go_simp) <;> (try with_reducible rfl))
            try simp only [Act.put, List.setIfInBounds_toArray, List.set_cons_zero, List.set_cons_succ]
            refine path_read (i := 15) (v := ?v4_15) rfl (by rfl) (fun _ _ _ h => h) ?hy4_15 ?_
            case hy4_15 => ((intro w hSw; (try dsimp only at hSw); go_simp) <;> (try with_reducible rfl))
            try simp only [Act.put, List.setIfInBounds_toArray, List.set_cons_zero, List.set_cons_succ]
            refine path_do (i := 16) rfl ?_
            go_wp2_with ((first | (go_at_call 20; (with_reducible refine (uhas_v _ _ m cb gs y _ ((HB.out.same HST.out.same).same (Chg.refl (fun _ => False) wr).drew) (by omega) HH.out).mono ?_); rintro e w9 ⟨rfl, rfl⟩) | (go_at_call 20; refine (uhas_v _ _ _ _ out y _ (HSA.out.1.same (Chg.refl (fun _ => False) wr).drew) (by omega) HU.out).mono ?_; rintro e w9 ⟨rfl, rfl⟩)))
            (first | refine ⟨.inr ?keep4_16, ?_⟩ | refine ⟨?keep4_16, ?_⟩)
            case keep4_16 => ((exact ⟨a0, b0, o0, hcell⟩))
            try simp only [Act.put, List.setIfInBounds_toArray, List.set_cons_zero, List.set_cons_succ]
            refine path_read (i := 17) (v := ?v4_17) rfl (by rfl) (fun _ _ _ h => h) ?hy4_17 ?_
            case hy4_17 => ((intro w hSw; (try dsimp only at hSw); go_simp) <;> (try with_reducible rfl))
            try simp only [Act.put, List.setIfInBounds_toArray, List.set_cons_zero, List.set_cons_succ]
            refine path_read (i := 18) (v := ?v4_18) rfl (by rfl) (fun _ _ _ h => h) ?hy4_18 ?_
            case hy4_18 => ((intro w hSw; (try dsimp only at hSw); go_simp) <;> (try with_reducible rfl))
            try simp only [Act.put, List.setIfInBounds_toArray, List.set_cons_zero, List.set_cons_succ]
            refine path_end ?_
            go_wp2
            go_roundg (n - (i + 1))
            case measure => have := HG.out; omega
            case rel => exact ⟨i + 1, _, out, by omega, by rfl, by go_num, by omega, by rw [HD.out]; unfold comStep; rw [HH.out, HU.out]; rfl, HST.out.keep (Chg.refl _ _).drew⟩
    · have hb1 : ¬ (i : Int) < (n : Int) := by omega
      have HE := Lib.hid (show comV fs gs = out by rw [HCOM.out, show i = fs.length by rw [HA.out.1]; omega, List.drop_length]; rfl)
      have hbel := HST.out.same.size
      go_wp2
      refine bodyPost_ret (results_cell1 Try.results25 rfl (run_load_uof (a := .slice A' out.length cap') (b := .int .i64 (bits BinOp.and IntKind.i64 (bits BinOp.and IntKind.i64 aA aB) 7)) ?_)) rfl ⟨A', out.length, cap', rfl, ?_, ?_⟩
      · refine at_setCell (i := 1) (C := [.slice A' out.length cap', .int .i64 0]) _ ?_
        refine at_setCell (i := 0) (C := [.slice none 0 0, .int .i64 0]) _ ?_
        exact HST.out.hr
      · rw [HE.out]
        refine ⟨?_, HSA.out.2⟩
        refine HSA.out.1.chg (S := fun x => x = w.heap.size + 1 + 1) ?_ ?_
        · repeat (refine Chg.setCell ?_ _ _ (fun q => by simp))
          exact Chg.refl _ _
        · rintro b o rfl hb
          subst hb
          exact HOU.out (w.heap.size + 1 + 1) (by omega) rfl
      · repeat (refine Chg.setCell ?_ _ _ (fun q => by simp at q; omega))
        exact HST.out.same
end Go.Proofs.Ytnbmpdjphmbofaa
