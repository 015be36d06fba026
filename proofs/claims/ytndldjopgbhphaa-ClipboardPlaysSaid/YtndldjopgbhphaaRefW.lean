/- The walks of package compositorref31. -/
import Derived.Test.YtndldjopgbhphaaRefM
import Derived.Test.YtndldjopgbhphaaPk01
import Derived.Test.YtndldjopgbhphaaSerY
import Derived.Test.YtndldjopgbhphaaArgs
import Derived.Deep.RegionHeld3
import Derived.Deep.AppendLies
set_option linter.unusedVariables false
set_option linter.unusedSimpArgs false
set_option maxRecDepth 100000
namespace Go.Proofs.Ytndldjopgbhphaa
open Go.RowKit

/-- A slice of the reference's slots, its row from block base on. -/
def SlotsAt (w : World) (base : Nat) (A : Option Addr) (n : Nat) (l : List Ent) : Prop :=
  l.length = n ∧ (0 < n → ∃ b, A = some ⟨b, 0, none⟩ ∧ base ≤ b ∧ b < w.heap.size ∧ (∃ cur fr, w.heap[b]? = some (.cells cur 137 fr)) ∧ ∀ i x, l[i]? = some x → ∀ j v, x.slot[j]? = some v → w.cell? ⟨b, i * 5 + j, none⟩ = some v)
theorem SlotsAt.chg {S : Nat → Prop} {w w' : World} {base : Nat} {A : Option Addr} {n : Nat} {l : List Ent} (h : SlotsAt w base A n l) (k : Chg S w w') (hs : ∀ b, base ≤ b → b < w.heap.size → (∃ cur fr, w.heap[b]? = some (.cells cur 137 fr)) → ¬ S b) : SlotsAt w' base A n l := by
  refine ⟨h.1, fun hl => ?_⟩
  obtain ⟨b, hA, hb, hlt, ⟨cur, fr, ht⟩, hc⟩ := h.2 hl
  exact ⟨b, hA, hb, Nat.lt_of_lt_of_le hlt k.size, ⟨cur, fr, k.at_ ht (hs b hb hlt ⟨cur, fr, ht⟩)⟩, fun i x hx j v hv => k.cell (hc i x hx j v hv) (hs b hb hlt ⟨cur, fr, ht⟩)⟩
theorem SlotsAt.lower {w : World} {base base' : Nat} {A : Option Addr} {n : Nat} {l : List Ent} (h : SlotsAt w base A n l) (hb : base' ≤ base) : SlotsAt w base' A n l :=
  ⟨h.1, fun hl => by obtain ⟨b, hA, h1, h2⟩ := h.2 hl; exact ⟨b, hA, by omega, h2⟩⟩
theorem SlotsAt.at_ {w : World} {base : Nat} {A : Option Addr} {n : Nat} {l : List Ent} (h : SlotsAt w base A n l) {i : Nat} (hi : i < n) :
    ∃ b x, A = some ⟨b, 0, none⟩ ∧ base ≤ b ∧ b < w.heap.size ∧ l[i]? = some x ∧ ∀ j v, x.slot[j]? = some v → w.cell? ⟨b, i * 5 + j, none⟩ = some v := by
  obtain ⟨b, hA, hb, hlt, _, hc⟩ := h.2 (by omega)
  have hx : l[i]? = some (l[i]'(by rw [h.1]; exact hi)) := List.getElem?_eq_getElem (by rw [h.1]; exact hi)
  exact ⟨b, _, hA, hb, hlt, hx, hc i _ hx⟩
theorem SlotsAt.nil (w : World) (base : Nat) : SlotsAt w base none 0 [] := ⟨rfl, fun h => absurd h (by omega)⟩
/-- What a call has built. -/
theorem SlotsAt.of_own {w : World} {base : Nat} {v : Value} {n : Nat} {l : List Ent} (h : w.ownsRow base 137 5 v n (l.flatMap Ent.slot)) (hl : l.length = n) : ∃ A cap, v = .slice A n cap ∧ SlotsAt w base A n l := by
  rcases h.2 with ⟨rfl, rfl⟩ | ⟨g, cap, cur, rfl, hb, hg, hnc, hcm, hcs, htake⟩
  · obtain rfl : l = [] := List.eq_nil_of_length_eq_zero hl
    exact ⟨none, 0, rfl, SlotsAt.nil w base⟩
  · refine ⟨_, cap, rfl, hl, fun _ => ⟨g, rfl, hb, lt_of_at hg, ⟨_, _, hg⟩, fun i x hx j v hv => ?_⟩⟩
    have hj : j < 5 := by have := (List.getElem?_eq_some_iff.1 hv).1; rw [Ent.slot_len] at this; exact this
    have h1 := flat_get Ent.slot 5 Ent.slot_len l i j x hx hj
    have h2 := h.cells (g := g) rfl (i * 5 + j) v (by rw [h1]; exact hv)
    rw [add_plain, Nat.zero_add] at h2
    exact h2

theorem Rinfo67 : (Try.prog.info? 137).map (fun i => (i.zero, i.size, i.bytes)) = some (some (.agg #[.int .i64 0, .int .u32 0, .int .i64 0, .int .i64 0, .int .i64 0]), 5, 40) := by kernel_rfl

theorem take_filter_succ {p : Ent → Bool} {l : List Ent} {i : Nat} {x : Ent} (hx : l[i]? = some x) : (l.take (i + 1)).filter p = (l.take i).filter p ++ (if p x then [x] else []) := by
  rw [List.take_add_one, hx]
  simp [List.filter_append, List.filter_cons]
theorem heap_alloc3_new (w : World) (a b c : Obj) : (((w.alloc a).alloc b).alloc c).heap[w.heap.size + 1 + 1]? = some c := by
  have := heap_alloc_new ((w.alloc a).alloc b) c
  simpa using this
/-- What holds at the head of a loop that copies slots: out's block O, the parameter's block B. -/
def CopyRel (w : World) (O : Nat) (cnt : Value) (p : Ent → Bool) (l : List Ent) (v : Value) (wr : World) : Prop :=
  ∃ (i : Nat) (u : Value), i ≤ l.length ∧ v = .int .i64 i ∧ wr.heap[O]? = some (.cells #[cnt, u] 58 (0, 0)) ∧ wr.ownsRow (O + 1) 137 5 u ((l.take i).filter p).length (((l.take i).filter p).flatMap Ent.slot) ∧ Same w wr

theorem infoRLog : (Try.prog.info? 58).map (fun i => i.size) = some 2 := by kernel_rfl
theorem run_load_rlog {w : World} {g : Nat} {a c : Value} (h : w.heap[g]? = some (.cells #[a, c] 58 (0, 0))) : (loadVar 58 ⟨g, 0, none⟩).run Try.prog w = .ok (.agg #[a, c]) w :=
  run_loadMid (P := Try.prog) (C := [a, c]) 58 0 2 _ h infoRLog Try.underlying58 rfl (by simp)
theorem rNew_ok (w : World) : Calls Try.prog 23 #[] w fun e w' => e = .returned (.agg #[.int .i64 0, .slice none 0 0]) ∧ Same w w' := by
  go_enter Try.func23, Try.ntmps23
  go_wp2
  refine bodyPost_ret (results_cell1 Try.results23 rfl (run_load_rlog (at_new _ _))) rfl ⟨rfl, ?_⟩
  repeat (first | (with_reducible refine Chg.drew ?_) | (with_reducible refine Chg.drewN ?_ _) | (with_reducible refine Chg.alloc ?_ _) | (with_reducible refine Chg.setCell ?_ _ _ ?_; rotate_left 1; · (intro q; first | (simp; done) | (exfalso; revert q; simp; done) | (exfalso; revert q; simp; omega) | (simp; omega))))
  exact (Chg.refl _ w)

theorem rNumber_ok (i : Nat) (w : World) (h1 : 1 ≤ i) (h2 : i ≤ 4294967295) : Calls Try.prog 67 #[.int .i64 i] w fun e w' => e = .returned (.int .u32 i) ∧ w = w' := by
  go_enter Try.func67, Try.ntmps67
  go_wp2
  go_ret
  exact ⟨by go_num, rfl⟩

set_option maxRecDepth 100000 in
set_option maxHeartbeats 8000000 in
theorem rIssue_good (A : Option Addr) (N n cap base : Nat) (l : List Ent) (c f k : Int) (w : World) (h : SlotsAt w base A n l) (hn : n ≤ 1000) (hN : N + 1 ≤ 4294967294) (hg : good c f k = true) :
    Calls Try.prog 33 #[.agg #[.int .i64 N, .slice A n cap], .int .i64 c, .int .i64 f, .int .i64 k] w fun e w' => ∃ A' n' cap', e = .returned (.tuple #[.agg #[.int .i64 ((N : Int) + 1), .slice A' n' cap'], .int .u32 ((N : Int) + 1)]) ∧
      SlotsAt w' w.heap.size A' n' (rIssued N l c f k) ∧ Same w w' := by
  obtain ⟨i0, hi0, hz0, hz1, hz2⟩ := info_parts Rinfo67
  have hg' : 1 ≤ c ∧ 0 ≤ f ∧ 0 ≤ k ∧ k ≤ 62 := by simp [good] at hg; omega
  obtain ⟨g1, g2, g3, g4⟩ := hg'
  have hlen := h.1
  have HA := Lib.hid h
  clear h hg
  go_enter Try.func33, Try.ntmps33
  go_wp2
  go_loopw [11] (fun v wr => CopyRel w (w.heap.size + 1 + 1) (.int .i64 ((N : Int) + 1)) (rkeep N) l v wr ∧ wr.heap[w.heap.size]? = some (.cells #[.int .i64 N, .slice A n cap] 58 (0, 0)) ∧ wr.heap[w.heap.size + 1]? = some (.cells #[.int .i64 0, .slice none 0 0] 58 (0, 0))) (fun v _ => n - (intOf v).toNat)
  case atStart =>
    refine ⟨⟨0, .slice none 0 0, by omega, rfl, heap_alloc3_new _ _ _ _, World.ownsRow_nil _ _ _ _, ?_⟩, at_alloc (at_alloc (at_new _ _)), at_alloc (heap_alloc2_new _ _ _)⟩
    repeat (first | (with_reducible refine Chg.drew ?_) | (with_reducible refine Chg.drewN ?_ _) | (with_reducible refine Chg.alloc ?_ _) | (with_reducible refine Chg.setCell ?_ _ _ ?_; rotate_left 1; · (intro q; first | (simp; done) | (exfalso; revert q; simp; done) | (exfalso; revert q; simp; omega) | (simp; omega))))
    exact (Chg.refl _ w)
  case round =>
    obtain ⟨⟨i, u, hi, rfl, hO, hown, hs⟩, hP, hR⟩ := hrel
    rw [hlen] at hi
    have p1 := cell_at (C := [.int .i64 N, .slice A n cap]) hP 1
    have o0 := cell_at (C := [.int .i64 ((N : Int) + 1), u]) hO 0
    have o1 := cell_at (C := [.int .i64 ((N : Int) + 1), u]) hO 1
    simp only [List.getElem?_cons_zero, List.getElem?_cons_succ] at p1 o0 o1
    have fO := frozen_at hO
    have hOs := lt_of_at hO
    have HO := Lib.hid hO
    have HOWN := Lib.hid hown
    have HS := Lib.hid hs
    have HP := Lib.hid hP
    have HR := Lib.hid hR
    clear hO hown hs hP hR
    by_cases hlt : i < n
    · have hb0 : (0 : Int) ≤ (i : Int) := Int.natCast_nonneg _
      have hb1 : (i : Int) < (n : Int) := by omega
      obtain ⟨b, x, rfl, hbase, hbw, hx, hc⟩ := (HA.out.chg HS.out (fun _ _ _ _ q => q)).at_ hlt
      have x0 : wr.cell? ⟨b, i * 5, none⟩ = _ := hc 0 _ rfl
      have x1 := hc 1 _ rfl
      have x2 := hc 2 _ rfl
      have x3 := hc 3 _ rfl
      have x4 := hc 4 _ rfl
      have HX := Lib.hid hx
      clear hc hx
      obtain ⟨xs, xc, xf, xk⟩ := x
      simp only at x0 x1 x2 x3 x4
      by_cases hk : (N : Int) - 255 < xs
      · go_wp2_with fail
        refine region_path (S := (fun w' => w'.cell? ⟨w.heap.size, 1, none⟩ = some (.slice (some ⟨b, 0, none⟩) n cap) ∧ w'.cell? ⟨w.heap.size + 1 + 1, 0, none⟩ = some (.int .i64 ((N : Int) + 1)) ∧ w'.cell? ⟨b, i * 5, none⟩ = some (.int .i64 xs))) 99 [(0, true), (1, true), (2, true), (3, true), (4, true), (5, true), (6, true), (7, true), (8, true), (9, true)] (by kernel_rfl) (by kernel_rfl) (by kernel_rfl) ⟨p1, o0, x0⟩ ?_
        refine path_read (i := 0) (v := ?v128_0) rfl (by rfl) (fun _ _ _ h => h) ?hy128_0 ?_
        case hy128_0 => ((intro w hSw; (try dsimp only at hSw); go_simp) <;> (try with_reducible rfl))
        try simp only [Act.put, List.setIfInBounds_toArray, List.set_cons_zero, List.set_cons_succ]
        refine path_read (i := 1) (v := ?v128_1) rfl (by rfl) (fun _ _ _ h => h) ?hy128_1 ?_
        case hy128_1 => ((intro w hSw; (try dsimp only at hSw); go_simp) <;> (try with_reducible rfl))
        try simp only [Act.put, List.setIfInBounds_toArray, List.set_cons_zero, List.set_cons_succ]
        refine path_read (i := 2) (v := ?v128_2) rfl (by rfl) (fun _ _ _ h => h) ?hy128_2 ?_
        case hy128_2 => ((intro w hSw; (try dsimp only at hSw); go_simp) <;> (try with_reducible rfl))
        try simp only [Act.put, List.setIfInBounds_toArray, List.set_cons_zero, List.set_cons_succ]
        refine path_read (i := 3) (v := ?v128_3) rfl (by rfl) (fun _ _ _ h => h) ?hy128_3 ?_
        case hy128_3 => ((intro w hSw; (try dsimp only at hSw); go_simp) <;> (try with_reducible rfl))
        try simp only [Act.put, List.setIfInBounds_toArray, List.set_cons_zero, List.set_cons_succ]
        refine path_read (i := 4) (v := ?v128_4) rfl (by rfl) (fun _ _ _ h => h) ?hy128_4 ?_
        case hy128_4 => ((intro w hSw; (try dsimp only at hSw); go_simp) <;> (try with_reducible rfl))
        try simp only [Act.put, List.setIfInBounds_toArray, List.set_cons_zero, List.set_cons_succ]
        refine path_read (i := 5) (v := ?v128_5) rfl (by rfl) (fun _ _ _ h => h) ?hy128_5 ?_
        case hy128_5 => ((intro w hSw; (try dsimp only at hSw); go_simp) <;> (try with_reducible rfl))
        try simp only [Act.put, List.setIfInBounds_toArray, List.set_cons_zero, List.set_cons_succ]
        refine path_read (i := 6) (v := ?v128_6) rfl (by rfl) (fun _ _ _ h => h) ?hy128_6 ?_
        case hy128_6 => ((intro w hSw; (try dsimp only at hSw); go_simp) <;> (try with_reducible rfl))
        try simp only [Act.put, List.setIfInBounds_toArray, List.set_cons_zero, List.set_cons_succ]
        refine path_read (i := 7) (v := ?v128_7) rfl (by rfl) (fun _ _ _ h => h) ?hy128_7 ?_
        case hy128_7 => ((intro w hSw; (try dsimp only at hSw); go_simp) <;> (try with_reducible rfl))
        try simp only [Act.put, List.setIfInBounds_toArray, List.set_cons_zero, List.set_cons_succ]
        refine path_read (i := 8) (v := ?v128_8) rfl (by rfl) (fun _ _ _ h => h) ?hy128_8 ?_
        case hy128_8 => ((intro w hSw; (try dsimp only at hSw); go_simp) <;> (try with_reducible rfl))
        try simp only [Act.put, List.setIfInBounds_toArray, List.set_cons_zero, List.set_cons_succ]
        refine path_read (i := 9) (v := ?v128_9) rfl (by rfl) (fun _ _ _ h => h) ?hy128_9 ?_
        case hy128_9 => ((intro w hSw; (try dsimp only at hSw); go_simp) <;> (try with_reducible rfl))
        try simp only [Act.put, List.setIfInBounds_toArray, List.set_cons_zero, List.set_cons_succ]
        refine path_end ?_
        have hw : IntKind.i64.wrap ((N : Int) + 1 - 256) = (N : Int) - 255 := by rw [IntWalk.i64_in _ (by omega)]; omega
        rw [hw]
        clear hw
        have hm : ((l.take i).filter (rkeep N)).length ≤ 1000 := by
          have := List.length_filter_le (rkeep N) (l.take i)
          have h2 : (l.take i).length ≤ i := List.length_take_le _ _
          omega
        have hM := Lib.hid (take_filter_succ (p := rkeep N) HX.out)
        have hkk : rkeep N ⟨xs, xc, xf, xk⟩ = true := by simpa [rkeep] using hk
        rw [hkk, if_pos rfl] at hM
        have hbw2 : b < w.heap.size := by obtain ⟨b', hA, _, hlt', _⟩ := HA.out.2 (by omega); injection hA with hA; injection hA with hA; omega
        have HOU : Hid (∀ k, k ≤ w.heap.size + 1 + 1 → some k ≠ u.ownBlock) := Lib.hid fun k hk e => by have := HOWN.out.lt _ e.symm; omega
        generalize hys : (l.take i).filter (rkeep N) = ys at *
        clear hys hkk
        go_wp2_with fail
        have hne1 : b ≠ w.heap.size + 1 + 1 := by omega
        have hne2 : w.heap.size ≠ w.heap.size + 1 + 1 := by omega
        refine region_path (S := (fun w' => w'.cell? ⟨w.heap.size, 1, none⟩ = some (.slice (some ⟨b, 0, none⟩) n cap) ∧ w'.cell? ⟨w.heap.size + 1 + 1, 1, none⟩ = some u ∧ w'.cell? ⟨b, i * 5, none⟩ = some (.int .i64 xs) ∧ w'.cell? ⟨b, i * 5 + 1, none⟩ = some (.int .u32 xs) ∧ w'.cell? ⟨b, i * 5 + 2, none⟩ = some (.int .i64 xc) ∧ w'.cell? ⟨b, i * 5 + 3, none⟩ = some (.int .i64 xf) ∧ w'.cell? ⟨b, i * 5 + 4, none⟩ = some (.int .i64 xk))) 10 [(0, true), (1, true), (2, true), (3, true), (4, true), (5, true), (6, true), (7, false), (8, false), (9, true), (10, false)] (by kernel_rfl) (by kernel_rfl) (by kernel_rfl) ⟨p1, o1, x0, x1, x2, x3, x4⟩ ?_
        refine path_read (i := 0) (v := ?v129_0) rfl (by rfl) (fun _ _ _ h => h) ?hy129_0 ?_
        case hy129_0 => ((intro w hSw; (try dsimp only at hSw); go_simp) <;> (try with_reducible rfl))
        try simp only [Act.put, List.setIfInBounds_toArray, List.set_cons_zero, List.set_cons_succ]
        refine path_read (i := 1) (v := ?v129_1) rfl (by rfl) (fun _ _ _ h => h) ?hy129_1 ?_
        case hy129_1 => ((intro w hSw; (try dsimp only at hSw); go_simp) <;> (try with_reducible rfl))
        try simp only [Act.put, List.setIfInBounds_toArray, List.set_cons_zero, List.set_cons_succ]
        refine path_read (i := 2) (v := ?v129_2) rfl (by rfl) (fun _ _ _ h => h) ?hy129_2 ?_
        case hy129_2 => ((intro w hSw; (try dsimp only at hSw); go_simp) <;> (try with_reducible rfl))
        try simp only [Act.put, List.setIfInBounds_toArray, List.set_cons_zero, List.set_cons_succ]
        refine path_read (i := 3) (v := ?v129_3) rfl (by rfl) (fun _ _ _ h => h) ?hy129_3 ?_
        case hy129_3 => ((intro w hSw; (try dsimp only at hSw); go_simp) <;> (try with_reducible rfl))
        try simp only [Act.put, List.setIfInBounds_toArray, List.set_cons_zero, List.set_cons_succ]
        refine path_read (i := 4) (v := ?v129_4) rfl (by rfl) (fun _ _ _ h => h) ?hy129_4 ?_
        case hy129_4 => ((intro w hSw; (try dsimp only at hSw); go_simp) <;> (try with_reducible rfl))
        try simp only [Act.put, List.setIfInBounds_toArray, List.set_cons_zero, List.set_cons_succ]
        refine path_read (i := 5) (v := ?v129_5) rfl (by rfl) (fun _ _ _ h => h) ?hy129_5 ?_
        case hy129_5 => ((intro w hSw; (try dsimp only at hSw); go_simp) <;> (try with_reducible rfl))
        try simp only [Act.put, List.setIfInBounds_toArray, List.set_cons_zero, List.set_cons_succ]
        refine path_read (i := 6) (v := ?v129_6) rfl (by rfl) (fun _ _ _ h => h) ?hy129_6 ?_
        case hy129_6 => ((intro w hSw; (try dsimp only at hSw); go_simp) <;> (try with_reducible rfl))
        try simp only [Act.put, List.setIfInBounds_toArray, List.set_cons_zero, List.set_cons_succ]
        refine path_do (i := 7) rfl ?_
        go_wp2_with ((refine wpl_append1 (w.heap.size + 1 + 1 + 1) 137 _ 5 40 Try.underlying56 Rinfo67 rfl (by omega) u ys.length (ys.flatMap Ent.slot) ((HOWN.out.alloc _).drew) rfl wr.heap.size 1 [.int .i64 xs, .int .u32 xs, .int .i64 xc, .int .i64 xf, .int .i64 xk] rfl (at_new _ _) rfl (by simp [Value.oneCell']) (by omega) (by omega) (by simp; omega) ?_; intro gg gcap w1 hown1 hgrow hat hlt1; have hk1 : Chg (fun x => some x = u.ownBlock) wr w1 := Chg.grownO (by (repeat (first | (with_reducible refine Chg.drew ?_) | (with_reducible refine Chg.alloc ?_ _))); exact Chg.refl _ _) hgrow; have HO1 := Lib.hid (hk1.at_ HO.out (HOU.out _ (by omega))); have fO1 := frozen_at HO1.out; have o11 := hk1.cell o1 (HOU.out _ (by omega))))
        (first | refine ⟨.inr ?keep129_7, ?_⟩ | refine ⟨?keep129_7, ?_⟩)
        case keep129_7 => ((first | (exact ⟨hk1.cell p1 (HOU.out _ (by omega)), hk1.cell o1 (HOU.out _ (by omega)), hk1.cell x0 (HOU.out _ (by omega)), hk1.cell x1 (HOU.out _ (by omega)), hk1.cell x2 (HOU.out _ (by omega)), hk1.cell x3 (HOU.out _ (by omega)), hk1.cell x4 (HOU.out _ (by omega))⟩) | go_keep))
        try simp only [Act.put, List.setIfInBounds_toArray, List.set_cons_zero, List.set_cons_succ]
        refine path_do (i := 8) rfl ?_
        (refine wpl_append1 (w.heap.size + 1 + 1 + 1) 137 _ 5 40 Try.underlying56 Rinfo67 rfl (by omega) u ys.length (ys.flatMap Ent.slot) ((HOWN.out.alloc _).drew) rfl wr.heap.size 1 [.int .i64 xs, .int .u32 xs, .int .i64 xc, .int .i64 xf, .int .i64 xk] rfl (at_new _ _) rfl (by simp [Value.oneCell']) (by omega) (by omega) (by simp; omega) ?_; intro gg gcap w1 hown1 hgrow hat hlt1; have hk1 : Chg (fun x => some x = u.ownBlock) wr w1 := Chg.grownO (by (repeat (first | (with_reducible refine Chg.drew ?_) | (with_reducible refine Chg.alloc ?_ _))); exact Chg.refl _ _) hgrow; have HO1 := Lib.hid (hk1.at_ HO.out (HOU.out _ (by omega))); have fO1 := frozen_at HO1.out; have o11 := hk1.cell o1 (HOU.out _ (by omega)))
        refine path_next (.inr ?keep129_8) ?_
        case keep129_8 => ((first | (exact ⟨hk1.cell p1 (HOU.out _ (by omega)), hk1.cell o1 (HOU.out _ (by omega)), hk1.cell x0 (HOU.out _ (by omega)), hk1.cell x1 (HOU.out _ (by omega)), hk1.cell x2 (HOU.out _ (by omega)), hk1.cell x3 (HOU.out _ (by omega)), hk1.cell x4 (HOU.out _ (by omega))⟩) | go_keep))
        try simp only [Act.put, List.setIfInBounds_toArray, List.set_cons_zero, List.set_cons_succ]
        refine path_read (i := 9) (v := ?v129_9) rfl (by rfl) (fun _ _ _ h => h) ?hy129_9 ?_
        case hy129_9 => ((intro w hSw; (try dsimp only at hSw); go_simp) <;> (try with_reducible rfl))
        try simp only [Act.put, List.setIfInBounds_toArray, List.set_cons_zero, List.set_cons_succ]
        refine path_do (i := 10) rfl ?_
        go_wp2_with ((refine wpl_append1 (w.heap.size + 1 + 1 + 1) 137 _ 5 40 Try.underlying56 Rinfo67 rfl (by omega) u ys.length (ys.flatMap Ent.slot) ((HOWN.out.alloc _).drew) rfl wr.heap.size 1 [.int .i64 xs, .int .u32 xs, .int .i64 xc, .int .i64 xf, .int .i64 xk] rfl (at_new _ _) rfl (by simp [Value.oneCell']) (by omega) (by omega) (by simp; omega) ?_; intro gg gcap w1 hown1 hgrow hat hlt1; have hk1 : Chg (fun x => some x = u.ownBlock) wr w1 := Chg.grownO (by (repeat (first | (with_reducible refine Chg.drew ?_) | (with_reducible refine Chg.alloc ?_ _))); exact Chg.refl _ _) hgrow; have HO1 := Lib.hid (hk1.at_ HO.out (HOU.out _ (by omega))); have fO1 := frozen_at HO1.out; have o11 := hk1.cell o1 (HOU.out _ (by omega))))
        refine ⟨.inl (by first | rfl | trivial), ?_⟩
        refine path_end ?_
        go_wp2
        go_roundw
        case rel =>
          have hO2 := at_setCell (i := 1) (.slice (some ⟨gg, 0, none⟩) (ys.length + 1) gcap) (C := [.int .i64 ((N : Int) + 1), u]) HO1.out
          have hgl := hown1.lt gg rfl
          refine ⟨⟨i + 1, _, by omega, by go_num, hO2, ?_, ?_⟩, ?_, ?_⟩
          · rw [hM.out]
            simp only [List.length_append, List.length_singleton, List.flatMap_append, List.flatMap_cons, List.flatMap_nil, List.append_nil]
            exact hown1.kept (grownBy_setCell _ _ _ _) (.inr (fun e => by simp [Value.ownBlock] at e; omega))
          · refine Chg.setCell ?_ _ _ (fun q => by simp at q; omega)
            exact HS.out.then_ hk1 (fun i hi q => HOU.out i (by omega) q)
          · exact at_setCell_other _ (by omega) (hk1.at_ HP.out (HOU.out _ (by omega)))
          · exact at_setCell_other _ (by omega) (hk1.at_ HR.out (HOU.out _ (by omega)))
        case measure => simp [intOf]; omega
      · go_wp2_with fail
        refine region_path (S := (fun w' => w'.cell? ⟨w.heap.size, 1, none⟩ = some (.slice (some ⟨b, 0, none⟩) n cap) ∧ w'.cell? ⟨w.heap.size + 1 + 1, 0, none⟩ = some (.int .i64 ((N : Int) + 1)) ∧ w'.cell? ⟨b, i * 5, none⟩ = some (.int .i64 xs))) 99 [(0, true), (1, true), (2, true), (3, true), (4, true), (5, true), (6, true), (7, true), (8, true), (9, true)] (by kernel_rfl) (by kernel_rfl) (by kernel_rfl) ⟨p1, o0, x0⟩ ?_
        refine path_read (i := 0) (v := ?v130_0) rfl (by rfl) (fun _ _ _ h => h) ?hy130_0 ?_
        case hy130_0 => ((intro w hSw; (try dsimp only at hSw); go_simp) <;> (try with_reducible rfl))
        try simp only [Act.put, List.setIfInBounds_toArray, List.set_cons_zero, List.set_cons_succ]
        refine path_read (i := 1) (v := ?v130_1) rfl (by rfl) (fun _ _ _ h => h) ?hy130_1 ?_
        case hy130_1 => ((intro w hSw; (try dsimp only at hSw); go_simp) <;> (try with_reducible rfl))
        try simp only [Act.put, List.setIfInBounds_toArray, List.set_cons_zero, List.set_cons_succ]
        refine path_read (i := 2) (v := ?v130_2) rfl (by rfl) (fun _ _ _ h => h) ?hy130_2 ?_
        case hy130_2 => ((intro w hSw; (try dsimp only at hSw); go_simp) <;> (try with_reducible rfl))
        try simp only [Act.put, List.setIfInBounds_toArray, List.set_cons_zero, List.set_cons_succ]
        refine path_read (i := 3) (v := ?v130_3) rfl (by rfl) (fun _ _ _ h => h) ?hy130_3 ?_
        case hy130_3 => ((intro w hSw; (try dsimp only at hSw); go_simp) <;> (try with_reducible rfl))
        try simp only [Act.put, List.setIfInBounds_toArray, List.set_cons_zero, List.set_cons_succ]
        refine path_read (i := 4) (v := ?v130_4) rfl (by rfl) (fun _ _ _ h => h) ?hy130_4 ?_
        case hy130_4 => ((intro w hSw; (try dsimp only at hSw); go_simp) <;> (try with_reducible rfl))
        try simp only [Act.put, List.setIfInBounds_toArray, List.set_cons_zero, List.set_cons_succ]
        refine path_read (i := 5) (v := ?v130_5) rfl (by rfl) (fun _ _ _ h => h) ?hy130_5 ?_
        case hy130_5 => ((intro w hSw; (try dsimp only at hSw); go_simp) <;> (try with_reducible rfl))
        try simp only [Act.put, List.setIfInBounds_toArray, List.set_cons_zero, List.set_cons_succ]
        refine path_read (i := 6) (v := ?v130_6) rfl (by rfl) (fun _ _ _ h => h) ?hy130_6 ?_
        case hy130_6 => ((intro w hSw; (try dsimp only at hSw); go_simp) <;> (try with_reducible rfl))
        try simp only [Act.put, List.setIfInBounds_toArray, List.set_cons_zero, List.set_cons_succ]
        refine path_read (i := 7) (v := ?v130_7) rfl (by rfl) (fun _ _ _ h => h) ?hy130_7 ?_
        case hy130_7 => ((intro w hSw; (try dsimp only at hSw); go_simp) <;> (try with_reducible rfl))
        try simp only [Act.put, List.setIfInBounds_toArray, List.set_cons_zero, List.set_cons_succ]
        refine path_read (i := 8) (v := ?v130_8) rfl (by rfl) (fun _ _ _ h => h) ?hy130_8 ?_
        case hy130_8 => ((intro w hSw; (try dsimp only at hSw); go_simp) <;> (try with_reducible rfl))
        try simp only [Act.put, List.setIfInBounds_toArray, List.set_cons_zero, List.set_cons_succ]
        refine path_read (i := 9) (v := ?v130_9) rfl (by rfl) (fun _ _ _ h => h) ?hy130_9 ?_
        case hy130_9 => ((intro w hSw; (try dsimp only at hSw); go_simp) <;> (try with_reducible rfl))
        try simp only [Act.put, List.setIfInBounds_toArray, List.set_cons_zero, List.set_cons_succ]
        refine path_end ?_
        have hw : IntKind.i64.wrap ((N : Int) + 1 - 256) = (N : Int) - 255 := by rw [IntWalk.i64_in _ (by omega)]; omega
        rw [hw]
        clear hw
        have hM := Lib.hid (take_filter_succ (p := rkeep N) HX.out)
        have hkk : rkeep N ⟨xs, xc, xf, xk⟩ = false := by simpa [rkeep] using hk
        rw [hkk, if_neg (by decide), List.append_nil] at hM
        clear hkk
        go_wp2
        go_roundw
        case rel =>
          refine ⟨⟨i + 1, _, by omega, by go_num, HO.out, ?_, HS.out.drew⟩, HP.out, HR.out⟩
          rw [hM.out]
          exact HOWN.out
        case measure => simp [intOf]; omega
    · have hb1 : ¬ (i : Int) < (n : Int) := by omega
      have hys : (l.take i).filter (rkeep N) = l.filter (rkeep N) := by rw [List.take_of_length_le (by omega)]
      have hm : (l.filter (rkeep N)).length ≤ 1000 := by have := List.length_filter_le (rkeep N) l; omega
      have HL := Lib.hid (show rIssued N l c f k = l.filter (rkeep N) ++ [⟨(N : Int) + 1, c, f, k⟩] from rfl)
      rw [hys] at HOWN
      generalize l.filter (rkeep N) = ys at *
      clear hys
      have HOU : Hid (∀ k, k ≤ w.heap.size + 1 + 1 → some k ≠ u.ownBlock) := Lib.hid fun k hk e => by have := HOWN.out.lt _ e.symm; omega
      have r0 := cell_at (C := [.int .i64 0, .slice none 0 0]) HR.out 0
      have r1 := cell_at (C := [.int .i64 0, .slice none 0 0]) HR.out 1
      simp only [List.getElem?_cons_zero, List.getElem?_cons_succ] at r0 r1
      go_wp2_with (first | (go_at_call 67; refine (rNumber_ok (N + 1) _ (by omega) (by omega)).mono ?_; rintro e w1 ⟨rfl, rfl⟩) | (at_builtin; refine wpl_append1 (w.heap.size + 1 + 1 + 1) 137 _ 5 40 Try.underlying56 Rinfo67 rfl (by omega) u ys.length (ys.flatMap Ent.slot) (HOWN.out.alloc _) rfl wr.heap.size 1 [.int .i64 ((N : Int) + 1), .int .u32 ((N : Int) + 1), .int .i64 c, .int .i64 f, .int .i64 k] rfl (at_new _ _) rfl (by simp [Value.oneCell']) (by omega) (by omega) (by simp; omega) ?_; intro gg gcap w1 hown1 hgrow hat hlt1; have hk1 : Chg (fun x => some x = u.ownBlock) wr w1 := Chg.grownO (by (repeat (first | (with_reducible refine Chg.drew ?_) | (with_reducible refine Chg.alloc ?_ _))); exact Chg.refl _ _) hgrow; have HO1 := Lib.hid (hk1.at_ HO.out (HOU.out _ (by omega))); have fO1 := frozen_at HO1.out; have o11 := hk1.cell o1 (HOU.out _ (by omega)); have o10 := hk1.cell o0 (HOU.out _ (by omega)); have HR1 := Lib.hid (hk1.at_ HR.out (HOU.out _ (by omega))); have fR1 := frozen_at HR1.out; have r10 := hk1.cell r0 (HOU.out _ (by omega)); have r11 := hk1.cell r1 (HOU.out _ (by omega))))
      have hfl : ys.flatMap Ent.slot ++ [.int .i64 ((N : Int) + 1), .int .u32 ((N : Int) + 1), .int .i64 c, .int .i64 f, .int .i64 k] = (ys ++ ([⟨(N : Int) + 1, c, f, k⟩] : List Ent)).flatMap Ent.slot := by simp [List.flatMap_append, Ent.slot]
      rw [hfl] at hown1
      obtain ⟨A', cap', he, hsl⟩ := SlotsAt.of_own hown1 (by simp)
      injection he with he1 _ he2
      subst he1 he2
      have hsz : w.heap.size + 1 + 1 < w1.heap.size := by have := hk1.size; omega
      have HS1 : Same w w1 := HS.out.then_ hk1 (fun i hi q => HOU.out i (by omega) q)
      refine bodyPost_ret (results_cell_tmp Try.results33 rfl (run_load_rlog (a := .int .i64 ((N : Int) + 1)) (c := .slice (some ⟨gg, 0, none⟩) (ys.length + 1) gcap) ?_)) rfl ⟨_, _, _, rfl, ?_, ?_⟩
      · refine at_setCell (C := [.int .i64 ((N : Int) + 1), .slice none 0 0]) _ ?_
        refine at_setCell (C := [.int .i64 0, .slice none 0 0]) _ ?_
        exact at_setCell_other _ (by omega) HR1.out
      · rw [HL.out]
        refine SlotsAt.lower (base := w.heap.size + 1 + 1 + 1) ?_ (by omega)
        refine hsl.chg (S := fun x => x = w.heap.size + 1 ∨ x = w.heap.size + 1 + 1) ?_ ?_
        · repeat (refine Chg.setCell ?_ _ _ (fun q => by simp))
          exact Chg.refl _ _
        · intro b hb _ _ q; omega
      · repeat (refine Chg.setCell ?_ _ _ (fun q => by simp at q; omega))
        exact HS1
end Go.Proofs.Ytndldjopgbhphaa
