/- Parts of the walk, packed: RefX, RefY. -/
import Derived.Test.YtndldjopgbhphaaRefW
set_option linter.unusedVariables false
set_option linter.unusedSimpArgs false
set_option maxRecDepth 100000
namespace Go.Proofs.Ytndldjopgbhphaa
open Go.RowKit

set_option maxRecDepth 100000 in
theorem rIssue_bad (A : Option Addr) (N n cap : Nat) (c f k : Int) (w : World) (hg : good c f k = false) :
    Calls Try.prog 33 #[.agg #[.int .i64 N, .slice A n cap], .int .i64 c, .int .i64 f, .int .i64 k] w fun e w' => e = .returned (.tuple #[.agg #[.int .i64 N, .slice A n cap], .int .u32 0]) ∧ Same w w' := by
  have hbad : c < 1 ∨ f < 0 ∨ k < 0 ∨ 62 < k := by
    simp only [good, Bool.and_eq_false_iff, decide_eq_false_iff_not] at hg
    omega
  clear hg
  by_cases q1 : c < 1
  · clear hbad
    go_enter Try.func33, Try.ntmps33
    go_wp2
    refine bodyPost_ret (results_cell_tmp Try.results33 rfl (run_load_rlog (a := .int .i64 N) (c := .slice A n cap) ?_)) rfl ⟨rfl, ?_⟩
    · exact heap_alloc2_new _ _ _
    ·
      repeat (first | (with_reducible refine Chg.drew ?_) | (with_reducible refine Chg.drewN ?_ _) | (with_reducible refine Chg.alloc ?_ _) | (with_reducible refine Chg.setCell ?_ _ _ ?_; rotate_left 1; · (intro q; first | (simp; done) | (exfalso; revert q; simp; done) | (exfalso; revert q; simp; omega) | (simp; omega))))
      exact (Chg.refl _ w)
  by_cases q2 : f < 0
  · clear hbad
    go_enter Try.func33, Try.ntmps33
    go_wp2
    refine bodyPost_ret (results_cell_tmp Try.results33 rfl (run_load_rlog (a := .int .i64 N) (c := .slice A n cap) ?_)) rfl ⟨rfl, ?_⟩
    · exact heap_alloc2_new _ _ _
    ·
      repeat (first | (with_reducible refine Chg.drew ?_) | (with_reducible refine Chg.drewN ?_ _) | (with_reducible refine Chg.alloc ?_ _) | (with_reducible refine Chg.setCell ?_ _ _ ?_; rotate_left 1; · (intro q; first | (simp; done) | (exfalso; revert q; simp; done) | (exfalso; revert q; simp; omega) | (simp; omega))))
      exact (Chg.refl _ w)
  by_cases q3 : k < 0
  · clear hbad
    go_enter Try.func33, Try.ntmps33
    go_wp2
    refine bodyPost_ret (results_cell_tmp Try.results33 rfl (run_load_rlog (a := .int .i64 N) (c := .slice A n cap) ?_)) rfl ⟨rfl, ?_⟩
    · exact heap_alloc2_new _ _ _
    ·
      repeat (first | (with_reducible refine Chg.drew ?_) | (with_reducible refine Chg.drewN ?_ _) | (with_reducible refine Chg.alloc ?_ _) | (with_reducible refine Chg.setCell ?_ _ _ ?_; rotate_left 1; · (intro q; first | (simp; done) | (exfalso; revert q; simp; done) | (exfalso; revert q; simp; omega) | (simp; omega))))
      exact (Chg.refl _ w)
  have q4 : 62 < k := by omega
  clear hbad
  go_enter Try.func33, Try.ntmps33
  go_wp2
  refine bodyPost_ret (results_cell_tmp Try.results33 rfl (run_load_rlog (a := .int .i64 N) (c := .slice A n cap) ?_)) rfl ⟨rfl, ?_⟩
  · exact heap_alloc2_new _ _ _
  ·
    repeat (first | (with_reducible refine Chg.drew ?_) | (with_reducible refine Chg.drewN ?_ _) | (with_reducible refine Chg.alloc ?_ _) | (with_reducible refine Chg.setCell ?_ _ _ ?_; rotate_left 1; · (intro q; first | (simp; done) | (exfalso; revert q; simp; done) | (exfalso; revert q; simp; omega) | (simp; omega))))
    exact (Chg.refl _ w)

def rIssue (N : Nat) (l : List Ent) (c f k : Int) : List Ent := if good c f k then rIssued N l c f k else l
theorem rIssue_ok (A : Option Addr) (N n cap base : Nat) (l : List Ent) (c f k : Int) (w : World) (h : SlotsAt w base A n l) (hb : base ≤ w.heap.size) (hn : n ≤ 1000) (hN : N + 1 ≤ 4294967294) :
    Calls Try.prog 33 #[.agg #[.int .i64 N, .slice A n cap], .int .i64 c, .int .i64 f, .int .i64 k] w fun e w' => ∃ A' n' cap', e = .returned (.tuple #[.agg #[.int .i64 (if good c f k then (N : Int) + 1 else N), .slice A' n' cap'], .int .u32 (if good c f k then (N : Int) + 1 else 0)]) ∧
      SlotsAt w' base A' n' (rIssue N l c f k) ∧ Same w w' := by
  cases hg : good c f k with
  | true =>
    refine (rIssue_good A N n cap base l c f k w h hn hN hg).mono ?_
    rintro e w' ⟨A', n', cap', he, hs, hc⟩
    refine ⟨A', n', cap', by rw [he]; rfl, ?_, hc⟩
    unfold rIssue
    rw [hg, if_pos rfl]
    exact hs.lower hb
  | false =>
    refine (rIssue_bad A N n cap c f k w hg).mono ?_
    rintro e w' ⟨he, hc⟩
    refine ⟨A, n, cap, by rw [he]; rfl, ?_, hc⟩
    unfold rIssue
    rw [hg, if_neg (by decide)]
    exact h.chg hc (fun _ _ _ _ q => q)
end Go.Proofs.Ytndldjopgbhphaa

namespace Go.Proofs.Ytndldjopgbhphaa
open Go.RowKit

theorem rFits_ok (s c f k client kinds : Int) (w : World) (hk : 0 ≤ k) (hk2 : k ≤ 62) :
    Calls Try.prog 100 #[.agg #[.int .u32 s, .int .i64 c, .int .i64 f, .int .i64 k], .int .i64 client, .int .i64 kinds] w fun e w' => e = .returned (.bool (rFit client kinds ⟨s, c, f, k⟩)) ∧ Same w w' := by
  by_cases h2 : (c == client) = true
  · have hr : rFit client kinds ⟨s, c, f, k⟩ = kbit kinds k := by unfold rFit; rw [h2]; rfl
    rw [hr]
    clear hr
    go_enter Try.func100, Try.ntmps100
    go_wp2
    go_ret
    exact ⟨rfl, (Chg.refl _ w).alloc _⟩
  · have h2' : (c == client) = false := by simpa using h2
    have hr : rFit client kinds ⟨s, c, f, k⟩ = false := by unfold rFit; rw [h2']; rfl
    rw [hr]
    clear hr h2
    go_enter Try.func100, Try.ntmps100
    go_wp2
    go_ret
    exact ⟨rfl, (Chg.refl _ w).alloc _⟩

/-! ### Find -/
theorem infoREntry : (Try.prog.info? 135).map (fun i => i.size) = some 4 := by kernel_rfl
theorem run_load_rentry {w : World} {g : Nat} {a c d e : Value} (h : w.heap[g]? = some (.cells #[a, c, d, e] 135 (0, 0))) : (loadVar 135 ⟨g, 0, none⟩).run Try.prog w = .ok (.agg #[a, c, d, e]) w :=
  run_loadMid (P := Try.prog) (C := [a, c, d, e]) 135 0 4 _ h infoREntry Try.underlying135 rfl (by simp)
def rFindV (o : Option Ent) : Value := .tuple #[.agg #[.int .u32 (o.getD Ent.zero).s, .int .i64 (o.getD Ent.zero).c, .int .i64 (o.getD Ent.zero).f, .int .i64 (o.getD Ent.zero).k], .bool o.isSome]
def RFindRel (w : World) (n : Int) (P0 : Obj) (l : List Ent) (v : Value) (wr : World) : Prop :=
  ∃ i : Nat, i ≤ l.length ∧ v = .int .i64 i ∧ (∀ (j : Nat) (x : Ent), j < i → l[j]? = some x → (x.s == n) = false) ∧ wr.heap[w.heap.size]? = some P0 ∧ wr.heap[w.heap.size + 1]? = some (.cells #[.int .u32 0, .int .i64 0, .int .i64 0, .int .i64 0] 135 (0, 0)) ∧ Same w wr
theorem rFind_hit {l : List Ent} {n : Int} {i : Nat} {e : Ent} (he : l[i]? = some e) (hs : (e.s == n) = true) (hno : ∀ (j : Nat) (x : Ent), j < i → l[j]? = some x → (x.s == n) = false) : rFind l n = some e := by
  unfold rFind
  rw [List.find?_eq_some_iff_getElem]
  have hi : i < l.length := (List.getElem?_eq_some_iff.1 he).1
  refine ⟨hs, i, hi, (List.getElem?_eq_some_iff.1 he).2, fun j hj => ?_⟩
  have := hno j _ hj (List.getElem?_eq_getElem (by omega))
  simpa using this
theorem rFind_miss {l : List Ent} {n : Int} (hno : ∀ (j : Nat) (x : Ent), j < l.length → l[j]? = some x → (x.s == n) = false) : rFind l n = none := by
  unfold rFind
  rw [List.find?_eq_none]
  intro x hx
  obtain ⟨j, hj, hjx⟩ := List.getElem_of_mem hx
  have := hno j x hj (by rw [List.getElem?_eq_getElem hj, hjx])
  simpa using this

set_option maxRecDepth 100000 in
set_option maxHeartbeats 8000000 in
theorem rFind_ok (A : Option Addr) (N n cap base : Nat) (l : List Ent) (s : Int) (w : World) (h : SlotsAt w base A n l) (hn : n ≤ 1000) :
    Calls Try.prog 99 #[.agg #[.int .i64 N, .slice A n cap], .int .u32 s] w fun e w' => e = .returned (rFindV (rFind l s)) ∧ Same w w' := by
  have hlen := h.1
  have HA := Lib.hid h
  clear h
  go_enter Try.func99, Try.ntmps99
  go_wp2
  go_loopw [6] (fun v wr => RFindRel w s (.cells #[.int .i64 N, .slice A n cap] 58 (0, 0)) l v wr) (fun v _ => n - (intOf v).toNat)
  case atStart =>
    refine ⟨0, by omega, rfl, fun j x hj => by omega, at_alloc (at_new _ _), heap_alloc2_new _ _ _, ?_⟩
    repeat (first | (with_reducible refine Chg.drew ?_) | (with_reducible refine Chg.drewN ?_ _) | (with_reducible refine Chg.alloc ?_ _) | (with_reducible refine Chg.setCell ?_ _ _ ?_; rotate_left 1; · (intro q; first | (simp; done) | (exfalso; revert q; simp; done) | (exfalso; revert q; simp; omega) | (simp; omega))))
    exact (Chg.refl _ w)
  case round =>
    obtain ⟨i, hi, rfl, hno, hP, hR, hs⟩ := hrel
    rw [hlen] at hi
    have p1 := cell_at (C := [.int .i64 N, .slice A n cap]) hP 1
    have r0 := cell_at (C := [.int .u32 0, .int .i64 0, .int .i64 0, .int .i64 0]) hR 0
    have r1 := cell_at (C := [.int .u32 0, .int .i64 0, .int .i64 0, .int .i64 0]) hR 1
    have r2 := cell_at (C := [.int .u32 0, .int .i64 0, .int .i64 0, .int .i64 0]) hR 2
    have r3 := cell_at (C := [.int .u32 0, .int .i64 0, .int .i64 0, .int .i64 0]) hR 3
    simp only [List.getElem?_cons_zero, List.getElem?_cons_succ] at p1 r0 r1 r2 r3
    have fR := frozen_at hR
    have hRs := lt_of_at hR
    have HN := Lib.hid hno
    have HS := Lib.hid hs
    have HP := Lib.hid hP
    have HR := Lib.hid hR
    clear hno hs hP hR
    by_cases hlt : i < n
    · have hb0 : (0 : Int) ≤ (i : Int) := Int.natCast_nonneg _
      have hb1 : (i : Int) < (n : Int) := by omega
      obtain ⟨b, x, rfl, hbase, hbw, hx, hc⟩ := HA.out.at_ hlt
      have hc' : ∀ (j : Nat) (v : Value), x.slot[j]? = some v → wr.cell? ⟨b, i * 5 + j, none⟩ = some v := fun j v hv => HS.out.cell (hc j v hv) (fun q => q)
      have x1 := hc' 1 _ rfl
      have x2 := hc' 2 _ rfl
      have x3 := hc' 3 _ rfl
      have x4 := hc' 4 _ rfl
      have HX := Lib.hid hx
      clear hc hc' hx
      obtain ⟨xs, xc, xf, xk⟩ := x
      simp only at x1 x2 x3 x4
      cases hk : (xs == s) with
      | true =>
        have HF := Lib.hid (rFind_hit HX.out hk HN.out)
        go_wp2
        refine bodyPost_ret (results_cell_tmp Try.results99 rfl (run_load_rentry (a := .int .u32 xs) (c := .int .i64 xc) (d := .int .i64 xf) (e := .int .i64 xk) ?_)) rfl ⟨?_, ?_⟩
        · refine at_setCell (C := [.int .u32 xs, .int .i64 xc, .int .i64 xf, .int .i64 0]) _ ?_
          refine at_setCell (C := [.int .u32 xs, .int .i64 xc, .int .i64 0, .int .i64 0]) _ ?_
          refine at_setCell (C := [.int .u32 xs, .int .i64 0, .int .i64 0, .int .i64 0]) _ ?_
          refine at_setCell (C := [.int .u32 0, .int .i64 0, .int .i64 0, .int .i64 0]) _ ?_
          exact HR.out
        · rw [HF.out]; rfl
        ·
          repeat (first | (with_reducible refine Chg.drew ?_) | (with_reducible refine Chg.drewN ?_ _) | (with_reducible refine Chg.alloc ?_ _) | (with_reducible refine Chg.setCell ?_ _ _ ?_; rotate_left 1; · (intro q; first | (simp; done) | (exfalso; revert q; simp; done) | (exfalso; revert q; simp; omega) | (simp; omega))))
          exact HS.out
      | false =>
        go_wp2
        go_roundw
        case rel =>
          exact ⟨i + 1, by omega, by go_num, fun j x hj hjx => by
            rcases Nat.lt_succ_iff_lt_or_eq.1 hj with h1 | rfl
            · exact HN.out j x h1 hjx
            · rw [HX.out] at hjx; injection hjx with hjx; rw [← hjx]; exact hk, HP.out, HR.out, HS.out⟩
        case measure => simp [intOf]; omega
    · have hb1 : ¬ (i : Int) < (n : Int) := by omega
      have HF := Lib.hid (rFind_miss (l := l) (n := s) (fun j x hj hjx => HN.out j x (by omega) hjx))
      go_wp2
      refine bodyPost_ret (results_cell_tmp Try.results99 rfl (run_load_rentry (a := .int .u32 0) (c := .int .i64 0) (d := .int .i64 0) (e := .int .i64 0) ?_)) rfl ⟨?_, ?_⟩
      · refine at_setCell (C := [.int .u32 0, .int .i64 0, .int .i64 0, .int .i64 0]) _ ?_
        refine at_setCell (C := [.int .u32 0, .int .i64 0, .int .i64 0, .int .i64 0]) _ ?_
        refine at_setCell (C := [.int .u32 0, .int .i64 0, .int .i64 0, .int .i64 0]) _ ?_
        refine at_setCell (C := [.int .u32 0, .int .i64 0, .int .i64 0, .int .i64 0]) _ ?_
        exact HR.out
      · rw [HF.out]; rfl
      ·
        repeat (first | (with_reducible refine Chg.drew ?_) | (with_reducible refine Chg.drewN ?_ _) | (with_reducible refine Chg.alloc ?_ _) | (with_reducible refine Chg.setCell ?_ _ _ ?_; rotate_left 1; · (intro q; first | (simp; done) | (exfalso; revert q; simp; done) | (exfalso; revert q; simp; omega) | (simp; omega))))
        exact HS.out

/-! ### Check -/
set_option maxRecDepth 100000 in
set_option maxHeartbeats 4000000 in
theorem rCheck_ok (A : Option Addr) (N n cap base : Nat) (l : List Ent) (s client kinds : Int) (w : World) (h : SlotsAt w base A n l) (hn : n ≤ 1000) (hk : ∀ e ∈ l, 0 ≤ e.k ∧ e.k ≤ 62) :
    Calls Try.prog 87 #[.agg #[.int .i64 N, .slice A n cap], .int .u32 s, .int .i64 client, .int .i64 kinds] w fun e w' => e = .returned (.int .i64 (rCheck l s client kinds)) ∧ Same w w' := by
  have HF := Lib.hid (fun (w : World) (h : SlotsAt w base A n l) => rFind_ok A N n cap base l s w h hn)
  have HA := Lib.hid h
  clear h
  cases hf : rFind l s with
  | none =>
    have hr : rCheck l s client kinds = 13 := by unfold rCheck; rw [hf]
    rw [hr]
    rw [hf] at HF
    simp only [rFindV, Option.getD_none, Option.isSome_none, Ent.zero] at HF
    clear hr hk
    go_enter Try.func87, Try.ntmps87
    go_wp2_with (go_at_call 99; refine (HF.out _ (HA.out.chg ((Chg.refl (fun _ => False) w).alloc _) (fun _ _ _ _ q => q))).mono ?_; rintro e w1 ⟨rfl, hs1⟩; have HS := Lib.hid hs1; clear hs1)
    go_ret
    refine ⟨rfl, ?_⟩
    have := ((Chg.refl (fun _ => False) w).alloc _).trans HS.out
    repeat (first | (with_reducible refine Chg.drew ?_) | (with_reducible refine Chg.drewN ?_ _) | (with_reducible refine Chg.alloc ?_ _) | (with_reducible refine Chg.setCell ?_ _ _ ?_; rotate_left 1; · (intro q; first | (simp; done) | (exfalso; revert q; simp; done) | (exfalso; revert q; simp; omega) | (simp; omega))))
    exact this
  | some x =>
    have hx := hk x (List.mem_of_find?_eq_some hf)
    have hr : rCheck l s client kinds = if rFit client kinds x then 0 else 13 := by unfold rCheck; rw [hf]
    rw [hr]
    rw [hf] at HF
    simp only [rFindV, Option.getD_some, Option.isSome_some] at HF
    clear hr hk
    obtain ⟨xs, xc, xf, xk⟩ := x
    simp only at hx HF
    have hm := Lib.hid (fun w => rFits_ok xs xc xf xk client kinds w hx.1 hx.2)
    cases hfit : rFit client kinds ⟨xs, xc, xf, xk⟩ with
    | true =>
      rw [hfit] at hm
      simp only [if_true]
      go_enter Try.func87, Try.ntmps87
      go_wp2_with (first | (go_at_call 99; refine (HF.out _ (HA.out.chg ((Chg.refl (fun _ => False) w).alloc _) (fun _ _ _ _ q => q))).mono ?_; rintro e w1 ⟨rfl, hs1⟩; have HS := Lib.hid hs1; clear hs1) | (go_at_call 100; refine (hm.out _).mono ?_; rintro e w2 ⟨rfl, hs2⟩; have HS2 := Lib.hid hs2; clear hs2))
      go_ret
      refine ⟨rfl, Chg.trans ?_ HS2.out⟩
      have := ((Chg.refl (fun _ => False) w).alloc _).trans HS.out
      repeat (first | (with_reducible refine Chg.drew ?_) | (with_reducible refine Chg.drewN ?_ _) | (with_reducible refine Chg.alloc ?_ _) | (with_reducible refine Chg.setCell ?_ _ _ ?_; rotate_left 1; · (intro q; first | (simp; done) | (exfalso; revert q; simp; done) | (exfalso; revert q; simp; omega) | (simp; omega))))
      exact this
    | false =>
      rw [hfit] at hm
      simp only [Bool.false_eq_true, if_false]
      go_enter Try.func87, Try.ntmps87
      go_wp2_with (first | (go_at_call 99; refine (HF.out _ (HA.out.chg ((Chg.refl (fun _ => False) w).alloc _) (fun _ _ _ _ q => q))).mono ?_; rintro e w1 ⟨rfl, hs1⟩; have HS := Lib.hid hs1; clear hs1) | (go_at_call 100; refine (hm.out _).mono ?_; rintro e w2 ⟨rfl, hs2⟩; have HS2 := Lib.hid hs2; clear hs2))
      go_ret
      refine ⟨rfl, Chg.trans ?_ HS2.out⟩
      have := ((Chg.refl (fun _ => False) w).alloc _).trans HS.out
      repeat (first | (with_reducible refine Chg.drew ?_) | (with_reducible refine Chg.drewN ?_ _) | (with_reducible refine Chg.alloc ?_ _) | (with_reducible refine Chg.setCell ?_ _ _ ?_; rotate_left 1; · (intro q; first | (simp; done) | (exfalso; revert q; simp; done) | (exfalso; revert q; simp; omega) | (simp; omega))))
      exact this
end Go.Proofs.Ytndldjopgbhphaa
