/- Parts of the walk, packed: RefY, RefL, FSame. -/
import Derived.Test.YteolilggeaffaaaPk29
import Derived.Test.YteolilggeaffaaaSess43
set_option linter.unusedVariables false
set_option linter.unusedSimpArgs false
set_option maxRecDepth 100000
namespace Go.Proofs.Yteolilggeaffaaa
open Go.RowKit

theorem rFits_ok (s c f k client kinds : Int) (w : World) (hk : 0 ≤ k) (hk2 : k ≤ 62) :
    Calls Try.prog 91 #[.agg #[.int .u32 s, .int .i64 c, .int .i64 f, .int .i64 k], .int .i64 client, .int .i64 kinds] w fun e w' => e = .returned (.bool (rFit client kinds ⟨s, c, f, k⟩)) ∧ Same w w' := by
  by_cases h2 : (c == client) = true
  · have hr : rFit client kinds ⟨s, c, f, k⟩ = kbit kinds k := by unfold rFit; rw [h2]; rfl
    rw [hr]
    clear hr
    go_enter Try.func91, Try.ntmps91
    go_wp2
    go_ret
    exact ⟨rfl, (Chg.refl _ w).alloc _⟩
  · have h2' : (c == client) = false := by simpa using h2
    have hr : rFit client kinds ⟨s, c, f, k⟩ = false := by unfold rFit; rw [h2']; rfl
    rw [hr]
    clear hr h2
    go_enter Try.func91, Try.ntmps91
    go_wp2
    go_ret
    exact ⟨rfl, (Chg.refl _ w).alloc _⟩

/-! ### Find -/
theorem infoREntry : (Try.prog.info? 133).map (fun i => i.size) = some 4 := by kernel_rfl
theorem run_load_rentry {w : World} {g : Nat} {a c d e : Value} (h : w.heap[g]? = some (.cells #[a, c, d, e] 133 (0, 0))) : (loadVar 133 ⟨g, 0, none⟩).run Try.prog w = .ok (.agg #[a, c, d, e]) w :=
  run_loadMid (P := Try.prog) (C := [a, c, d, e]) 133 0 4 _ h infoREntry Try.underlying133 rfl (by simp)
def rFindV (o : Option Ent) : Value := .tuple #[.agg #[.int .u32 (o.getD Ent.zero).s, .int .i64 (o.getD Ent.zero).c, .int .i64 (o.getD Ent.zero).f, .int .i64 (o.getD Ent.zero).k], .bool o.isSome]
def RFindRel (w : World) (n : Int) (P0 : Obj) (l : List Ent) (v : Value) (wr : World) : Prop :=
  ∃ i : Nat, i ≤ l.length ∧ v = .int .i64 i ∧ (∀ (j : Nat) (x : Ent), j < i → l[j]? = some x → (x.s == n) = false) ∧ wr.heap[w.heap.size]? = some P0 ∧ wr.heap[w.heap.size + 1]? = some (.cells #[.int .u32 0, .int .i64 0, .int .i64 0, .int .i64 0] 133 (0, 0)) ∧ Same w wr
theorem rFind_hit {l : List Ent} {n : Int} {i : Nat} {e : Ent} (he : l[i]? = some e) (hs : (e.s == n) = true) (hno : ∀ (j : Nat) (x : Ent), j < i → l[j]? = some x → (x.s == n) = false) : rFind l n = some e := by
  unfold rFind
  rw [List.find?_eq_some_iff_getElem]
  have hi : i < l.length := (List.getElem?_eq_some_iff.1 he).1
  refine ⟨hs, i, hi, (List.getElem?_eq_some_iff.1 he).2, fun j hj => ?_⟩
  have := hno j _ hj (List.getElem?_eq_getElem (by omega))
  simpa using this
theorem rFind_miss {l : List Ent} {n : Int} (hno : ∀ (j : Nat) (x : Ent), j < l.length → l[j]? = some x → (x.s == n) = false) : rFind l n = none := by
  unfold rFind
  rw [List.find?_eq_none]
  intro x hx
  obtain ⟨j, hj, hjx⟩ := List.getElem_of_mem hx
  have := hno j x hj (by rw [List.getElem?_eq_getElem hj, hjx])
  simpa using this

set_option maxRecDepth 100000 in
set_option maxHeartbeats 8000000 in
theorem rFind_ok (A : Option Addr) (N n cap base : Nat) (l : List Ent) (s : Int) (w : World) (h : SlotsAt w base A n l) (hn : n ≤ 1000) :
    Calls Try.prog 84 #[.agg #[.int .i64 N, .slice A n cap], .int .u32 s] w fun e w' => e = .returned (rFindV (rFind l s)) ∧ Same w w' := by
  have hlen := h.1
  have HA := Lib.hid h
  clear h
  go_enter Try.func84, Try.ntmps84
  go_wp2
  go_loopw [6] (fun v wr => RFindRel w s (.cells #[.int .i64 N, .slice A n cap] 60 (0, 0)) l v wr) (fun v _ => n - (intOf v).toNat)
  case atStart =>
    refine ⟨0, by omega, rfl, fun j x hj => by omega, at_alloc (at_new _ _), heap_alloc2_new _ _ _, ?_⟩
    repeat (first | (with_reducible refine Chg.drew ?_) | (with_reducible refine Chg.drewN ?_ _) | (with_reducible refine Chg.alloc ?_ _) | (with_reducible refine Chg.setCell ?_ _ _ ?_; rotate_left 1; · (intro q; first | (simp; done) | (exfalso; revert q; simp; done) | (exfalso; revert q; simp; omega) | (simp; omega))))
    exact (Chg.refl _ w)
  case round =>
    obtain ⟨i, hi, rfl, hno, hP, hR, hs⟩ := hrel
    rw [hlen] at hi
    have p1 := cell_at (C := [.int .i64 N, .slice A n cap]) hP 1
    have r0 := cell_at (C := [.int .u32 0, .int .i64 0, .int .i64 0, .int .i64 0]) hR 0
    have r1 := cell_at (C := [.int .u32 0, .int .i64 0, .int .i64 0, .int .i64 0]) hR 1
    have r2 := cell_at (C := [.int .u32 0, .int .i64 0, .int .i64 0, .int .i64 0]) hR 2
    have r3 := cell_at (C := [.int .u32 0, .int .i64 0, .int .i64 0, .int .i64 0]) hR 3
    simp only [List.getElem?_cons_zero, List.getElem?_cons_succ] at p1 r0 r1 r2 r3
    have fR := frozen_at hR
    have hRs := lt_of_at hR
    have HN := Lib.hid hno
    have HS := Lib.hid hs
    have HP := Lib.hid hP
    have HR := Lib.hid hR
    clear hno hs hP hR
    by_cases hlt : i < n
    · have hb0 : (0 : Int) ≤ (i : Int) := Int.natCast_nonneg _
      have hb1 : (i : Int) < (n : Int) := by omega
      obtain ⟨b, x, rfl, hbase, hbw, hx, hc⟩ := HA.out.at_ hlt
      have hc' : ∀ (j : Nat) (v : Value), x.slot[j]? = some v → wr.cell? ⟨b, i * 5 + j, none⟩ = some v := fun j v hv => HS.out.cell (hc j v hv) (fun q => q)
      have x1 := hc' 1 _ rfl
      have x2 := hc' 2 _ rfl
      have x3 := hc' 3 _ rfl
      have x4 := hc' 4 _ rfl
      have HX := Lib.hid hx
      clear hc hc' hx
      obtain ⟨xs, xc, xf, xk⟩ := x
      simp only at x1 x2 x3 x4
      cases hk : (xs == s) with
      | true =>
        have HF := Lib.hid (rFind_hit HX.out hk HN.out)
        go_wp2
        refine bodyPost_ret (results_cell_tmp Try.results84 rfl (run_load_rentry (a := .int .u32 xs) (c := .int .i64 xc) (d := .int .i64 xf) (e := .int .i64 xk) ?_)) rfl ⟨?_, ?_⟩
        · refine at_setCell (C := [.int .u32 xs, .int .i64 xc, .int .i64 xf, .int .i64 0]) _ ?_
          refine at_setCell (C := [.int .u32 xs, .int .i64 xc, .int .i64 0, .int .i64 0]) _ ?_
          refine at_setCell (C := [.int .u32 xs, .int .i64 0, .int .i64 0, .int .i64 0]) _ ?_
          refine at_setCell (C := [.int .u32 0, .int .i64 0, .int .i64 0, .int .i64 0]) _ ?_
          exact HR.out
        · rw [HF.out]; rfl
        ·
          repeat (first | (with_reducible refine Chg.drew ?_) | (with_reducible refine Chg.drewN ?_ _) | (with_reducible refine Chg.alloc ?_ _) | (with_reducible refine Chg.setCell ?_ _ _ ?_; rotate_left 1; · (intro q; first | (simp; done) | (exfalso; revert q; simp; done) | (exfalso; revert q; simp; omega) | (simp; omega))))
          exact HS.out
      | false =>
        go_wp2
        go_roundw
        case rel =>
          exact ⟨i + 1, by omega, by go_num, fun j x hj hjx => by
            rcases Nat.lt_succ_iff_lt_or_eq.1 hj with h1 | rfl
            · exact HN.out j x h1 hjx
            · rw [HX.out] at hjx; injection hjx with hjx; rw [← hjx]; exact hk, HP.out, HR.out, HS.out⟩
        case measure => simp [intOf]; omega
    · have hb1 : ¬ (i : Int) < (n : Int) := by omega
      have HF := Lib.hid (rFind_miss (l := l) (n := s) (fun j x hj hjx => HN.out j x (by omega) hjx))
      go_wp2
      refine bodyPost_ret (results_cell_tmp Try.results84 rfl (run_load_rentry (a := .int .u32 0) (c := .int .i64 0) (d := .int .i64 0) (e := .int .i64 0) ?_)) rfl ⟨?_, ?_⟩
      · refine at_setCell (C := [.int .u32 0, .int .i64 0, .int .i64 0, .int .i64 0]) _ ?_
        refine at_setCell (C := [.int .u32 0, .int .i64 0, .int .i64 0, .int .i64 0]) _ ?_
        refine at_setCell (C := [.int .u32 0, .int .i64 0, .int .i64 0, .int .i64 0]) _ ?_
        refine at_setCell (C := [.int .u32 0, .int .i64 0, .int .i64 0, .int .i64 0]) _ ?_
        exact HR.out
      · rw [HF.out]; rfl
      ·
        repeat (first | (with_reducible refine Chg.drew ?_) | (with_reducible refine Chg.drewN ?_ _) | (with_reducible refine Chg.alloc ?_ _) | (with_reducible refine Chg.setCell ?_ _ _ ?_; rotate_left 1; · (intro q; first | (simp; done) | (exfalso; revert q; simp; done) | (exfalso; revert q; simp; omega) | (simp; omega))))
        exact HS.out

/-! ### Check -/
set_option maxRecDepth 100000 in
set_option maxHeartbeats 4000000 in
theorem rCheck_ok (A : Option Addr) (N n cap base : Nat) (l : List Ent) (s client kinds : Int) (w : World) (h : SlotsAt w base A n l) (hn : n ≤ 1000) (hk : ∀ e ∈ l, 0 ≤ e.k ∧ e.k ≤ 62) :
    Calls Try.prog 85 #[.agg #[.int .i64 N, .slice A n cap], .int .u32 s, .int .i64 client, .int .i64 kinds] w fun e w' => e = .returned (.int .i64 (rCheck l s client kinds)) ∧ Same w w' := by
  have HF := Lib.hid (fun (w : World) (h : SlotsAt w base A n l) => rFind_ok A N n cap base l s w h hn)
  have HA := Lib.hid h
  clear h
  cases hf : rFind l s with
  | none =>
    have hr : rCheck l s client kinds = 13 := by unfold rCheck; rw [hf]
    rw [hr]
    rw [hf] at HF
    simp only [rFindV, Option.getD_none, Option.isSome_none, Ent.zero] at HF
    clear hr hk
    go_enter Try.func85, Try.ntmps85
    go_wp2_with (go_at_call 84; refine (HF.out _ (HA.out.chg ((Chg.refl (fun _ => False) w).alloc _) (fun _ _ _ _ q => q))).mono ?_; rintro e w1 ⟨rfl, hs1⟩; have HS := Lib.hid hs1; clear hs1)
    go_ret
    refine ⟨rfl, ?_⟩
    have := ((Chg.refl (fun _ => False) w).alloc _).trans HS.out
    repeat (first | (with_reducible refine Chg.drew ?_) | (with_reducible refine Chg.drewN ?_ _) | (with_reducible refine Chg.alloc ?_ _) | (with_reducible refine Chg.setCell ?_ _ _ ?_; rotate_left 1; · (intro q; first | (simp; done) | (exfalso; revert q; simp; done) | (exfalso; revert q; simp; omega) | (simp; omega))))
    exact this
  | some x =>
    have hx := hk x (List.mem_of_find?_eq_some hf)
    have hr : rCheck l s client kinds = if rFit client kinds x then 0 else 13 := by unfold rCheck; rw [hf]
    rw [hr]
    rw [hf] at HF
    simp only [rFindV, Option.getD_some, Option.isSome_some] at HF
    clear hr hk
    obtain ⟨xs, xc, xf, xk⟩ := x
    simp only at hx HF
    have hm := Lib.hid (fun w => rFits_ok xs xc xf xk client kinds w hx.1 hx.2)
    cases hfit : rFit client kinds ⟨xs, xc, xf, xk⟩ with
    | true =>
      rw [hfit] at hm
      simp only [if_true]
      go_enter Try.func85, Try.ntmps85
      go_wp2_with (first | (go_at_call 84; refine (HF.out _ (HA.out.chg ((Chg.refl (fun _ => False) w).alloc _) (fun _ _ _ _ q => q))).mono ?_; rintro e w1 ⟨rfl, hs1⟩; have HS := Lib.hid hs1; clear hs1) | (go_at_call 91; refine (hm.out _).mono ?_; rintro e w2 ⟨rfl, hs2⟩; have HS2 := Lib.hid hs2; clear hs2))
      go_ret
      refine ⟨rfl, Chg.trans ?_ HS2.out⟩
      have := ((Chg.refl (fun _ => False) w).alloc _).trans HS.out
      repeat (first | (with_reducible refine Chg.drew ?_) | (with_reducible refine Chg.drewN ?_ _) | (with_reducible refine Chg.alloc ?_ _) | (with_reducible refine Chg.setCell ?_ _ _ ?_; rotate_left 1; · (intro q; first | (simp; done) | (exfalso; revert q; simp; done) | (exfalso; revert q; simp; omega) | (simp; omega))))
      exact this
    | false =>
      rw [hfit] at hm
      simp only [Bool.false_eq_true, if_false]
      go_enter Try.func85, Try.ntmps85
      go_wp2_with (first | (go_at_call 84; refine (HF.out _ (HA.out.chg ((Chg.refl (fun _ => False) w).alloc _) (fun _ _ _ _ q => q))).mono ?_; rintro e w1 ⟨rfl, hs1⟩; have HS := Lib.hid hs1; clear hs1) | (go_at_call 91; refine (hm.out _).mono ?_; rintro e w2 ⟨rfl, hs2⟩; have HS2 := Lib.hid hs2; clear hs2))
      go_ret
      refine ⟨rfl, Chg.trans ?_ HS2.out⟩
      have := ((Chg.refl (fun _ => False) w).alloc _).trans HS.out
      repeat (first | (with_reducible refine Chg.drew ?_) | (with_reducible refine Chg.drewN ?_ _) | (with_reducible refine Chg.alloc ?_ _) | (with_reducible refine Chg.setCell ?_ _ _ ?_; rotate_left 1; · (intro q; first | (simp; done) | (exfalso; revert q; simp; done) | (exfalso; revert q; simp; omega) | (simp; omega))))
      exact this
end Go.Proofs.Yteolilggeaffaaa

namespace Go.Proofs.Yteolilggeaffaaa
open Go.RowKit

/-! ### Latest -/
def RLatRel (w : World) (client kinds : Int) (P0 : Obj) (l : List Ent) (v : Value) (wr : World) : Prop :=
  ∃ m : Nat, m ≤ l.length ∧ v = .int .i64 ((m : Int) - 1) ∧ (∀ (j : Nat) (x : Ent), m ≤ j → l[j]? = some x → rFit client kinds x = false) ∧ wr.heap[w.heap.size]? = some P0 ∧ Same w wr

set_option maxRecDepth 100000 in
set_option maxHeartbeats 4000000 in
theorem rLatest_ok (A : Option Addr) (N n cap base : Nat) (l : List Ent) (client kinds : Int) (w : World) (h : SlotsAt w base A n l) (hn : n ≤ 1000) (hk : ∀ e ∈ l, 0 ≤ e.k ∧ e.k ≤ 62) :
    Calls Try.prog 86 #[.agg #[.int .i64 N, .slice A n cap], .int .i64 client, .int .i64 kinds] w fun e w' => e = .returned (.int .u32 (rLatest l client kinds)) ∧ Same w w' := by
  have hlen := h.1
  have HA := Lib.hid h
  have HK := Lib.hid hk
  clear h hk
  go_enter Try.func86, Try.ntmps86
  go_wp2
  go_loopw [7] (fun v wr => RLatRel w client kinds (.cells #[.int .i64 N, .slice A n cap] 60 (0, 0)) l v wr) (fun v _ => (intOf v + 1).toNat)
  case atStart =>
    refine ⟨n, by omega, by go_num, fun j x hj hx => ?_, at_new _ _, ?_⟩
    · have := (List.getElem?_eq_some_iff.1 hx).1; omega
    ·
      repeat (first | (with_reducible refine Chg.drew ?_) | (with_reducible refine Chg.drewN ?_ _) | (with_reducible refine Chg.alloc ?_ _) | (with_reducible refine Chg.setCell ?_ _ _ ?_; rotate_left 1; · (intro q; first | (simp; done) | (exfalso; revert q; simp; done) | (exfalso; revert q; simp; omega) | (simp; omega))))
      exact (Chg.refl _ w)
  case round =>
    obtain ⟨m, hi, rfl, hno, hP, hs⟩ := hrel
    rw [hlen] at hi
    have p1 := cell_at (C := [.int .i64 N, .slice A n cap]) hP 1
    simp only [List.getElem?_cons_zero, List.getElem?_cons_succ] at p1
    have HN := Lib.hid hno
    have HS := Lib.hid hs
    have HP := Lib.hid hP
    clear hno hs hP
    by_cases hlt : 0 < m
    · obtain ⟨i, rfl⟩ : ∃ i, m = i + 1 := ⟨m - 1, by omega⟩
      have hcast : ((i + 1 : Nat) : Int) - 1 = (i : Int) := by omega
      rw [hcast]
      have hb0 : (0 : Int) ≤ (i : Int) := Int.natCast_nonneg _
      have hb1 : (i : Int) < (n : Int) := by omega
      obtain ⟨b, x, rfl, hbase, hbw, hx, hc⟩ := HA.out.at_ (i := i) (by omega)
      have hc' : ∀ (j : Nat) (v : Value), x.slot[j]? = some v → wr.cell? ⟨b, i * 5 + j, none⟩ = some v := fun j v hv => HS.out.cell (hc j v hv) (fun q => q)
      have hxk := HK.out x (List.mem_of_getElem? hx)
      have x1 := hc' 1 _ rfl
      have x2 := hc' 2 _ rfl
      have x3 := hc' 3 _ rfl
      have x4 := hc' 4 _ rfl
      have HX := Lib.hid hx
      clear hc hc' hx
      obtain ⟨xs, xc, xf, xk⟩ := x
      simp only at x1 x2 x3 x4 hxk
      have hm := Lib.hid (fun w => rFits_ok xs xc xf xk client kinds w hxk.1 hxk.2)
      cases hfit : rFit client kinds ⟨xs, xc, xf, xk⟩ with
      | true =>
        have HF := Lib.hid (rLatest_at HX.out hfit (fun j x hj hjx => HN.out j x (by omega) hjx))
        rw [hfit] at hm
        go_wp2_with (go_at_call 91; refine (hm.out _).mono ?_; rintro e w2 ⟨rfl, hs2⟩; have HS2 := Lib.hid hs2; have p1' := hs2.cell p1 (fun q => q); have x1' := hs2.cell x1 (fun q => q); clear hs2)
        go_ret
        refine ⟨by rw [HF.out]; rfl, HS.out.trans HS2.out⟩
      | false =>
        rw [hfit] at hm
        go_wp2_with (go_at_call 91; refine (hm.out _).mono ?_; rintro e w2 ⟨rfl, hs2⟩; have HS2 := Lib.hid hs2; clear hs2)
        go_roundw
        case rel =>
          refine ⟨i, by omega, by go_num, fun j x hj hjx => ?_, HS2.out.at_ HP.out (fun q => q), HS.out.trans HS2.out⟩
          rcases Nat.lt_or_eq_of_le hj with h1 | rfl
          · exact HN.out j x h1 hjx
          · rw [HX.out] at hjx; injection hjx with hjx; rw [← hjx]; exact hfit
        case measure => simp [intOf]
    · obtain rfl : m = 0 := by omega
      have HF := Lib.hid (rLatest_none (l := l) (client := client) (kinds := kinds) (fun x hx => by
        obtain ⟨j, hj, hjx⟩ := List.getElem_of_mem hx
        exact HN.out j x (by omega) (by rw [List.getElem?_eq_getElem hj, hjx])))
      go_wp2
      go_ret
      exact ⟨by rw [HF.out]; rfl, HS.out⟩
end Go.Proofs.Yteolilggeaffaaa

namespace Go.Proofs.Yteolilggeaffaaa
open Go.RowKit

theorem neq_same_deliv (a1 a2 a3 a4 a5 a6 a7 a8 a9 : Int) (w : World) : (binOp .neq 72 (.agg #[.int .i64 a1, .int .i64 a2, .int .i64 a3, .int .i64 a4, .int .i64 a5, .int .i64 a6, .int .i64 a7, .int .i64 a8, .int .u32 a9]) (.agg #[.int .i64 a1, .int .i64 a2, .int .i64 a3, .int .i64 a4, .int .i64 a5, .int .i64 a6, .int .i64 a7, .int .i64 a8, .int .u32 a9])).run Try.prog w = .ok (.bool false) w := by
  have h9 : (Op.equalIn 10000 72 (.agg #[.int .i64 a1, .int .i64 a2, .int .i64 a3, .int .i64 a4, .int .i64 a5, .int .i64 a6, .int .i64 a7, .int .i64 a8, .int .u32 a9]) (.agg #[.int .i64 a1, .int .i64 a2, .int .i64 a3, .int .i64 a4, .int .i64 a5, .int .i64 a6, .int .i64 a7, .int .i64 a8, .int .u32 a9])).run Try.prog w = .ok true w := by
    rw [run_equalIn_agg w 9999 _ _ _ under_deliv stood_deliv]
    have h := under_deliv
    rw [Try.underlying72] at h
    simp only [Option.some.injEq, TypeDesc.struct.injEq] at h
    rw [← h]
    simp [Op.eqFields, part, isAgg, run_underlying Try.underlying33, run_underlying Try.underlying3, Sem.run_bind, run_equalIn_int _ _ _ _ _ _ _ Try.underlying33, run_equalIn_int _ _ _ _ _ _ _ Try.underlying3]
  simp only [binOp]
  simp [Op.equal, Op.maxDepth, h9]
/-- A row of deliveries, wherever it lies. -/
def DvsAt (w : World) (A : Option Addr) (ds : List Dv) : Prop := 0 < ds.length → ∃ g, A = some ⟨g, 0, none⟩ ∧ g < w.heap.size ∧ ∀ (i : Nat) x, ds[i]? = some x → ∀ j u, x.cells[j]? = some u → w.cell? ⟨g, i * 9 + j, none⟩ = some u
theorem DvsAt.same {w w' : World} {A : Option Addr} {ds : List Dv} (h : DvsAt w A ds) (k : Same w w') : DvsAt w' A ds := fun hl => by
  obtain ⟨g, e, hg, hc⟩ := h hl
  exact ⟨g, e, Nat.lt_of_lt_of_le hg k.size, fun i x hx j u hu => k.cell (hc i x hx j u hu) (fun q => q)⟩
set_option maxHeartbeats 4000000 in
theorem fsame_ok (ds : List Dv) (A B : Option Addr) (ca cb : Nat) (w : World) (hA : DvsAt w A ds) (hB : DvsAt w B ds) (hn : ds.length ≤ 1000000) :
    Calls Try.prog 28 #[.slice A ds.length ca, .slice B ds.length cb] w fun e w' => e = .returned (.bool true) ∧ Same w w' := by
  have HAB := Lib.hid (And.intro hA hB)
  have hni : (ds.length : Int) ≤ 1000000 := by omega
  clear hA hB
  go_enter Try.func28, Try.ntmps28
  go_wp2
  go_loopw [5] (fun v5 wr => ∃ i : Nat, i ≤ ds.length ∧ v5 = .int .i64 i ∧ Same w wr) (fun v5 _ => ds.length - (intOf v5).toNat)
  case atStart => exact ⟨0, by omega, rfl, Chg.refl _ _⟩
  case round =>
    obtain ⟨i, hi, rfl, hk⟩ := hrel
    have HK := Lib.hid hk
    clear hk
    by_cases hlt : i < ds.length
    · have hii : (i : Int) < ds.length := by omega
      obtain ⟨g1, rfl, hg1, hc1⟩ := (HAB.out.1.same HK.out) (by omega)
      obtain ⟨g2, rfl, hg2, hc2⟩ := (HAB.out.2.same HK.out) (by omega)
      obtain ⟨z, hz⟩ : ∃ z, ds[i]? = some z := ⟨_, List.getElem?_eq_getElem hlt⟩
      have hc1 := hc1 i z hz
      have hc2 := hc2 i z hz
      have k0 := fun (j : Nat) u (hu : z.cells[j]? = some u) => (Chg.refl (fun _ => False) wr).drew.cell (hc1 j u hu) (fun q => q)
      have m0 := fun (j : Nat) u (hu : z.cells[j]? = some u) => (Chg.refl (fun _ => False) wr).drew.cell (hc2 j u hu) (fun q => q)
      have hne := neq_same_deliv z.c z.s z.k z.t z.x z.y z.code z.val z.ser
      clear hz hc1 hc2
      go_wp2_with fail
      refine region_path (S := (fun w' => (w'.cell? ⟨g1, i * 9, none⟩ = some (.int .i64 z.c) ∧ w'.cell? ⟨g1, i * 9 + 1, none⟩ = some (.int .i64 z.s) ∧ w'.cell? ⟨g1, i * 9 + 2, none⟩ = some (.int .i64 z.k) ∧ w'.cell? ⟨g1, i * 9 + 3, none⟩ = some (.int .i64 z.t) ∧ w'.cell? ⟨g1, i * 9 + 4, none⟩ = some (.int .i64 z.x) ∧ w'.cell? ⟨g1, i * 9 + 5, none⟩ = some (.int .i64 z.y) ∧ w'.cell? ⟨g1, i * 9 + 6, none⟩ = some (.int .i64 z.code) ∧ w'.cell? ⟨g1, i * 9 + 7, none⟩ = some (.int .i64 z.val) ∧ w'.cell? ⟨g1, i * 9 + 8, none⟩ = some (.int .u32 z.ser)) ∧ w'.cell? ⟨g2, i * 9, none⟩ = some (.int .i64 z.c) ∧ w'.cell? ⟨g2, i * 9 + 1, none⟩ = some (.int .i64 z.s) ∧ w'.cell? ⟨g2, i * 9 + 2, none⟩ = some (.int .i64 z.k) ∧ w'.cell? ⟨g2, i * 9 + 3, none⟩ = some (.int .i64 z.t) ∧ w'.cell? ⟨g2, i * 9 + 4, none⟩ = some (.int .i64 z.x) ∧ w'.cell? ⟨g2, i * 9 + 5, none⟩ = some (.int .i64 z.y) ∧ w'.cell? ⟨g2, i * 9 + 6, none⟩ = some (.int .i64 z.code) ∧ w'.cell? ⟨g2, i * 9 + 7, none⟩ = some (.int .i64 z.val) ∧ w'.cell? ⟨g2, i * 9 + 8, none⟩ = some (.int .u32 z.ser))) 99 [(0, true), (1, true), (2, true), (3, true), (4, true), (5, true), (6, true), (7, true), (8, true)] (by kernel_rfl) (by kernel_rfl) (by kernel_rfl) (⟨⟨k0 0 _ rfl, k0 1 _ rfl, k0 2 _ rfl, k0 3 _ rfl, k0 4 _ rfl, k0 5 _ rfl, k0 6 _ rfl, k0 7 _ rfl, k0 8 _ rfl⟩, m0 0 _ rfl, m0 1 _ rfl, m0 2 _ rfl, m0 3 _ rfl, m0 4 _ rfl, m0 5 _ rfl, m0 6 _ rfl, m0 7 _ rfl, m0 8 _ rfl⟩) ?_
      refine path_read (i := 0) (v := ?v44_0) rfl (by rfl) (fun _ _ _ h => h) ?hy44_0 ?_
      case hy44_0 => ((intro w hSw; (try dsimp only at hSw); go_simp) <;> (try with_reducible rfl))
      try simp only [Act.put, List.setIfInBounds_toArray, List.set_cons_zero, List.set_cons_succ]
      refine path_read (i := 1) (v := ?v44_1) rfl (by rfl) (fun _ _ _ h => h) ?hy44_1 ?_
      case hy44_1 => ((intro w hSw; (try dsimp only at hSw); go_simp) <;> (try with_reducible rfl))
      try simp only [Act.put, List.setIfInBounds_toArray, List.set_cons_zero, List.set_cons_succ]
      refine path_read (i := 2) (v := ?v44_2) rfl (by rfl) (fun _ _ _ h => h) ?hy44_2 ?_
      case hy44_2 => ((intro w hSw; (try dsimp only at hSw); go_simp) <;> (try with_reducible rfl))
      try simp only [Act.put, List.setIfInBounds_toArray, List.set_cons_zero, List.set_cons_succ]
      refine path_read (i := 3) (v := ?v44_3) rfl (by rfl) (fun _ _ _ h => h) ?hy44_3 ?_
      case hy44_3 => ((intro w hSw; (try dsimp only at hSw); go_simp) <;> (try with_reducible rfl))
      try simp only [Act.put, List.setIfInBounds_toArray, List.set_cons_zero, List.set_cons_succ]
      refine path_read (i := 4) (v := ?v44_4) rfl (by rfl) (fun _ _ _ h => h) ?hy44_4 ?_
      case hy44_4 => ((intro w hSw; (try dsimp only at hSw); go_simp) <;> (try with_reducible rfl))
      try simp only [Act.put, List.setIfInBounds_toArray, List.set_cons_zero, List.set_cons_succ]
      refine path_read (i := 5) (v := ?v44_5) rfl (by rfl) (fun _ _ _ h => h) ?hy44_5 ?_
      case hy44_5 => ((intro w hSw; (try dsimp only at hSw); go_simp) <;> (try with_reducible rfl))
      try simp only [Act.put, List.setIfInBounds_toArray, List.set_cons_zero, List.set_cons_succ]
      refine path_read (i := 6) (v := ?v44_6) rfl (by rfl) (fun _ _ _ h => h) ?hy44_6 ?_
      case hy44_6 => ((intro w hSw; (try dsimp only at hSw); go_simp) <;> (try with_reducible rfl))
      try simp only [Act.put, List.setIfInBounds_toArray, List.set_cons_zero, List.set_cons_succ]
      refine path_read (i := 7) (v := ?v44_7) rfl (by rfl) (fun _ _ _ h => h) ?hy44_7 ?_
      case hy44_7 => ((intro w hSw; (try dsimp only at hSw); go_simp) <;> (try with_reducible rfl))
      try simp only [Act.put, List.setIfInBounds_toArray, List.set_cons_zero, List.set_cons_succ]
      refine path_read (i := 8) (v := ?v44_8) rfl (by rfl) (fun _ _ _ h => h) ?hy44_8 ?_
      case hy44_8 => ((intro w hSw; (try dsimp only at hSw); go_simp) <;> (try with_reducible rfl))
      try simp only [Act.put, List.setIfInBounds_toArray, List.set_cons_zero, List.set_cons_succ]
      refine path_end ?_
      clear hne k0 m0
      go_wp2
      go_roundw
      case rel => exact ⟨i + 1, by omega, by go_num, HK.out.drew⟩
      case measure => simp [intOf]; omega
    · have hii : ¬ (i : Int) < ds.length := by omega
      go_wp2
      go_ret
      exact ⟨rfl, HK.out⟩
end Go.Proofs.Yteolilggeaffaaa
