/- The walk of TransferSteps: for all arguments it returns true and leaves what was there as it was. -/
import Derived.Test.YtgpfnfcfmogefaaEx41
import Derived.Test.YtgpfnfcfmogefaaArg41
import Derived.Test.YtgpfnfcfmogefaaQB41
set_option linter.unusedVariables false
set_option linter.unusedSimpArgs false
namespace Go.Proofs.Ytgpfnfcfmogefaa
open Go.RowKit

def qcells (q : PSt) (A : Option Addr) (n cap : Nat) : List Value := [.int .i64 q.win, .int .i64 q.cr, .slice A n cap, .bool (q.cl && !q.cn), .bool q.cn]
/-- Both pipes at the head of a round: the program's in block b, the reference's value in block Y. -/
def SRel (w : World) (b Y N : Nat) (v55 : Value) (wr : World) : Prop :=
  ∃ (i : Nat) (q : PSt) (R : Nat → Prop) (A : Option Addr) (n cap : Nat), i ≤ N ∧ v55 = .int .i64 i ∧ Pip w wr b R q ∧ ¬ R Y ∧ w.heap.size ≤ Y ∧ wr.heap[Y]? = some (.cells (qcells q A n cap).toArray 40 (0, 0)) ∧ BytesAt wr (fun x => ¬ R x ∧ x ≠ Y) A n cap q.bs

set_option maxRecDepth 100000 in
set_option maxHeartbeats 2000000 in
theorem steps_large (win : Int) (A : Option Addr) (len cap : Nat) (l : List TOp) (w : World) (h : TOpsAt w A len l) (hl : largeB l = true) :
    Calls Try.prog 5 #[.int .i64 win, .slice A len cap] w fun e w' => e = .returned (.bool true) ∧ Same w w' := by
  have HL := Lib.hid (large_ok A len cap l w h)
  rw [hl] at HL
  clear h hl
  go_enter Try.func5, Try.ntmps5
  go_wp2_with fail
  refine HL.out.mono ?_
  rintro e w' ⟨rfl, rfl⟩
  go_wp2_with fail
  refine (example41_ok _).mono ?_
  rintro e w1 ⟨rfl, hs⟩
  have HS := Lib.hid hs
  clear hs
  go_wp2
  go_ret
  exact ⟨rfl, HS.out⟩
theorem qcells_0 {w : World} {Y : Nat} {q : PSt} {A : Option Addr} {n cap : Nat} (h : w.heap[Y]? = some (.cells (qcells q A n cap).toArray 40 (0, 0))) :
    w.cell? ⟨Y, 0, none⟩ = some (.int .i64 q.win) ∧ w.cell? ⟨Y, 1, none⟩ = some (.int .i64 q.cr) ∧ w.cell? ⟨Y, 2, none⟩ = some (.slice A n cap) ∧ w.cell? ⟨Y, 3, none⟩ = some (.bool (q.cl && !q.cn)) ∧ w.cell? ⟨Y, 4, none⟩ = some (.bool q.cn) :=
  ⟨by rw [cell_at h]; rfl, by rw [cell_at h]; rfl, by rw [cell_at h]; rfl, by rw [cell_at h]; rfl, by rw [cell_at h]; rfl⟩

theorem steps_mid {w w4 : World} {b Y : Nat} {R : Nat → Prop} {q q' : PSt} {A A' : Option Addr} {n cap n' cap' : Nat} (hp : Pip w w4 b R q') (hRY : ¬ R Y) (hYw : w.heap.size ≤ Y) (hY : w4.heap[Y]? = some (.cells (qcells q A n cap).toArray 40 (0, 0)))
    (hb : BytesAt w4 (fun x => ¬ R x ∧ x ≠ Y) A' n' cap' q'.bs) (O : Obj) :
    Pip w ((((((w4.setCell ⟨Y, 0, none⟩ (.int .i64 q'.win)).setCell ⟨Y, 1, none⟩ (.int .i64 q'.cr)).setCell ⟨Y, 2, none⟩ (.slice A' n' cap')).setCell ⟨Y, 3, none⟩ (.bool (q'.cl && !q'.cn))).setCell ⟨Y, 4, none⟩ (.bool q'.cn)).alloc O) b R q' ∧
    ((((((w4.setCell ⟨Y, 0, none⟩ (.int .i64 q'.win)).setCell ⟨Y, 1, none⟩ (.int .i64 q'.cr)).setCell ⟨Y, 2, none⟩ (.slice A' n' cap')).setCell ⟨Y, 3, none⟩ (.bool (q'.cl && !q'.cn))).setCell ⟨Y, 4, none⟩ (.bool q'.cn)).alloc O).heap[Y]? = some (.cells (qcells q' A' n' cap').toArray 40 (0, 0)) ∧
    BytesAt ((((((w4.setCell ⟨Y, 0, none⟩ (.int .i64 q'.win)).setCell ⟨Y, 1, none⟩ (.int .i64 q'.cr)).setCell ⟨Y, 2, none⟩ (.slice A' n' cap')).setCell ⟨Y, 3, none⟩ (.bool (q'.cl && !q'.cn))).setCell ⟨Y, 4, none⟩ (.bool q'.cn)).alloc O) (fun x => ¬ R x ∧ x ≠ Y) A' n' cap' q'.bs := by
  have hk : Chg (fun x => x = Y) w4 ((((((w4.setCell ⟨Y, 0, none⟩ (.int .i64 q'.win)).setCell ⟨Y, 1, none⟩ (.int .i64 q'.cr)).setCell ⟨Y, 2, none⟩ (.slice A' n' cap')).setCell ⟨Y, 3, none⟩ (.bool (q'.cl && !q'.cn))).setCell ⟨Y, 4, none⟩ (.bool q'.cn)).alloc O) := by
    refine Chg.alloc (Chg.setCell (Chg.setCell (Chg.setCell (Chg.setCell (Chg.setCell (Chg.refl (fun x => x = Y) w4) _ _ ?_) _ _ ?_) _ _ ?_) _ _ ?_) _ _ ?_) O
    all_goals exact fun _ => rfl
  refine ⟨hp.next hk (fun x e => by rw [e]; exact ⟨hRY, hYw⟩), ?_, hb.chg hk (fun x hx => hx.2)⟩
  exact at_alloc (at_setCell (i := 4) (.bool q'.cn) (at_setCell (i := 3) (.bool (q'.cl && !q'.cn)) (at_setCell (i := 2) (.slice A' n' cap') (at_setCell (i := 1) (.int .i64 q'.cr) (at_setCell (i := 0) (.int .i64 q'.win) hY)))))
/-- The reference's bytes through a write of the program's. -/
theorem bytes_wrote {w w' : World} {R R' : Nat → Prop} {Y : Nat} {A : Option Addr} {n cap : Nat} {xs : List Int} (h : BytesAt w (fun x => ¬ R x ∧ x ≠ Y) A n cap xs) (hc : Chg R w w') (hR : ∀ x, R' x → R x ∨ w.heap.size ≤ x) : BytesAt w' (fun x => ¬ R' x ∧ x ≠ Y) A n cap xs :=
  (h.mono (R' := fun x => (¬ R x ∧ ¬ R' x) ∧ x ≠ Y) (fun x hx hr => ⟨⟨hr.1, fun h2 => (hR x h2).elim hr.1 (fun h3 => by omega)⟩, hr.2⟩)).chg hc (fun x hx hr => hx.1.1 hr) |>.mono (fun x _ hx => ⟨hx.1.2, hx.2⟩)

theorem BytesAt.off2 {w w' : World} {R : Nat → Prop} {Y : Nat} {A : Option Addr} {n cap : Nat} {xs : List Int} (h : BytesAt w' (fun x => w.heap.size ≤ x) A n cap xs) (hlt : ∀ x, R x → x < w.heap.size) (hY : Y < w.heap.size) : BytesAt w' (fun x => ¬ R x ∧ x ≠ Y) A n cap xs :=
  h.mono (fun x _ hx => ⟨fun hr => by have := hlt x hr; omega, fun e => by omega⟩)
theorem steps_chg (w4 : World) (Y : Nat) (q' : PSt) (A' : Option Addr) (n' cap' : Nat) : Chg (fun x => x = Y) w4 ((((((w4.setCell ⟨Y, 0, none⟩ (.int .i64 q'.win)).setCell ⟨Y, 1, none⟩ (.int .i64 q'.cr)).setCell ⟨Y, 2, none⟩ (.slice A' n' cap')).setCell ⟨Y, 3, none⟩ (.bool (q'.cl && !q'.cn))).setCell ⟨Y, 4, none⟩ (.bool q'.cn)).alloc (.cells [Value.int .i64 q'.win, .int .i64 q'.cr, .slice A' n' cap', .bool (q'.cl && !q'.cn), .bool q'.cn].toArray 40)) := by
  refine Chg.alloc (Chg.setCell (Chg.setCell (Chg.setCell (Chg.setCell (Chg.setCell (Chg.refl (fun x => x = Y) w4) _ _ ?_) _ _ ?_) _ _ ?_) _ _ ?_) _ _ ?_) _
  all_goals exact fun _ => rfl

set_option maxRecDepth 100000 in
set_option maxHeartbeats 8000000 in
theorem steps_main (win : Int) (A0 : Option Addr) (len cap0 : Nat) (l : List TOp) (w : World) (h : TOpsAt w A0 len l) (hl : largeB l = false) (hw0 : 1 ≤ win) (hw1 : win ≤ 65536) :
    Calls Try.prog 5 #[.int .i64 win, .slice A0 len cap0] w fun e w' => e = .returned (.bool true) ∧ Same w w' := by
  have HL := Lib.hid (large_ok A0 len cap0 l w h)
  rw [hl] at HL
  have hlen : len ≤ 100 := by have h1 := h.1.1; unfold largeB at hl; simp at hl; omega
  have HO := Lib.hid h
  clear h hl
  go_enter Try.func5, Try.ntmps5
  go_wp2_with fail
  refine HL.out.mono ?_
  rintro e w' ⟨rfl, rfl⟩
  go_wp2_with fail
  refine (pnew_v _ win hw0 hw1).mono ?_
  rintro e w1 ⟨b, R, rfl, hp, hc⟩
  have HP1 := Lib.hid hp
  clear hp hc
  go_wp2_with fail
  refine (qnew_ok win _ hw0 hw1).mono ?_
  rintro e w2 ⟨rfl, hs2⟩
  have HP2 := Lib.hid (HP1.out.same_ hs2)
  unfold rpv PSt.new
  clear hs2
  go_wp2_with fail
  go_loopw [55] (fun v55 wr => SRel w b w2.heap.size len v55 wr) (fun v55 _ => 1000 - (intOf v55).toNat)
  case atStart => exact ⟨0, _, R, none, 0, 0, by omega, rfl, HP2.out.same_ ((Chg.refl _ _).alloc _), fun hr => by have := HP2.out.pipe.lt _ hr; omega, HP2.out.same.size, at_new _ _, BytesAt.nil _ _⟩
  case round =>
    obtain ⟨i, q, R1, A, n, cap, hi, rfl, hp, hRY, hYw, hY, hb⟩ := hrel
    obtain ⟨Y, hYe⟩ : ∃ Y, Y = w2.heap.size := ⟨_, rfl⟩
    rw [← hYe] at hRY hYw hY hb ⊢
    have HP := Lib.hid hp
    have HY := Lib.hid hY
    have HRY := Lib.hid hRY
    have HB := Lib.hid hb
    have HYE := Lib.hid hYe
    clear hp hRY hY hb hYe
    by_cases hlt : i < len
    · obtain ⟨bb, o, x, rfl, hbw, hx, hok, c0, c1, c2⟩ := HO.out.at_ hlt
      have hii : (i : Int) < len := by omega
      have d0 := HP.out.same.cell c0 (fun q => q)
      have d1 := HP.out.same.cell c1 (fun q => q)
      have d2 := HP.out.same.cell c2 (fun q => q)
      have HOK := Lib.hid hok
      obtain ⟨kd, m, Ax, lx, cx, xs⟩ := x
      simp only at d0 d1 d2
      have hm2 : m ≤ 9223372036854775807 := hok.2.1.2
      clear hx hok c0 c1 c2
      obtain ⟨y0, y1, y2, y3, y4⟩ := qcells_0 HY.out
      by_cases hk0 : kd = 0
      · subst hk0
        obtain ⟨q', hq'⟩ : ∃ q', q' = q.write xs := ⟨_, rfl⟩
        obtain ⟨kk, hkk⟩ : ∃ kk : Int, kk = (q.wrN xs.length : Int) := ⟨_, rfl⟩
        obtain ⟨vv, hvv⟩ : ∃ vv, vv = q.wrE := ⟨_, rfl⟩
        have HQ := Lib.hid (And.intro hq' (And.intro hkk hvv))
        clear hq' hkk hvv
        go_wp2_with fail
        refine (pwrite_v q' kk vv Ax lx cx xs (HP.out.same_ ((Chg.refl _ _).alloc _)) (HOK.out.2.2.chg (HP.out.same.alloc _) (fun _ _ q => q)) HQ.out.2.1.symm HQ.out.2.2.symm HQ.out.1.symm).mono ?_
        rintro e w3 ⟨rfl, R3, hp3, hR3, hc3⟩
        have HX0 := Lib.hid (hc3.at_ (at_new wr (.cells #[.int .i64 0, .int .i64 m, .slice Ax lx cx] 44)) (fun hr => by have := HP.out.pipe.lt _ hr; omega))
        have HP3 := Lib.hid hp3
        have HRY3 : Hid (¬ R3 Y) := Lib.hid (fun hr => (hR3 Y hr).elim HRY.out (fun h2 => by have := lt_of_at HY.out; simp at h2; omega))
        have HY3 := Lib.hid (hc3.at_ (at_alloc HY.out) HRY.out)
        have HB3 := Lib.hid (bytes_wrote (HB.out.chg ((Chg.refl (fun _ => False) wr).alloc _) (fun _ _ q => q)) hc3 hR3)
        have hWX : wr.heap.size < w3.heap.size := lt_of_at HX0.out
        clear hp3 hR3 hc3 y0 y1 y2 y3 y4 d0 d1 d2
        obtain ⟨y0, y1, y2, y3, y4⟩ := qcells_0 HY3.out
        have x2 : w3.cell? ⟨wr.heap.size, 2, none⟩ = some (.slice Ax lx cx) := by rw [cell_of_row w3 _ 2 _ _ _ HX0.out]; rfl
        go_wp2_with fail
        refine (qwrite_q q' kk vv Ax lx cx xs HB3.out (HOK.out.2.2.chg HP3.out.same (fun _ _ q => q)) HP.out.pipe.ok HQ.out.2.1.symm HQ.out.2.2.symm HQ.out.1.symm).mono ?_
        rintro e w4 ⟨A', n', cap', rfl, hb4, hs4⟩
        have HP4 := Lib.hid (HP3.out.same_ hs4)
        have HY4 := Lib.hid (hs4.at_ HY3.out (fun q => q))
        have HB4 : Hid (BytesAt w4 (fun x => ¬ R3 x ∧ x ≠ Y) A' n' cap' q'.bs) := Lib.hid (hb4.mono (fun x _ hx => hx.elim id (fun h2 => ⟨fun hr => by have := HP3.out.pipe.lt x hr; omega, fun e => by have := lt_of_at HY3.out; omega⟩)))
        clear hb4 hs4 y0 y1 y2 y3 y4 x2
        obtain ⟨z0, z1, z2, z3, z4⟩ := qcells_0 HY4.out
        have fz := frozen_at HY4.out
        have hYl : Y < w4.heap.size := lt_of_at HY4.out
        go_wp2_with fail
        have HM := Lib.hid (steps_mid HP4.out HRY3.out hYw HY4.out HB4.out (.cells (qcells q' A' n' cap').toArray 40))
        unfold qcells at HM
        generalize (((((w4.setCell ⟨Y, 0, none⟩ (.int .i64 q'.win)).setCell ⟨Y, 1, none⟩ (.int .i64 q'.cr)).setCell ⟨Y, 2, none⟩ (.slice A' n' cap')).setCell ⟨Y, 3, none⟩ (.bool (q'.cl && !q'.cn))).setCell ⟨Y, 4, none⟩ (.bool q'.cn)).alloc (.cells [Value.int .i64 q'.win, .int .i64 q'.cr, .slice A' n' cap', .bool (q'.cl && !q'.cn), .bool q'.cn].toArray 40) = w5 at *
        have HP5 := Lib.hid HM.out.1
        have HY5 : Hid (w5.heap[Y]? = some (.cells (qcells q' A' n' cap').toArray 40 (0, 0))) := Lib.hid HM.out.2.1
        have HB5 := Lib.hid HM.out.2.2
        have HOK5 := Lib.hid HP5.out.pipe.ok
        clear HM z0 z1 z2 z3 z4 fz hYl
        obtain ⟨y0, y1, y2, y3, y4⟩ := qcells_0 HY5.out
        refine region_path (S := (fun w' => w'.cell? ⟨Y, 0, none⟩ = some (.int .i64 q'.win) ∧ w'.cell? ⟨Y, 1, none⟩ = some (.int .i64 q'.cr) ∧ w'.cell? ⟨Y, 2, none⟩ = some (.slice A' n' cap') ∧ w'.cell? ⟨Y, 3, none⟩ = some (.bool (q'.cl && !q'.cn)) ∧ w'.cell? ⟨Y, 4, none⟩ = some (.bool q'.cn))) 99 [(0, true), (2, true), (1, false), (3, false), (4, true), (5, true), (6, true), (8, true), (7, false), (9, false), (10, true), (11, true), (12, true), (13, true), (15, true), (14, false), (16, false), (17, true), (18, true)] (by kernel_rfl) (by kernel_rfl) (by kernel_rfl) ⟨y0, y1, y2, y3, y4⟩ ?_
        refine path_read (i := 0) (v := ?v1_0) rfl (by rfl) (fun _ _ _ h => h) ?hy1_0 ?_
        case hy1_0 => ((intro w hSw; (try dsimp only at hSw); go_simp) <;> (try with_reducible rfl))
        try simp only [Act.put, List.setIfInBounds_toArray, List.set_cons_zero, List.set_cons_succ]
        refine path_read (i := 2) (v := ?v1_2) rfl (by rfl) (fun _ _ _ h => h) ?hy1_2 ?_
        case hy1_2 => ((intro w hSw; (try dsimp only at hSw); go_simp) <;> (try with_reducible rfl))
        try simp only [Act.put, List.setIfInBounds_toArray, List.set_cons_zero, List.set_cons_succ]
        refine path_do (i := 1) rfl ?_
        go_wp2_with ((first | (go_at_call 17; refine (pcredit_v q'.cr (HP5.out.same_ (Chg.refl (fun _ => False) w5).drew) rfl).mono ?_; rintro e wq ⟨rfl, rfl⟩) | (go_at_call 26; refine (qcredit_q q' A' n' cap' _).mono ?_; rintro e w6 ⟨rfl, hs6⟩; have HS6 := Lib.hid ((Chg.refl (fun _ => False) w5).drew.trans hs6); obtain ⟨x0, x1, x2, x3, x4⟩ := qcells_0 (HS6.out.at_ HY5.out (fun q => q)); clear hs6) | (go_at_call 18; refine (pbuffered_v q'.bs.length (HP5.out.same_ HS6.out) rfl).mono ?_; rintro e wq ⟨rfl, rfl⟩) | (go_at_call 27; refine (qbuffered_q (HB5.out.chg HS6.out (fun _ _ q => q))).mono ?_; rintro e w7 ⟨rfl, hs7⟩; have HS7 := Lib.hid (HS6.out.trans hs7); obtain ⟨v0, v1, v2, v3, v4⟩ := qcells_0 (HS7.out.at_ HY5.out (fun q => q)); clear hs7) | (go_at_call 15; refine (pdone_v q'.done (HP5.out.same_ HS7.out) rfl).mono ?_; rintro e wq ⟨rfl, rfl⟩) | (go_at_call 28; refine (qdone_q (HB5.out.chg HS7.out (fun _ _ q => q)) HOK5.out).mono ?_; rintro e w8 ⟨rfl, hs8⟩; have HS8 := Lib.hid (HS7.out.trans hs8); obtain ⟨t0, t1, t2, t3, t4⟩ := qcells_0 (HS8.out.at_ HY5.out (fun q => q)); clear hs8)))
        refine ⟨.inr ?keep1_1, ?_⟩
        case keep1_1 => ((first | (exact ⟨t0, t1, t2, t3, t4⟩) | (exact ⟨v0, v1, v2, v3, v4⟩) | (exact ⟨x0, x1, x2, x3, x4⟩) | (exact ⟨y0, y1, y2, y3, y4⟩)))
        try simp only [Act.put, List.setIfInBounds_toArray, List.set_cons_zero, List.set_cons_succ]
        refine path_do (i := 3) rfl ?_
        go_wp2_with ((first | (go_at_call 17; refine (pcredit_v q'.cr (HP5.out.same_ (Chg.refl (fun _ => False) w5).drew) rfl).mono ?_; rintro e wq ⟨rfl, rfl⟩) | (go_at_call 26; refine (qcredit_q q' A' n' cap' _).mono ?_; rintro e w6 ⟨rfl, hs6⟩; have HS6 := Lib.hid ((Chg.refl (fun _ => False) w5).drew.trans hs6); obtain ⟨x0, x1, x2, x3, x4⟩ := qcells_0 (HS6.out.at_ HY5.out (fun q => q)); clear hs6) | (go_at_call 18; refine (pbuffered_v q'.bs.length (HP5.out.same_ HS6.out) rfl).mono ?_; rintro e wq ⟨rfl, rfl⟩) | (go_at_call 27; refine (qbuffered_q (HB5.out.chg HS6.out (fun _ _ q => q))).mono ?_; rintro e w7 ⟨rfl, hs7⟩; have HS7 := Lib.hid (HS6.out.trans hs7); obtain ⟨v0, v1, v2, v3, v4⟩ := qcells_0 (HS7.out.at_ HY5.out (fun q => q)); clear hs7) | (go_at_call 15; refine (pdone_v q'.done (HP5.out.same_ HS7.out) rfl).mono ?_; rintro e wq ⟨rfl, rfl⟩) | (go_at_call 28; refine (qdone_q (HB5.out.chg HS7.out (fun _ _ q => q)) HOK5.out).mono ?_; rintro e w8 ⟨rfl, hs8⟩; have HS8 := Lib.hid (HS7.out.trans hs8); obtain ⟨t0, t1, t2, t3, t4⟩ := qcells_0 (HS8.out.at_ HY5.out (fun q => q)); clear hs8)))
        refine ⟨.inr ?keep1_3, ?_⟩
        case keep1_3 => ((first | (exact ⟨t0, t1, t2, t3, t4⟩) | (exact ⟨v0, v1, v2, v3, v4⟩) | (exact ⟨x0, x1, x2, x3, x4⟩) | (exact ⟨y0, y1, y2, y3, y4⟩)))
        try simp only [Act.put, List.setIfInBounds_toArray, List.set_cons_zero, List.set_cons_succ]
        refine path_read (i := 4) (v := ?v1_4) rfl (by rfl) (fun _ _ _ h => h) ?hy1_4 ?_
        case hy1_4 => ((intro w hSw; (try dsimp only at hSw); go_simp) <;> (try with_reducible rfl))
        try simp only [Act.put, List.setIfInBounds_toArray, List.set_cons_zero, List.set_cons_succ]
        refine path_read (i := 5) (v := ?v1_5) rfl (by rfl) (fun _ _ _ h => h) ?hy1_5 ?_
        case hy1_5 => ((intro w hSw; (try dsimp only at hSw); go_simp) <;> (try with_reducible rfl))
        try simp only [Act.put, List.setIfInBounds_toArray, List.set_cons_zero, List.set_cons_succ]
        refine path_read (i := 6) (v := ?v1_6) rfl (by rfl) (fun _ _ _ h => h) ?hy1_6 ?_
        case hy1_6 => ((intro w hSw; (try dsimp only at hSw); go_simp) <;> (try with_reducible rfl))
        try simp only [Act.put, List.setIfInBounds_toArray, List.set_cons_zero, List.set_cons_succ]
        refine path_read (i := 8) (v := ?v1_8) rfl (by rfl) (fun _ _ _ h => h) ?hy1_8 ?_
        case hy1_8 => ((intro w hSw; (try dsimp only at hSw); go_simp) <;> (try with_reducible rfl))
        try simp only [Act.put, List.setIfInBounds_toArray, List.set_cons_zero, List.set_cons_succ]
        refine path_do (i := 7) rfl ?_
        go_wp2_with ((first | (go_at_call 17; refine (pcredit_v q'.cr (HP5.out.same_ (Chg.refl (fun _ => False) w5).drew) rfl).mono ?_; rintro e wq ⟨rfl, rfl⟩) | (go_at_call 26; refine (qcredit_q q' A' n' cap' _).mono ?_; rintro e w6 ⟨rfl, hs6⟩; have HS6 := Lib.hid ((Chg.refl (fun _ => False) w5).drew.trans hs6); obtain ⟨x0, x1, x2, x3, x4⟩ := qcells_0 (HS6.out.at_ HY5.out (fun q => q)); clear hs6) | (go_at_call 18; refine (pbuffered_v q'.bs.length (HP5.out.same_ HS6.out) rfl).mono ?_; rintro e wq ⟨rfl, rfl⟩) | (go_at_call 27; refine (qbuffered_q (HB5.out.chg HS6.out (fun _ _ q => q))).mono ?_; rintro e w7 ⟨rfl, hs7⟩; have HS7 := Lib.hid (HS6.out.trans hs7); obtain ⟨v0, v1, v2, v3, v4⟩ := qcells_0 (HS7.out.at_ HY5.out (fun q => q)); clear hs7) | (go_at_call 15; refine (pdone_v q'.done (HP5.out.same_ HS7.out) rfl).mono ?_; rintro e wq ⟨rfl, rfl⟩) | (go_at_call 28; refine (qdone_q (HB5.out.chg HS7.out (fun _ _ q => q)) HOK5.out).mono ?_; rintro e w8 ⟨rfl, hs8⟩; have HS8 := Lib.hid (HS7.out.trans hs8); obtain ⟨t0, t1, t2, t3, t4⟩ := qcells_0 (HS8.out.at_ HY5.out (fun q => q)); clear hs8)))
        refine ⟨.inr ?keep1_7, ?_⟩
        case keep1_7 => ((first | (exact ⟨t0, t1, t2, t3, t4⟩) | (exact ⟨v0, v1, v2, v3, v4⟩) | (exact ⟨x0, x1, x2, x3, x4⟩) | (exact ⟨y0, y1, y2, y3, y4⟩)))
        try simp only [Act.put, List.setIfInBounds_toArray, List.set_cons_zero, List.set_cons_succ]
        refine path_do (i := 9) rfl ?_
        go_wp2_with ((first | (go_at_call 17; refine (pcredit_v q'.cr (HP5.out.same_ (Chg.refl (fun _ => False) w5).drew) rfl).mono ?_; rintro e wq ⟨rfl, rfl⟩) | (go_at_call 26; refine (qcredit_q q' A' n' cap' _).mono ?_; rintro e w6 ⟨rfl, hs6⟩; have HS6 := Lib.hid ((Chg.refl (fun _ => False) w5).drew.trans hs6); obtain ⟨x0, x1, x2, x3, x4⟩ := qcells_0 (HS6.out.at_ HY5.out (fun q => q)); clear hs6) | (go_at_call 18; refine (pbuffered_v q'.bs.length (HP5.out.same_ HS6.out) rfl).mono ?_; rintro e wq ⟨rfl, rfl⟩) | (go_at_call 27; refine (qbuffered_q (HB5.out.chg HS6.out (fun _ _ q => q))).mono ?_; rintro e w7 ⟨rfl, hs7⟩; have HS7 := Lib.hid (HS6.out.trans hs7); obtain ⟨v0, v1, v2, v3, v4⟩ := qcells_0 (HS7.out.at_ HY5.out (fun q => q)); clear hs7) | (go_at_call 15; refine (pdone_v q'.done (HP5.out.same_ HS7.out) rfl).mono ?_; rintro e wq ⟨rfl, rfl⟩) | (go_at_call 28; refine (qdone_q (HB5.out.chg HS7.out (fun _ _ q => q)) HOK5.out).mono ?_; rintro e w8 ⟨rfl, hs8⟩; have HS8 := Lib.hid (HS7.out.trans hs8); obtain ⟨t0, t1, t2, t3, t4⟩ := qcells_0 (HS8.out.at_ HY5.out (fun q => q)); clear hs8)))
        refine ⟨.inr ?keep1_9, ?_⟩
        case keep1_9 => ((first | (exact ⟨t0, t1, t2, t3, t4⟩) | (exact ⟨v0, v1, v2, v3, v4⟩) | (exact ⟨x0, x1, x2, x3, x4⟩) | (exact ⟨y0, y1, y2, y3, y4⟩)))
        try simp only [Act.put, List.setIfInBounds_toArray, List.set_cons_zero, List.set_cons_succ]
        refine path_read (i := 10) (v := ?v1_10) rfl (by rfl) (fun _ _ _ h => h) ?hy1_10 ?_
        case hy1_10 => ((intro w hSw; (try dsimp only at hSw); go_simp) <;> (try with_reducible rfl))
        try simp only [Act.put, List.setIfInBounds_toArray, List.set_cons_zero, List.set_cons_succ]
        refine path_read (i := 11) (v := ?v1_11) rfl (by rfl) (fun _ _ _ h => h) ?hy1_11 ?_
        case hy1_11 => ((intro w hSw; (try dsimp only at hSw); go_simp) <;> (try with_reducible rfl))
        try simp only [Act.put, List.setIfInBounds_toArray, List.set_cons_zero, List.set_cons_succ]
        refine path_read (i := 12) (v := ?v1_12) rfl (by rfl) (fun _ _ _ h => h) ?hy1_12 ?_
        case hy1_12 => ((intro w hSw; (try dsimp only at hSw); go_simp) <;> (try with_reducible rfl))
        try simp only [Act.put, List.setIfInBounds_toArray, List.set_cons_zero, List.set_cons_succ]
        refine path_read (i := 13) (v := ?v1_13) rfl (by rfl) (fun _ _ _ h => h) ?hy1_13 ?_
        case hy1_13 => ((intro w hSw; (try dsimp only at hSw); go_simp) <;> (try with_reducible rfl))
        try simp only [Act.put, List.setIfInBounds_toArray, List.set_cons_zero, List.set_cons_succ]
        refine path_read (i := 15) (v := ?v1_15) rfl (by rfl) (fun _ _ _ h => h) ?hy1_15 ?_
        case hy1_15 => ((intro w hSw; (try dsimp only at hSw); go_simp) <;> (try with_reducible rfl))
        try simp only [Act.put, List.setIfInBounds_toArray, List.set_cons_zero, List.set_cons_succ]
        refine path_do (i := 14) rfl ?_
        go_wp2_with ((first | (go_at_call 17; refine (pcredit_v q'.cr (HP5.out.same_ (Chg.refl (fun _ => False) w5).drew) rfl).mono ?_; rintro e wq ⟨rfl, rfl⟩) | (go_at_call 26; refine (qcredit_q q' A' n' cap' _).mono ?_; rintro e w6 ⟨rfl, hs6⟩; have HS6 := Lib.hid ((Chg.refl (fun _ => False) w5).drew.trans hs6); obtain ⟨x0, x1, x2, x3, x4⟩ := qcells_0 (HS6.out.at_ HY5.out (fun q => q)); clear hs6) | (go_at_call 18; refine (pbuffered_v q'.bs.length (HP5.out.same_ HS6.out) rfl).mono ?_; rintro e wq ⟨rfl, rfl⟩) | (go_at_call 27; refine (qbuffered_q (HB5.out.chg HS6.out (fun _ _ q => q))).mono ?_; rintro e w7 ⟨rfl, hs7⟩; have HS7 := Lib.hid (HS6.out.trans hs7); obtain ⟨v0, v1, v2, v3, v4⟩ := qcells_0 (HS7.out.at_ HY5.out (fun q => q)); clear hs7) | (go_at_call 15; refine (pdone_v q'.done (HP5.out.same_ HS7.out) rfl).mono ?_; rintro e wq ⟨rfl, rfl⟩) | (go_at_call 28; refine (qdone_q (HB5.out.chg HS7.out (fun _ _ q => q)) HOK5.out).mono ?_; rintro e w8 ⟨rfl, hs8⟩; have HS8 := Lib.hid (HS7.out.trans hs8); obtain ⟨t0, t1, t2, t3, t4⟩ := qcells_0 (HS8.out.at_ HY5.out (fun q => q)); clear hs8)))
        refine ⟨.inr ?keep1_14, ?_⟩
        case keep1_14 => ((first | (exact ⟨t0, t1, t2, t3, t4⟩) | (exact ⟨v0, v1, v2, v3, v4⟩) | (exact ⟨x0, x1, x2, x3, x4⟩) | (exact ⟨y0, y1, y2, y3, y4⟩)))
        try simp only [Act.put, List.setIfInBounds_toArray, List.set_cons_zero, List.set_cons_succ]
        refine path_do (i := 16) rfl ?_
        go_wp2_with ((first | (go_at_call 17; refine (pcredit_v q'.cr (HP5.out.same_ (Chg.refl (fun _ => False) w5).drew) rfl).mono ?_; rintro e wq ⟨rfl, rfl⟩) | (go_at_call 26; refine (qcredit_q q' A' n' cap' _).mono ?_; rintro e w6 ⟨rfl, hs6⟩; have HS6 := Lib.hid ((Chg.refl (fun _ => False) w5).drew.trans hs6); obtain ⟨x0, x1, x2, x3, x4⟩ := qcells_0 (HS6.out.at_ HY5.out (fun q => q)); clear hs6) | (go_at_call 18; refine (pbuffered_v q'.bs.length (HP5.out.same_ HS6.out) rfl).mono ?_; rintro e wq ⟨rfl, rfl⟩) | (go_at_call 27; refine (qbuffered_q (HB5.out.chg HS6.out (fun _ _ q => q))).mono ?_; rintro e w7 ⟨rfl, hs7⟩; have HS7 := Lib.hid (HS6.out.trans hs7); obtain ⟨v0, v1, v2, v3, v4⟩ := qcells_0 (HS7.out.at_ HY5.out (fun q => q)); clear hs7) | (go_at_call 15; refine (pdone_v q'.done (HP5.out.same_ HS7.out) rfl).mono ?_; rintro e wq ⟨rfl, rfl⟩) | (go_at_call 28; refine (qdone_q (HB5.out.chg HS7.out (fun _ _ q => q)) HOK5.out).mono ?_; rintro e w8 ⟨rfl, hs8⟩; have HS8 := Lib.hid (HS7.out.trans hs8); obtain ⟨t0, t1, t2, t3, t4⟩ := qcells_0 (HS8.out.at_ HY5.out (fun q => q)); clear hs8)))
        refine ⟨.inr ?keep1_16, ?_⟩
        case keep1_16 => ((first | (exact ⟨t0, t1, t2, t3, t4⟩) | (exact ⟨v0, v1, v2, v3, v4⟩) | (exact ⟨x0, x1, x2, x3, x4⟩) | (exact ⟨y0, y1, y2, y3, y4⟩)))
        try simp only [Act.put, List.setIfInBounds_toArray, List.set_cons_zero, List.set_cons_succ]
        refine path_read (i := 17) (v := ?v1_17) rfl (by rfl) (fun _ _ _ h => h) ?hy1_17 ?_
        case hy1_17 => ((intro w hSw; (try dsimp only at hSw); go_simp) <;> (try with_reducible rfl))
        try simp only [Act.put, List.setIfInBounds_toArray, List.set_cons_zero, List.set_cons_succ]
        refine path_read (i := 18) (v := ?v1_18) rfl (by rfl) (fun _ _ _ h => h) ?hy1_18 ?_
        case hy1_18 => ((intro w hSw; (try dsimp only at hSw); go_simp) <;> (try with_reducible rfl))
        try simp only [Act.put, List.setIfInBounds_toArray, List.set_cons_zero, List.set_cons_succ]
        refine path_end ?_
        go_wp2_with fail
        go_roundw
        case rel => exact ⟨i + 1, q', R3, A', n', cap', by omega, by go_num, HP5.out.same_ HS8.out, HRY3.out, hYw, HS8.out.at_ HY5.out (fun q => q), HB5.out.chg HS8.out (fun _ _ q => q)⟩
        case measure => simp [intOf]; omega
      · have e0 : (kd == 0) = false := by simpa using hk0
        by_cases hk1 : kd = 1
        · subst hk1
          clear hk0 e0
          obtain ⟨q', hq'⟩ : ∃ q', q' = q.read m := ⟨_, rfl⟩
          obtain ⟨vv, hvv⟩ : ∃ vv, vv = q.rdE m := ⟨_, rfl⟩
          obtain ⟨ys, hys⟩ : ∃ ys, ys = q.rd m := ⟨_, rfl⟩
          obtain ⟨ny, hny⟩ : ∃ ny, ny = ys.length := ⟨_, rfl⟩
          have HYS := Lib.hid (And.intro hys hny)
          clear hys hny
          have HQ := Lib.hid (And.intro hq' hvv)
          clear hq' hvv
          go_wp2_with fail
          refine (pread_n q' ys ny vv m (HP.out.same_ ((Chg.refl _ _).alloc _)) HYS.out.1.symm HYS.out.2.symm HQ.out.2.symm HQ.out.1.symm).mono ?_
          rintro e w3 ⟨A7, c7, rfl, hb7, hp3, hc3⟩
          have HX0 := Lib.hid (hc3.at_ (at_new wr (.cells #[.int .i64 1, .int .i64 m, .slice Ax lx cx] 44)) (fun hr => by have := HP.out.pipe.lt _ hr; omega))
          have HP3 := Lib.hid hp3
          have HRY3 := HRY
          have HY3 := Lib.hid (hc3.at_ (at_alloc HY.out) HRY.out)
          have HB3 : Hid (BytesAt w3 (fun x => ¬ R1 x ∧ x ≠ Y) A n cap q.bs) := Lib.hid ((HB.out.chg ((Chg.refl (fun _ => False) wr).alloc _) (fun _ _ q => q)).chg hc3 (fun x hx hr => hx.1 hr))
          have hWX : wr.heap.size < w3.heap.size := lt_of_at HX0.out
          have HB7 := Lib.hid (BytesAt.off2 hb7 (fun x hr => by have := HP.out.pipe.lt x hr; simp; omega) (show Y < (wr.alloc (.cells #[.int .i64 1, .int .i64 m, .slice Ax lx cx] 44)).heap.size by have := lt_of_at HY.out; simp; omega))
          clear hb7
          clear hp3 hc3 y0 y1 y2 y3 y4 d0 d1 d2
          obtain ⟨y0, y1, y2, y3, y4⟩ := qcells_0 HY3.out
          have x1 : w3.cell? ⟨wr.heap.size, 1, none⟩ = some (.int .i64 m) := by rw [cell_of_row w3 _ 1 _ _ _ HX0.out]; rfl
          go_wp2_with fail
          refine (qread_q q' ys vv m HB3.out HP.out.pipe.ok HYS.out.1.symm HQ.out.2.symm HQ.out.1.symm).mono ?_
          rintro e w4 ⟨A', n', cap', A8, n8, c8, rfl, hb4, hb8, hs4⟩
          have HP4 := Lib.hid (HP3.out.same_ hs4)
          have HY4 := Lib.hid (hs4.at_ HY3.out (fun q => q))
          have HB4 := Lib.hid hb4
          have HK4 := Lib.hid (steps_chg w4 Y q' A' n' cap')
          have hcv7 := run_cv ((HB7.out.chg hs4 (fun _ _ q => q)).chg HK4.out (fun x hx => hx.2))
          have hcv8 := run_cv (hb8.chg HK4.out (fun x hx => hx.2))
          clear hb8
          clear hb4 hs4 y0 y1 y2 y3 y4 x1
          obtain ⟨z0, z1, z2, z3, z4⟩ := qcells_0 HY4.out
          have fz := frozen_at HY4.out
          have hYl : Y < w4.heap.size := lt_of_at HY4.out
          go_wp2_with fail
          clear hcv7 hcv8
          have HM := Lib.hid (steps_mid HP4.out HRY3.out hYw HY4.out HB4.out (.cells (qcells q' A' n' cap').toArray 40))
          unfold qcells at HM
          generalize (((((w4.setCell ⟨Y, 0, none⟩ (.int .i64 q'.win)).setCell ⟨Y, 1, none⟩ (.int .i64 q'.cr)).setCell ⟨Y, 2, none⟩ (.slice A' n' cap')).setCell ⟨Y, 3, none⟩ (.bool (q'.cl && !q'.cn))).setCell ⟨Y, 4, none⟩ (.bool q'.cn)).alloc (.cells [Value.int .i64 q'.win, .int .i64 q'.cr, .slice A' n' cap', .bool (q'.cl && !q'.cn), .bool q'.cn].toArray 40) = w5 at *
          have HP5 := Lib.hid HM.out.1
          have HY5 : Hid (w5.heap[Y]? = some (.cells (qcells q' A' n' cap').toArray 40 (0, 0))) := Lib.hid HM.out.2.1
          have HB5 := Lib.hid HM.out.2.2
          have HOK5 := Lib.hid HP5.out.pipe.ok
          clear HM z0 z1 z2 z3 z4 fz hYl
          obtain ⟨y0, y1, y2, y3, y4⟩ := qcells_0 HY5.out
          refine region_path (S := (fun w' => w'.cell? ⟨Y, 0, none⟩ = some (.int .i64 q'.win) ∧ w'.cell? ⟨Y, 1, none⟩ = some (.int .i64 q'.cr) ∧ w'.cell? ⟨Y, 2, none⟩ = some (.slice A' n' cap') ∧ w'.cell? ⟨Y, 3, none⟩ = some (.bool (q'.cl && !q'.cn)) ∧ w'.cell? ⟨Y, 4, none⟩ = some (.bool q'.cn))) 99 [(0, true), (2, true), (1, false), (3, false), (4, true), (5, true), (6, true), (8, true), (7, false), (9, false), (10, true), (11, true), (12, true), (13, true), (15, true), (14, false), (16, false), (17, true), (18, true)] (by kernel_rfl) (by kernel_rfl) (by kernel_rfl) ⟨y0, y1, y2, y3, y4⟩ ?_
          refine path_read (i := 0) (v := ?v2_0) rfl (by rfl) (fun _ _ _ h => h) ?hy2_0 ?_
          case hy2_0 => ((intro w hSw; (try dsimp only at hSw); go_simp) <;> (try with_reducible rfl))
          try simp only [Act.put, List.setIfInBounds_toArray, List.set_cons_zero, List.set_cons_succ]
          refine path_read (i := 2) (v := ?v2_2) rfl (by rfl) (fun _ _ _ h => h) ?hy2_2 ?_
          case hy2_2 => ((intro w hSw; (try dsimp only at hSw); go_simp) <;> (try with_reducible rfl))
          try simp only [Act.put, List.setIfInBounds_toArray, List.set_cons_zero, List.set_cons_succ]
          refine path_do (i := 1) rfl ?_
          go_wp2_with ((first | (go_at_call 17; refine (pcredit_v q'.cr (HP5.out.same_ (Chg.refl (fun _ => False) w5).drew) rfl).mono ?_; rintro e wq ⟨rfl, rfl⟩) | (go_at_call 26; refine (qcredit_q q' A' n' cap' _).mono ?_; rintro e w6 ⟨rfl, hs6⟩; have HS6 := Lib.hid ((Chg.refl (fun _ => False) w5).drew.trans hs6); obtain ⟨x0, x1, x2, x3, x4⟩ := qcells_0 (HS6.out.at_ HY5.out (fun q => q)); clear hs6) | (go_at_call 18; refine (pbuffered_v q'.bs.length (HP5.out.same_ HS6.out) rfl).mono ?_; rintro e wq ⟨rfl, rfl⟩) | (go_at_call 27; refine (qbuffered_q (HB5.out.chg HS6.out (fun _ _ q => q))).mono ?_; rintro e w7 ⟨rfl, hs7⟩; have HS7 := Lib.hid (HS6.out.trans hs7); obtain ⟨v0, v1, v2, v3, v4⟩ := qcells_0 (HS7.out.at_ HY5.out (fun q => q)); clear hs7) | (go_at_call 15; refine (pdone_v q'.done (HP5.out.same_ HS7.out) rfl).mono ?_; rintro e wq ⟨rfl, rfl⟩) | (go_at_call 28; refine (qdone_q (HB5.out.chg HS7.out (fun _ _ q => q)) HOK5.out).mono ?_; rintro e w8 ⟨rfl, hs8⟩; have HS8 := Lib.hid (HS7.out.trans hs8); obtain ⟨t0, t1, t2, t3, t4⟩ := qcells_0 (HS8.out.at_ HY5.out (fun q => q)); clear hs8)))
          refine ⟨.inr ?keep2_1, ?_⟩
          case keep2_1 => ((first | (exact ⟨t0, t1, t2, t3, t4⟩) | (exact ⟨v0, v1, v2, v3, v4⟩) | (exact ⟨x0, x1, x2, x3, x4⟩) | (exact ⟨y0, y1, y2, y3, y4⟩)))
          try simp only [Act.put, List.setIfInBounds_toArray, List.set_cons_zero, List.set_cons_succ]
          refine path_do (i := 3) rfl ?_
          go_wp2_with ((first | (go_at_call 17; refine (pcredit_v q'.cr (HP5.out.same_ (Chg.refl (fun _ => False) w5).drew) rfl).mono ?_; rintro e wq ⟨rfl, rfl⟩) | (go_at_call 26; refine (qcredit_q q' A' n' cap' _).mono ?_; rintro e w6 ⟨rfl, hs6⟩; have HS6 := Lib.hid ((Chg.refl (fun _ => False) w5).drew.trans hs6); obtain ⟨x0, x1, x2, x3, x4⟩ := qcells_0 (HS6.out.at_ HY5.out (fun q => q)); clear hs6) | (go_at_call 18; refine (pbuffered_v q'.bs.length (HP5.out.same_ HS6.out) rfl).mono ?_; rintro e wq ⟨rfl, rfl⟩) | (go_at_call 27; refine (qbuffered_q (HB5.out.chg HS6.out (fun _ _ q => q))).mono ?_; rintro e w7 ⟨rfl, hs7⟩; have HS7 := Lib.hid (HS6.out.trans hs7); obtain ⟨v0, v1, v2, v3, v4⟩ := qcells_0 (HS7.out.at_ HY5.out (fun q => q)); clear hs7) | (go_at_call 15; refine (pdone_v q'.done (HP5.out.same_ HS7.out) rfl).mono ?_; rintro e wq ⟨rfl, rfl⟩) | (go_at_call 28; refine (qdone_q (HB5.out.chg HS7.out (fun _ _ q => q)) HOK5.out).mono ?_; rintro e w8 ⟨rfl, hs8⟩; have HS8 := Lib.hid (HS7.out.trans hs8); obtain ⟨t0, t1, t2, t3, t4⟩ := qcells_0 (HS8.out.at_ HY5.out (fun q => q)); clear hs8)))
          refine ⟨.inr ?keep2_3, ?_⟩
          case keep2_3 => ((first | (exact ⟨t0, t1, t2, t3, t4⟩) | (exact ⟨v0, v1, v2, v3, v4⟩) | (exact ⟨x0, x1, x2, x3, x4⟩) | (exact ⟨y0, y1, y2, y3, y4⟩)))
          try simp only [Act.put, List.setIfInBounds_toArray, List.set_cons_zero, List.set_cons_succ]
          refine path_read (i := 4) (v := ?v2_4) rfl (by rfl) (fun _ _ _ h => h) ?hy2_4 ?_
          case hy2_4 => ((intro w hSw; (try dsimp only at hSw); go_simp) <;> (try with_reducible rfl))
          try simp only [Act.put, List.setIfInBounds_toArray, List.set_cons_zero, List.set_cons_succ]
          refine path_read (i := 5) (v := ?v2_5) rfl (by rfl) (fun _ _ _ h => h) ?hy2_5 ?_
          case hy2_5 => ((intro w hSw; (try dsimp only at hSw); go_simp) <;> (try with_reducible rfl))
          try simp only [Act.put, List.setIfInBounds_toArray, List.set_cons_zero, List.set_cons_succ]
          refine path_read (i := 6) (v := ?v2_6) rfl (by rfl) (fun _ _ _ h => h) ?hy2_6 ?_
          case hy2_6 => ((intro w hSw; (try dsimp only at hSw); go_simp) <;> (try with_reducible rfl))
          try simp only [Act.put, List.setIfInBounds_toArray, List.set_cons_zero, List.set_cons_succ]
          refine path_read (i := 8) (v := ?v2_8) rfl (by rfl) (fun _ _ _ h => h) ?hy2_8 ?_
          case hy2_8 => ((intro w hSw; (try dsimp only at hSw); go_simp) <;> (try with_reducible rfl))
          try simp only [Act.put, List.setIfInBounds_toArray, List.set_cons_zero, List.set_cons_succ]
          refine path_do (i := 7) rfl ?_
          go_wp2_with ((first | (go_at_call 17; refine (pcredit_v q'.cr (HP5.out.same_ (Chg.refl (fun _ => False) w5).drew) rfl).mono ?_; rintro e wq ⟨rfl, rfl⟩) | (go_at_call 26; refine (qcredit_q q' A' n' cap' _).mono ?_; rintro e w6 ⟨rfl, hs6⟩; have HS6 := Lib.hid ((Chg.refl (fun _ => False) w5).drew.trans hs6); obtain ⟨x0, x1, x2, x3, x4⟩ := qcells_0 (HS6.out.at_ HY5.out (fun q => q)); clear hs6) | (go_at_call 18; refine (pbuffered_v q'.bs.length (HP5.out.same_ HS6.out) rfl).mono ?_; rintro e wq ⟨rfl, rfl⟩) | (go_at_call 27; refine (qbuffered_q (HB5.out.chg HS6.out (fun _ _ q => q))).mono ?_; rintro e w7 ⟨rfl, hs7⟩; have HS7 := Lib.hid (HS6.out.trans hs7); obtain ⟨v0, v1, v2, v3, v4⟩ := qcells_0 (HS7.out.at_ HY5.out (fun q => q)); clear hs7) | (go_at_call 15; refine (pdone_v q'.done (HP5.out.same_ HS7.out) rfl).mono ?_; rintro e wq ⟨rfl, rfl⟩) | (go_at_call 28; refine (qdone_q (HB5.out.chg HS7.out (fun _ _ q => q)) HOK5.out).mono ?_; rintro e w8 ⟨rfl, hs8⟩; have HS8 := Lib.hid (HS7.out.trans hs8); obtain ⟨t0, t1, t2, t3, t4⟩ := qcells_0 (HS8.out.at_ HY5.out (fun q => q)); clear hs8)))
          refine ⟨.inr ?keep2_7, ?_⟩
          case keep2_7 => ((first | (exact ⟨t0, t1, t2, t3, t4⟩) | (exact ⟨v0, v1, v2, v3, v4⟩) | (exact ⟨x0, x1, x2, x3, x4⟩) | (exact ⟨y0, y1, y2, y3, y4⟩)))
          try simp only [Act.put, List.setIfInBounds_toArray, List.set_cons_zero, List.set_cons_succ]
          refine path_do (i := 9) rfl ?_
          go_wp2_with ((first | (go_at_call 17; refine (pcredit_v q'.cr (HP5.out.same_ (Chg.refl (fun _ => False) w5).drew) rfl).mono ?_; rintro e wq ⟨rfl, rfl⟩) | (go_at_call 26; refine (qcredit_q q' A' n' cap' _).mono ?_; rintro e w6 ⟨rfl, hs6⟩; have HS6 := Lib.hid ((Chg.refl (fun _ => False) w5).drew.trans hs6); obtain ⟨x0, x1, x2, x3, x4⟩ := qcells_0 (HS6.out.at_ HY5.out (fun q => q)); clear hs6) | (go_at_call 18; refine (pbuffered_v q'.bs.length (HP5.out.same_ HS6.out) rfl).mono ?_; rintro e wq ⟨rfl, rfl⟩) | (go_at_call 27; refine (qbuffered_q (HB5.out.chg HS6.out (fun _ _ q => q))).mono ?_; rintro e w7 ⟨rfl, hs7⟩; have HS7 := Lib.hid (HS6.out.trans hs7); obtain ⟨v0, v1, v2, v3, v4⟩ := qcells_0 (HS7.out.at_ HY5.out (fun q => q)); clear hs7) | (go_at_call 15; refine (pdone_v q'.done (HP5.out.same_ HS7.out) rfl).mono ?_; rintro e wq ⟨rfl, rfl⟩) | (go_at_call 28; refine (qdone_q (HB5.out.chg HS7.out (fun _ _ q => q)) HOK5.out).mono ?_; rintro e w8 ⟨rfl, hs8⟩; have HS8 := Lib.hid (HS7.out.trans hs8); obtain ⟨t0, t1, t2, t3, t4⟩ := qcells_0 (HS8.out.at_ HY5.out (fun q => q)); clear hs8)))
          refine ⟨.inr ?keep2_9, ?_⟩
          case keep2_9 => ((first | (exact ⟨t0, t1, t2, t3, t4⟩) | (exact ⟨v0, v1, v2, v3, v4⟩) | (exact ⟨x0, x1, x2, x3, x4⟩) | (exact ⟨y0, y1, y2, y3, y4⟩)))
          try simp only [Act.put, List.setIfInBounds_toArray, List.set_cons_zero, List.set_cons_succ]
          refine path_read (i := 10) (v := ?v2_10) rfl (by rfl) (fun _ _ _ h => h) ?hy2_10 ?_
          case hy2_10 => ((intro w hSw; (try dsimp only at hSw); go_simp) <;> (try with_reducible rfl))
          try simp only [Act.put, List.setIfInBounds_toArray, List.set_cons_zero, List.set_cons_succ]
          refine path_read (i := 11) (v := ?v2_11) rfl (by rfl) (fun _ _ _ h => h) ?hy2_11 ?_
          case hy2_11 => ((intro w hSw; (try dsimp only at hSw); go_simp) <;> (try with_reducible rfl))
          try simp only [Act.put, List.setIfInBounds_toArray, List.set_cons_zero, List.set_cons_succ]
          refine path_read (i := 12) (v := ?v2_12) rfl (by rfl) (fun _ _ _ h => h) ?hy2_12 ?_
          case hy2_12 => ((intro w hSw; (try dsimp only at hSw); go_simp) <;> (try with_reducible rfl))
          try simp only [Act.put, List.setIfInBounds_toArray, List.set_cons_zero, List.set_cons_succ]
          refine path_read (i := 13) (v := ?v2_13) rfl (by rfl) (fun _ _ _ h => h) ?hy2_13 ?_
          case hy2_13 => ((intro w hSw; (try dsimp only at hSw); go_simp) <;> (try with_reducible rfl))
          try simp only [Act.put, List.setIfInBounds_toArray, List.set_cons_zero, List.set_cons_succ]
          refine path_read (i := 15) (v := ?v2_15) rfl (by rfl) (fun _ _ _ h => h) ?hy2_15 ?_
          case hy2_15 => ((intro w hSw; (try dsimp only at hSw); go_simp) <;> (try with_reducible rfl))
          try simp only [Act.put, List.setIfInBounds_toArray, List.set_cons_zero, List.set_cons_succ]
          refine path_do (i := 14) rfl ?_
          go_wp2_with ((first | (go_at_call 17; refine (pcredit_v q'.cr (HP5.out.same_ (Chg.refl (fun _ => False) w5).drew) rfl).mono ?_; rintro e wq ⟨rfl, rfl⟩) | (go_at_call 26; refine (qcredit_q q' A' n' cap' _).mono ?_; rintro e w6 ⟨rfl, hs6⟩; have HS6 := Lib.hid ((Chg.refl (fun _ => False) w5).drew.trans hs6); obtain ⟨x0, x1, x2, x3, x4⟩ := qcells_0 (HS6.out.at_ HY5.out (fun q => q)); clear hs6) | (go_at_call 18; refine (pbuffered_v q'.bs.length (HP5.out.same_ HS6.out) rfl).mono ?_; rintro e wq ⟨rfl, rfl⟩) | (go_at_call 27; refine (qbuffered_q (HB5.out.chg HS6.out (fun _ _ q => q))).mono ?_; rintro e w7 ⟨rfl, hs7⟩; have HS7 := Lib.hid (HS6.out.trans hs7); obtain ⟨v0, v1, v2, v3, v4⟩ := qcells_0 (HS7.out.at_ HY5.out (fun q => q)); clear hs7) | (go_at_call 15; refine (pdone_v q'.done (HP5.out.same_ HS7.out) rfl).mono ?_; rintro e wq ⟨rfl, rfl⟩) | (go_at_call 28; refine (qdone_q (HB5.out.chg HS7.out (fun _ _ q => q)) HOK5.out).mono ?_; rintro e w8 ⟨rfl, hs8⟩; have HS8 := Lib.hid (HS7.out.trans hs8); obtain ⟨t0, t1, t2, t3, t4⟩ := qcells_0 (HS8.out.at_ HY5.out (fun q => q)); clear hs8)))
          refine ⟨.inr ?keep2_14, ?_⟩
          case keep2_14 => ((first | (exact ⟨t0, t1, t2, t3, t4⟩) | (exact ⟨v0, v1, v2, v3, v4⟩) | (exact ⟨x0, x1, x2, x3, x4⟩) | (exact ⟨y0, y1, y2, y3, y4⟩)))
          try simp only [Act.put, List.setIfInBounds_toArray, List.set_cons_zero, List.set_cons_succ]
          refine path_do (i := 16) rfl ?_
          go_wp2_with ((first | (go_at_call 17; refine (pcredit_v q'.cr (HP5.out.same_ (Chg.refl (fun _ => False) w5).drew) rfl).mono ?_; rintro e wq ⟨rfl, rfl⟩) | (go_at_call 26; refine (qcredit_q q' A' n' cap' _).mono ?_; rintro e w6 ⟨rfl, hs6⟩; have HS6 := Lib.hid ((Chg.refl (fun _ => False) w5).drew.trans hs6); obtain ⟨x0, x1, x2, x3, x4⟩ := qcells_0 (HS6.out.at_ HY5.out (fun q => q)); clear hs6) | (go_at_call 18; refine (pbuffered_v q'.bs.length (HP5.out.same_ HS6.out) rfl).mono ?_; rintro e wq ⟨rfl, rfl⟩) | (go_at_call 27; refine (qbuffered_q (HB5.out.chg HS6.out (fun _ _ q => q))).mono ?_; rintro e w7 ⟨rfl, hs7⟩; have HS7 := Lib.hid (HS6.out.trans hs7); obtain ⟨v0, v1, v2, v3, v4⟩ := qcells_0 (HS7.out.at_ HY5.out (fun q => q)); clear hs7) | (go_at_call 15; refine (pdone_v q'.done (HP5.out.same_ HS7.out) rfl).mono ?_; rintro e wq ⟨rfl, rfl⟩) | (go_at_call 28; refine (qdone_q (HB5.out.chg HS7.out (fun _ _ q => q)) HOK5.out).mono ?_; rintro e w8 ⟨rfl, hs8⟩; have HS8 := Lib.hid (HS7.out.trans hs8); obtain ⟨t0, t1, t2, t3, t4⟩ := qcells_0 (HS8.out.at_ HY5.out (fun q => q)); clear hs8)))
          refine ⟨.inr ?keep2_16, ?_⟩
          case keep2_16 => ((first | (exact ⟨t0, t1, t2, t3, t4⟩) | (exact ⟨v0, v1, v2, v3, v4⟩) | (exact ⟨x0, x1, x2, x3, x4⟩) | (exact ⟨y0, y1, y2, y3, y4⟩)))
          try simp only [Act.put, List.setIfInBounds_toArray, List.set_cons_zero, List.set_cons_succ]
          refine path_read (i := 17) (v := ?v2_17) rfl (by rfl) (fun _ _ _ h => h) ?hy2_17 ?_
          case hy2_17 => ((intro w hSw; (try dsimp only at hSw); go_simp) <;> (try with_reducible rfl))
          try simp only [Act.put, List.setIfInBounds_toArray, List.set_cons_zero, List.set_cons_succ]
          refine path_read (i := 18) (v := ?v2_18) rfl (by rfl) (fun _ _ _ h => h) ?hy2_18 ?_
          case hy2_18 => ((intro w hSw; (try dsimp only at hSw); go_simp) <;> (try with_reducible rfl))
          try simp only [Act.put, List.setIfInBounds_toArray, List.set_cons_zero, List.set_cons_succ]
          refine path_end ?_
          go_wp2_with fail
          go_roundw
          case rel => exact ⟨i + 1, q', R1, A', n', cap', by omega, by go_num, HP5.out.same_ HS8.out, HRY3.out, hYw, HS8.out.at_ HY5.out (fun q => q), HB5.out.chg HS8.out (fun _ _ q => q)⟩
          case measure => simp [intOf]; omega
        have e1 : (kd == 1) = false := by simpa using hk1
        by_cases hk2 : kd = 2
        · subst hk2
          clear hk0 hk1 e0 e1
          obtain ⟨q', hq'⟩ : ∃ q', q' = q.grant m := ⟨_, rfl⟩
          obtain ⟨vv, hvv⟩ : ∃ vv, vv = q.grE m := ⟨_, rfl⟩
          have HQ := Lib.hid (And.intro hq' hvv)
          clear hq' hvv
          go_wp2_with fail
          refine (pgrant_v q' vv m (HP.out.same_ ((Chg.refl _ _).alloc _)) hm2 HQ.out.2.symm HQ.out.1.symm).mono ?_
          rintro e w3 ⟨rfl, hp3, hc3⟩
          have HX0 := Lib.hid (hc3.at_ (at_new wr (.cells #[.int .i64 2, .int .i64 m, .slice Ax lx cx] 44)) (fun hr => by have := HP.out.pipe.lt _ hr; omega))
          have HP3 := Lib.hid hp3
          have HRY3 := HRY
          have HY3 := Lib.hid (hc3.at_ (at_alloc HY.out) HRY.out)
          have HB3 : Hid (BytesAt w3 (fun x => ¬ R1 x ∧ x ≠ Y) A n cap q.bs) := Lib.hid ((HB.out.chg ((Chg.refl (fun _ => False) wr).alloc _) (fun _ _ q => q)).chg hc3 (fun x hx hr => hx.1 hr))
          have hWX : wr.heap.size < w3.heap.size := lt_of_at HX0.out
          clear hp3 hc3 y0 y1 y2 y3 y4 d0 d1 d2
          obtain ⟨y0, y1, y2, y3, y4⟩ := qcells_0 HY3.out
          have x1 : w3.cell? ⟨wr.heap.size, 1, none⟩ = some (.int .i64 m) := by rw [cell_of_row w3 _ 1 _ _ _ HX0.out]; rfl
          go_wp2_with fail
          refine (qgrant_q q' vv m HB3.out HP.out.pipe.ok hm2 HQ.out.2.symm HQ.out.1.symm).mono ?_
          rintro e w4 ⟨A', n', cap', rfl, hb4, hs4⟩
          have HP4 := Lib.hid (HP3.out.same_ hs4)
          have HY4 := Lib.hid (hs4.at_ HY3.out (fun q => q))
          have HB4 := Lib.hid hb4
          clear hb4 hs4 y0 y1 y2 y3 y4 x1
          obtain ⟨z0, z1, z2, z3, z4⟩ := qcells_0 HY4.out
          have fz := frozen_at HY4.out
          have hYl : Y < w4.heap.size := lt_of_at HY4.out
          go_wp2_with fail
          have HM := Lib.hid (steps_mid HP4.out HRY3.out hYw HY4.out HB4.out (.cells (qcells q' A' n' cap').toArray 40))
          unfold qcells at HM
          generalize (((((w4.setCell ⟨Y, 0, none⟩ (.int .i64 q'.win)).setCell ⟨Y, 1, none⟩ (.int .i64 q'.cr)).setCell ⟨Y, 2, none⟩ (.slice A' n' cap')).setCell ⟨Y, 3, none⟩ (.bool (q'.cl && !q'.cn))).setCell ⟨Y, 4, none⟩ (.bool q'.cn)).alloc (.cells [Value.int .i64 q'.win, .int .i64 q'.cr, .slice A' n' cap', .bool (q'.cl && !q'.cn), .bool q'.cn].toArray 40) = w5 at *
          have HP5 := Lib.hid HM.out.1
          have HY5 : Hid (w5.heap[Y]? = some (.cells (qcells q' A' n' cap').toArray 40 (0, 0))) := Lib.hid HM.out.2.1
          have HB5 := Lib.hid HM.out.2.2
          have HOK5 := Lib.hid HP5.out.pipe.ok
          clear HM z0 z1 z2 z3 z4 fz hYl
          obtain ⟨y0, y1, y2, y3, y4⟩ := qcells_0 HY5.out
          refine region_path (S := (fun w' => w'.cell? ⟨Y, 0, none⟩ = some (.int .i64 q'.win) ∧ w'.cell? ⟨Y, 1, none⟩ = some (.int .i64 q'.cr) ∧ w'.cell? ⟨Y, 2, none⟩ = some (.slice A' n' cap') ∧ w'.cell? ⟨Y, 3, none⟩ = some (.bool (q'.cl && !q'.cn)) ∧ w'.cell? ⟨Y, 4, none⟩ = some (.bool q'.cn))) 99 [(0, true), (2, true), (1, false), (3, false), (4, true), (5, true), (6, true), (8, true), (7, false), (9, false), (10, true), (11, true), (12, true), (13, true), (15, true), (14, false), (16, false), (17, true), (18, true)] (by kernel_rfl) (by kernel_rfl) (by kernel_rfl) ⟨y0, y1, y2, y3, y4⟩ ?_
          refine path_read (i := 0) (v := ?v3_0) rfl (by rfl) (fun _ _ _ h => h) ?hy3_0 ?_
          case hy3_0 => ((intro w hSw; (try dsimp only at hSw); go_simp) <;> (try with_reducible rfl))
          try simp only [Act.put, List.setIfInBounds_toArray, List.set_cons_zero, List.set_cons_succ]
          refine path_read (i := 2) (v := ?v3_2) rfl (by rfl) (fun _ _ _ h => h) ?hy3_2 ?_
          case hy3_2 => ((intro w hSw; (try dsimp only at hSw); go_simp) <;> (try with_reducible rfl))
          try simp only [Act.put, List.setIfInBounds_toArray, List.set_cons_zero, List.set_cons_succ]
          refine path_do (i := 1) rfl ?_
          go_wp2_with ((first | (go_at_call 17; refine (pcredit_v q'.cr (HP5.out.same_ (Chg.refl (fun _ => False) w5).drew) rfl).mono ?_; rintro e wq ⟨rfl, rfl⟩) | (go_at_call 26; refine (qcredit_q q' A' n' cap' _).mono ?_; rintro e w6 ⟨rfl, hs6⟩; have HS6 := Lib.hid ((Chg.refl (fun _ => False) w5).drew.trans hs6); obtain ⟨x0, x1, x2, x3, x4⟩ := qcells_0 (HS6.out.at_ HY5.out (fun q => q)); clear hs6) | (go_at_call 18; refine (pbuffered_v q'.bs.length (HP5.out.same_ HS6.out) rfl).mono ?_; rintro e wq ⟨rfl, rfl⟩) | (go_at_call 27; refine (qbuffered_q (HB5.out.chg HS6.out (fun _ _ q => q))).mono ?_; rintro e w7 ⟨rfl, hs7⟩; have HS7 := Lib.hid (HS6.out.trans hs7); obtain ⟨v0, v1, v2, v3, v4⟩ := qcells_0 (HS7.out.at_ HY5.out (fun q => q)); clear hs7) | (go_at_call 15; refine (pdone_v q'.done (HP5.out.same_ HS7.out) rfl).mono ?_; rintro e wq ⟨rfl, rfl⟩) | (go_at_call 28; refine (qdone_q (HB5.out.chg HS7.out (fun _ _ q => q)) HOK5.out).mono ?_; rintro e w8 ⟨rfl, hs8⟩; have HS8 := Lib.hid (HS7.out.trans hs8); obtain ⟨t0, t1, t2, t3, t4⟩ := qcells_0 (HS8.out.at_ HY5.out (fun q => q)); clear hs8)))
          refine ⟨.inr ?keep3_1, ?_⟩
          case keep3_1 => ((first | (exact ⟨t0, t1, t2, t3, t4⟩) | (exact ⟨v0, v1, v2, v3, v4⟩) | (exact ⟨x0, x1, x2, x3, x4⟩) | (exact ⟨y0, y1, y2, y3, y4⟩)))
          try simp only [Act.put, List.setIfInBounds_toArray, List.set_cons_zero, List.set_cons_succ]
          refine path_do (i := 3) rfl ?_
          go_wp2_with ((first | (go_at_call 17; refine (pcredit_v q'.cr (HP5.out.same_ (Chg.refl (fun _ => False) w5).drew) rfl).mono ?_; rintro e wq ⟨rfl, rfl⟩) | (go_at_call 26; refine (qcredit_q q' A' n' cap' _).mono ?_; rintro e w6 ⟨rfl, hs6⟩; have HS6 := Lib.hid ((Chg.refl (fun _ => False) w5).drew.trans hs6); obtain ⟨x0, x1, x2, x3, x4⟩ := qcells_0 (HS6.out.at_ HY5.out (fun q => q)); clear hs6) | (go_at_call 18; refine (pbuffered_v q'.bs.length (HP5.out.same_ HS6.out) rfl).mono ?_; rintro e wq ⟨rfl, rfl⟩) | (go_at_call 27; refine (qbuffered_q (HB5.out.chg HS6.out (fun _ _ q => q))).mono ?_; rintro e w7 ⟨rfl, hs7⟩; have HS7 := Lib.hid (HS6.out.trans hs7); obtain ⟨v0, v1, v2, v3, v4⟩ := qcells_0 (HS7.out.at_ HY5.out (fun q => q)); clear hs7) | (go_at_call 15; refine (pdone_v q'.done (HP5.out.same_ HS7.out) rfl).mono ?_; rintro e wq ⟨rfl, rfl⟩) | (go_at_call 28; refine (qdone_q (HB5.out.chg HS7.out (fun _ _ q => q)) HOK5.out).mono ?_; rintro e w8 ⟨rfl, hs8⟩; have HS8 := Lib.hid (HS7.out.trans hs8); obtain ⟨t0, t1, t2, t3, t4⟩ := qcells_0 (HS8.out.at_ HY5.out (fun q => q)); clear hs8)))
          refine ⟨.inr ?keep3_3, ?_⟩
          case keep3_3 => ((first | (exact ⟨t0, t1, t2, t3, t4⟩) | (exact ⟨v0, v1, v2, v3, v4⟩) | (exact ⟨x0, x1, x2, x3, x4⟩) | (exact ⟨y0, y1, y2, y3, y4⟩)))
          try simp only [Act.put, List.setIfInBounds_toArray, List.set_cons_zero, List.set_cons_succ]
          refine path_read (i := 4) (v := ?v3_4) rfl (by rfl) (fun _ _ _ h => h) ?hy3_4 ?_
          case hy3_4 => ((intro w hSw; (try dsimp only at hSw); go_simp) <;> (try with_reducible rfl))
          try simp only [Act.put, List.setIfInBounds_toArray, List.set_cons_zero, List.set_cons_succ]
          refine path_read (i := 5) (v := ?v3_5) rfl (by rfl) (fun _ _ _ h => h) ?hy3_5 ?_
          case hy3_5 => ((intro w hSw; (try dsimp only at hSw); go_simp) <;> (try with_reducible rfl))
          try simp only [Act.put, List.setIfInBounds_toArray, List.set_cons_zero, List.set_cons_succ]
          refine path_read (i := 6) (v := ?v3_6) rfl (by rfl) (fun _ _ _ h => h) ?hy3_6 ?_
          case hy3_6 => ((intro w hSw; (try dsimp only at hSw); go_simp) <;> (try with_reducible rfl))
          try simp only [Act.put, List.setIfInBounds_toArray, List.set_cons_zero, List.set_cons_succ]
          refine path_read (i := 8) (v := ?v3_8) rfl (by rfl) (fun _ _ _ h => h) ?hy3_8 ?_
          case hy3_8 => ((intro w hSw; (try dsimp only at hSw); go_simp) <;> (try with_reducible rfl))
          try simp only [Act.put, List.setIfInBounds_toArray, List.set_cons_zero, List.set_cons_succ]
          refine path_do (i := 7) rfl ?_
          go_wp2_with ((first | (go_at_call 17; refine (pcredit_v q'.cr (HP5.out.same_ (Chg.refl (fun _ => False) w5).drew) rfl).mono ?_; rintro e wq ⟨rfl, rfl⟩) | (go_at_call 26; refine (qcredit_q q' A' n' cap' _).mono ?_; rintro e w6 ⟨rfl, hs6⟩; have HS6 := Lib.hid ((Chg.refl (fun _ => False) w5).drew.trans hs6); obtain ⟨x0, x1, x2, x3, x4⟩ := qcells_0 (HS6.out.at_ HY5.out (fun q => q)); clear hs6) | (go_at_call 18; refine (pbuffered_v q'.bs.length (HP5.out.same_ HS6.out) rfl).mono ?_; rintro e wq ⟨rfl, rfl⟩) | (go_at_call 27; refine (qbuffered_q (HB5.out.chg HS6.out (fun _ _ q => q))).mono ?_; rintro e w7 ⟨rfl, hs7⟩; have HS7 := Lib.hid (HS6.out.trans hs7); obtain ⟨v0, v1, v2, v3, v4⟩ := qcells_0 (HS7.out.at_ HY5.out (fun q => q)); clear hs7) | (go_at_call 15; refine (pdone_v q'.done (HP5.out.same_ HS7.out) rfl).mono ?_; rintro e wq ⟨rfl, rfl⟩) | (go_at_call 28; refine (qdone_q (HB5.out.chg HS7.out (fun _ _ q => q)) HOK5.out).mono ?_; rintro e w8 ⟨rfl, hs8⟩; have HS8 := Lib.hid (HS7.out.trans hs8); obtain ⟨t0, t1, t2, t3, t4⟩ := qcells_0 (HS8.out.at_ HY5.out (fun q => q)); clear hs8)))
          refine ⟨.inr ?keep3_7, ?_⟩
          case keep3_7 => ((first | (exact ⟨t0, t1, t2, t3, t4⟩) | (exact ⟨v0, v1, v2, v3, v4⟩) | (exact ⟨x0, x1, x2, x3, x4⟩) | (exact ⟨y0, y1, y2, y3, y4⟩)))
          try simp only [Act.put, List.setIfInBounds_toArray, List.set_cons_zero, List.set_cons_succ]
          refine path_do (i := 9) rfl ?_
          go_wp2_with ((first | (go_at_call 17; refine (pcredit_v q'.cr (HP5.out.same_ (Chg.refl (fun _ => False) w5).drew) rfl).mono ?_; rintro e wq ⟨rfl, rfl⟩) | (go_at_call 26; refine (qcredit_q q' A' n' cap' _).mono ?_; rintro e w6 ⟨rfl, hs6⟩; have HS6 := Lib.hid ((Chg.refl (fun _ => False) w5).drew.trans hs6); obtain ⟨x0, x1, x2, x3, x4⟩ := qcells_0 (HS6.out.at_ HY5.out (fun q => q)); clear hs6) | (go_at_call 18; refine (pbuffered_v q'.bs.length (HP5.out.same_ HS6.out) rfl).mono ?_; rintro e wq ⟨rfl, rfl⟩) | (go_at_call 27; refine (qbuffered_q (HB5.out.chg HS6.out (fun _ _ q => q))).mono ?_; rintro e w7 ⟨rfl, hs7⟩; have HS7 := Lib.hid (HS6.out.trans hs7); obtain ⟨v0, v1, v2, v3, v4⟩ := qcells_0 (HS7.out.at_ HY5.out (fun q => q)); clear hs7) | (go_at_call 15; refine (pdone_v q'.done (HP5.out.same_ HS7.out) rfl).mono ?_; rintro e wq ⟨rfl, rfl⟩) | (go_at_call 28; refine (qdone_q (HB5.out.chg HS7.out (fun _ _ q => q)) HOK5.out).mono ?_; rintro e w8 ⟨rfl, hs8⟩; have HS8 := Lib.hid (HS7.out.trans hs8); obtain ⟨t0, t1, t2, t3, t4⟩ := qcells_0 (HS8.out.at_ HY5.out (fun q => q)); clear hs8)))
          refine ⟨.inr ?keep3_9, ?_⟩
          case keep3_9 => ((first | (exact ⟨t0, t1, t2, t3, t4⟩) | (exact ⟨v0, v1, v2, v3, v4⟩) | (exact ⟨x0, x1, x2, x3, x4⟩) | (exact ⟨y0, y1, y2, y3, y4⟩)))
          try simp only [Act.put, List.setIfInBounds_toArray, List.set_cons_zero, List.set_cons_succ]
          refine path_read (i := 10) (v := ?v3_10) rfl (by rfl) (fun _ _ _ h => h) ?hy3_10 ?_
          case hy3_10 => ((intro w hSw; (try dsimp only at hSw); go_simp) <;> (try with_reducible rfl))
          try simp only [Act.put, List.setIfInBounds_toArray, List.set_cons_zero, List.set_cons_succ]
          refine path_read (i := 11) (v := ?v3_11) rfl (by rfl) (fun _ _ _ h => h) ?hy3_11 ?_
          case hy3_11 => ((intro w hSw; (try dsimp only at hSw); go_simp) <;> (try with_reducible rfl))
          try simp only [Act.put, List.setIfInBounds_toArray, List.set_cons_zero, List.set_cons_succ]
          refine path_read (i := 12) (v := ?v3_12) rfl (by rfl) (fun _ _ _ h => h) ?hy3_12 ?_
          case hy3_12 => ((intro w hSw; (try dsimp only at hSw); go_simp) <;> (try with_reducible rfl))
          try simp only [Act.put, List.setIfInBounds_toArray, List.set_cons_zero, List.set_cons_succ]
          refine path_read (i := 13) (v := ?v3_13) rfl (by rfl) (fun _ _ _ h => h) ?hy3_13 ?_
          case hy3_13 => ((intro w hSw; (try dsimp only at hSw); go_simp) <;> (try with_reducible rfl))
          try simp only [Act.put, List.setIfInBounds_toArray, List.set_cons_zero, List.set_cons_succ]
          refine path_read (i := 15) (v := ?v3_15) rfl (by rfl) (fun _ _ _ h => h) ?hy3_15 ?_
          case hy3_15 => ((intro w hSw; (try dsimp only at hSw); go_simp) <;> (try with_reducible rfl))
          try simp only [Act.put, List.setIfInBounds_toArray, List.set_cons_zero, List.set_cons_succ]
          refine path_do (i := 14) rfl ?_
          go_wp2_with ((first | (go_at_call 17; refine (pcredit_v q'.cr (HP5.out.same_ (Chg.refl (fun _ => False) w5).drew) rfl).mono ?_; rintro e wq ⟨rfl, rfl⟩) | (go_at_call 26; refine (qcredit_q q' A' n' cap' _).mono ?_; rintro e w6 ⟨rfl, hs6⟩; have HS6 := Lib.hid ((Chg.refl (fun _ => False) w5).drew.trans hs6); obtain ⟨x0, x1, x2, x3, x4⟩ := qcells_0 (HS6.out.at_ HY5.out (fun q => q)); clear hs6) | (go_at_call 18; refine (pbuffered_v q'.bs.length (HP5.out.same_ HS6.out) rfl).mono ?_; rintro e wq ⟨rfl, rfl⟩) | (go_at_call 27; refine (qbuffered_q (HB5.out.chg HS6.out (fun _ _ q => q))).mono ?_; rintro e w7 ⟨rfl, hs7⟩; have HS7 := Lib.hid (HS6.out.trans hs7); obtain ⟨v0, v1, v2, v3, v4⟩ := qcells_0 (HS7.out.at_ HY5.out (fun q => q)); clear hs7) | (go_at_call 15; refine (pdone_v q'.done (HP5.out.same_ HS7.out) rfl).mono ?_; rintro e wq ⟨rfl, rfl⟩) | (go_at_call 28; refine (qdone_q (HB5.out.chg HS7.out (fun _ _ q => q)) HOK5.out).mono ?_; rintro e w8 ⟨rfl, hs8⟩; have HS8 := Lib.hid (HS7.out.trans hs8); obtain ⟨t0, t1, t2, t3, t4⟩ := qcells_0 (HS8.out.at_ HY5.out (fun q => q)); clear hs8)))
          refine ⟨.inr ?keep3_14, ?_⟩
          case keep3_14 => ((first | (exact ⟨t0, t1, t2, t3, t4⟩) | (exact ⟨v0, v1, v2, v3, v4⟩) | (exact ⟨x0, x1, x2, x3, x4⟩) | (exact ⟨y0, y1, y2, y3, y4⟩)))
          try simp only [Act.put, List.setIfInBounds_toArray, List.set_cons_zero, List.set_cons_succ]
          refine path_do (i := 16) rfl ?_
          go_wp2_with ((first | (go_at_call 17; refine (pcredit_v q'.cr (HP5.out.same_ (Chg.refl (fun _ => False) w5).drew) rfl).mono ?_; rintro e wq ⟨rfl, rfl⟩) | (go_at_call 26; refine (qcredit_q q' A' n' cap' _).mono ?_; rintro e w6 ⟨rfl, hs6⟩; have HS6 := Lib.hid ((Chg.refl (fun _ => False) w5).drew.trans hs6); obtain ⟨x0, x1, x2, x3, x4⟩ := qcells_0 (HS6.out.at_ HY5.out (fun q => q)); clear hs6) | (go_at_call 18; refine (pbuffered_v q'.bs.length (HP5.out.same_ HS6.out) rfl).mono ?_; rintro e wq ⟨rfl, rfl⟩) | (go_at_call 27; refine (qbuffered_q (HB5.out.chg HS6.out (fun _ _ q => q))).mono ?_; rintro e w7 ⟨rfl, hs7⟩; have HS7 := Lib.hid (HS6.out.trans hs7); obtain ⟨v0, v1, v2, v3, v4⟩ := qcells_0 (HS7.out.at_ HY5.out (fun q => q)); clear hs7) | (go_at_call 15; refine (pdone_v q'.done (HP5.out.same_ HS7.out) rfl).mono ?_; rintro e wq ⟨rfl, rfl⟩) | (go_at_call 28; refine (qdone_q (HB5.out.chg HS7.out (fun _ _ q => q)) HOK5.out).mono ?_; rintro e w8 ⟨rfl, hs8⟩; have HS8 := Lib.hid (HS7.out.trans hs8); obtain ⟨t0, t1, t2, t3, t4⟩ := qcells_0 (HS8.out.at_ HY5.out (fun q => q)); clear hs8)))
          refine ⟨.inr ?keep3_16, ?_⟩
          case keep3_16 => ((first | (exact ⟨t0, t1, t2, t3, t4⟩) | (exact ⟨v0, v1, v2, v3, v4⟩) | (exact ⟨x0, x1, x2, x3, x4⟩) | (exact ⟨y0, y1, y2, y3, y4⟩)))
          try simp only [Act.put, List.setIfInBounds_toArray, List.set_cons_zero, List.set_cons_succ]
          refine path_read (i := 17) (v := ?v3_17) rfl (by rfl) (fun _ _ _ h => h) ?hy3_17 ?_
          case hy3_17 => ((intro w hSw; (try dsimp only at hSw); go_simp) <;> (try with_reducible rfl))
          try simp only [Act.put, List.setIfInBounds_toArray, List.set_cons_zero, List.set_cons_succ]
          refine path_read (i := 18) (v := ?v3_18) rfl (by rfl) (fun _ _ _ h => h) ?hy3_18 ?_
          case hy3_18 => ((intro w hSw; (try dsimp only at hSw); go_simp) <;> (try with_reducible rfl))
          try simp only [Act.put, List.setIfInBounds_toArray, List.set_cons_zero, List.set_cons_succ]
          refine path_end ?_
          go_wp2_with fail
          go_roundw
          case rel => exact ⟨i + 1, q', R1, A', n', cap', by omega, by go_num, HP5.out.same_ HS8.out, HRY3.out, hYw, HS8.out.at_ HY5.out (fun q => q), HB5.out.chg HS8.out (fun _ _ q => q)⟩
          case measure => simp [intOf]; omega
        have e2 : (kd == 2) = false := by simpa using hk2
        by_cases hk3 : kd = 3
        · subst hk3
          clear hk0 hk1 hk2 e0 e1 e2
          obtain ⟨q', hq'⟩ : ∃ q', q' = q.close := ⟨_, rfl⟩
          obtain ⟨vv, hvv⟩ : ∃ vv, vv = q.clE := ⟨_, rfl⟩
          have HBS : Hid (q'.bs = q.bs) := Lib.hid (by rw [hq']; unfold PSt.close; split <;> rfl)
          have HQ := Lib.hid (And.intro hq' hvv)
          clear hq' hvv
          go_wp2_with fail
          refine (pclose_v q' vv (HP.out.same_ ((Chg.refl _ _).alloc _)) HQ.out.2.symm HQ.out.1.symm).mono ?_
          rintro e w3 ⟨rfl, hp3, hc3⟩
          have HX0 := Lib.hid (hc3.at_ (at_new wr (.cells #[.int .i64 3, .int .i64 m, .slice Ax lx cx] 44)) (fun hr => by have := HP.out.pipe.lt _ hr; omega))
          have HP3 := Lib.hid hp3
          have HRY3 := HRY
          have HY3 := Lib.hid (hc3.at_ (at_alloc HY.out) HRY.out)
          have HB3 : Hid (BytesAt w3 (fun x => ¬ R1 x ∧ x ≠ Y) A n cap q.bs) := Lib.hid ((HB.out.chg ((Chg.refl (fun _ => False) wr).alloc _) (fun _ _ q => q)).chg hc3 (fun x hx hr => hx.1 hr))
          have hWX : wr.heap.size < w3.heap.size := lt_of_at HX0.out
          clear hp3 hc3 y0 y1 y2 y3 y4 d0 d1 d2
          obtain ⟨y0, y1, y2, y3, y4⟩ := qcells_0 HY3.out
          have x1 : w3.cell? ⟨wr.heap.size, 1, none⟩ = some (.int .i64 m) := by rw [cell_of_row w3 _ 1 _ _ _ HX0.out]; rfl
          go_wp2_with fail
          refine (qclose_q q' vv HB3.out HQ.out.2.symm HQ.out.1.symm HBS.out).mono ?_
          rintro e w4 ⟨A', n', cap', rfl, hb4, hs4⟩
          have HP4 := Lib.hid (HP3.out.same_ hs4)
          have HY4 := Lib.hid (hs4.at_ HY3.out (fun q => q))
          have HB4 := Lib.hid hb4
          clear hb4 hs4 y0 y1 y2 y3 y4 x1
          obtain ⟨z0, z1, z2, z3, z4⟩ := qcells_0 HY4.out
          have fz := frozen_at HY4.out
          have hYl : Y < w4.heap.size := lt_of_at HY4.out
          go_wp2_with fail
          have HM := Lib.hid (steps_mid HP4.out HRY3.out hYw HY4.out HB4.out (.cells (qcells q' A' n' cap').toArray 40))
          unfold qcells at HM
          generalize (((((w4.setCell ⟨Y, 0, none⟩ (.int .i64 q'.win)).setCell ⟨Y, 1, none⟩ (.int .i64 q'.cr)).setCell ⟨Y, 2, none⟩ (.slice A' n' cap')).setCell ⟨Y, 3, none⟩ (.bool (q'.cl && !q'.cn))).setCell ⟨Y, 4, none⟩ (.bool q'.cn)).alloc (.cells [Value.int .i64 q'.win, .int .i64 q'.cr, .slice A' n' cap', .bool (q'.cl && !q'.cn), .bool q'.cn].toArray 40) = w5 at *
          have HP5 := Lib.hid HM.out.1
          have HY5 : Hid (w5.heap[Y]? = some (.cells (qcells q' A' n' cap').toArray 40 (0, 0))) := Lib.hid HM.out.2.1
          have HB5 := Lib.hid HM.out.2.2
          have HOK5 := Lib.hid HP5.out.pipe.ok
          clear HM z0 z1 z2 z3 z4 fz hYl
          obtain ⟨y0, y1, y2, y3, y4⟩ := qcells_0 HY5.out
          refine region_path (S := (fun w' => w'.cell? ⟨Y, 0, none⟩ = some (.int .i64 q'.win) ∧ w'.cell? ⟨Y, 1, none⟩ = some (.int .i64 q'.cr) ∧ w'.cell? ⟨Y, 2, none⟩ = some (.slice A' n' cap') ∧ w'.cell? ⟨Y, 3, none⟩ = some (.bool (q'.cl && !q'.cn)) ∧ w'.cell? ⟨Y, 4, none⟩ = some (.bool q'.cn))) 99 [(0, true), (2, true), (1, false), (3, false), (4, true), (5, true), (6, true), (8, true), (7, false), (9, false), (10, true), (11, true), (12, true), (13, true), (15, true), (14, false), (16, false), (17, true), (18, true)] (by kernel_rfl) (by kernel_rfl) (by kernel_rfl) ⟨y0, y1, y2, y3, y4⟩ ?_
          refine path_read (i := 0) (v := ?v4_0) rfl (by rfl) (fun _ _ _ h => h) ?hy4_0 ?_
          case hy4_0 => ((intro w hSw; (try dsimp only at hSw); go_simp) <;> (try with_reducible rfl))
          try simp only [Act.put, List.setIfInBounds_toArray, List.set_cons_zero, List.set_cons_succ]
          refine path_read (i := 2) (v := ?v4_2) rfl (by rfl) (fun _ _ _ h => h) ?hy4_2 ?_
          case hy4_2 => ((intro w hSw; (try dsimp only at hSw); go_simp) <;> (try with_reducible rfl))
          try simp only [Act.put, List.setIfInBounds_toArray, List.set_cons_zero, List.set_cons_succ]
          refine path_do (i := 1) rfl ?_
          go_wp2_with ((first | (go_at_call 17; refine (pcredit_v q'.cr (HP5.out.same_ (Chg.refl (fun _ => False) w5).drew) rfl).mono ?_; rintro e wq ⟨rfl, rfl⟩) | (go_at_call 26; refine (qcredit_q q' A' n' cap' _).mono ?_; rintro e w6 ⟨rfl, hs6⟩; have HS6 := Lib.hid ((Chg.refl (fun _ => False) w5).drew.trans hs6); obtain ⟨x0, x1, x2, x3, x4⟩ := qcells_0 (HS6.out.at_ HY5.out (fun q => q)); clear hs6) | (go_at_call 18; refine (pbuffered_v q'.bs.length (HP5.out.same_ HS6.out) rfl).mono ?_; rintro e wq ⟨rfl, rfl⟩) | (go_at_call 27; refine (qbuffered_q (HB5.out.chg HS6.out (fun _ _ q => q))).mono ?_; rintro e w7 ⟨rfl, hs7⟩; have HS7 := Lib.hid (HS6.out.trans hs7); obtain ⟨v0, v1, v2, v3, v4⟩ := qcells_0 (HS7.out.at_ HY5.out (fun q => q)); clear hs7) | (go_at_call 15; refine (pdone_v q'.done (HP5.out.same_ HS7.out) rfl).mono ?_; rintro e wq ⟨rfl, rfl⟩) | (go_at_call 28; refine (qdone_q (HB5.out.chg HS7.out (fun _ _ q => q)) HOK5.out).mono ?_; rintro e w8 ⟨rfl, hs8⟩; have HS8 := Lib.hid (HS7.out.trans hs8); obtain ⟨t0, t1, t2, t3, t4⟩ := qcells_0 (HS8.out.at_ HY5.out (fun q => q)); clear hs8)))
          refine ⟨.inr ?keep4_1, ?_⟩
          case keep4_1 => ((first | (exact ⟨t0, t1, t2, t3, t4⟩) | (exact ⟨v0, v1, v2, v3, v4⟩) | (exact ⟨x0, x1, x2, x3, x4⟩) | (exact ⟨y0, y1, y2, y3, y4⟩)))
          try simp only [Act.put, List.setIfInBounds_toArray, List.set_cons_zero, List.set_cons_succ]
          refine path_do (i := 3) rfl ?_
          go_wp2_with ((first | (go_at_call 17; refine (pcredit_v q'.cr (HP5.out.same_ (Chg.refl (fun _ => False) w5).drew) rfl).mono ?_; rintro e wq ⟨rfl, rfl⟩) | (go_at_call 26; refine (qcredit_q q' A' n' cap' _).mono ?_; rintro e w6 ⟨rfl, hs6⟩; have HS6 := Lib.hid ((Chg.refl (fun _ => False) w5).drew.trans hs6); obtain ⟨x0, x1, x2, x3, x4⟩ := qcells_0 (HS6.out.at_ HY5.out (fun q => q)); clear hs6) | (go_at_call 18; refine (pbuffered_v q'.bs.length (HP5.out.same_ HS6.out) rfl).mono ?_; rintro e wq ⟨rfl, rfl⟩) | (go_at_call 27; refine (qbuffered_q (HB5.out.chg HS6.out (fun _ _ q => q))).mono ?_; rintro e w7 ⟨rfl, hs7⟩; have HS7 := Lib.hid (HS6.out.trans hs7); obtain ⟨v0, v1, v2, v3, v4⟩ := qcells_0 (HS7.out.at_ HY5.out (fun q => q)); clear hs7) | (go_at_call 15; refine (pdone_v q'.done (HP5.out.same_ HS7.out) rfl).mono ?_; rintro e wq ⟨rfl, rfl⟩) | (go_at_call 28; refine (qdone_q (HB5.out.chg HS7.out (fun _ _ q => q)) HOK5.out).mono ?_; rintro e w8 ⟨rfl, hs8⟩; have HS8 := Lib.hid (HS7.out.trans hs8); obtain ⟨t0, t1, t2, t3, t4⟩ := qcells_0 (HS8.out.at_ HY5.out (fun q => q)); clear hs8)))
          refine ⟨.inr ?keep4_3, ?_⟩
          case keep4_3 => ((first | (exact ⟨t0, t1, t2, t3, t4⟩) | (exact ⟨v0, v1, v2, v3, v4⟩) | (exact ⟨x0, x1, x2, x3, x4⟩) | (exact ⟨y0, y1, y2, y3, y4⟩)))
          try simp only [Act.put, List.setIfInBounds_toArray, List.set_cons_zero, List.set_cons_succ]
          refine path_read (i := 4) (v := ?v4_4) rfl (by rfl) (fun _ _ _ h => h) ?hy4_4 ?_
          case hy4_4 => ((intro w hSw; (try dsimp only at hSw); go_simp) <;> (try with_reducible rfl))
          try simp only [Act.put, List.setIfInBounds_toArray, List.set_cons_zero, List.set_cons_succ]
          refine path_read (i := 5) (v := ?v4_5) rfl (by rfl) (fun _ _ _ h => h) ?hy4_5 ?_
          case hy4_5 => ((intro w hSw; (try dsimp only at hSw); go_simp) <;> (try with_reducible rfl))
          try simp only [Act.put, List.setIfInBounds_toArray, List.set_cons_zero, List.set_cons_succ]
          refine path_read (i := 6) (v := ?v4_6) rfl (by rfl) (fun _ _ _ h => h) ?hy4_6 ?_
          case hy4_6 => ((intro w hSw; (try dsimp only at hSw); go_simp) <;> (try with_reducible rfl))
          try simp only [Act.put, List.setIfInBounds_toArray, List.set_cons_zero, List.set_cons_succ]
          refine path_read (i := 8) (v := ?v4_8) rfl (by rfl) (fun _ _ _ h => h) ?hy4_8 ?_
          case hy4_8 => ((intro w hSw; (try dsimp only at hSw); go_simp) <;> (try with_reducible rfl))
          try simp only [Act.put, List.setIfInBounds_toArray, List.set_cons_zero, List.set_cons_succ]
          refine path_do (i := 7) rfl ?_
          go_wp2_with ((first | (go_at_call 17; refine (pcredit_v q'.cr (HP5.out.same_ (Chg.refl (fun _ => False) w5).drew) rfl).mono ?_; rintro e wq ⟨rfl, rfl⟩) | (go_at_call 26; refine (qcredit_q q' A' n' cap' _).mono ?_; rintro e w6 ⟨rfl, hs6⟩; have HS6 := Lib.hid ((Chg.refl (fun _ => False) w5).drew.trans hs6); obtain ⟨x0, x1, x2, x3, x4⟩ := qcells_0 (HS6.out.at_ HY5.out (fun q => q)); clear hs6) | (go_at_call 18; refine (pbuffered_v q'.bs.length (HP5.out.same_ HS6.out) rfl).mono ?_; rintro e wq ⟨rfl, rfl⟩) | (go_at_call 27; refine (qbuffered_q (HB5.out.chg HS6.out (fun _ _ q => q))).mono ?_; rintro e w7 ⟨rfl, hs7⟩; have HS7 := Lib.hid (HS6.out.trans hs7); obtain ⟨v0, v1, v2, v3, v4⟩ := qcells_0 (HS7.out.at_ HY5.out (fun q => q)); clear hs7) | (go_at_call 15; refine (pdone_v q'.done (HP5.out.same_ HS7.out) rfl).mono ?_; rintro e wq ⟨rfl, rfl⟩) | (go_at_call 28; refine (qdone_q (HB5.out.chg HS7.out (fun _ _ q => q)) HOK5.out).mono ?_; rintro e w8 ⟨rfl, hs8⟩; have HS8 := Lib.hid (HS7.out.trans hs8); obtain ⟨t0, t1, t2, t3, t4⟩ := qcells_0 (HS8.out.at_ HY5.out (fun q => q)); clear hs8)))
          refine ⟨.inr ?keep4_7, ?_⟩
          case keep4_7 => ((first | (exact ⟨t0, t1, t2, t3, t4⟩) | (exact ⟨v0, v1, v2, v3, v4⟩) | (exact ⟨x0, x1, x2, x3, x4⟩) | (exact ⟨y0, y1, y2, y3, y4⟩)))
          try simp only [Act.put, List.setIfInBounds_toArray, List.set_cons_zero, List.set_cons_succ]
          refine path_do (i := 9) rfl ?_
          go_wp2_with ((first | (go_at_call 17; refine (pcredit_v q'.cr (HP5.out.same_ (Chg.refl (fun _ => False) w5).drew) rfl).mono ?_; rintro e wq ⟨rfl, rfl⟩) | (go_at_call 26; refine (qcredit_q q' A' n' cap' _).mono ?_; rintro e w6 ⟨rfl, hs6⟩; have HS6 := Lib.hid ((Chg.refl (fun _ => False) w5).drew.trans hs6); obtain ⟨x0, x1, x2, x3, x4⟩ := qcells_0 (HS6.out.at_ HY5.out (fun q => q)); clear hs6) | (go_at_call 18; refine (pbuffered_v q'.bs.length (HP5.out.same_ HS6.out) rfl).mono ?_; rintro e wq ⟨rfl, rfl⟩) | (go_at_call 27; refine (qbuffered_q (HB5.out.chg HS6.out (fun _ _ q => q))).mono ?_; rintro e w7 ⟨rfl, hs7⟩; have HS7 := Lib.hid (HS6.out.trans hs7); obtain ⟨v0, v1, v2, v3, v4⟩ := qcells_0 (HS7.out.at_ HY5.out (fun q => q)); clear hs7) | (go_at_call 15; refine (pdone_v q'.done (HP5.out.same_ HS7.out) rfl).mono ?_; rintro e wq ⟨rfl, rfl⟩) | (go_at_call 28; refine (qdone_q (HB5.out.chg HS7.out (fun _ _ q => q)) HOK5.out).mono ?_; rintro e w8 ⟨rfl, hs8⟩; have HS8 := Lib.hid (HS7.out.trans hs8); obtain ⟨t0, t1, t2, t3, t4⟩ := qcells_0 (HS8.out.at_ HY5.out (fun q => q)); clear hs8)))
          refine ⟨.inr ?keep4_9, ?_⟩
          case keep4_9 => ((first | (exact ⟨t0, t1, t2, t3, t4⟩) | (exact ⟨v0, v1, v2, v3, v4⟩) | (exact ⟨x0, x1, x2, x3, x4⟩) | (exact ⟨y0, y1, y2, y3, y4⟩)))
          try simp only [Act.put, List.setIfInBounds_toArray, List.set_cons_zero, List.set_cons_succ]
          refine path_read (i := 10) (v := ?v4_10) rfl (by rfl) (fun _ _ _ h => h) ?hy4_10 ?_
          case hy4_10 => ((intro w hSw; (try dsimp only at hSw); go_simp) <;> (try with_reducible rfl))
          try simp only [Act.put, List.setIfInBounds_toArray, List.set_cons_zero, List.set_cons_succ]
          refine path_read (i := 11) (v := ?v4_11) rfl (by rfl) (fun _ _ _ h => h) ?hy4_11 ?_
          case hy4_11 => ((intro w hSw; (try dsimp only at hSw); go_simp) <;> (try with_reducible rfl))
          try simp only [Act.put, List.setIfInBounds_toArray, List.set_cons_zero, List.set_cons_succ]
          refine path_read (i := 12) (v := ?v4_12) rfl (by rfl) (fun _ _ _ h => h) ?hy4_12 ?_
          case hy4_12 => ((intro w hSw; (try dsimp only at hSw); go_simp) <;> (try with_reducible rfl))
          try simp only [Act.put, List.setIfInBounds_toArray, List.set_cons_zero, List.set_cons_succ]
          refine path_read (i := 13) (v := ?v4_13) rfl (by rfl) (fun _ _ _ h => h) ?hy4_13 ?_
          case hy4_13 => ((intro w hSw; (try dsimp only at hSw); go_simp) <;> (try with_reducible rfl))
          try simp only [Act.put, List.setIfInBounds_toArray, List.set_cons_zero, List.set_cons_succ]
          refine path_read (i := 15) (v := ?v4_15) rfl (by rfl) (fun _ _ _ h => h) ?hy4_15 ?_
          case hy4_15 => ((intro w hSw; (try dsimp only at hSw); go_simp) <;> (try with_reducible rfl))
          try simp only [Act.put, List.setIfInBounds_toArray, List.set_cons_zero, List.set_cons_succ]
          refine path_do (i := 14) rfl ?_
          go_wp2_with ((first | (go_at_call 17; refine (pcredit_v q'.cr (HP5.out.same_ (Chg.refl (fun _ => False) w5).drew) rfl).mono ?_; rintro e wq ⟨rfl, rfl⟩) | (go_at_call 26; refine (qcredit_q q' A' n' cap' _).mono ?_; rintro e w6 ⟨rfl, hs6⟩; have HS6 := Lib.hid ((Chg.refl (fun _ => False) w5).drew.trans hs6); obtain ⟨x0, x1, x2, x3, x4⟩ := qcells_0 (HS6.out.at_ HY5.out (fun q => q)); clear hs6) | (go_at_call 18; refine (pbuffered_v q'.bs.length (HP5.out.same_ HS6.out) rfl).mono ?_; rintro e wq ⟨rfl, rfl⟩) | (go_at_call 27; refine (qbuffered_q (HB5.out.chg HS6.out (fun _ _ q => q))).mono ?_; rintro e w7 ⟨rfl, hs7⟩; have HS7 := Lib.hid (HS6.out.trans hs7); obtain ⟨v0, v1, v2, v3, v4⟩ := qcells_0 (HS7.out.at_ HY5.out (fun q => q)); clear hs7) | (go_at_call 15; refine (pdone_v q'.done (HP5.out.same_ HS7.out) rfl).mono ?_; rintro e wq ⟨rfl, rfl⟩) | (go_at_call 28; refine (qdone_q (HB5.out.chg HS7.out (fun _ _ q => q)) HOK5.out).mono ?_; rintro e w8 ⟨rfl, hs8⟩; have HS8 := Lib.hid (HS7.out.trans hs8); obtain ⟨t0, t1, t2, t3, t4⟩ := qcells_0 (HS8.out.at_ HY5.out (fun q => q)); clear hs8)))
          refine ⟨.inr ?keep4_14, ?_⟩
          case keep4_14 => ((first | (exact ⟨t0, t1, t2, t3, t4⟩) | (exact ⟨v0, v1, v2, v3, v4⟩) | (exact ⟨x0, x1, x2, x3, x4⟩) | (exact ⟨y0, y1, y2, y3, y4⟩)))
          try simp only [Act.put, List.setIfInBounds_toArray, List.set_cons_zero, List.set_cons_succ]
          refine path_do (i := 16) rfl ?_
          go_wp2_with ((first | (go_at_call 17; refine (pcredit_v q'.cr (HP5.out.same_ (Chg.refl (fun _ => False) w5).drew) rfl).mono ?_; rintro e wq ⟨rfl, rfl⟩) | (go_at_call 26; refine (qcredit_q q' A' n' cap' _).mono ?_; rintro e w6 ⟨rfl, hs6⟩; have HS6 := Lib.hid ((Chg.refl (fun _ => False) w5).drew.trans hs6); obtain ⟨x0, x1, x2, x3, x4⟩ := qcells_0 (HS6.out.at_ HY5.out (fun q => q)); clear hs6) | (go_at_call 18; refine (pbuffered_v q'.bs.length (HP5.out.same_ HS6.out) rfl).mono ?_; rintro e wq ⟨rfl, rfl⟩) | (go_at_call 27; refine (qbuffered_q (HB5.out.chg HS6.out (fun _ _ q => q))).mono ?_; rintro e w7 ⟨rfl, hs7⟩; have HS7 := Lib.hid (HS6.out.trans hs7); obtain ⟨v0, v1, v2, v3, v4⟩ := qcells_0 (HS7.out.at_ HY5.out (fun q => q)); clear hs7) | (go_at_call 15; refine (pdone_v q'.done (HP5.out.same_ HS7.out) rfl).mono ?_; rintro e wq ⟨rfl, rfl⟩) | (go_at_call 28; refine (qdone_q (HB5.out.chg HS7.out (fun _ _ q => q)) HOK5.out).mono ?_; rintro e w8 ⟨rfl, hs8⟩; have HS8 := Lib.hid (HS7.out.trans hs8); obtain ⟨t0, t1, t2, t3, t4⟩ := qcells_0 (HS8.out.at_ HY5.out (fun q => q)); clear hs8)))
          refine ⟨.inr ?keep4_16, ?_⟩
          case keep4_16 => ((first | (exact ⟨t0, t1, t2, t3, t4⟩) | (exact ⟨v0, v1, v2, v3, v4⟩) | (exact ⟨x0, x1, x2, x3, x4⟩) | (exact ⟨y0, y1, y2, y3, y4⟩)))
          try simp only [Act.put, List.setIfInBounds_toArray, List.set_cons_zero, List.set_cons_succ]
          refine path_read (i := 17) (v := ?v4_17) rfl (by rfl) (fun _ _ _ h => h) ?hy4_17 ?_
          case hy4_17 => ((intro w hSw; (try dsimp only at hSw); go_simp) <;> (try with_reducible rfl))
          try simp only [Act.put, List.setIfInBounds_toArray, List.set_cons_zero, List.set_cons_succ]
          refine path_read (i := 18) (v := ?v4_18) rfl (by rfl) (fun _ _ _ h => h) ?hy4_18 ?_
          case hy4_18 => ((intro w hSw; (try dsimp only at hSw); go_simp) <;> (try with_reducible rfl))
          try simp only [Act.put, List.setIfInBounds_toArray, List.set_cons_zero, List.set_cons_succ]
          refine path_end ?_
          go_wp2_with fail
          go_roundw
          case rel => exact ⟨i + 1, q', R1, A', n', cap', by omega, by go_num, HP5.out.same_ HS8.out, HRY3.out, hYw, HS8.out.at_ HY5.out (fun q => q), HB5.out.chg HS8.out (fun _ _ q => q)⟩
          case measure => simp [intOf]; omega
        have e3 : (kd == 3) = false := by simpa using hk3
        clear hk0 hk1 hk2 hk3
        obtain ⟨q', hq'⟩ : ∃ q', q' = q.cancel := ⟨_, rfl⟩
        obtain ⟨vv, hvv⟩ : ∃ vv, vv = q.caE := ⟨_, rfl⟩
        have HQ := Lib.hid (And.intro hq' hvv)
        clear hq' hvv
        go_wp2_with fail
        refine (pcancel_v q' vv (HP.out.same_ ((Chg.refl _ _).alloc _)) HQ.out.2.symm HQ.out.1.symm).mono ?_
        rintro e w3 ⟨rfl, hp3, hc3⟩
        have HX0 := Lib.hid (hc3.at_ (at_new wr (.cells #[.int .i64 kd, .int .i64 m, .slice Ax lx cx] 44)) (fun hr => by have := HP.out.pipe.lt _ hr; omega))
        have HP3 := Lib.hid hp3
        have HRY3 := HRY
        have HY3 := Lib.hid (hc3.at_ (at_alloc HY.out) HRY.out)
        have HB3 : Hid (BytesAt w3 (fun x => ¬ R1 x ∧ x ≠ Y) A n cap q.bs) := Lib.hid ((HB.out.chg ((Chg.refl (fun _ => False) wr).alloc _) (fun _ _ q => q)).chg hc3 (fun x hx hr => hx.1 hr))
        have hWX : wr.heap.size < w3.heap.size := lt_of_at HX0.out
        clear hp3 hc3 y0 y1 y2 y3 y4 d0 d1 d2
        obtain ⟨y0, y1, y2, y3, y4⟩ := qcells_0 HY3.out
        have x1 : w3.cell? ⟨wr.heap.size, 1, none⟩ = some (.int .i64 m) := by rw [cell_of_row w3 _ 1 _ _ _ HX0.out]; rfl
        go_wp2_with fail
        refine (qcancel_q q' vv HB3.out HP.out.pipe.ok HQ.out.2.symm HQ.out.1.symm).mono ?_
        rintro e w4 ⟨A', n', cap', rfl, hb4, hs4⟩
        have HP4 := Lib.hid (HP3.out.same_ hs4)
        have HY4 := Lib.hid (hs4.at_ HY3.out (fun q => q))
        have HB4 := Lib.hid hb4
        clear hb4 hs4 y0 y1 y2 y3 y4 x1
        obtain ⟨z0, z1, z2, z3, z4⟩ := qcells_0 HY4.out
        have fz := frozen_at HY4.out
        have hYl : Y < w4.heap.size := lt_of_at HY4.out
        go_wp2_with fail
        have HM := Lib.hid (steps_mid HP4.out HRY3.out hYw HY4.out HB4.out (.cells (qcells q' A' n' cap').toArray 40))
        unfold qcells at HM
        generalize (((((w4.setCell ⟨Y, 0, none⟩ (.int .i64 q'.win)).setCell ⟨Y, 1, none⟩ (.int .i64 q'.cr)).setCell ⟨Y, 2, none⟩ (.slice A' n' cap')).setCell ⟨Y, 3, none⟩ (.bool (q'.cl && !q'.cn))).setCell ⟨Y, 4, none⟩ (.bool q'.cn)).alloc (.cells [Value.int .i64 q'.win, .int .i64 q'.cr, .slice A' n' cap', .bool (q'.cl && !q'.cn), .bool q'.cn].toArray 40) = w5 at *
        have HP5 := Lib.hid HM.out.1
        have HY5 : Hid (w5.heap[Y]? = some (.cells (qcells q' A' n' cap').toArray 40 (0, 0))) := Lib.hid HM.out.2.1
        have HB5 := Lib.hid HM.out.2.2
        have HOK5 := Lib.hid HP5.out.pipe.ok
        clear HM z0 z1 z2 z3 z4 fz hYl
        obtain ⟨y0, y1, y2, y3, y4⟩ := qcells_0 HY5.out
        refine region_path (S := (fun w' => w'.cell? ⟨Y, 0, none⟩ = some (.int .i64 q'.win) ∧ w'.cell? ⟨Y, 1, none⟩ = some (.int .i64 q'.cr) ∧ w'.cell? ⟨Y, 2, none⟩ = some (.slice A' n' cap') ∧ w'.cell? ⟨Y, 3, none⟩ = some (.bool (q'.cl && !q'.cn)) ∧ w'.cell? ⟨Y, 4, none⟩ = some (.bool q'.cn))) 99 [(0, true), (2, true), (1, false), (3, false), (4, true), (5, true), (6, true), (8, true), (7, false), (9, false), (10, true), (11, true), (12, true), (13, true), (15, true), (14, false), (16, false), (17, true), (18, true)] (by kernel_rfl) (by kernel_rfl) (by kernel_rfl) ⟨y0, y1, y2, y3, y4⟩ ?_
        refine path_read (i := 0) (v := ?v5_0) rfl (by rfl) (fun _ _ _ h => h) ?hy5_0 ?_
        case hy5_0 => ((intro w hSw; (try dsimp only at hSw); go_simp) <;> (try with_reducible rfl))
        try simp only [Act.put, List.setIfInBounds_toArray, List.set_cons_zero, List.set_cons_succ]
        refine path_read (i := 2) (v := ?v5_2) rfl (by rfl) (fun _ _ _ h => h) ?hy5_2 ?_
        case hy5_2 => ((intro w hSw; (try dsimp only at hSw); go_simp) <;> (try with_reducible rfl))
        try simp only [Act.put, List.setIfInBounds_toArray, List.set_cons_zero, List.set_cons_succ]
        refine path_do (i := 1) rfl ?_
        go_wp2_with ((first | (go_at_call 17; refine (pcredit_v q'.cr (HP5.out.same_ (Chg.refl (fun _ => False) w5).drew) rfl).mono ?_; rintro e wq ⟨rfl, rfl⟩) | (go_at_call 26; refine (qcredit_q q' A' n' cap' _).mono ?_; rintro e w6 ⟨rfl, hs6⟩; have HS6 := Lib.hid ((Chg.refl (fun _ => False) w5).drew.trans hs6); obtain ⟨x0, x1, x2, x3, x4⟩ := qcells_0 (HS6.out.at_ HY5.out (fun q => q)); clear hs6) | (go_at_call 18; refine (pbuffered_v q'.bs.length (HP5.out.same_ HS6.out) rfl).mono ?_; rintro e wq ⟨rfl, rfl⟩) | (go_at_call 27; refine (qbuffered_q (HB5.out.chg HS6.out (fun _ _ q => q))).mono ?_; rintro e w7 ⟨rfl, hs7⟩; have HS7 := Lib.hid (HS6.out.trans hs7); obtain ⟨v0, v1, v2, v3, v4⟩ := qcells_0 (HS7.out.at_ HY5.out (fun q => q)); clear hs7) | (go_at_call 15; refine (pdone_v q'.done (HP5.out.same_ HS7.out) rfl).mono ?_; rintro e wq ⟨rfl, rfl⟩) | (go_at_call 28; refine (qdone_q (HB5.out.chg HS7.out (fun _ _ q => q)) HOK5.out).mono ?_; rintro e w8 ⟨rfl, hs8⟩; have HS8 := Lib.hid (HS7.out.trans hs8); obtain ⟨t0, t1, t2, t3, t4⟩ := qcells_0 (HS8.out.at_ HY5.out (fun q => q)); clear hs8)))
        refine ⟨.inr ?keep5_1, ?_⟩
        case keep5_1 => ((first | (exact ⟨t0, t1, t2, t3, t4⟩) | (exact ⟨v0, v1, v2, v3, v4⟩) | (exact ⟨x0, x1, x2, x3, x4⟩) | (exact ⟨y0, y1, y2, y3, y4⟩)))
        try simp only [Act.put, List.setIfInBounds_toArray, List.set_cons_zero, List.set_cons_succ]
        refine path_do (i := 3) rfl ?_
        go_wp2_with ((first | (go_at_call 17; refine (pcredit_v q'.cr (HP5.out.same_ (Chg.refl (fun _ => False) w5).drew) rfl).mono ?_; rintro e wq ⟨rfl, rfl⟩) | (go_at_call 26; refine (qcredit_q q' A' n' cap' _).mono ?_; rintro e w6 ⟨rfl, hs6⟩; have HS6 := Lib.hid ((Chg.refl (fun _ => False) w5).drew.trans hs6); obtain ⟨x0, x1, x2, x3, x4⟩ := qcells_0 (HS6.out.at_ HY5.out (fun q => q)); clear hs6) | (go_at_call 18; refine (pbuffered_v q'.bs.length (HP5.out.same_ HS6.out) rfl).mono ?_; rintro e wq ⟨rfl, rfl⟩) | (go_at_call 27; refine (qbuffered_q (HB5.out.chg HS6.out (fun _ _ q => q))).mono ?_; rintro e w7 ⟨rfl, hs7⟩; have HS7 := Lib.hid (HS6.out.trans hs7); obtain ⟨v0, v1, v2, v3, v4⟩ := qcells_0 (HS7.out.at_ HY5.out (fun q => q)); clear hs7) | (go_at_call 15; refine (pdone_v q'.done (HP5.out.same_ HS7.out) rfl).mono ?_; rintro e wq ⟨rfl, rfl⟩) | (go_at_call 28; refine (qdone_q (HB5.out.chg HS7.out (fun _ _ q => q)) HOK5.out).mono ?_; rintro e w8 ⟨rfl, hs8⟩; have HS8 := Lib.hid (HS7.out.trans hs8); obtain ⟨t0, t1, t2, t3, t4⟩ := qcells_0 (HS8.out.at_ HY5.out (fun q => q)); clear hs8)))
        refine ⟨.inr ?keep5_3, ?_⟩
        case keep5_3 => ((first | (exact ⟨t0, t1, t2, t3, t4⟩) | (exact ⟨v0, v1, v2, v3, v4⟩) | (exact ⟨x0, x1, x2, x3, x4⟩) | (exact ⟨y0, y1, y2, y3, y4⟩)))
        try simp only [Act.put, List.setIfInBounds_toArray, List.set_cons_zero, List.set_cons_succ]
        refine path_read (i := 4) (v := ?v5_4) rfl (by rfl) (fun _ _ _ h => h) ?hy5_4 ?_
        case hy5_4 => ((intro w hSw; (try dsimp only at hSw); go_simp) <;> (try with_reducible rfl))
        try simp only [Act.put, List.setIfInBounds_toArray, List.set_cons_zero, List.set_cons_succ]
        refine path_read (i := 5) (v := ?v5_5) rfl (by rfl) (fun _ _ _ h => h) ?hy5_5 ?_
        case hy5_5 => ((intro w hSw; (try dsimp only at hSw); go_simp) <;> (try with_reducible rfl))
        try simp only [Act.put, List.setIfInBounds_toArray, List.set_cons_zero, List.set_cons_succ]
        refine path_read (i := 6) (v := ?v5_6) rfl (by rfl) (fun _ _ _ h => h) ?hy5_6 ?_
        case hy5_6 => ((intro w hSw; (try dsimp only at hSw); go_simp) <;> (try with_reducible rfl))
        try simp only [Act.put, List.setIfInBounds_toArray, List.set_cons_zero, List.set_cons_succ]
        refine path_read (i := 8) (v := ?v5_8) rfl (by rfl) (fun _ _ _ h => h) ?hy5_8 ?_
        case hy5_8 => ((intro w hSw; (try dsimp only at hSw); go_simp) <;> (try with_reducible rfl))
        try simp only [Act.put, List.setIfInBounds_toArray, List.set_cons_zero, List.set_cons_succ]
        refine path_do (i := 7) rfl ?_
        go_wp2_with ((first | (go_at_call 17; refine (pcredit_v q'.cr (HP5.out.same_ (Chg.refl (fun _ => False) w5).drew) rfl).mono ?_; rintro e wq ⟨rfl, rfl⟩) | (go_at_call 26; refine (qcredit_q q' A' n' cap' _).mono ?_; rintro e w6 ⟨rfl, hs6⟩; have HS6 := Lib.hid ((Chg.refl (fun _ => False) w5).drew.trans hs6); obtain ⟨x0, x1, x2, x3, x4⟩ := qcells_0 (HS6.out.at_ HY5.out (fun q => q)); clear hs6) | (go_at_call 18; refine (pbuffered_v q'.bs.length (HP5.out.same_ HS6.out) rfl).mono ?_; rintro e wq ⟨rfl, rfl⟩) | (go_at_call 27; refine (qbuffered_q (HB5.out.chg HS6.out (fun _ _ q => q))).mono ?_; rintro e w7 ⟨rfl, hs7⟩; have HS7 := Lib.hid (HS6.out.trans hs7); obtain ⟨v0, v1, v2, v3, v4⟩ := qcells_0 (HS7.out.at_ HY5.out (fun q => q)); clear hs7) | (go_at_call 15; refine (pdone_v q'.done (HP5.out.same_ HS7.out) rfl).mono ?_; rintro e wq ⟨rfl, rfl⟩) | (go_at_call 28; refine (qdone_q (HB5.out.chg HS7.out (fun _ _ q => q)) HOK5.out).mono ?_; rintro e w8 ⟨rfl, hs8⟩; have HS8 := Lib.hid (HS7.out.trans hs8); obtain ⟨t0, t1, t2, t3, t4⟩ := qcells_0 (HS8.out.at_ HY5.out (fun q => q)); clear hs8)))
        refine ⟨.inr ?keep5_7, ?_⟩
        case keep5_7 => ((first | (exact ⟨t0, t1, t2, t3, t4⟩) | (exact ⟨v0, v1, v2, v3, v4⟩) | (exact ⟨x0, x1, x2, x3, x4⟩) | (exact ⟨y0, y1, y2, y3, y4⟩)))
        try simp only [Act.put, List.setIfInBounds_toArray, List.set_cons_zero, List.set_cons_succ]
        refine path_do (i := 9) rfl ?_
        go_wp2_with ((first | (go_at_call 17; refine (pcredit_v q'.cr (HP5.out.same_ (Chg.refl (fun _ => False) w5).drew) rfl).mono ?_; rintro e wq ⟨rfl, rfl⟩) | (go_at_call 26; refine (qcredit_q q' A' n' cap' _).mono ?_; rintro e w6 ⟨rfl, hs6⟩; have HS6 := Lib.hid ((Chg.refl (fun _ => False) w5).drew.trans hs6); obtain ⟨x0, x1, x2, x3, x4⟩ := qcells_0 (HS6.out.at_ HY5.out (fun q => q)); clear hs6) | (go_at_call 18; refine (pbuffered_v q'.bs.length (HP5.out.same_ HS6.out) rfl).mono ?_; rintro e wq ⟨rfl, rfl⟩) | (go_at_call 27; refine (qbuffered_q (HB5.out.chg HS6.out (fun _ _ q => q))).mono ?_; rintro e w7 ⟨rfl, hs7⟩; have HS7 := Lib.hid (HS6.out.trans hs7); obtain ⟨v0, v1, v2, v3, v4⟩ := qcells_0 (HS7.out.at_ HY5.out (fun q => q)); clear hs7) | (go_at_call 15; refine (pdone_v q'.done (HP5.out.same_ HS7.out) rfl).mono ?_; rintro e wq ⟨rfl, rfl⟩) | (go_at_call 28; refine (qdone_q (HB5.out.chg HS7.out (fun _ _ q => q)) HOK5.out).mono ?_; rintro e w8 ⟨rfl, hs8⟩; have HS8 := Lib.hid (HS7.out.trans hs8); obtain ⟨t0, t1, t2, t3, t4⟩ := qcells_0 (HS8.out.at_ HY5.out (fun q => q)); clear hs8)))
        refine ⟨.inr ?keep5_9, ?_⟩
        case keep5_9 => ((first | (exact ⟨t0, t1, t2, t3, t4⟩) | (exact ⟨v0, v1, v2, v3, v4⟩) | (exact ⟨x0, x1, x2, x3, x4⟩) | (exact ⟨y0, y1, y2, y3, y4⟩)))
        try simp only [Act.put, List.setIfInBounds_toArray, List.set_cons_zero, List.set_cons_succ]
        refine path_read (i := 10) (v := ?v5_10) rfl (by rfl) (fun _ _ _ h => h) ?hy5_10 ?_
        case hy5_10 => ((intro w hSw; (try dsimp only at hSw); go_simp) <;> (try with_reducible rfl))
        try simp only [Act.put, List.setIfInBounds_toArray, List.set_cons_zero, List.set_cons_succ]
        refine path_read (i := 11) (v := ?v5_11) rfl (by rfl) (fun _ _ _ h => h) ?hy5_11 ?_
        case hy5_11 => ((intro w hSw; (try dsimp only at hSw); go_simp) <;> (try with_reducible rfl))
        try simp only [Act.put, List.setIfInBounds_toArray, List.set_cons_zero, List.set_cons_succ]
        refine path_read (i := 12) (v := ?v5_12) rfl (by rfl) (fun _ _ _ h => h) ?hy5_12 ?_
        case hy5_12 => ((intro w hSw; (try dsimp only at hSw); go_simp) <;> (try with_reducible rfl))
        try simp only [Act.put, List.setIfInBounds_toArray, List.set_cons_zero, List.set_cons_succ]
        refine path_read (i := 13) (v := ?v5_13) rfl (by rfl) (fun _ _ _ h => h) ?hy5_13 ?_
        case hy5_13 => ((intro w hSw; (try dsimp only at hSw); go_simp) <;> (try with_reducible rfl))
        try simp only [Act.put, List.setIfInBounds_toArray, List.set_cons_zero, List.set_cons_succ]
        refine path_read (i := 15) (v := ?v5_15) rfl (by rfl) (fun _ _ _ h => h) ?hy5_15 ?_
        case hy5_15 => ((intro w hSw; (try dsimp only at hSw); go_simp) <;> (try with_reducible rfl))
        try simp only [Act.put, List.setIfInBounds_toArray, List.set_cons_zero, List.set_cons_succ]
        refine path_do (i := 14) rfl ?_
        go_wp2_with ((first | (go_at_call 17; refine (pcredit_v q'.cr (HP5.out.same_ (Chg.refl (fun _ => False) w5).drew) rfl).mono ?_; rintro e wq ⟨rfl, rfl⟩) | (go_at_call 26; refine (qcredit_q q' A' n' cap' _).mono ?_; rintro e w6 ⟨rfl, hs6⟩; have HS6 := Lib.hid ((Chg.refl (fun _ => False) w5).drew.trans hs6); obtain ⟨x0, x1, x2, x3, x4⟩ := qcells_0 (HS6.out.at_ HY5.out (fun q => q)); clear hs6) | (go_at_call 18; refine (pbuffered_v q'.bs.length (HP5.out.same_ HS6.out) rfl).mono ?_; rintro e wq ⟨rfl, rfl⟩) | (go_at_call 27; refine (qbuffered_q (HB5.out.chg HS6.out (fun _ _ q => q))).mono ?_; rintro e w7 ⟨rfl, hs7⟩; have HS7 := Lib.hid (HS6.out.trans hs7); obtain ⟨v0, v1, v2, v3, v4⟩ := qcells_0 (HS7.out.at_ HY5.out (fun q => q)); clear hs7) | (go_at_call 15; refine (pdone_v q'.done (HP5.out.same_ HS7.out) rfl).mono ?_; rintro e wq ⟨rfl, rfl⟩) | (go_at_call 28; refine (qdone_q (HB5.out.chg HS7.out (fun _ _ q => q)) HOK5.out).mono ?_; rintro e w8 ⟨rfl, hs8⟩; have HS8 := Lib.hid (HS7.out.trans hs8); obtain ⟨t0, t1, t2, t3, t4⟩ := qcells_0 (HS8.out.at_ HY5.out (fun q => q)); clear hs8)))
        refine ⟨.inr ?keep5_14, ?_⟩
        case keep5_14 => ((first | (exact ⟨t0, t1, t2, t3, t4⟩) | (exact ⟨v0, v1, v2, v3, v4⟩) | (exact ⟨x0, x1, x2, x3, x4⟩) | (exact ⟨y0, y1, y2, y3, y4⟩)))
        try simp only [Act.put, List.setIfInBounds_toArray, List.set_cons_zero, List.set_cons_succ]
        refine path_do (i := 16) rfl ?_
        go_wp2_with ((first | (go_at_call 17; refine (pcredit_v q'.cr (HP5.out.same_ (Chg.refl (fun _ => False) w5).drew) rfl).mono ?_; rintro e wq ⟨rfl, rfl⟩) | (go_at_call 26; refine (qcredit_q q' A' n' cap' _).mono ?_; rintro e w6 ⟨rfl, hs6⟩; have HS6 := Lib.hid ((Chg.refl (fun _ => False) w5).drew.trans hs6); obtain ⟨x0, x1, x2, x3, x4⟩ := qcells_0 (HS6.out.at_ HY5.out (fun q => q)); clear hs6) | (go_at_call 18; refine (pbuffered_v q'.bs.length (HP5.out.same_ HS6.out) rfl).mono ?_; rintro e wq ⟨rfl, rfl⟩) | (go_at_call 27; refine (qbuffered_q (HB5.out.chg HS6.out (fun _ _ q => q))).mono ?_; rintro e w7 ⟨rfl, hs7⟩; have HS7 := Lib.hid (HS6.out.trans hs7); obtain ⟨v0, v1, v2, v3, v4⟩ := qcells_0 (HS7.out.at_ HY5.out (fun q => q)); clear hs7) | (go_at_call 15; refine (pdone_v q'.done (HP5.out.same_ HS7.out) rfl).mono ?_; rintro e wq ⟨rfl, rfl⟩) | (go_at_call 28; refine (qdone_q (HB5.out.chg HS7.out (fun _ _ q => q)) HOK5.out).mono ?_; rintro e w8 ⟨rfl, hs8⟩; have HS8 := Lib.hid (HS7.out.trans hs8); obtain ⟨t0, t1, t2, t3, t4⟩ := qcells_0 (HS8.out.at_ HY5.out (fun q => q)); clear hs8)))
        refine ⟨.inr ?keep5_16, ?_⟩
        case keep5_16 => ((first | (exact ⟨t0, t1, t2, t3, t4⟩) | (exact ⟨v0, v1, v2, v3, v4⟩) | (exact ⟨x0, x1, x2, x3, x4⟩) | (exact ⟨y0, y1, y2, y3, y4⟩)))
        try simp only [Act.put, List.setIfInBounds_toArray, List.set_cons_zero, List.set_cons_succ]
        refine path_read (i := 17) (v := ?v5_17) rfl (by rfl) (fun _ _ _ h => h) ?hy5_17 ?_
        case hy5_17 => ((intro w hSw; (try dsimp only at hSw); go_simp) <;> (try with_reducible rfl))
        try simp only [Act.put, List.setIfInBounds_toArray, List.set_cons_zero, List.set_cons_succ]
        refine path_read (i := 18) (v := ?v5_18) rfl (by rfl) (fun _ _ _ h => h) ?hy5_18 ?_
        case hy5_18 => ((intro w hSw; (try dsimp only at hSw); go_simp) <;> (try with_reducible rfl))
        try simp only [Act.put, List.setIfInBounds_toArray, List.set_cons_zero, List.set_cons_succ]
        refine path_end ?_
        go_wp2_with fail
        go_roundw
        case rel => exact ⟨i + 1, q', R1, A', n', cap', by omega, by go_num, HP5.out.same_ HS8.out, HRY3.out, hYw, HS8.out.at_ HY5.out (fun q => q), HB5.out.chg HS8.out (fun _ _ q => q)⟩
        case measure => simp [intOf]; omega
    · have hie : ¬ (i : Int) < len := by omega
      obtain ⟨y0, y1, y2, y3, y4⟩ := qcells_0 HY.out
      go_wp2_with fail
      refine (example41_ok _).mono ?_
      rintro e w10 ⟨rfl, hs⟩
      have HS10 := Lib.hid hs
      clear hs
      go_wp2
      go_ret
      exact ⟨rfl, HP.out.same.trans HS10.out⟩

set_option maxRecDepth 100000 in
set_option maxHeartbeats 4000000 in
theorem steps_bad (win : Int) (A0 : Option Addr) (len cap0 : Nat) (l : List TOp) (w : World) (h : TOpsAt w A0 len l) (hl : largeB l = false) (hw : win < 1 ∨ 65536 < win) :
    Calls Try.prog 5 #[.int .i64 win, .slice A0 len cap0] w fun e w' => e = .returned (.bool true) ∧ Same w w' := by
  have HL := Lib.hid (large_ok A0 len cap0 l w h)
  rw [hl] at HL
  have hlen : len ≤ 100 := by have h1 := h.1.1; unfold largeB at hl; simp at hl; omega
  have HW := Lib.hid hw
  clear h hl hw
  go_enter Try.func5, Try.ntmps5
  go_wp2_with fail
  refine HL.out.mono ?_
  rintro e w' ⟨rfl, rfl⟩
  go_wp2_with fail
  refine (pnew_bad w win HW.out).mono ?_
  rintro e w' ⟨rfl, rfl⟩
  go_wp2_with fail
  refine (qnew_bad win _ HW.out).mono ?_
  rintro e w2 ⟨rfl, hs2⟩
  have HS2 := Lib.hid hs2
  unfold rpv
  clear hs2
  go_wp2_with fail
  go_loopw [55] (fun v55 wr => v55 = .int .i64 0 ∧ Same w wr) (fun v55 _ => 1000 - (intOf v55).toNat)
  case atStart => exact ⟨rfl, HS2.out.alloc _⟩
  case round =>
    obtain ⟨rfl, hs⟩ := hrel
    have HS := Lib.hid hs
    clear hs
    by_cases hz : 0 < (len : Int)
    · go_wp2_with fail
      refine (example41_ok _).mono ?_
      rintro e w10 ⟨rfl, hs⟩
      have HS10 := Lib.hid hs
      clear hs
      go_wp2
      go_ret
      exact ⟨rfl, HS.out.trans HS10.out⟩
    · go_wp2_with fail
      refine (example41_ok _).mono ?_
      rintro e w10 ⟨rfl, hs⟩
      have HS10 := Lib.hid hs
      clear hs
      go_wp2
      go_ret
      exact ⟨rfl, HS.out.trans HS10.out⟩

theorem TransferSteps_walk (win : Int) (A : Option Addr) (len cap : Nat) (l : List TOp) (w : World) (h : TOpsAt w A len l) :
    Calls Try.prog 5 #[.int .i64 win, .slice A len cap] w fun e w' => e = .returned (.bool true) ∧ Same w w' := by
  by_cases hl : largeB l = true
  · exact steps_large win A len cap l w h hl
  have hl' : largeB l = false := by simpa using hl
  by_cases hw : win < 1 ∨ 65536 < win
  · exact steps_bad win A len cap l w h hl' hw
  · exact steps_main win A len cap l w h hl' (by omega) (by omega)
end Go.Proofs.Ytgpfnfcfmogefaa
