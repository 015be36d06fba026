/- The walks of package dnd: New, made, State, Action, leave, access, end. -/
import Derived.Test.YteolilggeaffaaaDragM
import Derived.Test.YteolilggeaffaaaStrO
import Derived.Test.YteolilggeaffaaaPath
set_option linter.unusedVariables false
set_option linter.unusedSimpArgs false
set_option maxRecDepth 100000
namespace Go.Proofs.Yteolilggeaffaaa
open Go.RowKit

section
variable {w w' : World} {b lb : Nat} {R : Nat → Prop} {d : DSt} {A PA : Option Addr} {n cap pn pcap : Nat}
theorem DragHd.c0 (h : DragHd w b lb R d A n cap PA pn pcap) : w.cell? ⟨b, 0, none⟩ = some (.iface 31 (.pointer (some ⟨lb, 0, none⟩))) := by rw [h.cell]; rfl
theorem DragHd.c1 (h : DragHd w b lb R d A n cap PA pn pcap) : w.cell? ⟨b, 1, none⟩ = some (.int .i64 d.state) := by rw [h.cell]; rfl
theorem DragHd.c2 (h : DragHd w b lb R d A n cap PA pn pcap) : w.cell? ⟨b, 2, none⟩ = some (.slice A n cap) := by rw [h.cell]; rfl
theorem DragHd.c3 (h : DragHd w b lb R d A n cap PA pn pcap) : w.cell? ⟨b, 3, none⟩ = some (.int .i64 d.acts) := by rw [h.cell]; rfl
theorem DragHd.c4 (h : DragHd w b lb R d A n cap PA pn pcap) : w.cell? ⟨b, 4, none⟩ = some (.int .i64 d.tc) := by rw [h.cell]; rfl
theorem DragHd.c5 (h : DragHd w b lb R d A n cap PA pn pcap) : w.cell? ⟨b, 5, none⟩ = some (.int .i64 d.ts) := by rw [h.cell]; rfl
theorem DragHd.c6 (h : DragHd w b lb R d A n cap PA pn pcap) : w.cell? ⟨b, 6, none⟩ = some (.string d.tf) := by rw [h.cell]; rfl
theorem DragHd.c7 (h : DragHd w b lb R d A n cap PA pn pcap) : w.cell? ⟨b, 7, none⟩ = some (.int .i64 d.ta) := by rw [h.cell]; rfl
theorem DragHd.c8 (h : DragHd w b lb R d A n cap PA pn pcap) : w.cell? ⟨b, 8, none⟩ = some (.int .i64 d.tp) := by rw [h.cell]; rfl
theorem DragHd.c9 (h : DragHd w b lb R d A n cap PA pn pcap) : w.cell? ⟨b, 9, none⟩ = some (.int .i64 d.offers) := by rw [h.cell]; rfl
theorem DragHd.c10 (h : DragHd w b lb R d A n cap PA pn pcap) : w.cell? ⟨b, 10, none⟩ = some (.bool d.timed) := by rw [h.cell]; rfl
theorem DragHd.c11 (h : DragHd w b lb R d A n cap PA pn pcap) : w.cell? ⟨b, 11, none⟩ = some (.int .i64 d.latest) := by rw [h.cell]; rfl
theorem DragHd.c12 (h : DragHd w b lb R d A n cap PA pn pcap) : w.cell? ⟨b, 12, none⟩ = some (.slice PA pn pcap) := by rw [h.cell]; rfl
end

/-! ### made -/
theorem dmade_ok (b lb : Nat) (w : World) (h : w.cell? ⟨b, 0, none⟩ = some (.iface 31 (.pointer (some ⟨lb, 0, none⟩)))) :
    Calls Try.prog 42 #[.pointer (some ⟨b, 0, none⟩)] w fun e w' => e = .returned (.bool true) ∧ w = w' := by
  go_enter Try.func42, Try.ntmps42
  go_wp2
  go_ret
  exact ⟨rfl, rfl⟩
theorem dmade_no (b : Nat) (w : World) (h : w.cell? ⟨b, 0, none⟩ = some .nilIface) :
    Calls Try.prog 42 #[.pointer (some ⟨b, 0, none⟩)] w fun e w' => e = .returned (.bool false) ∧ w = w' := by
  go_enter Try.func42, Try.ntmps42
  go_wp2
  go_ret
  exact ⟨rfl, rfl⟩
theorem dmade_nil (w : World) : Calls Try.prog 42 #[.pointer none] w fun e w' => e = .returned (.bool false) ∧ w = w' := by
  go_enter Try.func42, Try.ntmps42
  go_wp2
  go_ret
  exact ⟨rfl, rfl⟩

/-! ### New -/
theorem drag_new (w : World) (lb : Nat) (hl : lb < w.heap.size) :
    DragAt (w.alloc (.cells (dcells lb DSt.new none 0 0 none 0 0).toArray 84)) w.heap.size lb (fun x => x = w.heap.size) DSt.new := by
  refine ⟨none, 0, 0, none, 0, 0, at_new _ _, SArg.nil _, fun h => absurd h (by omega), World.ownsRow_nil _ _ _ _, fun g hg => by simp [Value.ownBlock] at hg, fun x hx => by simp [DSt.new] at hx, fun x hx => by simp [DSt.new] at hx, List.Pairwise.nil, rfl, ?_, by omega, ?_, by simp [DSt.new], by simp [DSt.new], by simp [DSt.new], Nat.le_refl _⟩
  · intro x hx; simp; omega
  · simp; omega
def DNewOut (w : World) (lb : Nat) (e : Ending) (w' : World) : Prop :=
  ∃ b R, e = .returned (.pointer (some ⟨b, 0, none⟩)) ∧ DragAt w' b lb R DSt.new ∧ Same w w' ∧ (∀ x, R x → w.heap.size ≤ x)
theorem dnew_ok (w : World) (lb : Nat) (hl : lb < w.heap.size) : Calls Try.prog 37 #[.pointer (some ⟨lb, 0, none⟩)] w (DNewOut w lb) := by
  have HN := Lib.hid (drag_new w lb hl)
  clear hl
  go_enter Try.func37, Try.ntmps37
  go_wp2
  go_ret
  exact ⟨_, _, rfl, HN.out, (Chg.refl _ _).alloc _, fun x hx => by omega⟩
theorem dnew_nil (w : World) : Calls Try.prog 37 #[.pointer none] w fun e w' => e = .returned (.pointer none) ∧ w = w' := by
  go_enter Try.func37, Try.ntmps37
  go_wp2
  go_ret
  exact ⟨rfl, rfl⟩

/-! ### State, Action -/
section
variable {w w' : World} {b lb : Nat} {R : Nat → Prop} {d : DSt}
theorem dstate_ok (v : Int) (h : DragAt w b lb R d) (hv : d.state = v) : Calls Try.prog 21 #[.pointer (some ⟨b, 0, none⟩)] w fun e w' => e = .returned (.int .i64 v) ∧ w = w' := by
  obtain ⟨A, n, cap, PA, pn, pcap, h⟩ := h
  subst hv
  have k1 := h.c1
  have HM := Lib.hid (dmade_ok b lb w h.c0)
  clear h
  go_enter Try.func21, Try.ntmps21
  go_wp2_with fail
  refine HM.out.mono ?_
  rintro e w' ⟨rfl, rfl⟩
  go_wp2
  go_ret
  exact ⟨rfl, rfl⟩
theorem dstate_no (v : Value) (w : World) (h : Calls Try.prog 42 #[v] w fun e w' => e = .returned (.bool false) ∧ w = w') : Calls Try.prog 21 #[v] w fun e w' => e = .returned (.int .i64 0) ∧ w = w' := by
  have HM := Lib.hid h
  clear h
  go_enter Try.func21, Try.ntmps21
  go_wp2_with fail
  refine HM.out.mono ?_
  rintro e w' ⟨rfl, rfl⟩
  go_wp2
  go_ret
  exact ⟨rfl, rfl⟩
theorem daction_ok (v : Int) (h : DragAt w b lb R d) (hv : d.act = v) : Calls Try.prog 15 #[.pointer (some ⟨b, 0, none⟩)] w fun e w' => e = .returned (.int .i64 v) ∧ Same w w' := by
  obtain ⟨A, n, cap, PA, pn, pcap, h⟩ := h
  subst hv
  have k1 := h.c1
  have k3 := h.c3
  have k5 := h.c5
  have k7 := h.c7
  have k8 := h.c8
  have HM := Lib.hid (dmade_ok b lb w h.c0)
  clear h
  unfold DSt.act
  by_cases h1 : d.state = 0
  · rw [if_pos (.inl h1)]
    go_enter Try.func15, Try.ntmps15
    go_wp2_with fail
    refine HM.out.mono ?_
    rintro e w' ⟨rfl, rfl⟩
    go_wp2
    go_ret
    exact ⟨rfl, Chg.refl _ _⟩
  · by_cases h2 : d.ts = 0
    · rw [if_pos (.inr h2)]
      go_enter Try.func15, Try.ntmps15
      go_wp2_with fail
      refine HM.out.mono ?_
      rintro e w' ⟨rfl, rfl⟩
      go_wp2
      go_ret
      exact ⟨rfl, Chg.refl _ _⟩
    · rw [if_neg (by rintro (q | q); exact h1 q; exact h2 q)]
      obtain ⟨r, hr⟩ : ∃ r, actionV d.acts d.ta d.tp 0 = r := ⟨_, rfl⟩
      rw [hr]
      have HR := Lib.hid hr
      have h1b : (d.state == 0) = false := by simp [h1]
      have h2b : (d.ts == 0) = false := by simp [h2]
      clear hr
      go_enter Try.func15, Try.ntmps15
      go_wp2_with fail
      refine HM.out.mono ?_
      rintro e w' ⟨rfl, rfl⟩
      go_wp2_with fail
      refine region_path (S := (fun w' => w'.cell? ⟨b, 3, none⟩ = some (.int .i64 d.acts) ∧ w'.cell? ⟨b, 7, none⟩ = some (.int .i64 d.ta) ∧ w'.cell? ⟨b, 8, none⟩ = some (.int .i64 d.tp))) 99 [(0, true), (1, true), (2, true), (3, true), (4, true), (5, true), (6, true), (7, true), (8, true), (9, true), (10, true), (11, true), (12, true), (13, true), (14, true), (15, false), (16, true)] (by kernel_rfl) (by kernel_rfl) (by kernel_rfl) ⟨k3, k7, k8⟩ ?_
      refine path_read (i := 0) (v := ?v1_0) rfl (by rfl) (fun _ _ _ h => h) ?hy1_0 ?_
      case hy1_0 => ((intro w hSw; (try dsimp only at hSw); go_simp) <;> (try with_reducible rfl))
      try simp only [Act.put, List.setIfInBounds_toArray, List.set_cons_zero, List.set_cons_succ]
      refine path_read (i := 1) (v := ?v1_1) rfl (by rfl) (fun _ _ _ h => h) ?hy1_1 ?_
      case hy1_1 => ((intro w hSw; (try dsimp only at hSw); go_simp) <;> (try with_reducible rfl))
      try simp only [Act.put, List.setIfInBounds_toArray, List.set_cons_zero, List.set_cons_succ]
      refine path_read (i := 2) (v := ?v1_2) rfl (by rfl) (fun _ _ _ h => h) ?hy1_2 ?_
      case hy1_2 => ((intro w hSw; (try dsimp only at hSw); go_simp) <;> (try with_reducible rfl))
      try simp only [Act.put, List.setIfInBounds_toArray, List.set_cons_zero, List.set_cons_succ]
      refine path_read (i := 3) (v := ?v1_3) rfl (by rfl) (fun _ _ _ h => h) ?hy1_3 ?_
      case hy1_3 => ((intro w hSw; (try dsimp only at hSw); go_simp) <;> (try with_reducible rfl))
      try simp only [Act.put, List.setIfInBounds_toArray, List.set_cons_zero, List.set_cons_succ]
      refine path_read (i := 4) (v := ?v1_4) rfl (by rfl) (fun _ _ _ h => h) ?hy1_4 ?_
      case hy1_4 => ((intro w hSw; (try dsimp only at hSw); go_simp) <;> (try with_reducible rfl))
      try simp only [Act.put, List.setIfInBounds_toArray, List.set_cons_zero, List.set_cons_succ]
      refine path_read (i := 5) (v := ?v1_5) rfl (by rfl) (fun _ _ _ h => h) ?hy1_5 ?_
      case hy1_5 => ((intro w hSw; (try dsimp only at hSw); go_simp) <;> (try with_reducible rfl))
      try simp only [Act.put, List.setIfInBounds_toArray, List.set_cons_zero, List.set_cons_succ]
      refine path_read (i := 6) (v := ?v1_6) rfl (by rfl) (fun _ _ _ h => h) ?hy1_6 ?_
      case hy1_6 => ((intro w hSw; (try dsimp only at hSw); go_simp) <;> (try with_reducible rfl))
      try simp only [Act.put, List.setIfInBounds_toArray, List.set_cons_zero, List.set_cons_succ]
      refine path_read (i := 7) (v := ?v1_7) rfl (by rfl) (fun _ _ _ h => h) ?hy1_7 ?_
      case hy1_7 => ((intro w hSw; (try dsimp only at hSw); go_simp) <;> (try with_reducible rfl))
      try simp only [Act.put, List.setIfInBounds_toArray, List.set_cons_zero, List.set_cons_succ]
      refine path_read (i := 8) (v := ?v1_8) rfl (by rfl) (fun _ _ _ h => h) ?hy1_8 ?_
      case hy1_8 => ((intro w hSw; (try dsimp only at hSw); go_simp) <;> (try with_reducible rfl))
      try simp only [Act.put, List.setIfInBounds_toArray, List.set_cons_zero, List.set_cons_succ]
      refine path_read (i := 9) (v := ?v1_9) rfl (by rfl) (fun _ _ _ h => h) ?hy1_9 ?_
      case hy1_9 => ((intro w hSw; (try dsimp only at hSw); go_simp) <;> (try with_reducible rfl))
      try simp only [Act.put, List.setIfInBounds_toArray, List.set_cons_zero, List.set_cons_succ]
      refine path_read (i := 10) (v := ?v1_10) rfl (by rfl) (fun _ _ _ h => h) ?hy1_10 ?_
      case hy1_10 => ((intro w hSw; (try dsimp only at hSw); go_simp) <;> (try with_reducible rfl))
      try simp only [Act.put, List.setIfInBounds_toArray, List.set_cons_zero, List.set_cons_succ]
      refine path_read (i := 11) (v := ?v1_11) rfl (by rfl) (fun _ _ _ h => h) ?hy1_11 ?_
      case hy1_11 => ((intro w hSw; (try dsimp only at hSw); go_simp) <;> (try with_reducible rfl))
      try simp only [Act.put, List.setIfInBounds_toArray, List.set_cons_zero, List.set_cons_succ]
      refine path_read (i := 12) (v := ?v1_12) rfl (by rfl) (fun _ _ _ h => h) ?hy1_12 ?_
      case hy1_12 => ((intro w hSw; (try dsimp only at hSw); go_simp) <;> (try with_reducible rfl))
      try simp only [Act.put, List.setIfInBounds_toArray, List.set_cons_zero, List.set_cons_succ]
      refine path_read (i := 13) (v := ?v1_13) rfl (by rfl) (fun _ _ _ h => h) ?hy1_13 ?_
      case hy1_13 => ((intro w hSw; (try dsimp only at hSw); go_simp) <;> (try with_reducible rfl))
      try simp only [Act.put, List.setIfInBounds_toArray, List.set_cons_zero, List.set_cons_succ]
      refine path_read (i := 14) (v := ?v1_14) rfl (by rfl) (fun _ _ _ h => h) ?hy1_14 ?_
      case hy1_14 => ((intro w hSw; (try dsimp only at hSw); go_simp) <;> (try with_reducible rfl))
      try simp only [Act.put, List.setIfInBounds_toArray, List.set_cons_zero, List.set_cons_succ]
      refine path_do (i := 15) rfl ?_
      go_wp2_with ((go_at_call 43; refine (action_ok d.acts d.ta d.tp 0 _).mono ?_; rintro e w5 ⟨rfl, hs5⟩; have HK := Lib.hid (Chg.trans (Chg.refl (fun _ => False) w).drew hs5); have hqc := And.intro (HK.out.cell k3 (fun q => q)) (And.intro (HK.out.cell k7 (fun q => q)) (HK.out.cell k8 (fun q => q))); clear hs5))
      (first | refine ⟨.inr ?keep1_15, ?_⟩ | refine ⟨?keep1_15, ?_⟩)
      case keep1_15 => (exact hqc)
      try simp only [Act.put, List.setIfInBounds_toArray, List.set_cons_zero, List.set_cons_succ]
      refine path_read (i := 16) (v := ?v1_16) rfl (by rfl) (fun _ _ _ h => h) ?hy1_16 ?_
      case hy1_16 => ((intro w hSw; (try dsimp only at hSw); go_simp) <;> (try with_reducible rfl))
      try simp only [Act.put, List.setIfInBounds_toArray, List.set_cons_zero, List.set_cons_succ]
      refine path_end ?_
      go_wp2
      rw [HR.out]
      go_ret
      exact ⟨rfl, HK.out⟩

/-! ### access -/
theorem daccess_ok (v client st : Int) (h : DragAt w b lb R d) (hv : d.acc client st = v) : Calls Try.prog 40 #[.pointer (some ⟨b, 0, none⟩), .int .i64 client, .int .i64 st] w fun e w' => e = .returned (.int .i64 v) ∧ w = w' := by
  obtain ⟨A, n, cap, PA, pn, pcap, h⟩ := h
  subst hv
  have k1 := h.c1
  have k4 := h.c4
  have k5 := h.c5
  have HM := Lib.hid (dmade_ok b lb w h.c0)
  clear h
  unfold DSt.acc
  by_cases h1 : d.state = st
  · rw [if_neg (fun q => q h1)]
    have h1' := h1.symm
    subst h1'
    by_cases h2 : d.ts = 0
    · rw [if_pos (.inl h2)]
      go_enter Try.func40, Try.ntmps40
      go_wp2_with fail
      refine HM.out.mono ?_
      rintro e w' ⟨rfl, rfl⟩
      go_wp2
      go_ret
      exact ⟨rfl, rfl⟩
    · by_cases h3 : d.tc = client
      · rw [if_neg (by rintro (q | q); exact h2 q; exact q h3)]
        have h3' := h3.symm
        subst h3'
        go_enter Try.func40, Try.ntmps40
        go_wp2_with fail
        refine HM.out.mono ?_
        rintro e w' ⟨rfl, rfl⟩
        go_wp2
        go_ret
        exact ⟨rfl, rfl⟩
      · rw [if_pos (.inr h3)]
        have h4 : (d.tc == client) = false := by simp [h3]
        have h5 : (d.tc != client) = true := by simp [h3]
        go_enter Try.func40, Try.ntmps40
        go_wp2_with fail
        refine HM.out.mono ?_
        rintro e w' ⟨rfl, rfl⟩
        go_wp2
        go_ret
        exact ⟨rfl, rfl⟩
  · rw [if_pos h1]
    have h4 : (d.state == st) = false := by simp [h1]
    have h5 : (d.state != st) = true := by simp [h1]
    go_enter Try.func40, Try.ntmps40
    go_wp2_with fail
    refine HM.out.mono ?_
    rintro e w' ⟨rfl, rfl⟩
    go_wp2
    go_ret
    exact ⟨rfl, rfl⟩
theorem daccess_no (v : Value) (client st : Int) (w : World) (h : Calls Try.prog 42 #[v] w fun e w' => e = .returned (.bool false) ∧ w = w') : Calls Try.prog 40 #[v, .int .i64 client, .int .i64 st] w fun e w' => e = .returned (.int .i64 1) ∧ w = w' := by
  have HM := Lib.hid h
  clear h
  go_enter Try.func40, Try.ntmps40
  go_wp2_with fail
  refine HM.out.mono ?_
  rintro e w' ⟨rfl, rfl⟩
  go_wp2
  go_ret
  exact ⟨rfl, rfl⟩
theorem daction_no (v : Value) (w : World) (h : Calls Try.prog 42 #[v] w fun e w' => e = .returned (.bool false) ∧ w = w') : Calls Try.prog 15 #[v] w fun e w' => e = .returned (.int .i64 0) ∧ w = w' := by
  have HM := Lib.hid h
  clear h
  go_enter Try.func15, Try.ntmps15
  go_wp2_with fail
  refine HM.out.mono ?_
  rintro e w' ⟨rfl, rfl⟩
  go_wp2
  go_ret
  exact ⟨rfl, rfl⟩
end
end Go.Proofs.Yteolilggeaffaaa
