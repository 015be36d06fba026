/- Parts of the walk, packed: DragW, DragX. -/
import Derived.Test.YteolilggeaffaaaPk10
import Derived.Test.YteolilggeaffaaaPk01
import Derived.Laws.OwnMore
set_option linter.unusedVariables false
set_option linter.unusedSimpArgs false
set_option maxRecDepth 100000
namespace Go.Proofs.Yteolilggeaffaaa
open Go.RowKit

section
variable {w w' : World} {b lb : Nat} {R : Nat → Prop} {d : DSt} {A PA : Option Addr} {n cap pn pcap : Nat}
theorem DragHd.c0 (h : DragHd w b lb R d A n cap PA pn pcap) : w.cell? ⟨b, 0, none⟩ = some (.iface 31 (.pointer (some ⟨lb, 0, none⟩))) := by rw [h.cell]; rfl
theorem DragHd.c1 (h : DragHd w b lb R d A n cap PA pn pcap) : w.cell? ⟨b, 1, none⟩ = some (.int .i64 d.state) := by rw [h.cell]; rfl
theorem DragHd.c2 (h : DragHd w b lb R d A n cap PA pn pcap) : w.cell? ⟨b, 2, none⟩ = some (.slice A n cap) := by rw [h.cell]; rfl
theorem DragHd.c3 (h : DragHd w b lb R d A n cap PA pn pcap) : w.cell? ⟨b, 3, none⟩ = some (.int .i64 d.acts) := by rw [h.cell]; rfl
theorem DragHd.c4 (h : DragHd w b lb R d A n cap PA pn pcap) : w.cell? ⟨b, 4, none⟩ = some (.int .i64 d.tc) := by rw [h.cell]; rfl
theorem DragHd.c5 (h : DragHd w b lb R d A n cap PA pn pcap) : w.cell? ⟨b, 5, none⟩ = some (.int .i64 d.ts) := by rw [h.cell]; rfl
theorem DragHd.c6 (h : DragHd w b lb R d A n cap PA pn pcap) : w.cell? ⟨b, 6, none⟩ = some (.string d.tf) := by rw [h.cell]; rfl
theorem DragHd.c7 (h : DragHd w b lb R d A n cap PA pn pcap) : w.cell? ⟨b, 7, none⟩ = some (.int .i64 d.ta) := by rw [h.cell]; rfl
theorem DragHd.c8 (h : DragHd w b lb R d A n cap PA pn pcap) : w.cell? ⟨b, 8, none⟩ = some (.int .i64 d.tp) := by rw [h.cell]; rfl
theorem DragHd.c9 (h : DragHd w b lb R d A n cap PA pn pcap) : w.cell? ⟨b, 9, none⟩ = some (.int .i64 d.offers) := by rw [h.cell]; rfl
theorem DragHd.c10 (h : DragHd w b lb R d A n cap PA pn pcap) : w.cell? ⟨b, 10, none⟩ = some (.bool d.timed) := by rw [h.cell]; rfl
theorem DragHd.c11 (h : DragHd w b lb R d A n cap PA pn pcap) : w.cell? ⟨b, 11, none⟩ = some (.int .i64 d.latest) := by rw [h.cell]; rfl
theorem DragHd.c12 (h : DragHd w b lb R d A n cap PA pn pcap) : w.cell? ⟨b, 12, none⟩ = some (.slice PA pn pcap) := by rw [h.cell]; rfl
end

/-! ### made -/
theorem dmade_ok (b lb : Nat) (w : World) (h : w.cell? ⟨b, 0, none⟩ = some (.iface 31 (.pointer (some ⟨lb, 0, none⟩)))) :
    Calls Try.prog 42 #[.pointer (some ⟨b, 0, none⟩)] w fun e w' => e = .returned (.bool true) ∧ w = w' := by
  go_enter Try.func42, Try.ntmps42
  go_wp2
  go_ret
  exact ⟨rfl, rfl⟩
theorem dmade_no (b : Nat) (w : World) (h : w.cell? ⟨b, 0, none⟩ = some .nilIface) :
    Calls Try.prog 42 #[.pointer (some ⟨b, 0, none⟩)] w fun e w' => e = .returned (.bool false) ∧ w = w' := by
  go_enter Try.func42, Try.ntmps42
  go_wp2
  go_ret
  exact ⟨rfl, rfl⟩
theorem dmade_nil (w : World) : Calls Try.prog 42 #[.pointer none] w fun e w' => e = .returned (.bool false) ∧ w = w' := by
  go_enter Try.func42, Try.ntmps42
  go_wp2
  go_ret
  exact ⟨rfl, rfl⟩

/-! ### New -/
theorem drag_new (w : World) (lb : Nat) (hl : lb < w.heap.size) :
    DragAt (w.alloc (.cells (dcells lb DSt.new none 0 0 none 0 0).toArray 84)) w.heap.size lb (fun x => x = w.heap.size) DSt.new := by
  refine ⟨none, 0, 0, none, 0, 0, at_new _ _, SArg.nil _, fun h => absurd h (by omega), World.ownsRow_nil _ _ _ _, fun g hg => by simp [Value.ownBlock] at hg, fun x hx => by simp [DSt.new] at hx, fun x hx => by simp [DSt.new] at hx, List.Pairwise.nil, rfl, ?_, by omega, ?_, by simp [DSt.new], by simp [DSt.new], by simp [DSt.new], Nat.le_refl _⟩
  · intro x hx; simp; omega
  · simp; omega
def DNewOut (w : World) (lb : Nat) (e : Ending) (w' : World) : Prop :=
  ∃ b R, e = .returned (.pointer (some ⟨b, 0, none⟩)) ∧ DragAt w' b lb R DSt.new ∧ Same w w' ∧ (∀ x, R x → w.heap.size ≤ x)
theorem dnew_ok (w : World) (lb : Nat) (hl : lb < w.heap.size) : Calls Try.prog 37 #[.pointer (some ⟨lb, 0, none⟩)] w (DNewOut w lb) := by
  have HN := Lib.hid (drag_new w lb hl)
  clear hl
  go_enter Try.func37, Try.ntmps37
  go_wp2
  go_ret
  exact ⟨_, _, rfl, HN.out, (Chg.refl _ _).alloc _, fun x hx => by omega⟩
theorem dnew_nil (w : World) : Calls Try.prog 37 #[.pointer none] w fun e w' => e = .returned (.pointer none) ∧ w = w' := by
  go_enter Try.func37, Try.ntmps37
  go_wp2
  go_ret
  exact ⟨rfl, rfl⟩

/-! ### State, Action -/
section
variable {w w' : World} {b lb : Nat} {R : Nat → Prop} {d : DSt}
theorem dstate_ok (v : Int) (h : DragAt w b lb R d) (hv : d.state = v) : Calls Try.prog 21 #[.pointer (some ⟨b, 0, none⟩)] w fun e w' => e = .returned (.int .i64 v) ∧ w = w' := by
  obtain ⟨A, n, cap, PA, pn, pcap, h⟩ := h
  subst hv
  have k1 := h.c1
  have HM := Lib.hid (dmade_ok b lb w h.c0)
  clear h
  go_enter Try.func21, Try.ntmps21
  go_wp2_with fail
  refine HM.out.mono ?_
  rintro e w' ⟨rfl, rfl⟩
  go_wp2
  go_ret
  exact ⟨rfl, rfl⟩
theorem dstate_no (v : Value) (w : World) (h : Calls Try.prog 42 #[v] w fun e w' => e = .returned (.bool false) ∧ w = w') : Calls Try.prog 21 #[v] w fun e w' => e = .returned (.int .i64 0) ∧ w = w' := by
  have HM := Lib.hid h
  clear h
  go_enter Try.func21, Try.ntmps21
  go_wp2_with fail
  refine HM.out.mono ?_
  rintro e w' ⟨rfl, rfl⟩
  go_wp2
  go_ret
  exact ⟨rfl, rfl⟩
theorem daction_ok (v : Int) (h : DragAt w b lb R d) (hv : d.act = v) : Calls Try.prog 15 #[.pointer (some ⟨b, 0, none⟩)] w fun e w' => e = .returned (.int .i64 v) ∧ Same w w' := by
  obtain ⟨A, n, cap, PA, pn, pcap, h⟩ := h
  subst hv
  have k1 := h.c1
  have k3 := h.c3
  have k5 := h.c5
  have k7 := h.c7
  have k8 := h.c8
  have HM := Lib.hid (dmade_ok b lb w h.c0)
  clear h
  unfold DSt.act
  by_cases h1 : d.state = 0
  · rw [if_pos (.inl h1)]
    go_enter Try.func15, Try.ntmps15
    go_wp2_with fail
    refine HM.out.mono ?_
    rintro e w' ⟨rfl, rfl⟩
    go_wp2
    go_ret
    exact ⟨rfl, Chg.refl _ _⟩
  · by_cases h2 : d.ts = 0
    · rw [if_pos (.inr h2)]
      go_enter Try.func15, Try.ntmps15
      go_wp2_with fail
      refine HM.out.mono ?_
      rintro e w' ⟨rfl, rfl⟩
      go_wp2
      go_ret
      exact ⟨rfl, Chg.refl _ _⟩
    · rw [if_neg (by rintro (q | q); exact h1 q; exact h2 q)]
      obtain ⟨r, hr⟩ : ∃ r, actionV d.acts d.ta d.tp 0 = r := ⟨_, rfl⟩
      rw [hr]
      have HR := Lib.hid hr
      have h1b : (d.state == 0) = false := by simp [h1]
      have h2b : (d.ts == 0) = false := by simp [h2]
      clear hr
      go_enter Try.func15, Try.ntmps15
      go_wp2_with fail
      refine HM.out.mono ?_
      rintro e w' ⟨rfl, rfl⟩
      go_wp2_with fail
      refine region_path (S := (fun w' => w'.cell? ⟨b, 3, none⟩ = some (.int .i64 d.acts) ∧ w'.cell? ⟨b, 7, none⟩ = some (.int .i64 d.ta) ∧ w'.cell? ⟨b, 8, none⟩ = some (.int .i64 d.tp))) 99 [(0, true), (1, true), (2, true), (3, true), (4, true), (5, true), (6, true), (7, true), (8, true), (9, true), (10, true), (11, true), (12, true), (13, true), (14, true), (15, false), (16, true)] (by kernel_rfl) (by kernel_rfl) (by kernel_rfl) ⟨k3, k7, k8⟩ ?_
      refine path_read (i := 0) (v := ?v33_0) rfl (by rfl) (fun _ _ _ h => h) ?hy33_0 ?_
      case hy33_0 => ((intro w hSw; (try dsimp only at hSw); go_simp) <;> (try with_reducible rfl))
      try simp only [Act.put, List.setIfInBounds_toArray, List.set_cons_zero, List.set_cons_succ]
      refine path_read (i := 1) (v := ?v33_1) rfl (by rfl) (fun _ _ _ h => h) ?hy33_1 ?_
      case hy33_1 => ((intro w hSw; (try dsimp only at hSw); go_simp) <;> (try with_reducible rfl))
      try simp only [Act.put, List.setIfInBounds_toArray, List.set_cons_zero, List.set_cons_succ]
      refine path_read (i := 2) (v := ?v33_2) rfl (by rfl) (fun _ _ _ h => h) ?hy33_2 ?_
      case hy33_2 => ((intro w hSw; (try dsimp only at hSw); go_simp) <;> (try with_reducible rfl))
      try simp only [Act.put, List.setIfInBounds_toArray, List.set_cons_zero, List.set_cons_succ]
      refine path_read (i := 3) (v := ?v33_3) rfl (by rfl) (fun _ _ _ h => h) ?hy33_3 ?_
      case hy33_3 => ((intro w hSw; (try dsimp only at hSw); go_simp) <;> (try with_reducible rfl))
      try simp only [Act.put, List.setIfInBounds_toArray, List.set_cons_zero, List.set_cons_succ]
      refine path_read (i := 4) (v := ?v33_4) rfl (by rfl) (fun _ _ _ h => h) ?hy33_4 ?_
      case hy33_4 => ((intro w hSw; (try dsimp only at hSw); go_simp) <;> (try with_reducible rfl))
      try simp only [Act.put, List.setIfInBounds_toArray, List.set_cons_zero, List.set_cons_succ]
      refine path_read (i := 5) (v := ?v33_5) rfl (by rfl) (fun _ _ _ h => h) ?hy33_5 ?_
      case hy33_5 => ((intro w hSw; (try dsimp only at hSw); go_simp) <;> (try with_reducible rfl))
      try simp only [Act.put, List.setIfInBounds_toArray, List.set_cons_zero, List.set_cons_succ]
      refine path_read (i := 6) (v := ?v33_6) rfl (by rfl) (fun _ _ _ h => h) ?hy33_6 ?_
      case hy33_6 => ((intro w hSw; (try dsimp only at hSw); go_simp) <;> (try with_reducible rfl))
      try simp only [Act.put, List.setIfInBounds_toArray, List.set_cons_zero, List.set_cons_succ]
      refine path_read (i := 7) (v := ?v33_7) rfl (by rfl) (fun _ _ _ h => h) ?hy33_7 ?_
      case hy33_7 => ((intro w hSw; (try dsimp only at hSw); go_simp) <;> (try with_reducible rfl))
      try simp only [Act.put, List.setIfInBounds_toArray, List.set_cons_zero, List.set_cons_succ]
      refine path_read (i := 8) (v := ?v33_8) rfl (by rfl) (fun _ _ _ h => h) ?hy33_8 ?_
      case hy33_8 => ((intro w hSw; (try dsimp only at hSw); go_simp) <;> (try with_reducible rfl))
      try simp only [Act.put, List.setIfInBounds_toArray, List.set_cons_zero, List.set_cons_succ]
      refine path_read (i := 9) (v := ?v33_9) rfl (by rfl) (fun _ _ _ h => h) ?hy33_9 ?_
      case hy33_9 => ((intro w hSw; (try dsimp only at hSw); go_simp) <;> (try with_reducible rfl))
      try simp only [Act.put, List.setIfInBounds_toArray, List.set_cons_zero, List.set_cons_succ]
      refine path_read (i := 10) (v := ?v33_10) rfl (by rfl) (fun _ _ _ h => h) ?hy33_10 ?_
      case hy33_10 => ((intro w hSw; (try dsimp only at hSw); go_simp) <;> (try with_reducible rfl))
      try simp only [Act.put, List.setIfInBounds_toArray, List.set_cons_zero, List.set_cons_succ]
      refine path_read (i := 11) (v := ?v33_11) rfl (by rfl) (fun _ _ _ h => h) ?hy33_11 ?_
      case hy33_11 => ((intro w hSw; (try dsimp only at hSw); go_simp) <;> (try with_reducible rfl))
      try simp only [Act.put, List.setIfInBounds_toArray, List.set_cons_zero, List.set_cons_succ]
      refine path_read (i := 12) (v := ?v33_12) rfl (by rfl) (fun _ _ _ h => h) ?hy33_12 ?_
      case hy33_12 => ((intro w hSw; (try dsimp only at hSw); go_simp) <;> (try with_reducible rfl))
      try simp only [Act.put, List.setIfInBounds_toArray, List.set_cons_zero, List.set_cons_succ]
      refine path_read (i := 13) (v := ?v33_13) rfl (by rfl) (fun _ _ _ h => h) ?hy33_13 ?_
      case hy33_13 => ((intro w hSw; (try dsimp only at hSw); go_simp) <;> (try with_reducible rfl))
      try simp only [Act.put, List.setIfInBounds_toArray, List.set_cons_zero, List.set_cons_succ]
      refine path_read (i := 14) (v := ?v33_14) rfl (by rfl) (fun _ _ _ h => h) ?hy33_14 ?_
      case hy33_14 => ((intro w hSw; (try dsimp only at hSw); go_simp) <;> (try with_reducible rfl))
      try simp only [Act.put, List.setIfInBounds_toArray, List.set_cons_zero, List.set_cons_succ]
      refine path_do (i := 15) rfl ?_
      go_wp2_with ((go_at_call 43; refine (action_ok d.acts d.ta d.tp 0 _).mono ?_; rintro e w5 ⟨rfl, hs5⟩; have HK := Lib.hid (Chg.trans (Chg.refl (fun _ => False) w).drew hs5); have hqc := And.intro (HK.out.cell k3 (fun q => q)) (And.intro (HK.out.cell k7 (fun q => q)) (HK.out.cell k8 (fun q => q))); clear hs5))
      (first | refine ⟨.inr ?keep33_15, ?_⟩ | refine ⟨?keep33_15, ?_⟩)
      case keep33_15 => (exact hqc)
      try simp only [Act.put, List.setIfInBounds_toArray, List.set_cons_zero, List.set_cons_succ]
      refine path_read (i := 16) (v := ?v33_16) rfl (by rfl) (fun _ _ _ h => h) ?hy33_16 ?_
      case hy33_16 => ((intro w hSw; (try dsimp only at hSw); go_simp) <;> (try with_reducible rfl))
      try simp only [Act.put, List.setIfInBounds_toArray, List.set_cons_zero, List.set_cons_succ]
      refine path_end ?_
      go_wp2
      rw [HR.out]
      go_ret
      exact ⟨rfl, HK.out⟩

/-! ### access -/
theorem daccess_ok (v client st : Int) (h : DragAt w b lb R d) (hv : d.acc client st = v) : Calls Try.prog 40 #[.pointer (some ⟨b, 0, none⟩), .int .i64 client, .int .i64 st] w fun e w' => e = .returned (.int .i64 v) ∧ w = w' := by
  obtain ⟨A, n, cap, PA, pn, pcap, h⟩ := h
  subst hv
  have k1 := h.c1
  have k4 := h.c4
  have k5 := h.c5
  have HM := Lib.hid (dmade_ok b lb w h.c0)
  clear h
  unfold DSt.acc
  by_cases h1 : d.state = st
  · rw [if_neg (fun q => q h1)]
    have h1' := h1.symm
    subst h1'
    by_cases h2 : d.ts = 0
    · rw [if_pos (.inl h2)]
      go_enter Try.func40, Try.ntmps40
      go_wp2_with fail
      refine HM.out.mono ?_
      rintro e w' ⟨rfl, rfl⟩
      go_wp2
      go_ret
      exact ⟨rfl, rfl⟩
    · by_cases h3 : d.tc = client
      · rw [if_neg (by rintro (q | q); exact h2 q; exact q h3)]
        have h3' := h3.symm
        subst h3'
        go_enter Try.func40, Try.ntmps40
        go_wp2_with fail
        refine HM.out.mono ?_
        rintro e w' ⟨rfl, rfl⟩
        go_wp2
        go_ret
        exact ⟨rfl, rfl⟩
      · rw [if_pos (.inr h3)]
        have h4 : (d.tc == client) = false := by simp [h3]
        have h5 : (d.tc != client) = true := by simp [h3]
        go_enter Try.func40, Try.ntmps40
        go_wp2_with fail
        refine HM.out.mono ?_
        rintro e w' ⟨rfl, rfl⟩
        go_wp2
        go_ret
        exact ⟨rfl, rfl⟩
  · rw [if_pos h1]
    have h4 : (d.state == st) = false := by simp [h1]
    have h5 : (d.state != st) = true := by simp [h1]
    go_enter Try.func40, Try.ntmps40
    go_wp2_with fail
    refine HM.out.mono ?_
    rintro e w' ⟨rfl, rfl⟩
    go_wp2
    go_ret
    exact ⟨rfl, rfl⟩
theorem daccess_no (v : Value) (client st : Int) (w : World) (h : Calls Try.prog 42 #[v] w fun e w' => e = .returned (.bool false) ∧ w = w') : Calls Try.prog 40 #[v, .int .i64 client, .int .i64 st] w fun e w' => e = .returned (.int .i64 1) ∧ w = w' := by
  have HM := Lib.hid h
  clear h
  go_enter Try.func40, Try.ntmps40
  go_wp2_with fail
  refine HM.out.mono ?_
  rintro e w' ⟨rfl, rfl⟩
  go_wp2
  go_ret
  exact ⟨rfl, rfl⟩
theorem daction_no (v : Value) (w : World) (h : Calls Try.prog 42 #[v] w fun e w' => e = .returned (.bool false) ∧ w = w') : Calls Try.prog 15 #[v] w fun e w' => e = .returned (.int .i64 0) ∧ w = w' := by
  have HM := Lib.hid h
  clear h
  go_enter Try.func15, Try.ntmps15
  go_wp2_with fail
  refine HM.out.mono ?_
  rintro e w' ⟨rfl, rfl⟩
  go_wp2
  go_ret
  exact ⟨rfl, rfl⟩
end
end Go.Proofs.Yteolilggeaffaaa

namespace Go.Proofs.Yteolilggeaffaaa
open Go.RowKit

section
variable {w w' : World} {b lb : Nat} {R : Nat → Prop} {d : DSt}
/-! ### leave -/
/-- Deliveries that a call made. -/
def OutAt (base : Nat) (w : World) (v : Value) (l : List (List Value)) : Prop := w.ownsRow base 72 9 v l.length l.flatten
def DOut (w : World) (l : List (List Value)) (e : Ending) (w' : World) : Prop := ∃ v, e = .returned v ∧ OutAt w.heap.size w' v l ∧ Same w w'
theorem out_one (w : World) (a1 a2 a3 a4 a5 a6 a7 a8 a9 : Int) : OutAt w.heap.size (w.alloc (.cells #[.int .i64 a1, .int .i64 a2, .int .i64 a3, .int .i64 a4, .int .i64 a5, .int .i64 a6, .int .i64 a7, .int .i64 a8, .int .u32 a9] 72)) (.slice (some ⟨w.heap.size, 0, none⟩) 1 1) [delivC a1 a2 a3 a4 a5 a6 a7 a8 a9] :=
  World.ownsRow_lit (size := 9) w #[.int .i64 a1, .int .i64 a2, .int .i64 a3, .int .i64 a4, .int .i64 a5, .int .i64 a6, .int .i64 a7, .int .i64 a8, .int .u32 a9] 1 (Nat.le_refl _) (by unfold maxLen; omega) rfl
theorem dleave_ok (l : List (List Value)) (h : DragAt w b lb R d) (hl : d.left = l) : Calls Try.prog 47 #[.pointer (some ⟨b, 0, none⟩)] w (DOut w l) := by
  obtain ⟨A, n, cap, PA, pn, pcap, h⟩ := h
  subst hl
  have k4 := h.c4
  have k5 := h.c5
  clear h
  unfold DSt.left
  by_cases h1 : d.ts = 0
  · rw [if_pos h1]
    go_enter Try.func47, Try.ntmps47
    go_wp2
    go_ret
    exact ⟨_, rfl, World.ownsRow_nil _ _ _ _, Chg.refl _ _⟩
  · rw [if_neg h1]
    have h1b : (d.ts == 0) = false := by simp [h1]
    go_enter Try.func47, Try.ntmps47
    go_wp2_with fail
    refine region_path (S := (fun w' => w'.cell? ⟨b, 4, none⟩ = some (.int .i64 d.tc) ∧ w'.cell? ⟨b, 5, none⟩ = some (.int .i64 d.ts))) 99 [(0, true), (1, true), (2, true), (3, true), (4, true), (5, true), (6, true), (7, true), (8, true), (9, true), (10, true), (11, false), (12, true)] (by kernel_rfl) (by kernel_rfl) (by kernel_rfl) ⟨k4, k5⟩ ?_
    refine path_read (i := 0) (v := ?v34_0) rfl (by rfl) (fun _ _ _ h => h) ?hy34_0 ?_
    case hy34_0 => ((intro w hSw; (try dsimp only at hSw); go_simp) <;> (try with_reducible rfl))
    try simp only [Act.put, List.setIfInBounds_toArray, List.set_cons_zero, List.set_cons_succ]
    refine path_read (i := 1) (v := ?v34_1) rfl (by rfl) (fun _ _ _ h => h) ?hy34_1 ?_
    case hy34_1 => ((intro w hSw; (try dsimp only at hSw); go_simp) <;> (try with_reducible rfl))
    try simp only [Act.put, List.setIfInBounds_toArray, List.set_cons_zero, List.set_cons_succ]
    refine path_read (i := 2) (v := ?v34_2) rfl (by rfl) (fun _ _ _ h => h) ?hy34_2 ?_
    case hy34_2 => ((intro w hSw; (try dsimp only at hSw); go_simp) <;> (try with_reducible rfl))
    try simp only [Act.put, List.setIfInBounds_toArray, List.set_cons_zero, List.set_cons_succ]
    refine path_read (i := 3) (v := ?v34_3) rfl (by rfl) (fun _ _ _ h => h) ?hy34_3 ?_
    case hy34_3 => ((intro w hSw; (try dsimp only at hSw); go_simp) <;> (try with_reducible rfl))
    try simp only [Act.put, List.setIfInBounds_toArray, List.set_cons_zero, List.set_cons_succ]
    refine path_read (i := 4) (v := ?v34_4) rfl (by rfl) (fun _ _ _ h => h) ?hy34_4 ?_
    case hy34_4 => ((intro w hSw; (try dsimp only at hSw); go_simp) <;> (try with_reducible rfl))
    try simp only [Act.put, List.setIfInBounds_toArray, List.set_cons_zero, List.set_cons_succ]
    refine path_read (i := 5) (v := ?v34_5) rfl (by rfl) (fun _ _ _ h => h) ?hy34_5 ?_
    case hy34_5 => ((intro w hSw; (try dsimp only at hSw); go_simp) <;> (try with_reducible rfl))
    try simp only [Act.put, List.setIfInBounds_toArray, List.set_cons_zero, List.set_cons_succ]
    refine path_read (i := 6) (v := ?v34_6) rfl (by rfl) (fun _ _ _ h => h) ?hy34_6 ?_
    case hy34_6 => ((intro w hSw; (try dsimp only at hSw); go_simp) <;> (try with_reducible rfl))
    try simp only [Act.put, List.setIfInBounds_toArray, List.set_cons_zero, List.set_cons_succ]
    refine path_read (i := 7) (v := ?v34_7) rfl (by rfl) (fun _ _ _ h => h) ?hy34_7 ?_
    case hy34_7 => ((intro w hSw; (try dsimp only at hSw); go_simp) <;> (try with_reducible rfl))
    try simp only [Act.put, List.setIfInBounds_toArray, List.set_cons_zero, List.set_cons_succ]
    refine path_read (i := 8) (v := ?v34_8) rfl (by rfl) (fun _ _ _ h => h) ?hy34_8 ?_
    case hy34_8 => ((intro w hSw; (try dsimp only at hSw); go_simp) <;> (try with_reducible rfl))
    try simp only [Act.put, List.setIfInBounds_toArray, List.set_cons_zero, List.set_cons_succ]
    refine path_read (i := 9) (v := ?v34_9) rfl (by rfl) (fun _ _ _ h => h) ?hy34_9 ?_
    case hy34_9 => ((intro w hSw; (try dsimp only at hSw); go_simp) <;> (try with_reducible rfl))
    try simp only [Act.put, List.setIfInBounds_toArray, List.set_cons_zero, List.set_cons_succ]
    refine path_read (i := 10) (v := ?v34_10) rfl (by rfl) (fun _ _ _ h => h) ?hy34_10 ?_
    case hy34_10 => ((intro w hSw; (try dsimp only at hSw); go_simp) <;> (try with_reducible rfl))
    try simp only [Act.put, List.setIfInBounds_toArray, List.set_cons_zero, List.set_cons_succ]
    refine path_do (i := 11) rfl ?_
    go_wp2_with (fail)
    (first | refine ⟨.inr ?keep34_11, ?_⟩ | refine ⟨?keep34_11, ?_⟩)
    case keep34_11 => (exact ⟨Chg.cell (S := fun _ => False) (u := w) ((Chg.refl _ w).drew.alloc _) k4 (fun q => q), Chg.cell (S := fun _ => False) (u := w) ((Chg.refl _ w).drew.alloc _) k5 (fun q => q)⟩)
    try simp only [Act.put, List.setIfInBounds_toArray, List.set_cons_zero, List.set_cons_succ]
    refine path_read (i := 12) (v := ?v34_12) rfl (by rfl) (fun _ _ _ h => h) ?hy34_12 ?_
    case hy34_12 => ((intro w hSw; (try dsimp only at hSw); go_simp) <;> (try with_reducible rfl))
    try simp only [Act.put, List.setIfInBounds_toArray, List.set_cons_zero, List.set_cons_succ]
    refine path_end ?_
    go_wp2
    go_ret
    exact ⟨_, rfl, out_one _ _ _ _ _ _ _ _ _ _, (Chg.refl _ _).drew.alloc _⟩

/-! ### end -/
theorem end_chg (w : World) (b : Nat) : Chg (fun x => x = b) w (((((((w.setCell ⟨b, 1, none⟩ (.int .i64 0)).setCell ⟨b, 4, none⟩ (.int .i64 0)).setCell ⟨b, 5, none⟩ (.int .i64 0)).setCell ⟨b, 6, none⟩ (.string ⟨#[]⟩)).setCell ⟨b, 7, none⟩ (.int .i64 0)).setCell ⟨b, 8, none⟩ (.int .i64 0)).setCell ⟨b, 12, none⟩ (.slice none 0 0)) := by
  refine Chg.setCell (Chg.setCell (Chg.setCell (Chg.setCell (Chg.setCell (Chg.setCell (Chg.setCell (Chg.refl (fun x => x = b) w) _ _ ?_) _ _ ?_) _ _ ?_) _ _ ?_) _ _ ?_) _ _ ?_) _ _ ?_
  all_goals exact fun _ => rfl
theorem end_at {A PA : Option Addr} {n cap pn pcap : Nat} (h : w.heap[b]? = some (.cells (dcells lb d A n cap PA pn pcap).toArray 84 (0, 0))) :
    (((((((w.setCell ⟨b, 1, none⟩ (.int .i64 0)).setCell ⟨b, 4, none⟩ (.int .i64 0)).setCell ⟨b, 5, none⟩ (.int .i64 0)).setCell ⟨b, 6, none⟩ (.string ⟨#[]⟩)).setCell ⟨b, 7, none⟩ (.int .i64 0)).setCell ⟨b, 8, none⟩ (.int .i64 0)).setCell ⟨b, 12, none⟩ (.slice none 0 0)).heap[b]? = some (.cells (dcells lb d.endS A n cap none 0 0).toArray 84 (0, 0)) :=
  at_setCell (i := 12) _ (at_setCell (i := 8) _ (at_setCell (i := 7) _ (at_setCell (i := 6) _ (at_setCell (i := 5) _ (at_setCell (i := 4) _ (at_setCell (i := 1) _ h))))))
theorem dend_ok (h : DragAt w b lb R d) : Calls Try.prog 45 #[.pointer (some ⟨b, 0, none⟩)] w fun e w' => e = .returned (.tuple #[]) ∧ DragAt w' b lb R d.endS ∧ Chg (fun x => x = b) w w' := by
  obtain ⟨A, n, cap, PA, pn, pcap, h⟩ := h
  have f1 := h.fr
  have k1 := h.c1
  have k4 := h.c4
  have k5 := h.c5
  have k6 := h.c6
  have k7 := h.c7
  have k8 := h.c8
  have k12 := h.c12
  have hlt := h.lt b h.rb
  have HH := Lib.hid h
  clear h
  go_enter Try.func45, Try.ntmps45
  go_wp2
  go_end0
  refine ⟨rfl, ⟨A, n, cap, none, 0, 0, HH.out.ended d.endS rfl rfl rfl HH.out.offs (end_chg w b) (end_at HH.out.at_)⟩, end_chg w b⟩

theorem toList_nil : ByteArray.toList ⟨#[]⟩ = [] := by first | rfl | simp | decide | kernel_rfl
theorem toList_cons {f : ByteArray} (h : ¬ f = ⟨#[]⟩) : ¬ f.toList = [] := fun q => beq_eq_false_iff_ne.1 (toList_ne h) (q.trans toList_nil.symm)
theorem toList_emp {f : ByteArray} (h : ¬ f = ⟨#[]⟩) : f.toList.isEmpty = false := by
  cases hq : f.toList
  · exact absurd hq (toList_cons h)
  · rfl
/-! ### Accept -/
def DIOut (w : World) (b lb : Nat) (R : Nat → Prop) (d' : DSt) (v : Int) (e : Ending) (w' : World) : Prop := e = .returned (.int .i64 v) ∧ DragAt w' b lb R d' ∧ Chg (fun x => x = b) w w'
theorem daccept_ok (d' : DSt) (v client : Int) (f : ByteArray) (h : DragAt w b lb R d) (hv : d.acceptE client f = v) (hd : d.accept client f = d') :
    Calls Try.prog 13 #[.pointer (some ⟨b, 0, none⟩), .int .i64 client, .string f] w (DIOut w b lb R d' v) := by
  obtain ⟨va, hva⟩ : ∃ va, d.acc client 1 = va := ⟨_, rfl⟩
  have HA := Lib.hid (daccess_ok va client 1 h hva)
  have HD := Lib.hid h
  obtain ⟨A, n, cap, PA, pn, pcap, h⟩ := h
  have HH := Lib.hid h
  have k2 := h.c2
  have k6 := h.c6
  have f1 := h.fr
  have hlt := h.lt b h.rb
  subst hv hd
  clear h
  by_cases h1 : va = 0
  · by_cases h2 : f = ByteArray.empty
    · have e1 : d.acceptE client f = 0 := by unfold DSt.acceptE; rw [hva, if_neg (fun q => q h1), if_neg (fun q => q.1 h2)]
      have e2 : d.accept client f = { d with tf := f } := by unfold DSt.accept; rw [if_pos e1]
      rw [e1, e2]
      clear e1 e2
      subst h2
      have hem : ByteArray.empty.toList = [] := toList_nil
      go_enter Try.func13, Try.ntmps13
      go_wp2_with fail
      refine HA.out.mono ?_
      rintro e w' ⟨rfl, rfl⟩
      go_wp2
      go_ret
      exact ⟨rfl, ⟨A, n, cap, PA, pn, pcap, HH.out.upd { d with tf := ByteArray.empty } rfl rfl rfl HH.out.offs (Chg.setCell (Chg.refl _ w) _ _ (fun _ => rfl)) (at_setCell (i := 6) _ HH.out.at_)⟩, Chg.setCell (Chg.refl _ w) _ _ (fun _ => rfl)⟩
    · cases h3 : hasS d.fmts f
      · have e1 : d.acceptE client f = 8 := by unfold DSt.acceptE; rw [hva, if_neg (fun q => q h1), if_pos ⟨h2, h3⟩]
        have e2 : d.accept client f = d := by unfold DSt.accept; rw [if_neg (by rw [e1]; decide)]
        rw [e1, e2]
        clear e1 e2
        have h2e : ¬ f = ⟨#[]⟩ := h2
        have hne := toList_ne h2e
        have hne2 : ¬ f.toList = [] := toList_cons h2e
        have hne4 : f.toList.isEmpty = false := toList_emp h2e
        have HC := Lib.hid (contains_v false A n cap d.fmts f w HH.out.fm.1 (by have := HH.out.len; have := HH.out.fm.1.1; omega) h3)
        go_enter Try.func13, Try.ntmps13
        go_wp2_with fail
        refine HA.out.mono ?_
        rintro e w' ⟨rfl, rfl⟩
        go_wp2_with fail
        refine HC.out.mono ?_
        rintro e w' ⟨rfl, rfl⟩
        go_wp2
        go_ret
        exact ⟨rfl, HD.out, Chg.refl _ _⟩
      · have e1 : d.acceptE client f = 0 := by unfold DSt.acceptE; rw [hva, if_neg (fun q => q h1), if_neg (fun q => by rw [h3] at q; cases q.2)]
        have e2 : d.accept client f = { d with tf := f } := by unfold DSt.accept; rw [if_pos e1]
        rw [e1, e2]
        clear e1 e2
        have h2e : ¬ f = ⟨#[]⟩ := h2
        have hne := toList_ne h2e
        have hne2 : ¬ f.toList = [] := toList_cons h2e
        have hne4 : f.toList.isEmpty = false := toList_emp h2e
        have HC := Lib.hid (contains_v true A n cap d.fmts f w HH.out.fm.1 (by have := HH.out.len; have := HH.out.fm.1.1; omega) h3)
        go_enter Try.func13, Try.ntmps13
        go_wp2_with fail
        refine HA.out.mono ?_
        rintro e w' ⟨rfl, rfl⟩
        go_wp2_with fail
        refine HC.out.mono ?_
        rintro e w' ⟨rfl, rfl⟩
        go_wp2
        go_ret
        exact ⟨rfl, ⟨A, n, cap, PA, pn, pcap, HH.out.upd { d with tf := f } rfl rfl rfl HH.out.offs (Chg.setCell (Chg.refl _ w) _ _ (fun _ => rfl)) (at_setCell (i := 6) _ HH.out.at_)⟩, Chg.setCell (Chg.refl _ w) _ _ (fun _ => rfl)⟩
  · have e1 : d.acceptE client f = va := by unfold DSt.acceptE; rw [hva, if_pos h1]
    have e2 : d.accept client f = d := by unfold DSt.accept; rw [if_neg (by rw [e1]; exact h1)]
    rw [e1, e2]
    clear e1 e2
    have h1b : (va == 0) = false := by simp [h1]
    have h1c : (va != 0) = true := by simp [h1]
    go_enter Try.func13, Try.ntmps13
    go_wp2_with fail
    refine HA.out.mono ?_
    rintro e w' ⟨rfl, rfl⟩
    go_wp2
    go_ret
    exact ⟨rfl, HD.out, Chg.refl _ _⟩
end
end Go.Proofs.Yteolilggeaffaaa
