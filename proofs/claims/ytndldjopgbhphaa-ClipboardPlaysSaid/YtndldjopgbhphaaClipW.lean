/- The walks of package clipboard: New, made, valid, use, Owner, Formats. -/
import Derived.Test.YtndldjopgbhphaaClipM
import Derived.Test.YtndldjopgbhphaaStrO
set_option linter.unusedVariables false
set_option linter.unusedSimpArgs false
set_option maxRecDepth 100000
namespace Go.Proofs.Ytndldjopgbhphaa
open Go.RowKit

theorem ClipHd.c0 {w : World} {b lb : Nat} {R : Nat → Prop} {c : CSt} {A : Option Addr} {n cap mb : Nat} (h : ClipHd w b lb R c A n cap mb) : w.cell? ⟨b, 0, none⟩ = some (.iface 25 (.pointer (some ⟨lb, 0, none⟩))) := by rw [h.cell]; rfl
theorem ClipHd.c1 {w : World} {b lb : Nat} {R : Nat → Prop} {c : CSt} {A : Option Addr} {n cap mb : Nat} (h : ClipHd w b lb R c A n cap mb) : w.cell? ⟨b, 1, none⟩ = some (.int .i64 c.owner) := by rw [h.cell]; rfl
theorem ClipHd.c2 {w : World} {b lb : Nat} {R : Nat → Prop} {c : CSt} {A : Option Addr} {n cap mb : Nat} (h : ClipHd w b lb R c A n cap mb) : w.cell? ⟨b, 2, none⟩ = some (.slice A n cap) := by rw [h.cell]; rfl
theorem ClipHd.c3 {w : World} {b lb : Nat} {R : Nat → Prop} {c : CSt} {A : Option Addr} {n cap mb : Nat} (h : ClipHd w b lb R c A n cap mb) : w.cell? ⟨b, 3, none⟩ = some (.int .i64 c.focus) := by rw [h.cell]; rfl
theorem ClipHd.c4 {w : World} {b lb : Nat} {R : Nat → Prop} {c : CSt} {A : Option Addr} {n cap mb : Nat} (h : ClipHd w b lb R c A n cap mb) : w.cell? ⟨b, 4, none⟩ = some (.int .i64 c.offers) := by rw [h.cell]; rfl
theorem ClipHd.c5 {w : World} {b lb : Nat} {R : Nat → Prop} {c : CSt} {A : Option Addr} {n cap mb : Nat} (h : ClipHd w b lb R c A n cap mb) : w.cell? ⟨b, 5, none⟩ = some (.bool c.used) := by rw [h.cell]; rfl
theorem ClipHd.c6 {w : World} {b lb : Nat} {R : Nat → Prop} {c : CSt} {A : Option Addr} {n cap mb : Nat} (h : ClipHd w b lb R c A n cap mb) : w.cell? ⟨b, 6, none⟩ = some (.int .u32 c.last) := by rw [h.cell]; rfl
theorem ClipHd.c7 {w : World} {b lb : Nat} {R : Nat → Prop} {c : CSt} {A : Option Addr} {n cap mb : Nat} (h : ClipHd w b lb R c A n cap mb) : w.cell? ⟨b, 7, none⟩ = some (.int .i64 c.flows.length) := by rw [h.cell]; rfl
theorem ClipHd.c8 {w : World} {b lb : Nat} {R : Nat → Prop} {c : CSt} {A : Option Addr} {n cap mb : Nat} (h : ClipHd w b lb R c A n cap mb) : w.cell? ⟨b, 8, none⟩ = some (.map (some mb)) := by rw [h.cell]; rfl

/-! ### made -/
theorem made_ok (b mb : Nat) (w : World) (h : w.cell? ⟨b, 8, none⟩ = some (.map (some mb))) :
    Calls Try.prog 56 #[.pointer (some ⟨b, 0, none⟩)] w fun e w' => e = .returned (.bool true) ∧ w = w' := by
  have hne := fun w => run_neq_map Try.underlying117 w (some mb)
  simp only [Option.isNone_some, Bool.not_false] at hne
  go_enter Try.func56, Try.ntmps56
  go_wp2
  go_ret
  exact ⟨rfl, rfl⟩
theorem made_nil (w : World) :
    Calls Try.prog 56 #[.pointer none] w fun e w' => e = .returned (.bool false) ∧ w = w' := by
  go_enter Try.func56, Try.ntmps56
  go_wp2
  go_ret
  exact ⟨rfl, rfl⟩
theorem made_at {w : World} {b lb : Nat} {R : Nat → Prop} {c : CSt} {A : Option Addr} {n cap mb : Nat} (h : ClipHd w b lb R c A n cap mb) :
    Calls Try.prog 56 #[.pointer (some ⟨b, 0, none⟩)] w fun e w' => e = .returned (.bool true) ∧ w = w' := made_ok b mb w h.c8

/-! ### New -/
theorem cnew_nil (w : World) : Calls Try.prog 13 #[.pointer none] w fun e w' => e = .returned (.pointer none) ∧ w = w' := by
  go_enter Try.func13, Try.ntmps13
  go_wp2
  go_ret
  exact ⟨rfl, rfl⟩
theorem clip_new (w : World) (lb : Nat) (hl : lb < w.heap.size) :
    ClipAt ((w.alloc (.map #[] 0)).alloc (.cells (ccells lb CSt.new none 0 0 w.heap.size).toArray 121)) (w.heap.size + 1) lb (fun x => x = w.heap.size ∨ x = w.heap.size + 1) CSt.new := by
  have hz : (w.alloc (.map #[] 0)).heap.size = w.heap.size + 1 := by simp
  have h1 := at_new (w.alloc (.map #[] 0)) (.cells (ccells lb CSt.new none 0 0 w.heap.size).toArray 121)
  rw [hz] at h1
  refine ⟨none, 0, 0, w.heap.size, h1, SArg.nil _, fun h => absurd h (by omega), ?_, fun x hx => by simp [CSt.new] at hx, fun x hx => by simp [CSt.new] at hx, List.Pairwise.nil, .inr rfl, .inl rfl, by omega, ?_, by omega, ?_, by simp [CSt.new], by simp [CSt.new], by simp [CSt.new]⟩
  · refine ((MapIs.made w).chg ((Chg.refl (fun _ => False) _).alloc _) (fun q => q)).congr (fun k => ?_)
    unfold flowMap CSt.new
    split <;> rfl
  · intro x hx; simp; omega
  · simp; omega
def CNewOut (w : World) (lb : Nat) (e : Ending) (w' : World) : Prop :=
  ∃ b R, e = .returned (.pointer (some ⟨b, 0, none⟩)) ∧ ClipAt w' b lb R CSt.new ∧ Same w w' ∧ (∀ x, R x → w.heap.size ≤ x)
theorem cnew_ok (w : World) (lb : Nat) (hl : lb < w.heap.size) : Calls Try.prog 13 #[.pointer (some ⟨lb, 0, none⟩)] w (CNewOut w lb) := by
  have hmm := @run_makeMap Try.prog
  have HN := Lib.hid (clip_new w lb hl)
  clear hl
  go_enter Try.func13, Try.ntmps13
  go_wp2
  go_ret
  refine ⟨_, _, rfl, HN.out, ((Chg.refl _ _).alloc _).alloc _, fun x hx => by omega⟩

/-! ### Owner -/
theorem cowner_ok {w : World} {b lb : Nat} {R : Nat → Prop} {c : CSt} (v : Int) (h : ClipAt w b lb R c) (hv : c.owner = v) :
    Calls Try.prog 17 #[.pointer (some ⟨b, 0, none⟩)] w fun e w' => e = .returned (.int .i64 v) ∧ w = w' := by
  obtain ⟨A, n, cap, mb, h⟩ := h
  subst hv
  have HM := Lib.hid (made_at h)
  have c1 := h.c1
  clear h
  go_enter Try.func17, Try.ntmps17
  go_wp2_with fail
  refine HM.out.mono ?_
  rintro e w' ⟨rfl, rfl⟩
  go_wp2
  go_ret
  exact ⟨rfl, rfl⟩
theorem cowner_nil (w : World) : Calls Try.prog 17 #[.pointer none] w fun e w' => e = .returned (.int .i64 0) ∧ w = w' := by
  go_enter Try.func17, Try.ntmps17
  go_wp2_with fail
  refine (made_nil _).mono ?_
  rintro e w' ⟨rfl, rfl⟩
  go_wp2
  go_ret
  exact ⟨rfl, rfl⟩

/-! ### use -/
theorem use_ok (b : Nat) (n : Int) (w : World) (v5 v6 : Value) (h5 : w.cell? ⟨b, 5, none⟩ = some v5) (h6 : w.cell? ⟨b, 6, none⟩ = some v6) (hf : ∀ i, w.frozen? ⟨b, i, none⟩ = false) :
    Calls Try.prog 59 #[.pointer (some ⟨b, 0, none⟩), .int .u32 n] w fun e w' => e = .returned (.tuple #[]) ∧ (w.setCell ⟨b, 5, none⟩ (.bool true)).setCell ⟨b, 6, none⟩ (.int .u32 n) = w' := by
  go_enter Try.func59, Try.ntmps59
  go_wp2
  go_end0
  exact ⟨rfl, rfl⟩

/-! ### valid -/
theorem check_bit (L : SLog) (n client kinds : Int) : L.check n client kinds = 0 ∨ L.check n client kinds = 13 := by
  unfold SLog.check; split
  · exact .inr rfl
  · split
    · exact .inl rfl
    · exact .inr rfl
theorem cvalid_ok {w : World} {b lb : Nat} {R : Nat → Prop} {c : CSt} {L : SLog} (bv : Bool) (client n : Int) (h : ClipAt w b lb R c) (hL : LogAt w lb L) (hv : c.validB L client n = bv) :
    Calls Try.prog 58 #[.pointer (some ⟨b, 0, none⟩), .int .i64 client, .int .u32 n] w fun e w' => e = .returned (.bool bv) ∧ Same w w' := by
  obtain ⟨A, m, cap, mb, h⟩ := h
  subst hv
  have HC := Lib.hid (check_ok lb w n client 2576 L hL)
  have c0 := h.c0
  have c5 := h.c5
  have c6 := h.c6
  have hb : b < w.heap.size := h.lt b h.rb
  have HB := Lib.hid hb
  clear h hL
  unfold CSt.validB
  rcases check_bit L n client 2576 with hk | hk
  · rw [hk] at HC ⊢
    cases hu : c.used
    · rw [hu] at c5
      clear hk hu
      go_enter Try.func58, Try.ntmps58
      go_wp2_with fail
      refine HC.out.mono ?_
      rintro e w1 ⟨rfl, hs⟩
      have d5 := hs.cell c5 (fun q => q)
      have HS := Lib.hid hs
      clear hs
      go_wp2
      go_ret
      exact ⟨rfl, HS.out⟩
    · rw [hu] at c5
      have hnw := fun w => newer_ok n c.last w
      clear hk hu
      go_enter Try.func58, Try.ntmps58
      go_wp2_with fail
      refine HC.out.mono ?_
      rintro e w1 ⟨rfl, hs⟩
      have d5 := hs.cell c5 (fun q => q)
      have d6 := hs.cell c6 (fun q => q)
      have HS := Lib.hid hs
      clear hs
      go_wp2_with fail
      refine (hnw _).mono ?_
      rintro e w2 ⟨rfl, rfl⟩
      go_wp2
      go_ret
      exact ⟨by simp, HS.out⟩
  · rw [hk] at HC ⊢
    clear hk
    go_enter Try.func58, Try.ntmps58
    go_wp2_with fail
    refine HC.out.mono ?_
    rintro e w1 ⟨rfl, hs⟩
    have HS := Lib.hid hs
    clear hs
    go_wp2
    go_ret
    exact ⟨rfl, HS.out⟩
end Go.Proofs.Ytndldjopgbhphaa
