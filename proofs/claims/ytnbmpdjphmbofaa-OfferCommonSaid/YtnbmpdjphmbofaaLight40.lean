/- compositorlaw40.light, prog, want. -/
import Derived.Test.YtnbmpdjphmbofaaArg40
import Derived.Test.YtnbmpdjphmbofaaEx40
set_option linter.unusedVariables false
set_option linter.unusedSimpArgs false
set_option maxRecDepth 100000
namespace Go.Proofs.Ytnbmpdjphmbofaa
open Go.RowKit

def lightB (fs : List ByteArray) : Bool := decide (fs.length ≤ 40) && fs.all fun f => decide (f.size ≤ 100)
theorem light_len {fs : List ByteArray} (h : lightB fs = true) : fs.length ≤ 40 ∧ ∀ f ∈ fs, f.size ≤ 100 := by
  unfold lightB at h
  rw [Bool.and_eq_true, decide_eq_true_eq, List.all_eq_true] at h
  exact ⟨h.1, fun f hf => of_decide_eq_true (h.2 f hf)⟩
theorem light_far {fs : List ByteArray} {i : Nat} {x : ByteArray} (hx : fs[i]? = some x) (h : 100 < x.size) : lightB fs = false := by
  unfold lightB
  rw [Bool.and_eq_false_iff]
  right
  rw [List.all_eq_false]
  exact ⟨x, List.mem_of_getElem? hx, by simp; omega⟩
theorem light_all {fs : List ByteArray} (h : fs.length ≤ 40) (ha : ∀ (j : Nat) x, fs[j]? = some x → x.size ≤ 100) : lightB fs = true := by
  unfold lightB
  rw [decide_eq_true h, Bool.true_and, List.all_eq_true]
  intro x hx
  obtain ⟨j, hj⟩ := List.getElem?_of_mem hx
  exact decide_eq_true (ha j x hj)
set_option maxRecDepth 100000 in
set_option maxHeartbeats 4000000 in
theorem light_ok (A : Option Addr) (n cap : Nat) (fs : List ByteArray) (w : World) (h : SArg w A n cap fs) :
    Calls Try.prog 10 #[.slice A n cap] w fun e w' => e = .returned (.bool (lightB fs)) ∧ w = w' := by
  have hl := h.1.1
  have hm := h.2.1
  have hm2 := h.2.2
  unfold maxLen at hm2
  have HA := Lib.hid h.1
  clear h
  by_cases hg : 40 < n
  · have HB := Lib.hid (show lightB fs = false by unfold lightB; rw [decide_eq_false (by omega)]; rfl)
    clear hl
    go_enter Try.func10, Try.ntmps10
    go_wp2
    go_ret
    exact ⟨by rw [HB.out]; rfl, rfl⟩
  · have HL := Lib.hid hl
    clear hl
    go_enter Try.func10, Try.ntmps10
    go_wp2
    go_loop [3] (fun v3 => ∃ i : Nat, i ≤ n ∧ v3 = .int .i64 i ∧ ∀ (j : Nat) x, j < i → fs[j]? = some x → x.size ≤ 100) (fun v3 => n - (intOf v3).toNat)
    case atStart => exact ⟨0, by omega, rfl, fun j _ hj => by omega⟩
    case round =>
      obtain ⟨i, hi, rfl, hf⟩ := hrel
      have HF := Lib.hid hf
      clear hf
      by_cases hlt : i < n
      · have hil : i < fs.length := by rw [HL.out]; exact hlt
        obtain ⟨b, o, rfl, hbl, hc⟩ := HA.out.2 (by omega)
        obtain ⟨y, hy⟩ : ∃ y, y = fs[i] := ⟨_, rfl⟩
        have hy2 : fs[i]? = some y := by rw [hy]; exact List.getElem?_eq_getElem hil
        have hcell := hc i y hy2
        have HY := Lib.hid hy2
        have hii : (i : Int) < n := by omega
        clear hc hy hy2 hbl hil
        by_cases hb : 100 < y.size
        · have hbi : (100 : Int) < y.size := by omega
          have HB := Lib.hid (light_far HY.out hb)
          go_wp2
          go_ret
          exact ⟨by rw [HB.out]; rfl, rfl⟩
        · have hbi : ¬ (100 : Int) < y.size := by omega
          have HB := Lib.hid hb
          clear hb
          go_wp2
          go_round
          case rel =>
            refine ⟨i + 1, by omega, by go_num, fun j x hj hx => ?_⟩
            by_cases hji : j = i
            · subst hji
              rw [HY.out] at hx
              cases hx
              have := HB.out
              omega
            · exact HF.out j x (by omega) hx
          case measure => simp [intOf]; omega
      · have hie : i = n := by omega
        have hlt' : ¬ (i : Int) < n := by omega
        have HB := Lib.hid (light_all (fs := fs) (by rw [HL.out]; omega) (fun j x hx => HF.out j x (by rw [hie, ← HL.out]; exact (List.getElem?_eq_some_iff.1 hx).1) hx))
        clear hie
        go_wp2
        go_ret
        exact ⟨by rw [HB.out]; rfl, rfl⟩
theorem light_v (b : Bool) (A : Option Addr) (n cap : Nat) (fs : List ByteArray) (w : World) (h : SArg w A n cap fs) (hb : lightB fs = b) :
    Calls Try.prog 10 #[.slice A n cap] w fun e w' => e = .returned (.bool b) ∧ w = w' := by
  subst hb
  exact light_ok A n cap fs w h

theorem infoOffer : (Try.prog.info? 29).map (fun i => i.size) = some 2 := by kernel_rfl
theorem infoUOffer : (Try.prog.info? 24).map (fun i => i.size) = some 2 := by kernel_rfl
theorem run_load_of {w : World} {g : Nat} {a b : Value} (h : w.heap[g]? = some (.cells #[a, b] 29 (0, 0))) : (loadVar 29 ⟨g, 0, none⟩).run Try.prog w = .ok (.agg #[a, b]) w :=
  run_loadMid (P := Try.prog) (C := [a, b]) 29 0 2 _ h infoOffer Try.underlying29 rfl (by simp)
theorem run_load_uof {w : World} {g : Nat} {a b : Value} (h : w.heap[g]? = some (.cells #[a, b] 24 (0, 0))) : (loadVar 24 ⟨g, 0, none⟩).run Try.prog w = .ok (.agg #[a, b]) w :=
  run_loadMid (P := Try.prog) (C := [a, b]) 24 0 2 _ h infoUOffer Try.underlying24 rfl (by simp)
theorem at_new2 (w : World) (o o2 : Obj) : ((w.alloc o).alloc o2).heap[w.heap.size + 1]? = some o2 := by
  have e := at_new (w.alloc o) o2
  have hs : (w.alloc o).heap.size = w.heap.size + 1 := by simp
  rw [hs] at e
  exact e
set_option maxRecDepth 100000 in
theorem prog_ok (A : Option Addr) (n cap : Nat) (acts : Int) (w : World) :
    Calls Try.prog 13 #[.agg #[.slice A n cap, .int .i64 acts]] w fun e w' => e = .returned (.agg #[.slice A n cap, .int .i64 acts]) ∧ Same w w' := by
  go_enter Try.func13, Try.ntmps13
  go_wp2
  exact bodyPost_ret (results_cell1 Try.results13 rfl (run_load_of (at_new2 _ _ _))) rfl ⟨rfl, ((Chg.refl _ _).alloc _).alloc _⟩
set_option maxRecDepth 100000 in
theorem want_ok (A : Option Addr) (n cap : Nat) (acts : Int) (w : World) :
    Calls Try.prog 23 #[.agg #[.slice A n cap, .int .i64 acts]] w fun e w' => e = .returned (.agg #[.slice A n cap, .int .i64 acts]) ∧ Same w w' := by
  go_enter Try.func23, Try.ntmps23
  go_wp2
  exact bodyPost_ret (results_cell1 Try.results23 rfl (run_load_uof (at_new2 _ _ _))) rfl ⟨rfl, ((Chg.refl _ _).alloc _).alloc _⟩
end Go.Proofs.Ytnbmpdjphmbofaa
