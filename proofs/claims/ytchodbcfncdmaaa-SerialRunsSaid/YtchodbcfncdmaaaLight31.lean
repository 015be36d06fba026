/- light of compositorlaw31: whether the calls are few. -/
import Derived.Test.YtchodbcfncdmaaaArgs31
import Derived.Test.YtchodbcfncdmaaaEx31
set_option linter.unusedVariables false
set_option linter.unusedSimpArgs false
namespace Go.Proofs.Ytchodbcfncdmaaa
open Go.RowKit

def manyOk (x : LOp) : Bool := decide (0 ≤ x.many) && decide (x.many ≤ 300)
def manySum (l : List LOp) : Int := (l.map (·.many)).sum
def lightB (l : List LOp) : Bool := decide (l.length ≤ 40) && l.all manyOk && decide (manySum l ≤ 700)

theorem RowsAt.at_ {α : Type} {w : World} {A : Option Addr} {len n : Nat} {f : α → List Value} {l : List α} (h : RowsAt w A len n f l) {i : Nat} (hi : i < len) :
    ∃ b o x, A = some ⟨b, o, none⟩ ∧ b < w.heap.size ∧ l[i]? = some x ∧ ∀ j v, (f x)[j]? = some v → w.cell? ⟨b, o + i * n + j, none⟩ = some v := by
  obtain ⟨b, o, hA, hb, hc⟩ := h.2 (by omega)
  have hx : l[i]? = some (l[i]'(by rw [h.1]; exact hi)) := List.getElem?_eq_getElem (by rw [h.1]; exact hi)
  exact ⟨b, o, _, hA, hb, hx, hc i _ hx⟩

theorem sum_take_succ (l : List LOp) (i : Nat) (x : LOp) (hx : l[i]? = some x) : manySum (l.take (i + 1)) = manySum (l.take i) + x.many := by
  unfold manySum
  rw [List.take_add_one, hx]
  simp
theorem sum_bd (l : List LOp) (h : ∀ x ∈ l, manyOk x = true) : 0 ≤ manySum l ∧ manySum l ≤ 300 * l.length := by
  induction l with
  | nil => simp [manySum]
  | cons x l ih =>
    have h1 := ih (fun y hy => h y (by simp [hy]))
    have h2 := h x (by simp)
    simp [manyOk] at h2
    unfold manySum at *
    simp only [List.map_cons, List.sum_cons, List.length_cons]
    omega

def LightRel (l : List LOp) (v3 v4 : Value) : Prop :=
  ∃ i : Nat, i ≤ l.length ∧ v4 = .int .i64 i ∧ v3 = .int .i64 (manySum (l.take i)) ∧ ∀ x ∈ l.take i, manyOk x = true

set_option maxRecDepth 100000 in
set_option maxHeartbeats 1000000 in
theorem light_ok (A : Option Addr) (len cap : Nat) (l : List LOp) (w : World) (h : OpsAt w A len l) :
    Calls Try.prog 16 #[.slice A len cap] w fun e w' => e = .returned (.bool (lightB l)) ∧ w = w' := by
  obtain ⟨hR, hok, hml⟩ := h
  have hlen := hR.1
  by_cases h40 : len ≤ 40
  · have h40' : ¬ (40 : Int) < (len : Int) := by omega
    have HR := Lib.hid hR
    have HOK := Lib.hid hok
    have HLEN := Lib.hid hlen
    clear hR hok hlen hml
    go_enter Try.func16, Try.ntmps16
    go_wp2
    go_loop [3, 4] (fun v3 v4 => LightRel l v3 v4) (fun _ v4 => len - (intOf v4).toNat)
    case atStart => exact ⟨0, by omega, rfl, rfl, fun x hx => by simp at hx⟩
    case round =>
      obtain ⟨i, hi, rfl, rfl, hall⟩ := hrel
      rw [HLEN.out] at hi
      have hbd := sum_bd _ hall
      have hlt : (l.take i).length ≤ 40 := by rw [List.length_take, HLEN.out]; omega
      have HALL := Lib.hid hall
      clear hall
      by_cases hlt2 : i < len
      · have hb2 : (i : Int) < len := by omega
        obtain ⟨b, o, x, rfl, _, hx, hc⟩ := HR.out.at_ hlt2
        have c1 := hc 1 _ rfl
        have HX := Lib.hid hx
        have hsum := Lib.hid (sum_take_succ l i x hx)
        obtain ⟨k, m, c, s, e, ms, bk⟩ := x
        simp only at c1
        clear hc hx
        generalize hS : manySum (l.take i) = S at *
        have HS := Lib.hid hS
        clear hS
        by_cases hm : 0 ≤ m ∧ m ≤ 300
        · obtain ⟨hm0, hm1⟩ := hm
          go_wp2
          go_round
          case rel =>
            refine ⟨i + 1, by rw [HLEN.out]; omega, by go_num, by rw [hsum.out], fun y hy => ?_⟩
            rw [List.take_add_one, HX.out] at hy
            rcases List.mem_append.1 hy with h1 | h1
            · exact HALL.out y h1
            · simp at h1; subst h1; simp [manyOk]; omega
          case measure => simp [intOf]; omega
        · have hl : lightB l = false := by
            unfold lightB
            have : l.all manyOk = false := by
              rw [List.all_eq_false]
              exact ⟨_, List.mem_of_getElem? HX.out, by simp [manyOk]; omega⟩
            rw [this]; simp
          have HLB := Lib.hid hl
          clear hl
          by_cases hm0 : m < 0
          · clear hm
            go_wp2
            go_ret
            exact ⟨by rw [HLB.out]; rfl, rfl⟩
          · have hm1 : 300 < m := by omega
            clear hm
            go_wp2
            go_ret
            exact ⟨by rw [HLB.out]; rfl, rfl⟩
      · have hb2 : ¬ (i : Int) < len := by omega
        have hi2 : i = len := by omega
        have hfin : lightB l = decide (manySum (l.take i) ≤ 700) := by
          have e : l.take i = l := List.take_of_length_le (by rw [HLEN.out]; omega)
          have h1 := HALL.out
          rw [e] at h1 ⊢
          unfold lightB
          rw [List.all_eq_true.2 h1, HLEN.out]
          simp [h40]
        have HF := Lib.hid hfin
        clear hfin hi2
        generalize manySum (l.take i) = S at *
        go_wp2
        go_ret
        exact ⟨by rw [HF.out]; rfl, rfl⟩
  · have h40' : (40 : Int) < (len : Int) := by omega
    have hfin : lightB l = false := by unfold lightB; rw [hlen]; simp [h40]
    have HF := Lib.hid hfin
    clear hR hok hlen hml hfin
    go_enter Try.func16, Try.ntmps16
    go_wp2
    go_ret
    exact ⟨by rw [HF.out]; rfl, rfl⟩
end Go.Proofs.Ytchodbcfncdmaaa
