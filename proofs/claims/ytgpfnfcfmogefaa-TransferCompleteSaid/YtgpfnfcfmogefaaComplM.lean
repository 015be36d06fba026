/- The walk of TransferComplete: for all arguments it returns true and leaves what was there as it was. -/
import Derived.Test.YtgpfnfcfmogefaaEx41
import Derived.Test.YtgpfnfcfmogefaaOwnG
set_option linter.unusedVariables false
set_option linter.unusedSimpArgs false
namespace Go.Proofs.Ytgpfnfcfmogefaa
open Go.RowKit

set_option maxRecDepth 100000 in
set_option maxHeartbeats 2000000 in
theorem complete_large (A : Option Addr) (len cap : Nat) (a1 a2 : Int) (w : World) (hl : 3000 < (len : Int)) (hcm : len ≤ 9223372036854775807) :
    Calls Try.prog 3 #[.slice A len cap, .int .u8 a1, .int .u8 a2] w fun e w' => e = .returned (.bool true) ∧ Same w w' := by
  go_enter Try.func3, Try.ntmps3
  go_wp2_with fail
  refine (example41_ok _).mono ?_
  rintro e w1 ⟨rfl, hs⟩
  have HS := Lib.hid hs
  clear hs
  go_wp2
  go_ret
  exact ⟨rfl, HS.out⟩

/-- p bytes are written, g of them are read: what lies in the pipe. -/
def cst (n : Nat) (xs : List Int) (p g : Nat) : PSt := ⟨n, (n : Int) - ((p : Int) - g), (xs.take p).drop g, false, false⟩
def CRel (w : World) (b n N : Nat) (xs : List Int) (v11 v12 v49 : Value) (wr : World) : Prop :=
  ∃ p g i A12 c12 R, p ≤ N ∧ g ≤ p ∧ p < g + n ∧ i ≤ p ∧ v49 = .int .i64 (i : Nat) ∧ v12 = .slice A12 (N - p) c12 ∧ BytesAt w (fun _ => True) A12 (N - p) c12 (xs.drop p) ∧
    OwnG w wr R v11 (xs.take g) ∧ Pip w wr b R (cst n xs p g)
theorem cst_len {xs : List Int} {N : Nat} (hx : xs.length = N) {p g : Nat} (hp : p ≤ N) (hg : g ≤ p) : ((xs.take p).drop g).length = p - g := by
  rw [List.length_drop, List.length_take]; omega
/-- A write of all that is left. -/
theorem cst_write {n N : Nat} {xs : List Int} (hx : xs.length = N) {p g : Nat} (hp : p ≤ N) (hg : g ≤ p) (h : p < g + n) {m : Nat} (hm : m = min (N - p) (n - (p - g))) :
    (cst n xs p g).wrN (xs.drop p).length = m ∧ (cst n xs p g).wrE = 0 ∧ (cst n xs p g).write (xs.drop p) = cst n xs (p + m) g := by
  have e1 : (cst n xs p g).wrN (xs.drop p).length = m := by
    unfold PSt.wrN PSt.over cst
    simp only [Bool.or_self, Bool.false_eq_true, if_false, List.length_drop, hx]
    omega
  refine ⟨e1, rfl, ?_⟩
  unfold PSt.write
  rw [e1]
  unfold cst
  simp only [PSt.mk.injEq, and_true, true_and]
  refine ⟨by omega, ?_⟩
  rw [List.take_add, List.drop_append_of_le_length (by rw [List.length_take]; omega)]
/-- A read of what is there, and the credit granted anew. -/
theorem cst_read {n N k : Nat} {xs : List Int} (hx : xs.length = N) {p g : Nat} (hp : p ≤ N) (hg : g ≤ p) {j : Nat} (hj : j = min k (p - g)) {kk : Int} (hk : kk = k) :
    (cst n xs p g).rdE kk = 0 ∧ (cst n xs p g).rd kk = (xs.drop g).take j ∧ (cst n xs p g).read kk = ⟨n, (n : Int) - ((p : Int) - g), (xs.take p).drop (g + j), false, false⟩ ∧ ((xs.drop g).take j).length = j := by
  subst hk
  have e0 : (cst n xs p g).rdE k = 0 := by unfold PSt.rdE cst; simp <;> omega
  have e1 : (cst n xs p g).rdN k = j := by
    unfold PSt.rdN
    rw [if_pos e0, Int.toNat_natCast]
    unfold cst
    simp only [cst_len hx hp hg]
    omega
  refine ⟨e0, ?_, ?_, ?_⟩
  · unfold PSt.rd
    rw [e1]
    unfold cst
    simp only
    rw [List.drop_take, List.take_take, show min j (p - g) = j by omega]
  · unfold PSt.read
    rw [e1]
    unfold cst
    simp only [List.drop_drop]
  · rw [List.length_take, List.length_drop, hx]; omega
theorem cls_read {n N k : Nat} {xs : List Int} (hx : xs.length = N) {g : Nat} (hg : g < N) {j : Nat} (hj : j = min k (N - g)) {kk : Int} (hk : kk = k) :
    (⟨n, 0, xs.drop g, true, false⟩ : PSt).rdE kk = 0 ∧ (⟨n, 0, xs.drop g, true, false⟩ : PSt).rd kk = (xs.drop g).take j ∧ (⟨n, 0, xs.drop g, true, false⟩ : PSt).read kk = ⟨n, 0, xs.drop (g + j), true, false⟩ ∧ ((xs.drop g).take j).length = j := by
  subst hk
  have hne : (xs.drop g).isEmpty = false := by
    cases hd : xs.drop g with
    | nil => have := congrArg List.length hd; rw [List.length_drop, hx] at this; simp at this; omega
    | cons a l => rfl
  have e0 : (⟨n, 0, xs.drop g, true, false⟩ : PSt).rdE k = 0 := by
    unfold PSt.rdE
    simp only [hne]
    rw [if_neg (by omega)]
    rfl
  have e1 : (⟨n, 0, xs.drop g, true, false⟩ : PSt).rdN k = j := by
    unfold PSt.rdN
    rw [if_pos e0, Int.toNat_natCast]
    simp only [List.length_drop, hx]
    omega
  refine ⟨e0, ?_, ?_, ?_⟩
  · unfold PSt.rd; rw [e1]
  · unfold PSt.read; rw [e1]; simp only [List.drop_drop]
  · rw [List.length_take, List.length_drop, hx]; omega
theorem cls_over {n N k : Nat} {xs : List Int} (hx : xs.length = N) {kk : Int} (hk : kk = k) :
    (⟨n, 0, xs.drop N, true, false⟩ : PSt).rdE kk = 20 ∧ (⟨n, 0, xs.drop N, true, false⟩ : PSt).rd kk = [] ∧ (⟨n, 0, xs.drop N, true, false⟩ : PSt).read kk = ⟨n, 0, [], true, false⟩ := by
  subst hk
  have hd : xs.drop N = [] := by rw [← hx]; exact List.drop_length
  rw [hd]
  have e0 : (⟨n, 0, [], true, false⟩ : PSt).rdE k = 20 := by unfold PSt.rdE; rw [if_neg (by omega)]; rfl
  exact ⟨e0, by unfold PSt.rd; simp, by unfold PSt.read; simp⟩
theorem cst_close {n N : Nat} {xs : List Int} (hx : xs.length = N) (g : Nat) : (cst n xs N g).clE = 0 ∧ (cst n xs N g).close = ⟨n, 0, xs.drop g, true, false⟩ := by
  refine ⟨rfl, ?_⟩
  unfold PSt.close PSt.over cst
  simp only [Bool.or_self, Bool.false_eq_true, if_false]
  rw [← hx, List.take_length]
theorem cst_grant {n N : Nat} {xs : List Int} (hx : xs.length = N) {p g j : Nat} (hp : p ≤ N) (hj : g + j ≤ p) :
    (⟨n, (n : Int) - ((p : Int) - g), (xs.take p).drop (g + j), false, false⟩ : PSt).grE j = 0 ∧ (⟨n, (n : Int) - ((p : Int) - g), (xs.take p).drop (g + j), false, false⟩ : PSt).grant j = cst n xs p (g + j) := by
  have hl := cst_len hx hp hj
  have e0 : (⟨n, (n : Int) - ((p : Int) - g), (xs.take p).drop (g + j), false, false⟩ : PSt).grE j = 0 := by
    unfold PSt.grE PSt.over
    simp only [hl, Bool.or_self, Bool.false_eq_true, if_false]
    rw [if_neg (by omega), if_neg (by omega)]
  refine ⟨e0, ?_⟩
  unfold PSt.grant
  rw [if_pos e0]
  unfold cst
  simp only [PSt.mk.injEq, and_true, true_and]
  omega
theorem take_more (xs : List Int) (g j : Nat) : xs.take g ++ (xs.drop g).take j = xs.take (g + j) := by rw [List.take_add]
/-- Behind the first loop: closed, g bytes read. -/
def CRel2 (w : World) (b n N : Nat) (xs : List Int) (v11 v110 : Value) (wr : World) : Prop :=
  ∃ g i R, g ≤ N ∧ i ≤ g ∧ v110 = .int .i64 (i : Nat) ∧ OwnG w wr R v11 (xs.take g) ∧ Pip w wr b R ⟨n, 0, xs.drop g, true, false⟩
end Go.Proofs.Ytgpfnfcfmogefaa
