/- What SerialLatest and SerialForgets share: a log that calls of Issue have filled. -/
import Derived.Test.YtchodbcfncdmaaaLight31
import Derived.Test.YtchodbcfncdmaaaSerI
import Derived.Deep.RegionHeld3
set_option linter.unusedVariables false
set_option linter.unusedSimpArgs false
namespace Go.Proofs.Ytchodbcfncdmaaa
open Go.RowKit

/-- The log in block B after the first i calls. -/
def BuildRel (w : World) (B : Nat) (l : List LOp) (v8 v9 : Value) (wr : World) : Prop :=
  ∃ (i N : Nat) (L : SLog) (g : Nat → Ent), i ≤ l.length ∧ v9 = .int .i64 i ∧ v8 = .int .u32 N ∧ L.inv N g ∧ (N : Int) ≤ manySum (l.take i) ∧ LogAt wr B L ∧ Same w wr
def BuildIn (w : World) (B : Nat) (S m : Int) (v8 v10 : Value) (wr : World) : Prop :=
  ∃ (k N : Nat) (L : SLog) (g : Nat → Ent), (k : Int) ≤ m ∧ v10 = .int .i64 k ∧ v8 = .int .u32 N ∧ L.inv N g ∧ (N : Int) ≤ S + k ∧ LogAt wr B L ∧ Same w wr

theorem manySum_take_le (l : List LOp) (h : ∀ x ∈ l, manyOk x = true) (i : Nat) : manySum (l.take i) ≤ manySum l := by
  have h1 : manySum l = manySum (l.take i) + manySum (l.drop i) := by
    unfold manySum
    rw [← List.sum_append, ← List.map_append, List.take_append_drop]
  have h2 := sum_bd (l.drop i) (fun x hx => h x (List.mem_of_mem_drop hx))
  omega
theorem light_facts {l : List LOp} (h : lightB l = true) : l.length ≤ 40 ∧ (∀ x ∈ l, manyOk x = true) ∧ manySum l ≤ 700 := by
  unfold lightB at h
  simp only [Bool.and_eq_true, decide_eq_true_eq, List.all_eq_true] at h
  exact ⟨h.1.1, h.1.2, h.2⟩

end Go.Proofs.Ytchodbcfncdmaaa
