/- As XPath, where two operations may be ready at once: both are followed. -/
import Derived.Test.YtndldjopgbhphaaPk01
set_option linter.unusedVariables false
set_option linter.unusedSimpArgs false
set_option maxRecDepth 100000
namespace Go.Proofs.Ytndldjopgbhphaa
open Go.RowKit

/-- The orders: what only reads, what is carried out alone, two of which either may come first. -/
inductive PT where
  | nil
  | rd (i : Nat) (t : PT)
  | one (i : Nat) (t : PT)
  | fork (i j : Nat) (t u : PT)
  | fork3 (i j k : Nat) (t u v : PT)
def PT.len : PT → Nat
  | .nil => 0
  | .rd _ t => t.len + 1
  | .one _ t => t.len + 1
  | .fork _ _ t _ => t.len + 1
  | .fork3 _ _ _ t _ _ => t.len + 1
section
variable {P : Program} {ops : Array Oper} {Q : Exit → Act → World → Prop} {md : Region.Mode} {S : World → Prop} {last : Nat}
def tree (P : Program) (ops : Array Oper) (Q : Exit → Act → World → Prop) (S : World → Prop) (last : Nat) : PT → Act → World → Prop
  | .nil, a, w => Q .normal a w
  | .rd i t, a, w => ∃ o v, ops[i]? = some o ∧ (∀ c a w, Q (.panic c) (a.put o.dst v) w → Q (.panic c) a w) ∧ YieldsIf P ops S o v a ∧ tree P ops Q S last t (a.put o.dst v) w
  | .one i t, a, w => wpOp P ops Q i (fun a' w' => (i = last ∨ S w') ∧ tree P ops Q S last t a' w') a w
  | .fork i j t u, a, w => wpOp P ops Q i (fun a' w' => (i = last ∨ S w') ∧ tree P ops Q S last t a' w') a w ∧ wpOp P ops Q j (fun a' w' => (j = last ∨ S w') ∧ tree P ops Q S last u a' w') a w
  | .fork3 i j k t u v, a, w => wpOp P ops Q i (fun a' w' => (i = last ∨ S w') ∧ tree P ops Q S last t a' w') a w ∧ wpOp P ops Q j (fun a' w' => (j = last ∨ S w') ∧ tree P ops Q S last u a' w') a w ∧ wpOp P ops Q k (fun a' w' => (k = last ∨ S w') ∧ tree P ops Q S last v a' w') a w
def treeB (md : Region.Mode) (ops : Array Oper) (last : Nat) : PT → Array Bool → Bool
  | .nil, listed => (Region.ready md ops listed).isEmpty
  | .rd i t, listed => (Region.ready md ops listed).contains i && Region.free md ops listed i && waits md ops last i && treeB md ops last t (listed.setIfInBounds i true)
  | .one i t, listed => decide (Region.ready md ops listed = [i]) && (i != last || decide (t.len = 0)) && treeB md ops last t (listed.setIfInBounds i true)
  | .fork i j t u, listed => decide (Region.ready md ops listed = [i, j]) && i != last && j != last && decide (t.len = u.len) && treeB md ops last t (listed.setIfInBounds i true) && treeB md ops last u (listed.setIfInBounds j true)
  | .fork3 i j k t u v, listed => decide (Region.ready md ops listed = [i, j, k]) && i != last && j != last && k != last && decide (t.len = u.len) && decide (t.len = v.len) && treeB md ops last t (listed.setIfInBounds i true) && treeB md ops last u (listed.setIfInBounds j true) && treeB md ops last v (listed.setIfInBounds k true)
theorem len_nil {t : PT} (h : t.len = 0) : t = .nil := by cases t <;> simp [PT.len] at h; rfl
theorem anyBut_tree (hsel : Region.noSelect ops = true) : ∀ (t : PT) (listed : Array Bool) (a : Act) (w : World), treeB md ops last t listed = true → (t.len ≠ 0 → S w) → tree P ops Q S last t a w → anyBut P md ops Q S last t.len listed a w
  | .nil, listed, a, w, hB, _, h => ⟨by simpa [treeB] using hB, h⟩
  | .rd i t, listed, a, w, hB, hS, h => by
    simp only [treeB, Bool.and_eq_true] at hB
    obtain ⟨⟨⟨hr, hf⟩, hw⟩, hB⟩ := hB
    obtain ⟨o, v, ho, hQ, hy, hk⟩ := h
    exact anyBut_take ho hsel hQ (waits_spec hw) t.len listed a w (Region.free_spec ho hf) (by simpa using hr) hy (hS (by simp [PT.len])) (anyBut_tree hsel t _ _ _ hB (fun _ => hS (by simp [PT.len])) hk)
  | .one i t, listed, a, w, hB, hS, h => by
    simp only [treeB, Bool.and_eq_true, decide_eq_true_eq, Bool.or_eq_true, bne_iff_ne, ne_eq] at hB
    obtain ⟨⟨hr, hl⟩, hB⟩ := hB
    refine ⟨fun e => (by rw [hr] at e; cases e), fun j hj => ?_⟩
    rw [hr] at hj
    obtain rfl : j = i := by simpa using hj
    exact wpOp_mono (fun a' w' k => ⟨k.1, anyBut_tree hsel t _ _ _ hB (fun hne => k.1.resolve_left (hl.resolve_right hne)) k.2⟩) h
  | .fork i j t u, listed, a, w, hB, hS, h => by
    simp only [treeB, Bool.and_eq_true, decide_eq_true_eq, bne_iff_ne, ne_eq] at hB
    obtain ⟨⟨⟨⟨⟨hr, hi⟩, hj⟩, hlen⟩, hB1⟩, hB2⟩ := hB
    refine ⟨fun e => (by rw [hr] at e; cases e), fun k hk => ?_⟩
    rw [hr] at hk
    simp only [List.mem_cons, List.not_mem_nil, or_false] at hk
    rcases hk with rfl | rfl
    · exact wpOp_mono (fun a' w' q => ⟨q.1, anyBut_tree hsel t _ _ _ hB1 (fun _ => q.1.resolve_left hi) q.2⟩) h.1
    · refine wpOp_mono (fun a' w' q => ⟨q.1, ?_⟩) h.2
      have := anyBut_tree hsel u _ _ _ hB2 (fun _ => q.1.resolve_left hj) q.2
      rw [← hlen] at this
      exact this
  | .fork3 i j k t u v, listed, a, w, hB, hS, h => by
    simp only [treeB, Bool.and_eq_true, decide_eq_true_eq, bne_iff_ne, ne_eq] at hB
    obtain ⟨⟨⟨⟨⟨⟨⟨⟨hr, hi⟩, hj⟩, hk⟩, hlu⟩, hlv⟩, hB1⟩, hB2⟩, hB3⟩ := hB
    refine ⟨fun e => (by rw [hr] at e; cases e), fun m hm => ?_⟩
    rw [hr] at hm
    simp only [List.mem_cons, List.not_mem_nil, or_false] at hm
    rcases hm with rfl | rfl | rfl
    · exact wpOp_mono (fun a' w' q => ⟨q.1, anyBut_tree hsel t _ _ _ hB1 (fun _ => q.1.resolve_left hi) q.2⟩) h.1
    · refine wpOp_mono (fun a' w' q => ⟨q.1, ?_⟩) h.2.1
      have := anyBut_tree hsel u _ _ _ hB2 (fun _ => q.1.resolve_left hj) q.2
      rw [← hlu] at this
      exact this
    · refine wpOp_mono (fun a' w' q => ⟨q.1, ?_⟩) h.2.2
      have := anyBut_tree hsel v _ _ _ hB3 (fun _ => q.1.resolve_left hk) q.2
      rw [← hlv] at this
      exact this

theorem region_tree {id : Nat} {l : List Oper} {a : Act} {w : World} (S : World → Prop) (last : Nat) (t : PT) (hm : P.follows .mixedOrders = true) (hsel : Region.noSelect l.toArray = true)
    (hB : (decide (t.len = l.toArray.size) && treeB .any l.toArray last t (Array.replicate l.toArray.size false)) = true) (hS : S w.drew) (h : tree P l.toArray Q S last t a w.drew) : (Code.region id l.toArray true).wp P Q a w := by
  simp only [Bool.and_eq_true, decide_eq_true_eq] at hB
  refine wp_region_any hm (any_of_anyBut (S := S) (last := last) _ _ _ _ ?_)
  have := anyBut_tree (Q := Q) hsel t _ a w.drew hB.2 (fun _ => hS) h
  rw [hB.1] at this
  exact this

theorem tree_read {L : List Oper} {i : Nat} {t : PT} {o : Oper} {v : Value} {a : Act} {w : World} (ho : L[i]? = some o) (hw : Region.wanted o (yielded L.toArray a.tmps) = true) (hQ : ∀ c a w, Q (.panic c) (a.put o.dst v) w → Q (.panic c) a w)
    (hy : ∀ w, S w → (execOp a.eval o).run P w = .ok (.value v) w) (h : tree P L.toArray Q S last t (a.put o.dst v) w) : tree P L.toArray Q S last (.rd i t) a w :=
  ⟨o, v, by simpa using ho, hQ, .inl ⟨hw, hy⟩, h⟩
theorem tree_pass {L : List Oper} {i : Nat} {t : PT} {o : Oper} {a : Act} {w : World} (ho : L[i]? = some o) (hw : Region.wanted o (yielded L.toArray a.tmps) = false) (hQ : ∀ c a w, Q (.panic c) (a.put o.dst undef) w → Q (.panic c) a w)
    (h : tree P L.toArray Q S last t (a.put o.dst undef) w) : tree P L.toArray Q S last (.rd i t) a w :=
  ⟨o, undef, by simpa using ho, hQ, .inr ⟨hw, rfl⟩, h⟩
theorem tree_end {a : Act} {w : World} (h : Q .normal a w) : tree P ops Q S last .nil a w := h
theorem tree_op {L : List Oper} {i : Nat} {t : PT} {o : Oper} {a : Act} {w : World} (ho' : L[i]? = some o) (h : wpList P L.toArray (Exit.then (fun a' w' => (i = last ∨ S w') ∧ tree P L.toArray Q S last t a' w') Q) [o] a w) : wpOp P L.toArray Q i (fun a' w' => (i = last ∨ S w') ∧ tree P L.toArray Q S last t a' w') a w := by
  have ho : L.toArray[i]? = some o := by simpa using ho'
  unfold wpOp
  simp only [ho]
  simp only [wpList] at h
  split
  · rename_i hw
    rw [if_pos hw] at h
    rcases h with h | h
    · refine .inl ?_
      unfold Oper.wp at *
      generalize (execOp a.eval o).run P w = r at *
      cases r with
      | ok n w' =>
        cases n <;> simp only [Oper.upon] at h ⊢ <;>
          first
            | exact h
            | exact Calls.mono h (fun e w'' he => by cases e <;> exact he)
            | exact Rows.mono h (fun _ _ he => he)
      | halt x w' => cases x <;> simp only [Oper.upon] at h ⊢ <;> exact h
    · exact .inr ⟨h.1, h.2⟩
  · rename_i hw
    rw [if_neg hw] at h
    exact h
theorem tree_one {L : List Oper} {i : Nat} {t : PT} {o : Oper} {a : Act} {w : World} (ho : L[i]? = some o) (h : wpList P L.toArray (Exit.then (fun a' w' => (i = last ∨ S w') ∧ tree P L.toArray Q S last t a' w') Q) [o] a w) : tree P L.toArray Q S last (.one i t) a w :=
  tree_op ho h
theorem tree_fork {L : List Oper} {i j : Nat} {t u : PT} {o o' : Oper} {a : Act} {w : World} (ho : L[i]? = some o) (ho' : L[j]? = some o') (h : wpList P L.toArray (Exit.then (fun a' w' => (i = last ∨ S w') ∧ tree P L.toArray Q S last t a' w') Q) [o] a w)
    (h' : wpList P L.toArray (Exit.then (fun a' w' => (j = last ∨ S w') ∧ tree P L.toArray Q S last u a' w') Q) [o'] a w) : tree P L.toArray Q S last (.fork i j t u) a w :=
  ⟨tree_op ho h, tree_op ho' h'⟩
theorem tree_fork3 {L : List Oper} {i j k : Nat} {t u v : PT} {o o' o'' : Oper} {a : Act} {w : World} (ho : L[i]? = some o) (ho' : L[j]? = some o') (ho'' : L[k]? = some o'') (h : wpList P L.toArray (Exit.then (fun a' w' => (i = last ∨ S w') ∧ tree P L.toArray Q S last t a' w') Q) [o] a w)
    (h' : wpList P L.toArray (Exit.then (fun a' w' => (j = last ∨ S w') ∧ tree P L.toArray Q S last u a' w') Q) [o'] a w) (h'' : wpList P L.toArray (Exit.then (fun a' w' => (k = last ∨ S w') ∧ tree P L.toArray Q S last v a' w') Q) [o''] a w) : tree P L.toArray Q S last (.fork3 i j k t u v) a w :=
  ⟨tree_op ho h, tree_op ho' h', tree_op ho'' h''⟩
end
end Go.Proofs.Ytndldjopgbhphaa
