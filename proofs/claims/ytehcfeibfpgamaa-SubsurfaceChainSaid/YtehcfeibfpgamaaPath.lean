/- A region that draws its order, walked along one order that stands for all: what only reads is taken as soon as it may come up (its value is the same in every world with S), what writes comes up alone. S need not hold behind the operation for which all others wait. -/
import Derived.Test.YtehcfeibfpgamaaBas2
import Derived.OrdersHeld
set_option linter.unusedVariables false
set_option linter.unusedSimpArgs false
set_option maxRecDepth 100000
namespace Go.Proofs.Ytehcfeibfpgamaa
open Go.RowKit

section
variable {P : Program} {ops : Array Oper} {Q : Exit → Act → World → Prop} {md : Region.Mode} {S : World → Prop} {last : Nat}

/-- Whatever order is picked from here on; S holds behind every operation but the last. -/
def anyBut (P : Program) (md : Region.Mode) (ops : Array Oper) (Q : Exit → Act → World → Prop) (S : World → Prop) (last : Nat) : Nat → Array Bool → Act → World → Prop
  | 0, listed, a, w => Region.ready md ops listed = [] ∧ Q .normal a w
  | n + 1, listed, a, w => (Region.ready md ops listed = [] → Q .normal a w) ∧
    ∀ i ∈ Region.ready md ops listed, wpOp P ops Q i (fun a' w' => (i = last ∨ S w') ∧ anyBut P md ops Q S last n (listed.setIfInBounds i true) a' w') a w

theorem any_of_anyBut : ∀ (n : Nat) (listed : Array Bool) (a : Act) (w : World), anyBut P md ops Q S last n listed a w → wpAny P md ops Q n listed a w
  | 0, _, _, _, h => h
  | n + 1, _, _, _, h => ⟨h.1, fun i hi => wpOp_mono (fun a' w' k => any_of_anyBut n _ a' w' k.2) (h.2 i hi)⟩

theorem unlisted_false {listed : Array Bool} {i : Nat} (h : listed.getD i true = false) : listed.getD i false = false := by
  by_cases hi : i < listed.size
  · simp [hi] at h ⊢; exact h
  · simp [Array.getElem?_eq_none (Nat.le_of_not_lt hi)] at h

/-- What reads alone may be taken at once. -/
theorem anyBut_take {i : Nat} {oi : Oper} {v : Value} (hi : ops[i]? = some oi) (hsel : Region.noSelect ops = true) (hQ : ∀ c a w, Q (.panic c) (a.put oi.dst v) w → Q (.panic c) a w)
    (hl : ∀ ol, ops[last]? = some ol → ∃ e ∈ ol.after, Region.binds md e = true ∧ e.on = i) :
    ∀ (n : Nat) (listed : Array Bool) (a : Act) (w : World),
      (∀ j oj, ops[j]? = some oj → j ≠ i → listed.getD j true = false → (∀ e ∈ oj.after, Region.binds md e = true → e.on ≠ i) → oi.apart ops oj = true) →
      i ∈ Region.ready md ops listed → YieldsIf P ops S oi v a → S w →
      anyBut P md ops Q S last n (listed.setIfInBounds i true) (a.put oi.dst v) w → anyBut P md ops Q S last (n + 1) listed a w := by
  intro n
  induction n with
  | zero =>
    intro listed a w _ hr hy hS H
    refine ⟨fun e => absurd (e ▸ hr) (by simp), fun j hj => ?_⟩
    by_cases hji : j = i
    · subst hji; exact hy.wpOp hi hS ⟨.inr hS, H⟩
    · have := ready_mono hj hji
      rw [H.1] at this
      cases this
  | succ n ih =>
    intro listed a w hfree hr hy hS H
    refine ⟨fun e => absurd (e ▸ hr) (by simp), fun j hj => ?_⟩
    by_cases hji : j = i
    · subst hji; exact hy.wpOp hi hS ⟨.inr hS, H⟩
    · have hiun := unlisted_false (mem_ready.1 hr).1
      obtain ⟨hjun, oj, hoj, hall⟩ := mem_ready.1 hj
      have hnot : ∀ e ∈ oj.after, Region.binds md e = true → e.on ≠ i := by
        intro e he hb heq
        have h1 := hall e he hb
        rw [heq, hiun] at h1
        cases h1
      have hjl : j ≠ last := by
        intro e
        subst e
        obtain ⟨e, he, hb, hon⟩ := hl oj hoj
        exact hnot e he hb hon
      have h2 := wpOp_putIf hoj (hfree j oj hoj hji hjun hnot) (fun cs b => Region.noSelect_spec hsel i oi cs b hi) (fun cs b => Region.noSelect_spec hsel j oj cs b hoj) hQ hy (H.2 j (ready_mono hj hji))
      refine wpOp_mono (fun a' w' k => ?_) h2
      obtain ⟨hy', hS', hk⟩ := k
      have hS'' : S w' := hS'.resolve_left hjl
      refine ⟨.inr hS'', ih (listed.setIfInBounds j true) a' w' ?_ (ready_mono hr (Ne.symm hji)) hy' hS'' (by rw [Array.setIfInBounds_comm _ _ hji]; exact hk)⟩
      intro k ok hk hki hun hno
      refine hfree k ok hk hki ?_ hno
      by_cases hjk : j = k
      · subst hjk; exact hjun
      · rw [getD_set_ne true hjk] at hun; exact hun

/-- One order: true what only reads, false what is carried out. -/
def path (P : Program) (ops : Array Oper) (Q : Exit → Act → World → Prop) (S : World → Prop) (last : Nat) : List (Nat × Bool) → Act → World → Prop
  | [], a, w => Q .normal a w
  | (i, true) :: l, a, w => ∃ o v, ops[i]? = some o ∧ (∀ c a w, Q (.panic c) (a.put o.dst v) w → Q (.panic c) a w) ∧ YieldsIf P ops S o v a ∧ path P ops Q S last l (a.put o.dst v) w
  | (i, false) :: l, a, w => wpOp P ops Q i (fun a' w' => (i = last ∨ S w') ∧ path P ops Q S last l a' w') a w

def waits (md : Region.Mode) (ops : Array Oper) (last i : Nat) : Bool :=
  match ops[last]? with
  | some ol => ol.after.any fun e => Region.binds md e && e.on == i
  | none => true
def pathB (md : Region.Mode) (ops : Array Oper) (last : Nat) : List (Nat × Bool) → Array Bool → Bool
  | [], listed => (Region.ready md ops listed).isEmpty
  | (i, true) :: l, listed => (Region.ready md ops listed).contains i && Region.free md ops listed i && waits md ops last i && pathB md ops last l (listed.setIfInBounds i true)
  | (i, false) :: l, listed => decide (Region.ready md ops listed = [i]) && (i != last || l.isEmpty) && pathB md ops last l (listed.setIfInBounds i true)

theorem waits_spec {i : Nat} (h : waits md ops last i = true) : ∀ ol, ops[last]? = some ol → ∃ e ∈ ol.after, Region.binds md e = true ∧ e.on = i := by
  intro ol hol
  unfold waits at h
  rw [hol] at h
  obtain ⟨e, he, hb⟩ := Array.any_eq_true'.1 h
  simp only [Bool.and_eq_true, beq_iff_eq] at hb
  exact ⟨e, he, hb.1, hb.2⟩

theorem anyBut_path (hsel : Region.noSelect ops = true) : ∀ (l : List (Nat × Bool)) (listed : Array Bool) (a : Act) (w : World), pathB md ops last l listed = true → (l ≠ [] → S w) → path P ops Q S last l a w → anyBut P md ops Q S last l.length listed a w
  | [], listed, a, w, hB, _, h => ⟨by simpa [pathB] using hB, h⟩
  | (i, true) :: l, listed, a, w, hB, hS, h => by
    simp only [pathB, Bool.and_eq_true] at hB
    obtain ⟨⟨⟨hr, hf⟩, hw⟩, hB⟩ := hB
    obtain ⟨o, v, ho, hQ, hy, hk⟩ := h
    exact anyBut_take ho hsel hQ (waits_spec hw) l.length listed a w (Region.free_spec ho hf) (by simpa using hr) hy (hS (by simp)) (anyBut_path hsel l _ _ _ hB (fun _ => hS (by simp)) hk)
  | (i, false) :: l, listed, a, w, hB, hS, h => by
    simp only [pathB, Bool.and_eq_true, decide_eq_true_eq, Bool.or_eq_true, bne_iff_ne, ne_eq, List.isEmpty_iff] at hB
    obtain ⟨⟨hr, hl⟩, hB⟩ := hB
    refine ⟨fun e => (by rw [hr] at e; cases e), fun j hj => ?_⟩
    rw [hr] at hj
    obtain rfl : j = i := by simpa using hj
    exact wpOp_mono (fun a' w' k => ⟨k.1, anyBut_path hsel l _ _ _ hB (fun hne => k.1.resolve_left (hl.resolve_right hne)) k.2⟩) h

theorem region_path {id : Nat} {l : List Oper} {a : Act} {w : World} (S : World → Prop) (last : Nat) (p : List (Nat × Bool)) (hm : P.follows .mixedOrders = true) (hsel : Region.noSelect l.toArray = true)
    (hB : (decide (p.length = l.toArray.size) && pathB .any l.toArray last p (Array.replicate l.toArray.size false)) = true) (hS : S w.drew) (h : path P l.toArray Q S last p a w.drew) : (Code.region id l.toArray true).wp P Q a w := by
  simp only [Bool.and_eq_true, decide_eq_true_eq] at hB
  refine wp_region_any hm (any_of_anyBut (S := S) (last := last) _ _ _ _ ?_)
  have := anyBut_path hsel p _ a w.drew hB.2 (fun _ => hS) h
  rw [hB.1] at this
  exact this

theorem path_read {L : List Oper} {i : Nat} {l : List (Nat × Bool)} {o : Oper} {v : Value} {a : Act} {w : World} (ho : L[i]? = some o) (hw : Region.wanted o (yielded L.toArray a.tmps) = true) (hQ : ∀ c a w, Q (.panic c) (a.put o.dst v) w → Q (.panic c) a w)
    (hy : ∀ w, S w → (execOp a.eval o).run P w = .ok (.value v) w) (h : path P L.toArray Q S last l (a.put o.dst v) w) : path P L.toArray Q S last ((i, true) :: l) a w :=
  ⟨o, v, by simpa using ho, hQ, .inl ⟨hw, hy⟩, h⟩
theorem path_pass {L : List Oper} {i : Nat} {l : List (Nat × Bool)} {o : Oper} {a : Act} {w : World} (ho : L[i]? = some o) (hw : Region.wanted o (yielded L.toArray a.tmps) = false) (hQ : ∀ c a w, Q (.panic c) (a.put o.dst undef) w → Q (.panic c) a w)
    (h : path P L.toArray Q S last l (a.put o.dst undef) w) : path P L.toArray Q S last ((i, true) :: l) a w :=
  ⟨o, undef, by simpa using ho, hQ, .inr ⟨hw, rfl⟩, h⟩
theorem path_end {a : Act} {w : World} (h : Q .normal a w) : path P ops Q S last [] a w := h
theorem path_next {i : Nat} {l : List (Nat × Bool)} {a : Act} {w : World} (hS : i = last ∨ S w) (h : path P ops Q S last l a w) : wpList P ops (Exit.then (fun a' w' => (i = last ∨ S w') ∧ path P ops Q S last l a' w') Q) [] a w := ⟨hS, h⟩
theorem path_do {L : List Oper} {i : Nat} {l : List (Nat × Bool)} {o : Oper} {a : Act} {w : World} (ho' : L[i]? = some o) (h : wpList P L.toArray (Exit.then (fun a' w' => (i = last ∨ S w') ∧ path P L.toArray Q S last l a' w') Q) [o] a w) : path P L.toArray Q S last ((i, false) :: l) a w := by
  have ho : L.toArray[i]? = some o := by simpa using ho'
  show wpOp P L.toArray Q i _ a w
  unfold wpOp
  simp only [ho]
  simp only [wpList] at h
  split
  · rename_i hw
    rw [if_pos hw] at h
    rcases h with h | h
    · refine .inl ?_
      unfold Oper.wp at *
      generalize (execOp a.eval o).run P w = r at *
      cases r with
      | ok n w' =>
        cases n <;> simp only [Oper.upon] at h ⊢ <;>
          first
            | exact h
            | exact Calls.mono h (fun e w'' he => by cases e <;> exact he)
            | exact Rows.mono h (fun _ _ he => he)
      | halt x w' => cases x <;> simp only [Oper.upon] at h ⊢ <;> exact h
    · exact .inr ⟨h.1, h.2⟩
  · rename_i hw
    rw [if_neg hw] at h
    exact h
end
end Go.Proofs.Ytehcfeibfpgamaa
