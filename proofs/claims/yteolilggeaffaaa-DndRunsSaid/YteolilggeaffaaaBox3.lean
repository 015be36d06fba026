/- A region with one call and three boxes, whatever order they come in: one state for each set of what is done. -/
import Derived.Test.YteolilggeaffaaaPk01
set_option linter.unusedVariables false
set_option linter.unusedSimpArgs false
set_option maxRecDepth 100000
namespace Go.Proofs.Yteolilggeaffaaa
open Go.RowKit

section
variable {P : Program} {ops : Array Oper} {Q : Exit → Act → World → Prop} {md : Region.Mode} {S : World → Prop} {last : Nat}
/-- What only reads, one after another. -/
def readsP (P : Program) (ops : Array Oper) (Q : Exit → Act → World → Prop) (S : World → Prop) (K : Act → Prop) : List Nat → Act → Prop
  | [], a => K a
  | i :: l, a => ∃ o v, ops[i]? = some o ∧ (∀ c a w, Q (.panic c) (a.put o.dst v) w → Q (.panic c) a w) ∧ YieldsIf P ops S o v a ∧ readsP P ops Q S K l (a.put o.dst v)
def readsB (md : Region.Mode) (ops : Array Oper) (last : Nat) : List Nat → Array Bool → Bool
  | [], _ => true
  | i :: l, listed => (Region.ready md ops listed).contains i && Region.free md ops listed i && waits md ops last i && readsB md ops last l (listed.setIfInBounds i true)
def marks : List Nat → Array Bool → Array Bool
  | [], b => b
  | i :: l, b => marks l (b.setIfInBounds i true)
theorem reads_mono {K K' : Act → Prop} (h : ∀ a, K a → K' a) : ∀ (l : List Nat) (a : Act), readsP P ops Q S K l a → readsP P ops Q S K' l a
  | [], a, k => h a k
  | _ :: l, _, ⟨o, v, h1, h2, h3, h4⟩ => ⟨o, v, h1, h2, h3, reads_mono h l _ h4⟩
theorem anyBut_reads (hsel : Region.noSelect ops = true) : ∀ (l : List Nat) (listed : Array Bool) (a : Act) (w : World) (n : Nat), readsB md ops last l listed = true → S w →
    readsP P ops Q S (fun a' => anyBut P md ops Q S last n (marks l listed) a' w) l a → anyBut P md ops Q S last (n + l.length) listed a w
  | [], _, _, _, _, _, _, h => h
  | i :: l, listed, a, w, n, hB, hS, ⟨o, v, ho, hQ, hy, hk⟩ => by
    simp only [readsB, Bool.and_eq_true] at hB
    obtain ⟨⟨⟨hr, hf⟩, hw⟩, hB⟩ := hB
    exact anyBut_take ho hsel hQ (waits_spec hw) (n + l.length) listed a w (Region.free_spec ho hf) (by simpa using hr) hy hS (anyBut_reads hsel l _ _ _ n hB hS hk)

structure Bx where
  ic : Nat
  post : List Nat
  a1 : Nat
  a2 : Nat
  a3 : Nat
  s1 : Nat
  s2 : Nat
  s3 : Nat
  base : Array Bool
def bmk (a s : Nat) (k : Nat) : List Nat := if k = 0 then [] else if k = 1 then [a] else [a, s]
def Bx.lst (B : Bx) (c : Bool) (k1 k2 k3 : Nat) : Array Bool := marks ((if c then B.ic :: B.post else []) ++ bmk B.a1 B.s1 k1 ++ bmk B.a2 B.s2 k2 ++ bmk B.a3 B.s3 k3) B.base
def Bx.rem (B : Bx) (c : Bool) (k1 k2 k3 : Nat) : Nat := (if c then 0 else 1 + B.post.length) + (2 - k1) + (2 - k2) + (2 - k3)
def Bx.chk (md : Region.Mode) (ops : Array Oper) (last : Nat) (B : Bx) (c : Bool) (k1 k2 k3 : Nat) : Bool :=
  (!c && (decide (k1 = 2) || decide (k2 = 2) || decide (k3 = 2))) ||
  (((Region.ready md ops (B.lst c k1 k2 k3)).all fun i => (!c && decide (i = B.ic)) || (decide (k1 = 0) && decide (i = B.a1)) || (decide (k2 = 0) && decide (i = B.a2)) || (decide (k3 = 0) && decide (i = B.a3))
      || (c && decide (k1 = 1) && decide (i = B.s1)) || (c && decide (k2 = 1) && decide (i = B.s2)) || (c && decide (k3 = 1) && decide (i = B.s3)))
    && ((Region.ready md ops (B.lst c k1 k2 k3)).isEmpty == (c && decide (k1 = 2) && decide (k2 = 2) && decide (k3 = 2)))
    && (c || (readsB md ops last B.post ((B.lst c k1 k2 k3).setIfInBounds B.ic true) && decide (marks B.post ((B.lst c k1 k2 k3).setIfInBounds B.ic true) = B.lst true k1 k2 k3)))
    && (!decide (k1 = 0) || decide ((B.lst c k1 k2 k3).setIfInBounds B.a1 true = B.lst c 1 k2 k3))
    && (!decide (k2 = 0) || decide ((B.lst c k1 k2 k3).setIfInBounds B.a2 true = B.lst c k1 1 k3))
    && (!decide (k3 = 0) || decide ((B.lst c k1 k2 k3).setIfInBounds B.a3 true = B.lst c k1 k2 1))
    && (!(c && decide (k1 = 1)) || decide ((B.lst c k1 k2 k3).setIfInBounds B.s1 true = B.lst c 2 k2 k3))
    && (!(c && decide (k2 = 1)) || decide ((B.lst c k1 k2 k3).setIfInBounds B.s2 true = B.lst c k1 2 k3))
    && (!(c && decide (k3 = 1)) || decide ((B.lst c k1 k2 k3).setIfInBounds B.s3 true = B.lst c k1 k2 2)))
def Bx.all (md : Region.Mode) (ops : Array Oper) (last : Nat) (B : Bx) : Bool :=
  [false, true].all fun c => (List.range 3).all fun k1 => (List.range 3).all fun k2 => (List.range 3).all fun k3 => B.chk md ops last c k1 k2 k3

theorem box_any {B : Bx} (hsel : Region.noSelect ops = true) (hB : B.all md ops last = true) (Inv : Bool → Nat → Nat → Nat → Act → World → Prop)
    (hcall : ∀ k1 k2 k3 a w, S w → k1 ≤ 1 → k2 ≤ 1 → k3 ≤ 1 → Inv false k1 k2 k3 a w → wpOp P ops Q B.ic (fun a' w' => S w' ∧ readsP P ops Q S (fun a'' => Inv true k1 k2 k3 a'' w') B.post a') a w)
    (h1 : ∀ c k2 k3 a w, S w → Inv c 0 k2 k3 a w → wpOp P ops Q B.a1 (fun a' w' => S w' ∧ Inv c 1 k2 k3 a' w') a w)
    (h2 : ∀ c k1 k3 a w, S w → Inv c k1 0 k3 a w → wpOp P ops Q B.a2 (fun a' w' => S w' ∧ Inv c k1 1 k3 a' w') a w)
    (h3 : ∀ c k1 k2 a w, S w → Inv c k1 k2 0 a w → wpOp P ops Q B.a3 (fun a' w' => S w' ∧ Inv c k1 k2 1 a' w') a w)
    (g1 : ∀ k2 k3 a w, S w → Inv true 1 k2 k3 a w → wpOp P ops Q B.s1 (fun a' w' => S w' ∧ Inv true 2 k2 k3 a' w') a w)
    (g2 : ∀ k1 k3 a w, S w → Inv true k1 1 k3 a w → wpOp P ops Q B.s2 (fun a' w' => S w' ∧ Inv true k1 2 k3 a' w') a w)
    (g3 : ∀ k1 k2 a w, S w → Inv true k1 k2 1 a w → wpOp P ops Q B.s3 (fun a' w' => S w' ∧ Inv true k1 k2 2 a' w') a w)
    (hend : ∀ a w, S w → Inv true 2 2 2 a w → Q .normal a w) :
    ∀ (n : Nat) (c : Bool) (k1 k2 k3 : Nat) (a : Act) (w : World), B.rem c k1 k2 k3 = n → k1 ≤ 2 → k2 ≤ 2 → k3 ≤ 2 → (c = false → k1 ≤ 1 ∧ k2 ≤ 1 ∧ k3 ≤ 1) → Inv c k1 k2 k3 a w → S w → anyBut P md ops Q S last n (B.lst c k1 k2 k3) a w := by
  intro n
  induction n using Nat.strongRecOn with
  | _ n ih =>
    intro c k1 k2 k3 a w hn b1 b2 b3 hc hI hS
    have hk : B.chk md ops last c k1 k2 k3 = true := by
      have h := hB
      unfold Bx.all at h
      simp only [List.all_eq_true] at h
      exact h c (by cases c <;> simp) k1 (List.mem_range.2 (by omega)) k2 (List.mem_range.2 (by omega)) k3 (List.mem_range.2 (by omega))
    unfold Bx.chk at hk
    rw [Bool.or_eq_true] at hk
    rcases hk with hk | hk
    · exfalso
      simp only [Bool.and_eq_true, Bool.not_eq_true', Bool.or_eq_true, decide_eq_true_eq] at hk
      have := hc hk.1
      omega
    · simp only [Bool.and_eq_true] at hk
      obtain ⟨⟨⟨⟨⟨⟨⟨⟨hrd, hem⟩, hca⟩, e1⟩, e2⟩, e3⟩, f1⟩, f2⟩, f3⟩ := hk
      have hem2 : (Region.ready md ops (B.lst c k1 k2 k3)).isEmpty = (c && decide (k1 = 2) && decide (k2 = 2) && decide (k3 = 2)) := by simpa using hem
      have hfin : Region.ready md ops (B.lst c k1 k2 k3) = [] → c = true ∧ k1 = 2 ∧ k2 = 2 ∧ k3 = 2 := fun e => by
        rw [e] at hem2
        have h : (c && decide (k1 = 2) && decide (k2 = 2) && decide (k3 = 2)) = true := hem2.symm
        simp only [Bool.and_eq_true, decide_eq_true_eq] at h
        exact ⟨h.1.1.1, h.1.1.2, h.1.2, h.2⟩
      cases n with
      | zero =>
        have hz : c = true ∧ k1 = 2 ∧ k2 = 2 ∧ k3 = 2 := by
          unfold Bx.rem at hn
          cases c
          · simp at hn
          · simp at hn; exact ⟨rfl, by omega, by omega, by omega⟩
        obtain ⟨rfl, rfl, rfl, rfl⟩ := hz
        exact ⟨by simpa using hem2, hend _ _ hS hI⟩
      | succ n =>
        refine ⟨fun e => ?_, fun i hi => ?_⟩
        · obtain ⟨rfl, rfl, rfl, rfl⟩ := hfin e
          exact hend _ _ hS hI
        · have hi2 := List.all_eq_true.1 hrd i hi
          simp only [Bool.or_eq_true, Bool.and_eq_true, decide_eq_true_eq, Bool.not_eq_true'] at hi2
          unfold Bx.rem at hn
          rcases hi2 with (((((⟨rfl, rfl⟩ | ⟨rfl, rfl⟩) | ⟨rfl, rfl⟩) | ⟨rfl, rfl⟩) | ⟨⟨rfl, rfl⟩, rfl⟩) | ⟨⟨rfl, rfl⟩, rfl⟩) | ⟨⟨rfl, rfl⟩, rfl⟩
          · have hb := hc rfl
            refine wpOp_mono (fun a' w' q => ⟨.inr q.1, ?_⟩) (hcall k1 k2 k3 a w hS hb.1 hb.2.1 hb.2.2 hI)
            simp only [Bool.false_or, Bool.and_eq_true, decide_eq_true_eq] at hca
            have hm : n = B.rem true k1 k2 k3 + B.post.length := by unfold Bx.rem; simp at hn ⊢; omega
            rw [hm]
            refine anyBut_reads hsel _ _ _ _ _ hca.1 q.1 (reads_mono (fun a'' k => ?_) _ _ q.2)
            rw [hca.2]
            exact ih _ (by omega) true k1 k2 k3 a'' w' rfl b1 b2 b3 (fun q => by cases q) k q.1
          · have e1 : (B.lst c 0 k2 k3).setIfInBounds B.a1 true = B.lst c 1 k2 k3 := by simpa using e1
            refine wpOp_mono (fun a' w' q => ⟨.inr q.1, ?_⟩) (h1 c k2 k3 a w hS hI)
            rw [e1]
            exact ih n (by omega) c 1 k2 k3 a' w' (by unfold Bx.rem; omega) (by omega) b2 b3 (fun q => ⟨by omega, (hc q).2⟩) q.2 q.1
          · have e2 : (B.lst c k1 0 k3).setIfInBounds B.a2 true = B.lst c k1 1 k3 := by simpa using e2
            refine wpOp_mono (fun a' w' q => ⟨.inr q.1, ?_⟩) (h2 c k1 k3 a w hS hI)
            rw [e2]
            exact ih n (by omega) c k1 1 k3 a' w' (by unfold Bx.rem; omega) b1 (by omega) b3 (fun q => ⟨(hc q).1, by omega, (hc q).2.2⟩) q.2 q.1
          · have e3 : (B.lst c k1 k2 0).setIfInBounds B.a3 true = B.lst c k1 k2 1 := by simpa using e3
            refine wpOp_mono (fun a' w' q => ⟨.inr q.1, ?_⟩) (h3 c k1 k2 a w hS hI)
            rw [e3]
            exact ih n (by omega) c k1 k2 1 a' w' (by unfold Bx.rem; omega) b1 b2 (by omega) (fun q => ⟨(hc q).1, (hc q).2.1, by omega⟩) q.2 q.1
          · have f1 : (B.lst true 1 k2 k3).setIfInBounds B.s1 true = B.lst true 2 k2 k3 := by simpa using f1
            refine wpOp_mono (fun a' w' q => ⟨.inr q.1, ?_⟩) (g1 k2 k3 a w hS hI)
            rw [f1]
            exact ih n (by omega) true 2 k2 k3 a' w' (by unfold Bx.rem; simp at hn ⊢; omega) (by omega) b2 b3 (fun q => by cases q) q.2 q.1
          · have f2 : (B.lst true k1 1 k3).setIfInBounds B.s2 true = B.lst true k1 2 k3 := by simpa using f2
            refine wpOp_mono (fun a' w' q => ⟨.inr q.1, ?_⟩) (g2 k1 k3 a w hS hI)
            rw [f2]
            exact ih n (by omega) true k1 2 k3 a' w' (by unfold Bx.rem; simp at hn ⊢; omega) b1 (by omega) b3 (fun q => by cases q) q.2 q.1
          · have f3 : (B.lst true k1 k2 1).setIfInBounds B.s3 true = B.lst true k1 k2 2 := by simpa using f3
            refine wpOp_mono (fun a' w' q => ⟨.inr q.1, ?_⟩) (g3 k1 k2 a w hS hI)
            rw [f3]
            exact ih n (by omega) true k1 k2 2 a' w' (by unfold Bx.rem; simp at hn ⊢; omega) b1 b2 (by omega) (fun q => by cases q) q.2 q.1

structure BoxP (P : Program) (ops : Array Oper) (Q : Exit → Act → World → Prop) (S : World → Prop) (ic : Nat) (post : List Nat) (a1 a2 a3 s1 s2 s3 : Nat) (Inv : Bool → Nat → Nat → Nat → Act → World → Prop) : Prop where
  call : ∀ k1 k2 k3 a w, S w → k1 ≤ 1 → k2 ≤ 1 → k3 ≤ 1 → Inv false k1 k2 k3 a w → wpOp P ops Q ic (fun a' w' => S w' ∧ readsP P ops Q S (fun a'' => Inv true k1 k2 k3 a'' w') post a') a w
  n1 : ∀ c k2 k3 a w, S w → Inv c 0 k2 k3 a w → wpOp P ops Q a1 (fun a' w' => S w' ∧ Inv c 1 k2 k3 a' w') a w
  n2 : ∀ c k1 k3 a w, S w → Inv c k1 0 k3 a w → wpOp P ops Q a2 (fun a' w' => S w' ∧ Inv c k1 1 k3 a' w') a w
  n3 : ∀ c k1 k2 a w, S w → Inv c k1 k2 0 a w → wpOp P ops Q a3 (fun a' w' => S w' ∧ Inv c k1 k2 1 a' w') a w
  m1 : ∀ k2 k3 a w, S w → Inv true 1 k2 k3 a w → wpOp P ops Q s1 (fun a' w' => S w' ∧ Inv true 2 k2 k3 a' w') a w
  m2 : ∀ k1 k3 a w, S w → Inv true k1 1 k3 a w → wpOp P ops Q s2 (fun a' w' => S w' ∧ Inv true k1 2 k3 a' w') a w
  m3 : ∀ k1 k2 a w, S w → Inv true k1 k2 1 a w → wpOp P ops Q s3 (fun a' w' => S w' ∧ Inv true k1 k2 2 a' w') a w
  fin : ∀ a w, S w → Inv true 2 2 2 a w → Q .normal a w
theorem region_box3 {id : Nat} {l : List Oper} {a : Act} {w : World} (S : World → Prop) (last : Nat) (pre : List Nat) (ic : Nat) (post : List Nat) (a1 a2 a3 s1 s2 s3 : Nat)
    (hm : P.follows .mixedOrders = true) (hsel : Region.noSelect l.toArray = true)
    (hB : (readsB .any l.toArray last pre (Array.replicate l.toArray.size false) && Bx.all .any l.toArray last ⟨ic, post, a1, a2, a3, s1, s2, s3, marks pre (Array.replicate l.toArray.size false)⟩ && decide (7 + post.length + pre.length = l.toArray.size)) = true)
    (hS : S w.drew) (hpre : readsP P l.toArray Q S (fun a' => ∀ af, af = a' → ∃ Inv, Inv false 0 0 0 af w.drew ∧ BoxP P l.toArray Q S ic post a1 a2 a3 s1 s2 s3 Inv) pre a) : (Code.region id l.toArray true).wp P Q a w := by
  simp only [Bool.and_eq_true, decide_eq_true_eq] at hB
  refine wp_region_any hm (any_of_anyBut (S := S) (last := last) _ _ _ _ ?_)
  have key : anyBut P .any l.toArray Q S last (7 + post.length + pre.length) (Array.replicate l.toArray.size false) a w.drew := by
    refine anyBut_reads hsel pre _ _ _ _ hB.1.1 hS (reads_mono (fun a' k => ?_) _ _ hpre)
    obtain ⟨Inv, hI, hP⟩ := k a' rfl
    have := box_any hsel hB.1.2 Inv hP.call hP.n1 hP.n2 hP.n3 hP.m1 hP.m2 hP.m3 hP.fin _ false 0 0 0 a' _ rfl (by omega) (by omega) (by omega) (fun _ => ⟨by omega, by omega, by omega⟩) hI hS
    have e : Bx.rem ⟨ic, post, a1, a2, a3, s1, s2, s3, marks pre (Array.replicate l.toArray.size false)⟩ false 0 0 0 = 7 + post.length := by unfold Bx.rem; simp; omega
    rw [e] at this
    exact this
  rw [hB.2] at key
  exact key

theorem reads_one {L : List Oper} {K : Act → Prop} {i : Nat} {l : List Nat} {o : Oper} {v : Value} {a : Act} (ho : L[i]? = some o) (hw : Region.wanted o (yielded L.toArray a.tmps) = true) (hQ : ∀ c a w, Q (.panic c) (a.put o.dst v) w → Q (.panic c) a w)
    (hy : ∀ w, S w → (execOp a.eval o).run P w = .ok (.value v) w) (h : readsP P L.toArray Q S K l (a.put o.dst v)) : readsP P L.toArray Q S K (i :: l) a :=
  ⟨o, v, by simpa using ho, hQ, .inl ⟨hw, hy⟩, h⟩
theorem reads_end {K : Act → Prop} {a : Act} (h : K a) : readsP P ops Q S K [] a := h
theorem wpOp_list {L : List Oper} {i : Nat} {o : Oper} {K : Act → World → Prop} {a : Act} {w : World} (ho' : L[i]? = some o) (h : wpList P L.toArray (Exit.then K Q) [o] a w) : wpOp P L.toArray Q i K a w := by
  have ho : L.toArray[i]? = some o := by simpa using ho'
  unfold wpOp
  simp only [ho]
  simp only [wpList] at h
  split
  · rename_i hw
    rw [if_pos hw] at h
    rcases h with h | h
    · refine .inl ?_
      unfold Oper.wp at *
      generalize (execOp a.eval o).run P w = r at *
      cases r with
      | ok n w' =>
        cases n <;> simp only [Oper.upon] at h ⊢ <;>
          first
            | exact h
            | exact Calls.mono h (fun e w'' he => by cases e <;> exact he)
            | exact Rows.mono h (fun _ _ he => he)
      | halt x w' => cases x <;> simp only [Oper.upon] at h ⊢ <;> exact h
    · exact .inr ⟨h.1, h.2⟩
  · rename_i hw
    rw [if_neg hw] at h
    exact h
theorem then_end {K : Act → World → Prop} {a : Act} {w : World} (h : K a w) : wpList P ops (Exit.then K Q) [] a w := h
end
end Go.Proofs.Yteolilggeaffaaa
