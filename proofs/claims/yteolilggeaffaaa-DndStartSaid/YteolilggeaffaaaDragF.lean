/- A transfer of the drag is used; Cancel. -/
import Derived.Test.YteolilggeaffaaaDragY
import Derived.Deep.AppendLies
import Derived.Deep.LoopGhost
set_option linter.unusedVariables false
set_option linter.unusedSimpArgs false
set_option maxRecDepth 100000
namespace Go.Proofs.Yteolilggeaffaaa
open Go.RowKit

theorem dflows_apart {l : List DFlow} (h : l.Pairwise fun x y => ∀ i, x.R i → ¬ y.R i) {i j : Nat} {x z : DFlow} (hi : l[i]? = some x) (hj : l[j]? = some z) (hne : i ≠ j) : ∀ a, x.R a → ¬ z.R a := by
  rw [List.pairwise_iff_getElem] at h
  obtain ⟨li, rfl⟩ := List.getElem?_eq_some_iff.1 hi
  obtain ⟨lj, rfl⟩ := List.getElem?_eq_some_iff.1 hj
  intro a h1 h2
  rcases Nat.lt_or_gt_of_ne hne with hlt | hlt
  · exact h i j li lj hlt a h1 h2
  · exact h j i lj li hlt a h2 h1
theorem dset_mem {l : List DFlow} {i : Nat} {x z : DFlow} {q2 : PSt} (hx : l[i]? = some x) (h : z ∈ l.set i { x with q := q2 }) : z = { x with q := q2 } ∨ ∃ j, j ≠ i ∧ l[j]? = some z := by
  obtain ⟨j, hj⟩ := List.mem_iff_getElem?.1 h
  rw [List.getElem?_set] at hj
  split at hj
  · split at hj
    · cases hj; exact .inl rfl
    · cases hj
  · rename_i hne
    exact .inr ⟨j, fun e => hne e.symm, hj⟩
theorem dset_ptr {l : List DFlow} {i : Nat} {x : DFlow} {q2 : PSt} (hx : l[i]? = some x) : (l.set i { x with q := q2 }).map DFlow.ptr = l.map DFlow.ptr := by
  apply List.ext_getElem?
  intro j
  rw [List.getElem?_map, List.getElem?_map, List.getElem?_set]
  by_cases e : i = j
  · subst e
    have := (List.getElem?_eq_some_iff.1 hx).1
    rw [if_pos rfl, if_pos this, hx]
    rfl
  · rw [if_neg e]
section
variable {w w' : World} {b lb : Nat} {R : Nat → Prop} {d : DSt} {A PA : Option Addr} {n cap pn pcap : Nat}
theorem DragHd.flow (h : DragHd w b lb R d A n cap PA pn pcap) {i : Nat} {x : DFlow} (hx : d.flows[i]? = some x) {q2 : PSt} (k : Chg x.R w w') (hp : PipeAt w' x.pb x.R q2) :
    DragHd w' b lb R { d with flows := d.flows.set i { x with q := q2 } } A n cap PA pn pcap := by
  have hxm := List.mem_of_getElem? hx
  have hsub := h.sub x hxm
  refine ⟨?_, ?_, ?_, ?_, ?_, ?_, ?_, ?_, h.rb, fun y hy => Nat.lt_of_lt_of_le (h.lt y hy) k.size, h.rl, Nat.lt_of_lt_of_le h.ll k.size, by simpa using h.few, h.offs, h.len, by simpa using h.oldl⟩
  · exact k.at_ h.at_ (fun q => (hsub b q).2 rfl)
  · exact h.fm.chg2 k (fun hn g o hA q => (h.fo hn g o hA).2.2.2 x hxm q)
  · intro hn g o hA
    have h1 := h.fo hn g o hA
    refine ⟨h1.1, h1.2.1, h1.2.2.1, fun z hz => ?_⟩
    rcases dset_mem hx hz with rfl | ⟨j, _, hj⟩
    · exact h1.2.2.2 x hxm
    · exact h1.2.2.2 z (List.mem_of_getElem? hj)
  · have h1 := row_chg h.pl k (fun y hy q => (h.lo y hy).2.2 x hxm q)
    rw [List.map_drop] at h1
    show w'.ownsRow 0 43 1 (.slice PA pn pcap) pn (((d.flows.set i { x with q := q2 }).drop d.old).map DFlow.ptr)
    rw [List.map_drop, dset_ptr hx]
    exact h1
  · intro g hg
    have h1 := h.lo g hg
    refine ⟨h1.1, h1.2.1, fun z hz => ?_⟩
    rcases dset_mem hx hz with rfl | ⟨j, _, hj⟩
    · exact h1.2.2 x hxm
    · exact h1.2.2 z (List.mem_of_getElem? hj)
  · intro z hz
    rcases dset_mem hx hz with rfl | ⟨j, hne, hj⟩
    · exact hp
    · exact (h.pipes z (List.mem_of_getElem? hj)).chg k (fun a ha q => dflows_apart h.apart hx hj (Ne.symm hne) a q ha)
  · intro z hz a ha
    rcases dset_mem hx hz with rfl | ⟨j, hne, hj⟩
    · exact hsub a ha
    · exact h.sub z (List.mem_of_getElem? hj) a ha
  · rw [List.pairwise_iff_getElem]
    intro i1 j1 l1 l2 hlt a
    have hl1 : i1 < d.flows.length := by simpa using l1
    have hl2 : j1 < d.flows.length := by simpa using l2
    have key : ∀ m (lm : m < (d.flows.set i { x with q := q2 }).length) (lm2 : m < d.flows.length), ((d.flows.set i { x with q := q2 })[m]'lm).R = (d.flows[m]'lm2).R := by
      intro m lm lm2
      rw [List.getElem_set]
      split
      · rename_i e
        subst e
        have := (List.getElem?_eq_some_iff.1 hx).2
        rw [← this]
      · rfl
    show ((d.flows.set i { x with q := q2 })[i1]'l1).R a → ¬ ((d.flows.set i { x with q := q2 })[j1]'l2).R a
    rw [key i1 l1 hl1, key j1 l2 hl2]
    exact (List.pairwise_iff_getElem.1 h.apart) i1 j1 hl1 hl2 hlt a

/-! ### Cancel -/
end
def DFlow.canc (x : DFlow) : DFlow := { x with q := x.q.cancel }
def DSt.canc (d : DSt) (k : Nat) : DSt := { d with flows := d.flows.mapIdx fun i x => if d.old ≤ i ∧ i < d.old + k then x.canc else x }
theorem canc_zero (d : DSt) : d.canc 0 = d := by
  unfold DSt.canc
  have : d.flows.mapIdx (fun i x => if d.old ≤ i ∧ i < d.old + 0 then x.canc else x) = d.flows := by
    apply List.ext_getElem?
    intro j
    rw [List.getElem?_mapIdx]
    cases d.flows[j]? with
    | none => rfl
    | some x => simp only [Option.map_some]; rw [if_neg (by omega)]
  rw [this]
theorem canc_at (d : DSt) (k : Nat) {x : DFlow} (hx : d.flows[d.old + k]? = some x) : (d.canc k).flows[d.old + k]? = some x := by
  show (d.flows.mapIdx _)[d.old + k]? = _
  rw [List.getElem?_mapIdx, hx]
  simp
theorem canc_succ (d : DSt) (k : Nat) {x : DFlow} (hx : d.flows[d.old + k]? = some x) : { d.canc k with flows := (d.canc k).flows.set (d.old + k) { x with q := x.q.cancel } } = d.canc (k + 1) := by
  unfold DSt.canc
  have : (d.flows.mapIdx (fun i x => if d.old ≤ i ∧ i < d.old + k then x.canc else x)).set (d.old + k) { x with q := x.q.cancel } = d.flows.mapIdx (fun i x => if d.old ≤ i ∧ i < d.old + (k + 1) then x.canc else x) := by
    apply List.ext_getElem?
    intro j
    rw [List.getElem?_set, List.getElem?_mapIdx, List.getElem?_mapIdx]
    by_cases e : d.old + k = j
    · subst e
      have := (List.getElem?_eq_some_iff.1 hx).1
      rw [if_pos rfl, if_pos (by simpa using this), hx]
      simp only [Option.map_some]
      rw [if_pos (by omega)]
      rfl
    · rw [if_neg e]
      cases d.flows[j]? with
      | none => rfl
      | some y =>
        simp only [Option.map_some]
        by_cases h2 : d.old ≤ j ∧ j < d.old + k
        · rw [if_pos h2, if_pos (by omega)]
        · rw [if_neg h2, if_neg (by omega)]
  rw [this]
def DSt.cancS (d : DSt) : DSt := if d.state = 2 then (d.canc (d.flows.length - d.old)).endS else d.endS
def DSt.cancO (d : DSt) : List (List Value) := if d.state = 1 then d.left else []
end Go.Proofs.Yteolilggeaffaaa
