/- The clipboard: its pure state, what each call makes of it, and how it lies in memory. -/
import Derived.Test.YtndldjopgbhphaaPk10
import Derived.Test.YtndldjopgbhphaaPk14
import Derived.Test.YtndldjopgbhphaaSerY
import Derived.Test.YtndldjopgbhphaaMapI
set_option linter.unusedVariables false
set_option linter.unusedSimpArgs false
set_option maxRecDepth 100000
namespace Go.Proofs.Ytndldjopgbhphaa
open Go.RowKit

/-- A transfer: its pipe with what it is made of and its state; does the clipboard still hold it? -/
structure CFlow where
  pb : Nat
  R : Nat → Prop
  q : PSt
  src : Int
  rdr : Int
  live : Bool
def CFlow.val (x : CFlow) : Value := .agg #[.pointer (some ⟨x.pb, 0, none⟩), .int .i64 x.src, .int .i64 x.rdr]
def CFlow.hit (cl : Int) (x : CFlow) : Bool := x.live && (x.src == cl || x.rdr == cl)
def CFlow.gone (cl : Int) (x : CFlow) : CFlow := if x.hit cl then { x with q := x.q.cancel, live := false } else x
/-- The map of transfers: keys from 1 on. -/
def flowMap (l : List CFlow) (k : Int) : Option Value := if 1 ≤ k then (match l[(k - 1).toNat]? with | some x => if x.live then some x.val else none | none => none) else none

structure CSt where
  owner : Int
  fmts : List ByteArray
  focus : Int
  offers : Nat
  used : Bool
  last : Int
  flows : List CFlow
def CSt.new : CSt := ⟨0, [], 0, 0, false, 0, []⟩
def CSt.validB (c : CSt) (L : SLog) (client n : Int) : Bool := (L.check n client 2576 == 0) && (!c.used || newerB n c.last)
def CSt.setE (c : CSt) (L : SLog) (client : Int) (fs : List ByteArray) (acts n : Int) : Int :=
  if client < 1 then 6 else if checkV fs acts ≠ 0 then checkV fs acts else if c.validB L client n then 0 else 13
def CSt.set (c : CSt) (L : SLog) (client : Int) (fs : List ByteArray) (acts n : Int) : CSt :=
  if c.setE L client fs acts n = 0 then { c with owner := client, fmts := fs, used := true, last := n } else c
def CSt.clrE (c : CSt) (L : SLog) (client n : Int) : Int := if client < 1 ∨ client ≠ c.owner then 17 else if c.validB L client n then 0 else 13
def CSt.clear (c : CSt) (L : SLog) (client n : Int) : CSt := if c.clrE L client n = 0 then { c with owner := 0, fmts := [], used := true, last := n } else c
def CSt.foc (c : CSt) (client : Int) : CSt := { c with focus := max client 0, offers := if client < 1 ∨ c.owner = 0 then c.offers else c.offers + 1 }
def CSt.focCode (c : CSt) : Int := if c.owner = 0 then 0 else (c.offers : Int) + 1
def CSt.sees (c : CSt) (client : Int) : List ByteArray := if client < 1 ∨ client ≠ c.focus then [] else c.fmts
def CSt.rcvE (c : CSt) (client : Int) (f : ByteArray) (win : Int) : Int :=
  if client < 1 ∨ client ≠ c.focus then 17 else if c.owner = 0 ∨ hasS c.fmts f = false then 8 else if win < 1 ∨ 65536 < win then 6 else 0
def CSt.goneFlows (c : CSt) (cl : Int) (i : Nat) : List CFlow := (c.flows.take i).map (CFlow.gone cl) ++ c.flows.drop i
def CSt.gone (c : CSt) (cl : Int) : CSt :=
  if cl < 1 then c else { c with flows := c.flows.map (CFlow.gone cl), owner := if c.owner = cl then 0 else c.owner, fmts := if c.owner = cl then [] else c.fmts, focus := if c.focus = cl then 0 else c.focus }

def ccells (lb : Nat) (c : CSt) (A : Option Addr) (n cap mb : Nat) : List Value :=
  [.iface 25 (.pointer (some ⟨lb, 0, none⟩)), .int .i64 c.owner, .slice A n cap, .int .i64 c.focus, .int .i64 c.offers, .bool c.used, .int .u32 c.last, .int .i64 c.flows.length, .map (some mb)]
/-- The clipboard in block b with the log in block lb; all that it is made of lies in R. -/
structure ClipHd (w : World) (b lb : Nat) (R : Nat → Prop) (c : CSt) (A : Option Addr) (n cap mb : Nat) : Prop where
  at_ : w.heap[b]? = some (.cells (ccells lb c A n cap mb).toArray 121 (0, 0))
  fm : SArg w A n cap c.fmts
  fo : 0 < n → ∀ g o, A = some ⟨g, o, none⟩ → R g ∧ g ≠ b ∧ g ≠ mb ∧ ∀ x ∈ c.flows, ¬ x.R g
  mp : MapIs w mb (flowMap c.flows)
  pipes : ∀ x ∈ c.flows, PipeAt w x.pb x.R x.q
  sub : ∀ x ∈ c.flows, ∀ i, x.R i → R i ∧ i ≠ b ∧ i ≠ mb
  apart : c.flows.Pairwise fun x y => ∀ i, x.R i → ¬ y.R i
  rb : R b
  rm : R mb
  bm : b ≠ mb
  lt : ∀ x, R x → x < w.heap.size
  rl : ¬ R lb
  ll : lb < w.heap.size
  few : c.flows.length ≤ 1000
  offs : c.offers ≤ 1000000
  len : c.fmts.length ≤ 1000
def ClipAt (w : World) (b lb : Nat) (R : Nat → Prop) (c : CSt) : Prop := ∃ A n cap mb, ClipHd w b lb R c A n cap mb

section
variable {w w' : World} {b lb : Nat} {R S : Nat → Prop} {c : CSt} {A : Option Addr} {n cap mb : Nat}
theorem ClipHd.chg (h : ClipHd w b lb R c A n cap mb) (k : Chg S w w') (hs : ∀ x, R x → ¬ S x) : ClipHd w' b lb R c A n cap mb :=
  { h with
    at_ := k.at_ h.at_ (hs _ h.rb)
    fm := h.fm.chg2 k (fun hn g o hA => hs g (h.fo hn g o hA).1)
    mp := h.mp.chg k (hs _ h.rm)
    pipes := fun x hx => (h.pipes x hx).chg k (fun i hi => hs i (h.sub x hx i hi).1)
    lt := fun x hx => Nat.lt_of_lt_of_le (h.lt x hx) k.size
    ll := Nat.lt_of_lt_of_le h.ll k.size }
theorem ClipAt.chg (h : ClipAt w b lb R c) (k : Chg S w w') (hs : ∀ x, R x → ¬ S x) : ClipAt w' b lb R c := by
  obtain ⟨A, n, cap, mb, h⟩ := h; exact ⟨A, n, cap, mb, h.chg k hs⟩
theorem ClipAt.same (h : ClipAt w b lb R c) (k : Same w w') : ClipAt w' b lb R c := h.chg k (fun _ _ q => q)
theorem ClipAt.lt (h : ClipAt w b lb R c) : ∀ x, R x → x < w.heap.size := by obtain ⟨A, n, cap, mb, h⟩ := h; exact h.lt
theorem ClipAt.rl (h : ClipAt w b lb R c) : ¬ R lb := by obtain ⟨A, n, cap, mb, h⟩ := h; exact h.rl
theorem ClipAt.rb (h : ClipAt w b lb R c) : R b := by obtain ⟨A, n, cap, mb, h⟩ := h; exact h.rb
theorem ClipAt.blt (h : ClipAt w b lb R c) : b < w.heap.size := h.lt b h.rb
theorem ClipHd.cell (h : ClipHd w b lb R c A n cap mb) (i : Nat) : w.cell? ⟨b, i, none⟩ = (ccells lb c A n cap mb)[i]? := cell_at h.at_ i
theorem ClipHd.fr (h : ClipHd w b lb R c A n cap mb) (i : Nat) : w.frozen? ⟨b, i, none⟩ = false := frozen_at h.at_ i

/-- Cells of b alone are written: what the pure state says of them. -/
theorem ClipHd.upd (h : ClipHd w b lb R c A n cap mb) (c' : CSt) (hfl : c'.flows = c.flows) (hfm : c'.fmts = c.fmts) (ho : c'.offers ≤ 1000000) (k : Chg (fun x => x = b) w w')
    (hb : w'.heap[b]? = some (.cells (ccells lb c' A n cap mb).toArray 121 (0, 0))) : ClipHd w' b lb R c' A n cap mb := by
  refine ⟨hb, ?_, ?_, ?_, ?_, ?_, ?_, h.rb, h.rm, h.bm, fun x hx => Nat.lt_of_lt_of_le (h.lt x hx) k.size, h.rl, Nat.lt_of_lt_of_le h.ll k.size, ?_, ho, ?_⟩
  · rw [hfm]; exact h.fm.chg2 k (fun hn g o hA => (h.fo hn g o hA).2.1)
  · rw [hfl]; exact h.fo
  · rw [hfl]; exact h.mp.chg k (fun e => h.bm e.symm)
  · rw [hfl]; exact fun x hx => (h.pipes x hx).chg k (fun i hi => (h.sub x hx i hi).2.1)
  · rw [hfl]; exact h.sub
  · rw [hfl]; exact h.apart
  · rw [hfl]; exact h.few
  · rw [hfm]; exact h.len
/-- The formats are laid anew, in a block that is new. -/
theorem ClipHd.updF {A' : Option Addr} {n' cap' : Nat} (h : ClipHd w b lb R c A n cap mb) (c' : CSt) (hfl : c'.flows = c.flows) (ho : c'.offers ≤ 1000000) (hl : c'.fmts.length ≤ 1000) (k : Chg (fun x => x = b) w w')
    (hb : w'.heap[b]? = some (.cells (ccells lb c' A' n' cap' mb).toArray 121 (0, 0))) (hf : SArg w' A' n' cap' c'.fmts) (hnew : 0 < n' → ∀ g o, A' = some ⟨g, o, none⟩ → w.heap.size ≤ g ∧ g < w'.heap.size) :
    ClipHd w' b lb (fun x => R x ∨ (w.heap.size ≤ x ∧ x < w'.heap.size ∧ ∃ o, A' = some ⟨x, o, none⟩)) c' A' n' cap' mb := by
  have hlt := h.lt
  refine ⟨hb, hf, ?_, ?_, ?_, ?_, ?_, .inl h.rb, .inl h.rm, h.bm, fun x hx => ?_, fun q => ?_, Nat.lt_of_lt_of_le h.ll k.size, ?_, ho, hl⟩
  · intro hn g o hA
    have h1 := hnew hn g o hA
    refine ⟨.inr ⟨h1.1, h1.2, o, hA⟩, ?_, ?_, fun x hx hr => ?_⟩
    · rintro rfl; have := hlt _ h.rb; omega
    · rintro rfl; have := hlt _ h.rm; omega
    · rw [hfl] at hx; have := hlt _ (h.sub x hx g hr).1; omega
  · rw [hfl]; exact h.mp.chg k (fun e => h.bm e.symm)
  · rw [hfl]; exact fun x hx => (h.pipes x hx).chg k (fun i hi => (h.sub x hx i hi).2.1)
  · rw [hfl]; exact fun x hx i hi => ⟨.inl (h.sub x hx i hi).1, (h.sub x hx i hi).2⟩
  · rw [hfl]; exact h.apart
  · rcases hx with hx | hx
    · exact Nat.lt_of_lt_of_le (h.lt x hx) k.size
    · exact hx.2.1
  · rcases q with q | q
    · exact h.rl q
    · have := h.ll; omega
  · rw [hfl]; exact h.few
end

/-! ### The list of transfers -/
theorem flows_apart {l : List CFlow} (h : l.Pairwise fun x y => ∀ i, x.R i → ¬ y.R i) {i j : Nat} {x z : CFlow} (hi : l[i]? = some x) (hj : l[j]? = some z) (hne : i ≠ j) : ∀ a, x.R a → ¬ z.R a := by
  rw [List.pairwise_iff_getElem] at h
  obtain ⟨li, rfl⟩ := List.getElem?_eq_some_iff.1 hi
  obtain ⟨lj, rfl⟩ := List.getElem?_eq_some_iff.1 hj
  intro a h1 h2
  rcases Nat.lt_or_gt_of_ne hne with hlt | hlt
  · exact h i j li lj hlt a h1 h2
  · exact h j i lj li hlt a h2 h1
theorem mem_set_iff {α : Type} {l : List α} {i : Nat} {y z : α} (h : z ∈ l.set i y) : z = y ∨ ∃ j, j ≠ i ∧ l[j]? = some z := by
  obtain ⟨j, hj⟩ := List.mem_iff_getElem?.1 h
  rw [List.getElem?_set] at hj
  split at hj
  · split at hj
    · left; simpa using hj.symm
    · cases hj
  · exact .inr ⟨j, fun e => by simp_all, hj⟩
theorem flows_set_apart {l : List CFlow} (h : l.Pairwise fun x y => ∀ i, x.R i → ¬ y.R i) {i : Nat} {y : CFlow} (hy : ∀ j z, j ≠ i → l[j]? = some z → ∀ a, y.R a → ¬ z.R a) : (l.set i y).Pairwise fun x y => ∀ i, x.R i → ¬ y.R i := by
  rw [List.pairwise_iff_getElem] at h ⊢
  intro p q hp hq hpq a
  simp only [List.length_set] at hp hq
  rw [List.getElem_set, List.getElem_set]
  split
  · rename_i hpi
    subst hpi
    rw [if_neg (by omega)]
    exact hy q _ (by omega) (List.getElem?_eq_getElem hq) a
  · split
    · rename_i hqi
      subst hqi
      intro h1 h2
      exact hy p _ (by omega) (List.getElem?_eq_getElem hp) a h2 h1
    · exact h p q hp hq hpq a
theorem flowMap_push (l : List CFlow) (x : CFlow) (hx : x.live = true) (k : Int) : flowMap (l ++ [x]) k = if k = (l.length : Int) + 1 then some x.val else flowMap l k := by
  unfold flowMap
  by_cases hk : k = (l.length : Int) + 1
  · rw [if_pos hk, if_pos (by omega), show (k - 1).toNat = l.length by omega]
    simp [hx]
  · rw [if_neg hk]
    by_cases h1 : 1 ≤ k
    · rw [if_pos h1, if_pos h1]
      by_cases h2 : (k - 1).toNat < l.length
      · rw [List.getElem?_append_left h2]
      · rw [List.getElem?_eq_none (l := l) (by omega), List.getElem?_eq_none (by simp; omega)]
    · rw [if_neg h1, if_neg h1]
theorem flowMap_drop (l : List CFlow) (i : Nat) (x : CFlow) (k : Int) : flowMap (l.set i { x with live := false }) k = if k = (i : Int) + 1 then none else flowMap l k := by
  unfold flowMap
  by_cases h1 : 1 ≤ k
  · rw [if_pos h1, if_pos h1, List.getElem?_set]
    by_cases hk : k = (i : Int) + 1
    · rw [if_pos hk, if_pos (by omega)]
      split
      · rename_i y hy
        split at hy
        · cases hy; rfl
        · cases hy
      · rfl
    · rw [if_neg hk, if_neg (by omega)]
  · rw [if_neg h1, if_neg h1]; split <;> rfl
theorem flowMap_set (l : List CFlow) (i : Nat) (x y : CFlow) (hx : l[i]? = some x) (hv : y.val = x.val) (hl : y.live = x.live) (k : Int) : flowMap (l.set i y) k = flowMap l k := by
  unfold flowMap
  by_cases h1 : 1 ≤ k
  · rw [if_pos h1, if_pos h1, List.getElem?_set]
    by_cases hi : i = (k - 1).toNat
    · rw [if_pos hi, ← hi, hx, if_pos (List.getElem?_eq_some_iff.1 hx).1]
      simp only [hv, hl]
    · rw [if_neg hi]
  · rw [if_neg h1, if_neg h1]
theorem flowMap_at (l : List CFlow) (i : Nat) (x : CFlow) (hx : l[i]? = some x) : flowMap l ((i : Int) + 1) = if x.live then some x.val else none := by
  unfold flowMap
  rw [if_pos (by omega), show ((i : Int) + 1 - 1).toNat = i by omega, hx]

section
variable {w w' : World} {b lb : Nat} {R S : Nat → Prop} {c : CSt} {A : Option Addr} {n cap mb : Nat}
/-- A pipe is used: what it is made of may grow. -/
theorem ClipHd.setFlow (h : ClipHd w b lb R c A n cap mb) {i : Nat} {x : CFlow} (hx : c.flows[i]? = some x) {R2 : Nat → Prop} {q2 : PSt} (k : Chg x.R w w') (hp : PipeAt w' x.pb R2 q2) (hR2 : ∀ j, R2 j → x.R j ∨ w.heap.size ≤ j) :
    ClipHd w' b lb (fun j => R j ∨ R2 j) { c with flows := c.flows.set i { x with R := R2, q := q2 } } A n cap mb := by
  have hxm := List.mem_of_getElem? hx
  have hsub := h.sub x hxm
  have hother : ∀ j z, j ≠ i → c.flows[j]? = some z → ∀ a, R2 a → ¬ z.R a := by
    intro j z hne hj a ha hz
    rcases hR2 a ha with q | q
    · exact flows_apart h.apart hx hj (Ne.symm hne) a q hz
    · have := h.lt a (h.sub z (List.mem_of_getElem? hj) a hz).1; omega
  refine ⟨?_, ?_, ?_, ?_, ?_, ?_, ?_, .inl h.rb, .inl h.rm, h.bm, ?_, ?_, Nat.lt_of_lt_of_le h.ll k.size, by simpa using h.few, h.offs, h.len⟩
  · have := k.at_ h.at_ (fun q => (hsub b q).2.1 rfl)
    unfold ccells at this ⊢
    simpa using this
  · exact h.fm.chg2 k (fun hn g o hA q => (h.fo hn g o hA).2.2.2 x hxm q)
  · intro hn g o hA
    have h1 := h.fo hn g o hA
    refine ⟨.inl h1.1, h1.2.1, h1.2.2.1, fun z hz => ?_⟩
    rcases mem_set_iff hz with rfl | ⟨j, _, hj⟩
    · intro q
      rcases hR2 g q with q | q
      · exact h1.2.2.2 x hxm q
      · have := h.lt g h1.1; omega
    · exact h1.2.2.2 z (List.mem_of_getElem? hj)
  · refine (h.mp.chg k (fun q => (hsub mb q).2.2 rfl)).congr (fun k => flowMap_set _ _ _ { x with R := R2, q := q2 } hx rfl rfl k)
  · intro z hz
    rcases mem_set_iff hz with rfl | ⟨j, hne, hj⟩
    · exact hp
    · exact (h.pipes z (List.mem_of_getElem? hj)).chg k (fun a ha q => flows_apart h.apart hx hj (Ne.symm hne) a q ha)
  · intro z hz a ha
    rcases mem_set_iff hz with rfl | ⟨j, hne, hj⟩
    · refine ⟨.inr ha, ?_, ?_⟩
      · rintro rfl
        rcases hR2 _ ha with q | q
        · exact (hsub _ q).2.1 rfl
        · have := h.lt _ h.rb; omega
      · rintro rfl
        rcases hR2 _ ha with q | q
        · exact (hsub _ q).2.2 rfl
        · have := h.lt _ h.rm; omega
    · have h1 := h.sub z (List.mem_of_getElem? hj) a ha
      exact ⟨.inl h1.1, h1.2⟩
  · exact flows_set_apart h.apart hother
  · intro a ha
    rcases ha with ha | ha
    · exact Nat.lt_of_lt_of_le (h.lt a ha) k.size
    · exact hp.lt a ha
  · rintro (q | q)
    · exact h.rl q
    · rcases hR2 _ q with q | q
      · exact h.rl (hsub _ q).1
      · have := h.ll; omega
/-- A transfer is struck off the map. -/
theorem ClipHd.dropFlow (h : ClipHd w b lb R c A n cap mb) {i : Nat} {x : CFlow} (hx : c.flows[i]? = some x) (k : Chg (fun j => j = mb) w w') (hm : MapIs w' mb (fun k => if k = (i : Int) + 1 then none else flowMap c.flows k)) :
    ClipHd w' b lb R { c with flows := c.flows.set i { x with live := false } } A n cap mb := by
  have hxm := List.mem_of_getElem? hx
  refine ⟨?_, ?_, ?_, ?_, ?_, ?_, ?_, h.rb, h.rm, h.bm, fun a ha => Nat.lt_of_lt_of_le (h.lt a ha) k.size, h.rl, Nat.lt_of_lt_of_le h.ll k.size, by simpa using h.few, h.offs, h.len⟩
  · have := k.at_ h.at_ h.bm
    unfold ccells at this ⊢
    simpa using this
  · exact h.fm.chg2 k (fun hn g o hA => (h.fo hn g o hA).2.2.1)
  · intro hn g o hA
    have h1 := h.fo hn g o hA
    refine ⟨h1.1, h1.2.1, h1.2.2.1, fun z hz => ?_⟩
    rcases mem_set_iff hz with rfl | ⟨j, _, hj⟩
    · exact h1.2.2.2 x hxm
    · exact h1.2.2.2 z (List.mem_of_getElem? hj)
  · exact hm.congr (fun k => flowMap_drop _ _ _ k)
  · intro z hz
    rcases mem_set_iff hz with rfl | ⟨j, hne, hj⟩
    · exact (h.pipes x hxm).chg k (fun a ha q => (h.sub x hxm a ha).2.2 q)
    · have hz' := List.mem_of_getElem? hj
      exact (h.pipes z hz').chg k (fun a ha q => (h.sub z hz' a ha).2.2 q)
  · intro z hz a ha
    rcases mem_set_iff hz with rfl | ⟨j, hne, hj⟩
    · exact h.sub x hxm a ha
    · exact h.sub z (List.mem_of_getElem? hj) a ha
  · exact flows_set_apart h.apart (fun j z hne hj a ha => flows_apart h.apart hx hj (Ne.symm hne) a ha)
/-- A transfer begins. -/
theorem ClipHd.pushFlow {w1 : World} (h : ClipHd w b lb R c A n cap mb) (x : CFlow) (hl : x.live = true) (hf : c.flows.length < 1000) (k1 : Same w w1) (hp : PipeAt w1 x.pb x.R x.q) (hnew : ∀ j, x.R j → w.heap.size ≤ j)
    (k : Chg (fun j => j = b ∨ j = mb) w1 w') (hb : w'.heap[b]? = some (.cells (ccells lb { c with flows := c.flows ++ [x] } A n cap mb).toArray 121 (0, 0)))
    (hm : MapIs w' mb (fun k => if k = (c.flows.length : Int) + 1 then some x.val else flowMap c.flows k)) :
    ClipHd w' b lb (fun j => R j ∨ x.R j) { c with flows := c.flows ++ [x] } A n cap mb := by
  have hlt := h.lt
  have hdis : ∀ j, x.R j → ¬ R j := fun j hj hr => by have := hnew j hj; have := hlt j hr; omega
  refine ⟨hb, ?_, ?_, ?_, ?_, ?_, ?_, .inl h.rb, .inl h.rm, h.bm, ?_, ?_, ?_, by simp; omega, h.offs, h.len⟩
  · exact (h.fm.same k1).chg2 k (fun hn g o hA q => by have h1 := h.fo hn g o hA; rcases q with q | q; exact h1.2.1 q; exact h1.2.2.1 q)
  · intro hn g o hA
    have h1 := h.fo hn g o hA
    refine ⟨.inl h1.1, h1.2.1, h1.2.2.1, fun z hz => ?_⟩
    rcases List.mem_append.1 hz with hz | hz
    · exact h1.2.2.2 z hz
    · simp at hz; subst hz; exact fun q => hdis g q h1.1
  · exact hm.congr (fun k => flowMap_push _ _ hl k)
  · intro z hz
    rcases List.mem_append.1 hz with hz | hz
    · exact ((h.pipes z hz).chg k1 (fun _ _ q => q)).chg k (fun a ha q => by have h1 := h.sub z hz a ha; rcases q with q | q; exact h1.2.1 q; exact h1.2.2 q)
    · simp at hz; subst hz
      exact hp.chg k (fun a ha q => by have := hnew a ha; have := hlt _ h.rb; have := hlt _ h.rm; omega)
  · intro z hz a ha
    rcases List.mem_append.1 hz with hz | hz
    · have h1 := h.sub z hz a ha; exact ⟨.inl h1.1, h1.2⟩
    · simp at hz; subst hz
      exact ⟨.inr ha, fun e => by have := hnew a ha; have := hlt _ h.rb; omega, fun e => by have := hnew a ha; have := hlt _ h.rm; omega⟩
  · rw [List.pairwise_append]
    refine ⟨h.apart, List.pairwise_singleton _ _, fun z hz y hy a ha hq => ?_⟩
    simp at hy; subst hy
    exact hdis a hq (h.sub z hz a ha).1
  · intro a ha
    rcases ha with ha | ha
    · exact Nat.lt_of_lt_of_le (h.lt a ha) (Nat.le_trans k1.size k.size)
    · exact Nat.lt_of_lt_of_le (hp.lt a ha) k.size
  · rintro (q | q)
    · exact h.rl q
    · have := hnew _ q; have := h.ll; omega
  · exact Nat.lt_of_lt_of_le h.ll (Nat.le_trans k1.size k.size)
end
end Go.Proofs.Ytndldjopgbhphaa
