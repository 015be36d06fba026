/- A tree of subsurfaces as a law holds it: the bundle, and each call with named results. -/
import Derived.Test.YtehcfeibfpgamaaSubZ
import Derived.Test.YtehcfeibfpgamaaSubI
import Derived.Test.YtehcfeibfpgamaaSubP
import Derived.Test.YtehcfeibfpgamaaSubA
import Derived.Test.YtehcfeibfpgamaaSubB
set_option linter.unusedVariables false
set_option linter.unusedSimpArgs false
set_option maxRecDepth 100000
namespace Go.Proofs.Ytehcfeibfpgamaa
open Go.RowKit

/-- The law's tree: block b holds the tree S; its blocks R are all the law's own. -/
def Yt (w0 w : World) (b : Nat) (R : Nat → Prop) (S : Fo) : Prop := ∃ bm nb, TAt w b bm nb R S ∧ Same w0 w ∧ ∀ x, R x → w0.heap.size ≤ x
/-- A row of numbers, of positions, that the tree does not touch. -/
def HI (w : World) (R : Nat → Prop) (A : Option Addr) (l : List Int) : Prop := IntsAt w A l.length l ∧ ∀ a, A = some a → ¬ R a.block ∧ a.block < w.heap.size
def PlsAt (w : World) (A : Option Addr) (l : List (Int × Int × Int)) : Prop :=
  0 < l.length → ∃ g, A = some ⟨g, 0, none⟩ ∧ ∀ j t, l[j]? = some t → w.cell? ⟨g, j * 3, none⟩ = some (.int .i64 t.1) ∧ w.cell? ⟨g, j * 3 + 1, none⟩ = some (.int .i64 t.2.1) ∧ w.cell? ⟨g, j * 3 + 2, none⟩ = some (.int .i64 t.2.2)
def HP (w : World) (R : Nat → Prop) (A : Option Addr) (l : List (Int × Int × Int)) : Prop := PlsAt w A l ∧ ∀ a, A = some a → ¬ R a.block ∧ a.block < w.heap.size
def YO (w0 w : World) (b : Nat) (R : Nat → Prop) (S' : Fo) (v : Value) (e : Ending) (w' : World) : Prop := e = .returned v ∧ ∃ R', Yt w0 w' b R' S' ∧ Own R R' w w'
def CO (w0 w : World) (b : Nat) (R : Nat → Prop) (S' : Fo) (l : List Int) (n : Nat) (er : Int) (e : Ending) (w' : World) : Prop :=
  ∃ A c R', e = .returned (.tuple #[.slice A n c, .int .i64 er]) ∧ Yt w0 w' b R' S' ∧ Own R R' w w' ∧ HI w' R' A l
def OO (w : World) (R : Nat → Prop) (l : List (Int × Int × Int)) (n : Nat) (e : Ending) (w' : World) : Prop := ∃ A c, e = .returned (.slice A n c) ∧ HP w' R A l ∧ Same w w'
section
variable {w0 w w' : World} {b bm : Nat} {nb : Int → Nat} {R R' Q : Nat → Prop} {S S' : Fo} {i : Int} {er : Int}
theorem Yt.ok (h : Yt w0 w b R S) : S.ok := by obtain ⟨_, _, h, _⟩ := h; exact h.ok
theorem Yt.own (h : Yt w0 w b R S) {bm' : Nat} {nb' : Int → Nat} (t : TAt w' b bm' nb' R' S') (o : Own R R' w w') : Yt w0 w' b R' S' := by
  obtain ⟨bm, nb, h, hs, hf⟩ := h
  exact ⟨bm', nb', t, o.same_of w0 hs hf, o.base hf hs.size⟩
theorem Yt.same (h : Yt w0 w b R S) (k : Same w w') : Yt w0 w' b R S := by
  obtain ⟨bm, nb, h, hs, hf⟩ := h
  exact ⟨bm, nb, h.same k, hs.trans k, hf⟩
theorem Yt.chg (h : Yt w0 w b R S) (k : Chg Q w w') (hq : ∀ x, Q x → w0.heap.size ≤ x ∧ ¬ R x) : Yt w0 w' b R S := by
  obtain ⟨bm, nb, h, hs, hf⟩ := h
  exact ⟨bm, nb, h.chg k (fun x hx q => (hq x q).2 hx), hs.then_ k (fun x hx q => by have := (hq x q).1; omega), hf⟩
theorem Yt.s0 (h : Yt w0 w b R S) : Same w0 w := by obtain ⟨_, _, _, hs, _⟩ := h; exact hs
theorem HI.own {A : Option Addr} {l : List Int} (h : HI w R A l) (o : Own R R' w w') : HI w' R' A l := by
  refine ⟨⟨h.1.1, fun q => ?_⟩, fun a ha => ?_⟩
  · obtain ⟨g, o', hA, hc⟩ := h.1.2 q
    exact ⟨g, o', hA, fun j x hj => o.chg.cell (hc j x hj) (h.2 _ hA).1⟩
  · have := h.2 a ha
    exact ⟨o.not this.2 this.1, Nat.lt_of_lt_of_le this.2 o.size⟩
theorem HP.own {A : Option Addr} {l : List (Int × Int × Int)} (h : HP w R A l) (o : Own R R' w w') : HP w' R' A l := by
  refine ⟨fun q => ?_, fun a ha => ?_⟩
  · obtain ⟨g, hA, hc⟩ := h.1 q
    exact ⟨g, hA, fun j t hj => ⟨o.chg.cell (hc j t hj).1 (h.2 _ hA).1, o.chg.cell (hc j t hj).2.1 (h.2 _ hA).1, o.chg.cell (hc j t hj).2.2 (h.2 _ hA).1⟩⟩
  · have := h.2 a ha
    exact ⟨o.not this.2 this.1, Nat.lt_of_lt_of_le this.2 o.size⟩
theorem HI.same {A : Option Addr} {l : List Int} (h : HI w R A l) (k : Same w w') : HI w' R A l := h.own ⟨Chg.of_same k, fun _ q => .inl q⟩
theorem HP.same {A : Option Addr} {l : List (Int × Int × Int)} (h : HP w R A l) (k : Same w w') : HP w' R A l := h.own ⟨Chg.of_same k, fun _ q => .inl q⟩
theorem hi_of {base : Nat} {v : Value} {l : List Int} (h : w.ownsRow base 3 1 v l.length (ints l)) (hn : ∀ z, v.ownBlock = some z → ¬ R z) : ∃ A c, v = .slice A l.length c ∧ HI w R A l := by
  rcases h.2 with ⟨rfl, e⟩ | ⟨g, cap, cur, rfl, hb, hg, rest⟩
  · exact ⟨none, 0, by rw [e], ⟨rfl, fun q => absurd q (by omega)⟩, fun a ha => by cases ha⟩
  · refine ⟨some ⟨g, 0, none⟩, cap, rfl, own_ints h, fun a ha => ?_⟩
    cases ha
    exact ⟨hn g rfl, lt_of_at hg⟩
theorem plv_get : ∀ (l : List (Int × Int × Int)) (j : Nat) (t : Int × Int × Int), l[j]? = some t → (plv l)[j * 3]? = some (.int .i64 t.1) ∧ (plv l)[j * 3 + 1]? = some (.int .i64 t.2.1) ∧ (plv l)[j * 3 + 2]? = some (.int .i64 t.2.2)
  | [], j, t, h => by simp at h
  | a :: l, 0, t, h => by
    simp at h
    subst h
    unfold plv
    simp
  | a :: l, j + 1, t, h => by
    have ih := plv_get l j t (by simpa using h)
    have e : plv (a :: l) = [.int .i64 a.1, .int .i64 a.2.1, .int .i64 a.2.2] ++ plv l := by unfold plv; rw [List.flatMap_cons]
    have hs : ∀ m, (plv (a :: l))[m + 3]? = (plv l)[m]? := fun m => by rw [e, List.getElem?_append_right (by simp)]; simp
    rw [show (j + 1) * 3 = j * 3 + 3 by omega, show j * 3 + 3 + 1 = (j * 3 + 1) + 3 by omega, show j * 3 + 3 + 2 = (j * 3 + 2) + 3 by omega, hs, hs, hs]
    exact ih
theorem hp_of {base : Nat} {v : Value} {l : List (Int × Int × Int)} (h : w.ownsRow base 45 3 v l.length (plv l)) (hn : ∀ z, v.ownBlock = some z → ¬ R z) : ∃ A c, v = .slice A l.length c ∧ HP w R A l := by
  rcases h.2 with ⟨rfl, e⟩ | ⟨g, cap, cur, rfl, hb, hg, hnc, hcm, hcs, ht⟩
  · exact ⟨none, 0, by rw [e], fun q => absurd q (by omega), fun a ha => by cases ha⟩
  · refine ⟨some ⟨g, 0, none⟩, cap, rfl, fun _ => ⟨g, rfl, fun j t hj => ?_⟩, fun a ha => ?_⟩
    · have hg' : w.heap[g]? = some (.cells cur.toList.toArray 45 (0, 0)) := by rw [hg]
      have hget : ∀ m u, (plv l)[m]? = some u → w.cell? ⟨g, m, none⟩ = some u := fun m u hm => by
        rw [cell_at hg']
        rw [← ht, List.getElem?_take] at hm
        split at hm
        · exact hm
        · cases hm
      have h3 := plv_get l j t hj
      exact ⟨hget _ _ h3.1, hget _ _ h3.2.1, hget _ _ h3.2.2⟩
    · cases ha
      exact ⟨hn g rfl, lt_of_at hg⟩
theorem yo_of {r : Fo × Int} {S' : Fo} {er : Int} (h : Yt w0 w b R S) (hr : r = (S', er)) {P : Program} {f : FuncId} {args : Array Value} (hc : Calls P f args w (YOut w b bm R r.1 (.int .i64 r.2))) : Calls P f args w (YO w0 w b R S' (.int .i64 er)) := by
  subst hr
  refine hc.mono ?_
  rintro e w' ⟨rfl, nb', R', t, o⟩
  exact ⟨rfl, R', h.own t o, o⟩
theorem ynew_v (w : World) : Calls Try.prog 10 #[] w fun e w' => ∃ b R, e = .returned (.pointer (some ⟨b, 0, none⟩)) ∧ Yt w w' b R [] :=
  (ynew w).mono fun e w' ⟨b, bm, nb, R, h1, h2, h3, h4⟩ => ⟨b, R, h1, bm, nb, h2, h3, h4⟩
theorem yadd_v (h : Yt w0 w b R S) (i : Int) (hf : S.length < 1000) (hr : addR S i = (S', er)) : Calls Try.prog 12 #[.pointer (some ⟨b, 0, none⟩), .int .i64 i] w (YO w0 w b R S' (.int .i64 er)) := by
  have h' := h
  obtain ⟨bm, nb, t, _⟩ := h'
  exact yo_of h hr (yadd t i hf)
theorem yattach_v (h : Yt w0 w b R S) (i p : Int) (hr : attR S i p = (S', er)) : Calls Try.prog 13 #[.pointer (some ⟨b, 0, none⟩), .int .i64 i, .int .i64 p] w (YO w0 w b R S' (.int .i64 er)) := by
  have h' := h
  obtain ⟨bm, nb, t, _⟩ := h'
  exact yo_of h hr (yattach t i p)
theorem ydetach_v (h : Yt w0 w b R S) (i : Int) (hr : detR S i = (S', er)) : Calls Try.prog 40 #[.pointer (some ⟨b, 0, none⟩), .int .i64 i] w (YO w0 w b R S' (.int .i64 er)) := by
  have h' := h
  obtain ⟨bm, nb, t, _⟩ := h'
  exact yo_of h hr (ydetach t i)
theorem yplace_v (h : Yt w0 w b R S) (i s : Int) (above : Bool) (hr : plcR S i s above = (S', er)) : Calls Try.prog 28 #[.pointer (some ⟨b, 0, none⟩), .int .i64 i, .int .i64 s, .bool above] w (YO w0 w b R S' (.int .i64 er)) := by
  have h' := h
  obtain ⟨bm, nb, t, _⟩ := h'
  exact yo_of h hr (yplace t i s above)
theorem ysetpos_v (h : Yt w0 w b R S) (i x y : Int) (hr : posR S i x y = (S', er)) : Calls Try.prog 27 #[.pointer (some ⟨b, 0, none⟩), .int .i64 i, .int .i64 x, .int .i64 y] w (YO w0 w b R S' (.int .i64 er)) := by
  have h' := h
  obtain ⟨bm, nb, t, _⟩ := h'
  exact yo_of h hr (ysetpos t i x y)
theorem ysetsync_v (h : Yt w0 w b R S) (i : Int) (y : Bool) (hr : synR S i y = (S', er)) : Calls Try.prog 41 #[.pointer (some ⟨b, 0, none⟩), .int .i64 i, .bool y] w (YO w0 w b R S' (.int .i64 er)) := by
  have h' := h
  obtain ⟨bm, nb, t, _⟩ := h'
  exact yo_of h hr (ysetsync t i y)
theorem ycommit_v (h : Yt w0 w b R S) (i : Int) {l : List Int} {n : Nat} (hr : comR S i = (S', l, er)) (hn : l.length = n) : Calls Try.prog 14 #[.pointer (some ⟨b, 0, none⟩), .int .i64 i] w (CO w0 w b R S' l n er) := by
  have h' := h
  obtain ⟨bm, nb, t, _⟩ := h'
  refine (ycommit t i).mono ?_
  rw [hr]
  rintro e w' ⟨v, nb', R', rfl, t', o, hown, hn'⟩
  obtain ⟨A, c, rfl, hA⟩ := hi_of (l := l) hown hn'
  rw [hn]
  exact ⟨A, c, R', rfl, h.own t' o, o, hA⟩
theorem yorder_v (h : Yt w0 w b R S) (i : Int) {l : List (Int × Int × Int)} {n : Nat} (hr : ordL S i = l) (hn : l.length = n) : Calls Try.prog 17 #[.pointer (some ⟨b, 0, none⟩), .int .i64 i] w (OO w R l n) := by
  obtain ⟨bm, nb, t, _⟩ := h
  refine (yorder t i).mono ?_
  rw [hr]
  rintro e w' ⟨v, rfl, ho, hs⟩
  have hlt := ho.lt
  obtain ⟨A, c, rfl, hA⟩ := hp_of (l := l) (R := R) ho (fun z hz q => by have := (hlt z hz).1; have := t.lt z q; omega)
  rw [hn]
  exact ⟨A, c, rfl, hA, hs⟩
theorem yparent_v (h : Yt w0 w b R S) (i : Int) : Calls Try.prog 22 #[.pointer (some ⟨b, 0, none⟩), .int .i64 i] w fun e w' => e = .returned (.int .i64 (parOf S i)) ∧ w' = w := by
  obtain ⟨bm, nb, t, _⟩ := h
  exact yparent t i
theorem yroot_v (h : Yt w0 w b R S) (i : Int) : Calls Try.prog 19 #[.pointer (some ⟨b, 0, none⟩), .int .i64 i] w fun e w' => e = .returned (.int .i64 (rootOf S i)) ∧ w' = w := by
  obtain ⟨bm, nb, t, _⟩ := h
  exact yroot t i
end
end Go.Proofs.Ytehcfeibfpgamaa
