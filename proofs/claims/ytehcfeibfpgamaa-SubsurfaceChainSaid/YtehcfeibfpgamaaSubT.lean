/- How a tree of subsurfaces lies in memory. -/
import Derived.Test.YtehcfeibfpgamaaSubO
import Derived.Test.YtehcfeibfpgamaaRng
import Derived.Test.YtehcfeibfpgamaaIns
import Derived.Test.YtehcfeibfpgamaaContI
import Derived.Test.YtehcfeibfpgamaaOwn0
set_option linter.unusedVariables false
set_option linter.unusedSimpArgs false
set_option maxRecDepth 100000
namespace Go.Proofs.Ytehcfeibfpgamaa
open Go.RowKit

/-- A slice of numbers that lies in a block of R. -/
def SlAt (w : World) (R : Nat → Prop) (v : Value) (xs : List Int) : Prop :=
  ∃ g c C, v = .slice (some ⟨g, 0, none⟩) xs.length c ∧ R g ∧ w.heap[g]? = some (.cells C 3 (0, 0)) ∧ C.toList.take xs.length = ints xs
def ncells (n : Nd) (vp vc : Value) : List Value := [.int .i64 n.par, .bool n.sync, .bool n.cached, .int .i64 n.px, .int .i64 n.py, .int .i64 n.cx, .int .i64 n.cy, vp, vc]
def NdAt (w : World) (R : Nat → Prop) (c : Nat) (n : Nd) : Prop :=
  ∃ vp vc, w.heap[c]? = some (.cells (ncells n vp vc).toArray 72 (0, 0)) ∧ SlAt w R vp n.pend ∧ SlAt w R vc n.cur
def ptrOf (nb : Int → Nat) (i : Int) : Value := .pointer (some ⟨nb i, 0, none⟩)
def tmap (S : Fo) (nb : Int → Nat) (k : Int) : Option Value := if hasB S k = true then some (ptrOf nb k) else none
/-- The tree in block b, its map in block bm, the node of surface i in block nb i; all of it lies in R. -/
structure TAt (w : World) (b bm : Nat) (nb : Int → Nat) (R : Nat → Prop) (S : Fo) : Prop where
  ok : S.ok
  few : S.length ≤ 1000
  tree : w.heap[b]? = some (.cells [.bool true, .map (some bm)].toArray 62 (0, 0))
  map : MapIs w bm (tmap S nb)
  node : ∀ n ∈ S, NdAt w R (nb n.id) n
  inj : ∀ i j, hasB S i = true → hasB S j = true → nb i = nb j → i = j
  rb : R b
  rm : R bm
  rn : ∀ i, hasB S i = true → R (nb i)
  lt : ∀ x, R x → x < w.heap.size

section
variable {w w' : World} {b bm : Nat} {nb : Int → Nat} {R R' Q : Nat → Prop} {S : Fo} {v : Value} {xs : List Int} {i : Int} {n : Nd}
theorem SlAt.chg (h : SlAt w R v xs) (k : Chg Q w w') (hs : ∀ x, R x → ¬ Q x) : SlAt w' R v xs := by
  obtain ⟨g, c, C, hv, hr, hg, ht⟩ := h; exact ⟨g, c, C, hv, hr, k.at_ hg (hs g hr), ht⟩
theorem SlAt.mono (h : SlAt w R v xs) (hs : ∀ x, R x → R' x) : SlAt w R' v xs := by
  obtain ⟨g, c, C, hv, hr, hg, ht⟩ := h; exact ⟨g, c, C, hv, hs g hr, hg, ht⟩
/-- Blocks that hold no row of numbers are written. -/
theorem SlAt.other (h : SlAt w R v xs) (k : Chg Q w w') (hs : ∀ x C, w.heap[x]? = some (.cells C 3 (0, 0)) → ¬ Q x) : SlAt w' R v xs := by
  obtain ⟨g, c, C, hv, hr, hg, ht⟩ := h; exact ⟨g, c, C, hv, hr, k.at_ hg (hs g C hg), ht⟩
theorem SlAt.ints (h : SlAt w R v xs) : ∃ g c, v = .slice (some ⟨g, 0, none⟩) xs.length c ∧ R g ∧ g < w.heap.size ∧ ∀ j x, xs[j]? = some x → w.cell? ⟨g, 0 + j, none⟩ = some (.int .i64 x) := by
  obtain ⟨g, c, C, hv, hr, hg, ht⟩ := h
  refine ⟨g, c, hv, hr, lt_of_at hg, fun j x hj => ?_⟩
  have hg' : w.heap[g]? = some (.cells C.toList.toArray 3 (0, 0)) := by rw [hg]
  rw [cell_at hg', Nat.zero_add]
  have h1 : (C.toList.take xs.length)[j]? = some (.int .i64 x) := by rw [ht]; unfold Go.Proofs.Ytehcfeibfpgamaa.ints; rw [List.getElem?_map, hj]; rfl
  rw [List.getElem?_take] at h1
  split at h1
  · exact h1
  · cases h1
theorem SlAt.intsAt (h : SlAt w R v xs) : ∃ A c, v = .slice A xs.length c ∧ IntsAt w A xs.length xs := by
  obtain ⟨g, c, hv, hr, hl, hc⟩ := h.ints
  exact ⟨_, c, hv, rfl, fun _ => ⟨g, 0, rfl, hc⟩⟩
/-- A row that a call made. -/
theorem SlAt.of_own {base m cap g : Nat} (h : w.ownsRow base 3 1 (.slice (some ⟨g, 0, none⟩) m cap) m (Go.Proofs.Ytehcfeibfpgamaa.ints xs)) (hr : R g) : SlAt w R (.slice (some ⟨g, 0, none⟩) m cap) xs := by
  have hxl : xs.length = m := by have := h.1; simpa [Go.Proofs.Ytehcfeibfpgamaa.ints] using this
  rcases h.2 with ⟨hc, _⟩ | ⟨g', cap', cur, hv, hg, hgg, hnc, hcm, hcs, ht⟩
  · cases hc
  simp only [Value.slice.injEq, Option.some.injEq, Addr.mk.injEq, and_true, true_and] at hv
  obtain ⟨rfl, rfl⟩ := hv
  rw [Nat.mul_one] at ht
  exact ⟨g, cap, cur, by rw [hxl], hr, hgg, by rw [hxl]; exact ht⟩
theorem NdAt.chg {c : Nat} (h : NdAt w R c n) (k : Chg Q w w') (hc : ¬ Q c) (hs : ∀ x, R x → ¬ Q x) : NdAt w' R c n := by
  obtain ⟨vp, vc, ha, h1, h2⟩ := h; exact ⟨vp, vc, k.at_ ha hc, h1.chg k hs, h2.chg k hs⟩
theorem NdAt.other {c : Nat} (h : NdAt w R c n) (k : Chg Q w w') (hc : ¬ Q c) (hs : ∀ x C, w.heap[x]? = some (.cells C 3 (0, 0)) → ¬ Q x) : NdAt w' R c n := by
  obtain ⟨vp, vc, ha, h1, h2⟩ := h; exact ⟨vp, vc, k.at_ ha hc, h1.other k hs, h2.other k hs⟩
theorem NdAt.mono {c : Nat} (h : NdAt w R c n) (hs : ∀ x, R x → R' x) : NdAt w R' c n := by
  obtain ⟨vp, vc, ha, h1, h2⟩ := h; exact ⟨vp, vc, ha, h1.mono hs, h2.mono hs⟩
theorem NdAt.cell {c : Nat} (h : NdAt w R c n) : w.cell? ⟨c, 0, none⟩ = some (.int .i64 n.par) ∧ w.cell? ⟨c, 1, none⟩ = some (.bool n.sync) ∧ w.cell? ⟨c, 2, none⟩ = some (.bool n.cached) := by
  obtain ⟨vp, vc, ha, _⟩ := h
  exact ⟨cell_at ha 0, cell_at ha 1, cell_at ha 2⟩
namespace TAt
theorem chg (h : TAt w b bm nb R S) (k : Chg Q w w') (hs : ∀ x, R x → ¬ Q x) : TAt w' b bm nb R S :=
  { h with
    tree := k.at_ h.tree (hs _ h.rb)
    map := h.map.chg k (hs _ h.rm)
    node := fun n hn => (h.node n hn).chg k (hs _ (h.rn _ (hasB_iff.2 (List.mem_map_of_mem hn)))) hs
    lt := fun x hx => Nat.lt_of_lt_of_le (h.lt x hx) k.size }
theorem same (h : TAt w b bm nb R S) (k : Same w w') : TAt w' b bm nb R S := h.chg k (fun _ _ q => q)
theorem wider (h : TAt w b bm nb R S) (hs : ∀ x, R x → R' x) (hl : ∀ x, R' x → x < w.heap.size) : TAt w b bm nb R' S :=
  { h with
    node := fun n hn => (h.node n hn).mono hs
    rb := hs _ h.rb
    rm := hs _ h.rm
    rn := fun i hi => hs _ (h.rn i hi)
    lt := hl }
theorem blt (h : TAt w b bm nb R S) : b < w.heap.size := lt_of_at h.tree
theorem c0 (h : TAt w b bm nb R S) : w.cell? ⟨b, 0, none⟩ = some (.bool true) := cell_at h.tree 0
theorem c1 (h : TAt w b bm nb R S) : w.cell? ⟨b, 1, none⟩ = some (.map (some bm)) := cell_at h.tree 1
theorem nd (h : TAt w b bm nb R S) (hg : get S i = some n) : NdAt w R (nb i) n := by
  have := h.node n (get_some hg).1
  rw [(get_some hg).2] at this
  exact this
theorem look (h : TAt w b bm nb R S) (i : Int) : (Instr.lookup 60 (.map (some bm)) (.int .i64 i) false).run Try.prog w = .ok (if hasB S i = true then ptrOf nb i else .pointer none) w := by
  have := h.map.look (P := Try.prog) (t := 60) (kt := 3) (et := 66) Try.underlying60 Try.underlying3 (z := .pointer none) (by kernel_rfl) i false
  rw [this, if_neg (by simp)]
  unfold tmap
  split <;> rfl
theorem look1 (h : TAt w b bm nb R S) (hi : hasB S i = true) : (Instr.lookup 60 (.map (some bm)) (.int .i64 i) false).run Try.prog w = .ok (.pointer (some ⟨nb i, 0, none⟩)) w := by
  rw [h.look, if_pos hi]; rfl
theorem look0 (h : TAt w b bm nb R S) (hi : hasB S i = false) : (Instr.lookup 60 (.map (some bm)) (.int .i64 i) false).run Try.prog w = .ok (.pointer none) w := by
  rw [h.look, if_neg (by rw [hi]; simp)]
theorem par (h : TAt w b bm nb R S) (hi : hasB S i = true) : w.cell? ⟨nb i, 0, none⟩ = some (.int .i64 (parOf S i)) := by
  obtain ⟨n, hn⟩ := has_get hi
  rw [parOf_get hn]; exact (h.nd hn).cell.1
theorem syn (h : TAt w b bm nb R S) (hi : hasB S i = true) : w.cell? ⟨nb i, 1, none⟩ = some (.bool (syncOf S i)) := by
  obtain ⟨n, hn⟩ := has_get hi
  unfold syncOf; rw [hn]; exact (h.nd hn).cell.2.1
theorem cch (h : TAt w b bm nb R S) (hi : hasB S i = true) : w.cell? ⟨nb i, 2, none⟩ = some (.bool (cachedOf S i)) := by
  obtain ⟨n, hn⟩ := has_get hi
  unfold cachedOf; rw [hn]; exact (h.nd hn).cell.2.2
/-- Node blocks hold no row of numbers, the tree none, the map none; a node's block is neither the tree's nor the map's. -/
theorem nd_int (h : TAt w b bm nb R S) (hi : hasB S i = true) : ∀ x C, w.heap[x]? = some (.cells C 3 (0, 0)) → ¬ x = nb i := by
  rintro x C hx rfl
  obtain ⟨n, hn⟩ := has_get hi
  obtain ⟨_, _, ha, _⟩ := h.nd hn
  rw [ha] at hx
  simp at hx
theorem nd_b (h : TAt w b bm nb R S) (hi : hasB S i = true) : nb i ≠ b := by
  intro e
  obtain ⟨n, hn⟩ := has_get hi
  obtain ⟨_, _, ha, _⟩ := h.nd hn
  rw [e, h.tree] at ha
  simp at ha
theorem nd_bm (h : TAt w b bm nb R S) (hi : hasB S i = true) : nb i ≠ bm := by
  intro e
  obtain ⟨n, hn⟩ := has_get hi
  obtain ⟨_, _, ha, _⟩ := h.nd hn
  obtain ⟨es, ck, hm, _⟩ := h.map
  rw [e, hm] at ha
  simp at ha
/-- One node's block is written: what that makes of the nodes. -/
theorem put (h : TAt w b bm nb R S) (hi : hasB S i = true) (g : Nd → Nd) (hid : ∀ n, (g n).id = n.id) (k : Chg (fun x => x = nb i) w w') (hr : ∀ x, R x → R' x) (hl : ∀ x, R' x → x < w'.heap.size)
    (hok : Fo.ok (S.map g)) (hg : ∀ n ∈ S, n.id ≠ i → g n = n) (hn : ∀ n, get S i = some n → NdAt w' R' (nb i) (g n)) : TAt w' b bm nb R' (S.map g) := by
  have hh : ∀ j, hasB (S.map g) j = hasB S j := fun j => hasB_ids (map_ids g hid) j
  have hint := h.nd_int hi
  refine ⟨hok, by rw [List.length_map]; exact h.few, k.at_ h.tree (fun e => h.nd_b hi e.symm), (h.map.chg k (fun e => h.nd_bm hi e.symm)).congr (fun z => by unfold tmap; rw [hh]), ?_, fun a c => by rw [hh, hh]; exact h.inj a c, hr _ h.rb, hr _ h.rm, fun j => by rw [hh]; exact fun q => hr _ (h.rn j q), hl⟩
  intro m hm
  obtain ⟨n, hnS, rfl⟩ := List.mem_map.1 hm
  rw [hid]
  by_cases e : n.id = i
  · subst e
    exact hn n (get_of h.ok.ids hnS)
  · have hb : hasB S n.id = true := hasB_iff.2 (List.mem_map_of_mem hnS)
    rw [hg n hnS e]
    exact ((h.node n hnS).other k (fun q => e (h.inj _ _ hb hi q)) hint).mono hr
end TAt
end
end Go.Proofs.Ytehcfeibfpgamaa
