/- Trees of subsurfaces: more than one node's block is written; Attach. -/
import Derived.Test.YtehcfeibfpgamaaSubG
set_option linter.unusedVariables false
set_option linter.unusedSimpArgs false
set_option maxRecDepth 100000
namespace Go.Proofs.Ytehcfeibfpgamaa
open Go.RowKit

theorem info3 : (Try.prog.info? 3).map (fun i => (i.zero, i.size, i.bytes)) = some (some (.int .i64 0), 1, 8) := by kernel_rfl
theorem nodup_le : ∀ (l m : List Int), l.Nodup → (∀ x ∈ l, x ∈ m) → l.length ≤ m.length
  | [], m, _, _ => by simp
  | a :: l, m, h, hs => by
    have ha := hs a List.mem_cons_self
    have h2 := List.nodup_cons.1 h
    have h3 := nodup_le l (m.filter fun y => !decide (y = a)) h2.2 (fun x hx => List.mem_filter.2 ⟨hs x (List.mem_cons_of_mem _ hx), by
      have : ¬ x = a := fun e => h2.1 (by rw [← e]; exact hx)
      simp [this]⟩)
    have h4 : (m.filter fun y => !decide (y = a)).length < m.length := List.length_filter_lt_length_iff_exists.2 ⟨a, ha, by simp⟩
    rw [List.length_cons]
    omega
section
variable {w w' : World} {b bm : Nat} {nb : Int → Nat} {R R' Q : Nat → Prop} {S : Fo} {i : Int} {n : Nd}
theorem Fo.ok.list_le (h : S.ok) (hn : n ∈ S) {l : List Int} (hl : l.Nodup) (hc : ∀ c ∈ l, c = n.id ∨ parOf S c = n.id) : l.length ≤ S.length := by
  have := nodup_le l (S.map Nd.id) hl (fun x hx => by
    rcases hc x hx with q | q
    · rw [q]; exact List.mem_map_of_mem hn
    · exact hasB_iff.1 (h.has_of_par (i := x) (by rw [q]; have := h.pos n hn; omega)))
  rwa [List.length_map] at this
theorem Fo.ok.pend_le (h : S.ok) (hn : n ∈ S) : n.pend.length ≤ S.length := h.list_le hn (h.pnd n hn).1 (h.pnd n hn).2.2.1
theorem Fo.ok.cur_le (h : S.ok) (hn : n ∈ S) : n.cur.length ≤ S.length := h.list_le hn (h.crr n hn).1 (h.crr n hn).2.2
theorem TAt.putG (h : TAt w b bm nb R S) (g : Nd → Nd) (hid : ∀ n, (g n).id = n.id) (k : Chg Q w w') (hqb : ¬ Q b) (hqm : ¬ Q bm) (hr : ∀ x, R x → R' x) (hl : ∀ x, R' x → x < w'.heap.size)
    (hok : Fo.ok (S.map g)) (hn : ∀ n ∈ S, NdAt w' R' (nb n.id) (g n)) : TAt w' b bm nb R' (S.map g) := by
  have hh : ∀ j, hasB (S.map g) j = hasB S j := fun j => hasB_ids (map_ids g hid) j
  refine ⟨hok, by rw [List.length_map]; exact h.few, k.at_ h.tree hqb, (h.map.chg k hqm).congr (fun z => by unfold tmap; rw [hh]), ?_, fun a c => by rw [hh, hh]; exact h.inj a c, hr _ h.rb, hr _ h.rm, fun j => by rw [hh]; exact fun q => hr _ (h.rn j q), hl⟩
  intro m hm
  obtain ⟨n, hnS, rfl⟩ := List.mem_map.1 hm
  rw [hid]
  exact hn n hnS
def attR (S : Fo) (i p : Int) : Fo × Int :=
  if hasB S i = true ∧ hasB S p = true then (if parOf S i ≠ 0 ∨ inP (parOf S) p i = true then (S, 16) else if 16 ≤ kids S p ∨ 8 < depth S p + 1 + height S i then (S, 5) else (attS S i p, 0)) else (S, 8)
end
end Go.Proofs.Ytehcfeibfpgamaa
