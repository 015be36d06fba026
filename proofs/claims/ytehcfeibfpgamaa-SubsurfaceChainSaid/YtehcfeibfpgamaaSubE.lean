/- Trees of subsurfaces: New, Add. -/
import Derived.Test.YtehcfeibfpgamaaSubD
import Derived.Deep.Cut
set_option linter.unusedVariables false
set_option linter.unusedSimpArgs false
set_option maxRecDepth 100000
namespace Go.Proofs.Ytehcfeibfpgamaa
open Go.RowKit

def addR (S : Fo) (i : Int) : Fo × Int := if i < 1 then (S, 6) else if hasB S i = true then (S, 7) else (addS S i, 0)
section
variable {w w' : World} {b bm : Nat} {nb : Int → Nat} {R R' : Nat → Prop} {S : Fo} {i : Int}
theorem fo_nil : Fo.ok [] := ⟨by simp, by simp, by simp, fun j => ⟨[j], .root j rfl, by simp⟩, by simp, by simp⟩
theorem ynew (w : World) : Calls Try.prog 10 #[] w fun e w' => ∃ b bm nb R, e = .returned (.pointer (some ⟨b, 0, none⟩)) ∧ TAt w' b bm nb R [] ∧ Same w w' ∧ ∀ x, R x → w.heap.size ≤ x := by
  have hmm := @run_makeMap Try.prog
  go_enter Try.func10, Try.ntmps10
  go_wp2
  go_ret
  have h1 : ((w.alloc (.map #[] 0)).alloc (.cells #[.bool true, .map (some w.heap.size)] 62)).heap[w.heap.size + 1]? = some (.cells [.bool true, .map (some w.heap.size)].toArray 62 (0, 0)) := by
    have := at_new (w.alloc (.map #[] 0)) (.cells #[.bool true, .map (some w.heap.size)] 62)
    simpa using this
  refine ⟨w.heap.size + 1, w.heap.size, fun _ => 0, fun x => x = w.heap.size ∨ x = w.heap.size + 1, rfl, ⟨fo_nil, by simp, h1, ?_, by simp, ?_, .inr rfl, .inl rfl, ?_, ?_⟩, ((Chg.refl _ w).alloc _).alloc _, fun x hx => by omega⟩
  · refine ((MapIs.made w).chg ((Chg.refl (fun _ => False) _).alloc _) (fun q => q)).congr (fun k => ?_)
    rfl
  · intro i j h; cases h
  · intro i h; cases h
  · intro x hx; simp; omega
theorem has_add (S : Fo) (i j : Int) : hasB (addS S i) j = true ↔ hasB S j = true ∨ j = i := by
  rw [hasB_iff, hasB_iff]; unfold addS newNd; simp
theorem hasF {S : Fo} {i j : Int} (h : hasB S i = false) (hj : hasB S j = true) : j ≠ i := by rintro rfl; rw [h] at hj; cases hj
theorem TAt.added (h : TAt w b bm nb R S) (hi : hasB S i = false) (h1 : 1 ≤ i) (hf : S.length < 1000) {w3 : World}
    (hw : w3 = ((w.alloc (.cells #[.int .i64 i] 3)).alloc (.cells #[.int .i64 i] 3)).alloc (.cells (ncells (newNd i) (.slice (some ⟨w.heap.size, 0, none⟩) 1 1) (.slice (some ⟨w.heap.size + 1, 0, none⟩) 1 1)).toArray 72))
    (hm : MapIs w' bm (fun x => if x = i then some (.pointer (some ⟨w.heap.size + 1 + 1, 0, none⟩)) else tmap S nb x)) (kk : Chg (fun x => x = bm) w3 w') :
    TAt w' b bm (fun j => if j = i then w.heap.size + 1 + 1 else nb j) (fun x => R x ∨ x = w.heap.size ∨ x = w.heap.size + 1 ∨ x = w.heap.size + 1 + 1) (addS S i) := by
  have hbl := h.blt
  have hbm := h.lt _ h.rm
  have kw : Same w w3 := by rw [hw]; exact (((Chg.refl _ w).alloc _).alloc _).alloc _
  have h3 := h.same kw
  have hsz : w3.heap.size = w.heap.size + 1 + 1 + 1 := by rw [hw]; simp
  have hwb : w3.heap[w.heap.size]? = some (.cells #[.int .i64 i] 3 (0, 0)) := by rw [hw]; exact at_alloc (at_alloc (at_new _ _))
  have hwb1 : w3.heap[w.heap.size + 1]? = some (.cells #[.int .i64 i] 3 (0, 0)) := by
    rw [hw]
    refine at_alloc ?_
    have := at_new (w.alloc (.cells #[.int .i64 i] 3)) (.cells #[.int .i64 i] 3)
    simpa using this
  have hwb2 : w3.heap[w.heap.size + 1 + 1]? = some (.cells (ncells (newNd i) (.slice (some ⟨w.heap.size, 0, none⟩) 1 1) (.slice (some ⟨w.heap.size + 1, 0, none⟩) 1 1)).toArray 72 (0, 0)) := by
    rw [hw]
    have := at_new ((w.alloc (.cells #[.int .i64 i] 3)).alloc (.cells #[.int .i64 i] 3)) (.cells (ncells (newNd i) (.slice (some ⟨w.heap.size, 0, none⟩) 1 1) (.slice (some ⟨w.heap.size + 1, 0, none⟩) 1 1)).toArray 72)
    simpa using this
  have hnl : ∀ j, hasB S j = true → nb j < w.heap.size := fun j hj => h.nlt hj
  refine ⟨add_ok h.ok hi h1, by unfold addS; rw [List.length_append, List.length_singleton]; omega, kk.at_ h3.tree (fun e => ?_), hm.congr fun k => ?_, ?_, ?_, .inl h.rb, .inl h.rm, ?_, ?_⟩
  · obtain ⟨es, ck, q, _⟩ := h3.map
    rw [← e, h3.tree] at q; simp at q
  · unfold tmap
    by_cases e : k = i
    · subst e
      rw [if_pos rfl, if_pos ((has_add S k k).2 (.inr rfl))]
      simp [ptrOf]
    · rw [if_neg e]
      by_cases q : hasB S k = true
      · rw [if_pos q, if_pos ((has_add S i k).2 (.inl q))]
        simp [ptrOf, e]
      · rw [if_neg q, if_neg (fun z => q (((has_add S i k).1 z).resolve_right e))]
  · intro n hn
    unfold addS at hn
    rcases List.mem_append.1 hn with hn | hn
    · have hb : hasB S n.id = true := hasB_iff.2 (List.mem_map_of_mem hn)
      rw [show (if n.id = i then w.heap.size + 1 + 1 else nb n.id) = nb n.id from if_neg (hasF hi hb)]
      refine ((h3.node n hn).other kk (fun e => h3.nd_bm hb e) (fun x C hx e => ?_)).mono (fun x hx => .inl hx)
      obtain ⟨es, ck, q, _⟩ := h3.map
      rw [e, q] at hx; simp at hx
    · simp only [List.mem_singleton] at hn
      subst hn
      rw [show (if (newNd i).id = i then w.heap.size + 1 + 1 else nb (newNd i).id) = w.heap.size + 1 + 1 from if_pos rfl]
      exact ⟨_, _, kk.at_ hwb2 (by omega), ⟨_, 1, _, rfl, .inr (.inl rfl), kk.at_ hwb (by omega), rfl⟩, ⟨_, 1, _, rfl, .inr (.inr (.inl rfl)), kk.at_ hwb1 (by omega), rfl⟩⟩
  · intro a c ha hc
    rcases (has_add S i a).1 ha with qa | qa <;> rcases (has_add S i c).1 hc with qc | qc
    · rw [if_neg (hasF hi qa), if_neg (hasF hi qc)]; exact h.inj a c qa qc
    · rw [if_neg (hasF hi qa), if_pos qc]; intro e; have := hnl a qa; omega
    · rw [if_pos qa, if_neg (hasF hi qc)]; intro e; have := hnl c qc; omega
    · intro _; exact qa.trans qc.symm
  · intro j hj
    rcases (has_add S i j).1 hj with q | q
    · rw [if_neg (hasF hi q)]; exact .inl (h.rn j q)
    · rw [if_pos q]; exact .inr (.inr (.inr rfl))
  · intro x hx
    have := kk.size
    rcases hx with q | q | q | q
    · have := h.lt x q; omega
    · omega
    · omega
    · omega
set_option maxHeartbeats 4000000 in
theorem yadd (h : TAt w b bm nb R S) (i : Int) (hf : S.length < 1000) :
    Calls Try.prog 12 #[.pointer (some ⟨b, 0, none⟩), .int .i64 i] w (YOut w b bm R (addR S i).1 (.int .i64 (addR S i).2)) := by
  have HC := Lib.hid (ycheck0 h)
  have c1 := h.c1
  have hm := h.map
  have H := Lib.hid h
  have HF := Lib.hid hf
  unfold addR
  clear h hf
  by_cases h1 : i < 1
  · rw [if_pos h1]
    go_enter Try.func12, Try.ntmps12
    go_wp2_with fail
    refine HC.out.mono ?_
    rintro e w1 ⟨rfl, rfl⟩
    go_wp2
    go_ret
    exact ⟨rfl, nb, R, H.out, Own.refl _ _⟩
  · rw [if_neg h1]
    cases hi : hasB S i with
    | true =>
      have hl := H.out.look1 hi
      rw [if_pos rfl]
      clear hi
      go_enter Try.func12, Try.ntmps12
      go_wp2_with fail
      refine HC.out.mono ?_
      rintro e w1 ⟨rfl, rfl⟩
      go_wp2_with (refine wpl_lookup _ _ _ hl ?_)
      go_ret
      exact ⟨rfl, nb, R, H.out, Own.refl _ _⟩
    | false =>
      have hl := H.out.look0 hi
      have HI := Lib.hid hi
      rw [if_neg (by simp)]
      clear hi
      go_enter Try.func12, Try.ntmps12
      go_wp2_with fail
      refine HC.out.mono ?_
      rintro e w1 ⟨rfl, rfl⟩
      go_upto_region 8 with (refine wpl_lookup _ _ _ hl ?_)
      go_wp2_with (refine wpl_mapStore (b := bm) (f := tmap S nb) (hm.chg ((((Chg.refl (fun _ => False) w).alloc _).alloc _).alloc _) (fun q => q)) Try.underlying60 Try.underlying3 _ _ _ i (.pointer (some ⟨w.heap.size + 1 + 1, 0, none⟩)) rfl rfl rfl ?_)
      intro w2 hm2 hk2
      have HM2 := Lib.hid hm2
      have HK2 := Lib.hid hk2
      clear hm2 hk2
      go_wp2
      go_ret
      exact ⟨rfl, _, _, H.out.added HI.out (by omega) HF.out rfl HM2.out HK2.out, ⟨((((Chg.refl R w).alloc _).alloc _).alloc _).then_ HK2.out (fun j _ e => by rw [e]; exact H.out.rm), fun x hx => by rcases hx with q | q | q | q; exact .inl q; all_goals exact .inr (by omega)⟩⟩
end
end Go.Proofs.Ytehcfeibfpgamaa
