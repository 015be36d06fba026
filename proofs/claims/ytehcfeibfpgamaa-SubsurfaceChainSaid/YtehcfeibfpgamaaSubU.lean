/- Trees of subsurfaces: the orders, plain; placed, Order. -/
import Derived.Test.YtehcfeibfpgamaaSubN
import Derived.Laws.OwnMore
set_option linter.unusedVariables false
set_option linter.unusedSimpArgs false
set_option maxRecDepth 100000
namespace Go.Proofs.Ytehcfeibfpgamaa
open Go.RowKit

def addW (a b : Int) : Int := IntKind.i64.wrap (a + b)
section
variable {S : Fo} {i c : Int}
theorem ord_law (add : Int → Int → Int) (h : S.ok) : ∀ (k : Nat) (i x y : Int), hasB S i = true →
    (∀ t ∈ ordS add S k i x y, inP (parOf S) t.1 i = true ∧ hasB S t.1 = true) ∧ (ordS add S k i x y).Pairwise fun s t => s.1 ≠ t.1
  | 0, i, x, y, hi => ⟨fun t ht => by simp [ordS] at ht, List.Pairwise.nil⟩
  | k + 1, i, x, y, hi => by
    have D := h.deep
    have hi0 := h.has_ne hi
    have hch : ∀ c ∈ curOf S i, c ≠ i → parOf S c = i ∧ hasB S c = true := fun c hc hne => by
      have := child_of h hi hc hne
      exact ⟨this, h.has_of_par (by rw [this]; exact hi0)⟩
    have hmem : ∀ c ∈ curOf S i, ∀ t ∈ (if c = i then [(i, x, y)] else ordS add S k c (add x (cxOf S c)) (add y (cyOf S c))), inP (parOf S) t.1 c = true ∧ hasB S t.1 = true := by
      intro c hc t ht
      by_cases e : c = i
      · rw [if_pos e] at ht
        simp only [List.mem_singleton] at ht
        subst ht
        subst e
        exact ⟨h.self_in c, hi⟩
      · rw [if_neg e] at ht
        exact (ord_law add h k c _ _ (hch c hc e).2).1 t ht
    constructor
    · intro t ht
      unfold ordS at ht
      obtain ⟨c, hc, ht⟩ := List.mem_flatMap.1 ht
      have h1 := hmem c hc t ht
      refine ⟨?_, h1.2⟩
      by_cases e : c = i
      · subst e; exact h1.1
      · exact in_trans D _ (Nat.le_refl _) (h.has_ne h1.2) h1.1 (in_child D hi0 (hch c hc e).1)
    · unfold ordS
      refine List.pairwise_flatMap.2 ⟨fun c hc => ?_, ?_⟩
      · by_cases e : c = i
        · rw [if_pos e]; exact List.pairwise_singleton _ _
        · rw [if_neg e]; exact (ord_law add h k c _ _ (hch c hc e).2).2
      · refine List.Pairwise.imp_of_mem ?_ (curOf_nodup h hi)
        intro a b ha hb hab s hs t ht e
        have h1 := hmem a ha s hs
        have h2 := hmem b hb t ht
        rw [← e] at h2
        have hs0 := h.has_ne h1.2
        have hpl : ∀ z ∈ curOf S i, z ≠ i → plen (parOf S) z = plen (parOf S) i + 1 := fun z hz hne => by
          rw [D.plen_up (h.has_ne (hch z hz hne).2), (hch z hz hne).1]
        by_cases ea : a = i
        · by_cases eb : b = i
          · exact hab (ea.trans eb.symm)
          · rw [if_pos ea] at hs
            simp only [List.mem_singleton] at hs
            subst hs
            have := (in_plen D hi0 h2.1).2.1
            have := hpl b hb eb
            omega
        · by_cases eb : b = i
          · rw [if_pos eb] at ht
            simp only [List.mem_singleton] at ht
            subst ht
            rw [e] at h1
            have := (in_plen D hi0 h1.1).2.1
            have := hpl a ha ea
            omega
          · exact hab (in_uniq D _ (Nat.le_refl _) hs0 h1.1 h2.1 (by rw [hpl a ha ea, hpl b hb eb]))
theorem ord_len (add : Int → Int → Int) (h : S.ok) (k : Nat) (x y : Int) (hi : hasB S i = true) : (ordS add S k i x y).length ≤ S.length := by
  have h1 := ord_law add h k i x y hi
  have := nodup_le ((ordS add S k i x y).map fun t => t.1) (S.map Nd.id) (List.pairwise_map.2 h1.2) (fun a ha => by
    obtain ⟨t, ht, rfl⟩ := List.mem_map.1 ha
    exact hasB_iff.1 (h1.1 t ht).2)
  rwa [List.length_map, List.length_map] at this
theorem ord_self (add : Int → Int → Int) (h : S.ok) (k : Nat) (x y : Int) (hi : hasB S i = true) : (i, x, y) ∈ ordS add S (k + 1) i x y := by
  unfold ordS
  exact List.mem_flatMap.2 ⟨i, self_cur h hi, by rw [if_pos rfl]; simp⟩
theorem ord_pos (add : Int → Int → Int) (h : S.ok) (k : Nat) (x y : Int) (hi : hasB S i = true) : 0 < (ordS add S (k + 1) i x y).length :=
  List.length_pos_of_mem (ord_self add h k x y hi)
end
/-- The cells of a list of positions. -/
def plv (l : List (Int × Int × Int)) : List Value := l.flatMap fun t => [.int .i64 t.1, .int .i64 t.2.1, .int .i64 t.2.2]
theorem plv_app (l m : List (Int × Int × Int)) : plv (l ++ m) = plv l ++ plv m := List.flatMap_append
theorem plv_len : ∀ l : List (Int × Int × Int), (plv l).length = l.length * 3
  | [] => rfl
  | a :: l => by unfold plv; rw [List.flatMap_cons, List.length_append]; have := plv_len l; unfold plv at this; rw [this]; simp; omega
theorem plv_one (l : List (Int × Int × Int)) : ∀ u ∈ plv l, u.oneCell' = true := by
  intro u hu
  unfold plv at hu
  obtain ⟨t, _, ht⟩ := List.mem_flatMap.1 hu
  simp at ht
  rcases ht with rfl | rfl | rfl <;> rfl
theorem infoPl : (Try.prog.info? 45).map (fun i => (i.zero, i.size, i.bytes)) = some (some (.agg #[.int .i64 0, .int .i64 0, .int .i64 0]), 3, 24) := by kernel_rfl
def POut (w : World) (l : List (Int × Int × Int)) (e : Ending) (w' : World) : Prop := ∃ v, e = .returned v ∧ w'.ownsRow w.heap.size 45 3 v l.length (plv l) ∧ Same w w'
end Go.Proofs.Ytehcfeibfpgamaa
