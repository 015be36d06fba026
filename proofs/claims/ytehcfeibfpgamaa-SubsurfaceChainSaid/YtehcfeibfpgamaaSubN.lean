/- Trees of subsurfaces: which surfaces a visit applies, plain. -/
import Derived.Test.YtehcfeibfpgamaaSubH
set_option linter.unusedVariables false
set_option linter.unusedSimpArgs false
set_option maxRecDepth 100000
namespace Go.Proofs.Ytehcfeibfpgamaa

section
variable {S T : Fo} {i j c x a b : Int}
theorem on_plen {par : Int → Int} (D : Deep par) {x : Int} {l : List Int} (h : IsPath par x l) : x ≠ 0 → ∀ b ∈ l, b ≠ 0 ∧ plen par b ≤ plen par x ∧ (b = x ∨ (plen par b < plen par x ∧ par x ≠ 0 ∧ inP par (par x) b = true)) := by
  induction h with
  | root j hj => intro h0 b hb; simp at hb; subst hb; exact ⟨h0, Nat.le_refl _, .inl rfl⟩
  | up j l hj r ih =>
    intro h0 b hb
    rcases List.mem_cons.1 hb with rfl | hb
    · exact ⟨h0, Nat.le_refl _, .inl rfl⟩
    · have h1 := ih hj b hb
      have h2 := D.plen_up h0
      refine ⟨h1.1, by omega, .inr ⟨by omega, hj, ?_⟩⟩
      rw [mem_inP, (D.path _).1.uniq r]
      exact hb
theorem in_plen {par : Int → Int} (D : Deep par) {x b : Int} (hx : x ≠ 0) (h : inP par x b = true) : b ≠ 0 ∧ plen par b ≤ plen par x ∧ (b = x ∨ (plen par b < plen par x ∧ par x ≠ 0 ∧ inP par (par x) b = true)) :=
  on_plen D (D.path x).1 hx b (mem_inP.1 h)
theorem in_uniq {par : Int → Int} (D : Deep par) : ∀ (k : Nat) {x a b : Int}, plen par x ≤ k → x ≠ 0 → inP par x a = true → inP par x b = true → plen par a = plen par b → a = b
  | 0, x, a, b, hk, hx, ha, hb, e => by have := D.plen_up hx; omega
  | k + 1, x, a, b, hk, hx, ha, hb, e => by
    have h1 := in_plen D hx ha
    have h2 := in_plen D hx hb
    have h3 := D.plen_up hx
    rcases h1.2.2 with q | q
    · rcases h2.2.2 with p | p
      · exact q.trans p.symm
      · subst q; omega
    · rcases h2.2.2 with p | p
      · subst p; omega
      · exact in_uniq D k (by omega) q.2.1 q.2.2 p.2.2 e
theorem in_trans {par : Int → Int} (D : Deep par) : ∀ (k : Nat) {x a b : Int}, plen par x ≤ k → x ≠ 0 → inP par x a = true → inP par a b = true → inP par x b = true
  | 0, x, a, b, hk, hx, ha, hb => by have := D.plen_up hx; omega
  | k + 1, x, a, b, hk, hx, ha, hb => by
    have h1 := in_plen D hx ha
    rcases h1.2.2 with q | q
    · subst q; exact hb
    · have h3 := D.plen_up hx
      have := in_trans D k (by omega) q.2.1 q.2.2 hb
      rw [D.in_eq, this, bne_iff_ne.2 q.2.1]; simp
theorem in_child {par : Int → Int} (D : Deep par) (hi : i ≠ 0) (hc : par c = i) : inP par c i = true := by
  rw [D.in_eq, hc, bne_iff_ne.2 hi, D.in_eq]; simp

/-- What a list of applied surfaces keeps to, below i. -/
def BelowL (S : Fo) (i : Int) (l : List Int) : Prop := ∀ x ∈ l, inP (parOf S) x i = true ∧ x ≠ i ∧ hasB S x = true
def Ranked (S : Fo) (l : List Int) : Prop := l.Pairwise fun a b => b ≠ a ∧ b ≠ parOf S a
theorem ranked_app {l m : List Int} (h1 : Ranked S l) (h2 : Ranked S m) (h : ∀ a ∈ l, ∀ b ∈ m, b ≠ a ∧ b ≠ parOf S a) : Ranked S (l ++ m) := List.pairwise_append.2 ⟨h1, h2, h⟩
theorem child_of (h : S.ok) (hi : hasB S i = true) (hc : c ∈ curOf S i) (hne : c ≠ i) : parOf S c = i := by
  obtain ⟨n, hn⟩ := has_get hi
  have e : curOf S i = n.cur := by unfold curOf; rw [hn]; rfl
  rw [e] at hc
  have := (h.crr n (get_some hn).1).2.2 c hc
  rw [(get_some hn).2] at this
  exact this.resolve_left hne
theorem curOf_nodup (h : S.ok) (hi : hasB S i = true) : (curOf S i).Nodup := by
  obtain ⟨n, hn⟩ := has_get hi
  have e : curOf S i = n.cur := by unfold curOf; rw [hn]; rfl
  rw [e]; exact (h.crr n (get_some hn).1).1
theorem self_cur (h : S.ok) (hi : hasB S i = true) : i ∈ curOf S i := by
  obtain ⟨n, hn⟩ := has_get hi
  have e : curOf S i = n.cur := by unfold curOf; rw [hn]; rfl
  have := (h.crr n (get_some hn).1).2.1
  rw [(get_some hn).2] at this
  rw [e]; exact this
/-- What one element of the list adds. -/
def Adds (S : Fo) (i c : Int) (l : List Int) : Prop := c ≠ i → parOf S c = i → (∀ x ∈ l, inP (parOf S) x c = true ∧ hasB S x = true) ∧ Ranked S l
theorem fold_law (f : Fo → Int → Fo × List Int) (i : Int) (hi : i ≠ 0) (S : Fo) (hk : ∀ T c, Keeps S T → Keeps T (f T c).1) (hf : ∀ T c, Keeps S T → c ≠ i → parOf S c = i → BelowL S c (f T c).2 ∧ Ranked S (f T c).2) :
    ∀ (L : List Int) (st : Fo × List Int), Keeps S st.1 → L.Nodup → (∀ c ∈ L, c = i ∨ parOf S c = i) →
      (BelowL S i st.2 ∧ Ranked S st.2 ∧ ∀ x ∈ st.2, ∀ c ∈ L, c ≠ i → inP (parOf S) x c = false) → BelowL S i (L.foldl (visF f i) st).2 ∧ Ranked S (L.foldl (visF f i) st).2
  | [], st, _, _, _, h => ⟨h.1, h.2.1⟩
  | c :: L, st, hK, hn, hc, h => by
    have hn' := List.nodup_cons.1 hn
    have hok := hK.ok
    have D : Deep (parOf S) := by rw [← hK.par]; exact hok.deep
    have hS : ∀ z, hasB st.1 z = hasB S z := fun z => hasB_ids hK.ids z
    have hne0 : ∀ z, hasB S z = true → z ≠ 0 := fun z hz => hok.has_ne (by rw [hS]; exact hz)
    have hhas : ∀ z, parOf S z ≠ 0 → hasB S z = true := fun z hz => by rw [← hS]; exact hok.has_of_par (by rw [hK.par]; exact hz)
    have step : ∀ (T : Fo) (m : List Int), Keeps S T → (c ≠ i → parOf S c = i → (∀ x ∈ m, inP (parOf S) x c = true ∧ hasB S x = true) ∧ Ranked S m) → (c = i → m = []) →
        BelowL S i (L.foldl (visF f i) (T, st.2 ++ m)).2 ∧ Ranked S (L.foldl (visF f i) (T, st.2 ++ m)).2 := by
      intro T m hT hm hci
      refine fold_law f i hi S hk hf L (T, st.2 ++ m) hT hn'.2 (fun z hz => hc z (List.mem_cons_of_mem _ hz)) ?_
      by_cases e : c = i
      · rw [hci e, List.append_nil]
        exact ⟨h.1, h.2.1, fun x hx z hz => h.2.2 x hx z (List.mem_cons_of_mem _ hz)⟩
      · have hp : parOf S c = i := (hc c (by simp)).resolve_left e
        have hm' := hm e hp
        have hc0 : c ≠ 0 := hne0 c (hhas c (by rw [hp]; exact hi))
        have hpl : plen (parOf S) c = plen (parOf S) i + 1 := by rw [D.plen_up hc0, hp]
        have hb : ∀ x ∈ m, inP (parOf S) x i = true ∧ x ≠ i ∧ hasB S x = true := fun x hx => by
          obtain ⟨q1, q2⟩ := hm'.1 x hx
          have hx0 := hne0 x q2
          refine ⟨in_trans D _ (Nat.le_refl _) hx0 q1 (in_child D hi hp), ?_, q2⟩
          rintro rfl
          have := (in_plen D hx0 q1).2.1
          omega
        refine ⟨fun x hx => ?_, ranked_app h.2.1 hm'.2 (fun a ha z hz => ?_), fun x hx z hz hzi => ?_⟩
        · rcases List.mem_append.1 hx with q | q
          · exact h.1 x q
          · exact hb x q
        · have ha' := h.1 a ha
          have hnac := h.2.2 a ha c (by simp) e
          have hz' := hm'.1 z hz
          have ha0 := hne0 a ha'.2.2
          constructor
          · rintro rfl; rw [hz'.1] at hnac; cases hnac
          · rintro e2
            by_cases h0 : parOf S a = 0
            · rw [h0] at e2; exact hne0 z hz'.2 e2
            · have : inP (parOf S) a c = true := by
                rw [D.in_eq, bne_iff_ne.2 h0, ← e2, hz'.1]; simp
              rw [this] at hnac; cases hnac
        · rcases List.mem_append.1 hx with q | q
          · exact h.2.2 x q z (List.mem_cons_of_mem _ hz) hzi
          · obtain ⟨q1, q2⟩ := hm'.1 x q
            cases hq : inP (parOf S) x z with
            | false => rfl
            | true =>
              have hpz : parOf S z = i := (hc z (List.mem_cons_of_mem _ hz)).resolve_left hzi
              have hz0 : z ≠ 0 := hne0 z (hhas z (by rw [hpz]; exact hi))
              have : c = z := in_uniq D _ (Nat.le_refl _) (hne0 x q2) q1 hq (by rw [hpl, D.plen_up hz0, hpz])
              subst this
              exact absurd hz hn'.1
    rw [List.foldl_cons]
    unfold visF
    split
    · rename_i hq
      have := step st.1 [] hK (fun _ _ => ⟨by simp, List.Pairwise.nil⟩) (fun _ => rfl)
      rw [List.append_nil] at this
      exact this
    · rename_i hq
      have hci : c ≠ i := by
        rintro rfl
        exact hq (by simp)
      split
      · have hA := hK.trans (Keeps.apl hok c)
        have hT := hA.trans (hk _ c hA)
        rw [List.append_assoc]
        refine step _ _ hT (fun e hp => ?_) (fun e => absurd e hci)
        have h1 := hf _ c hA e hp
        have hc1 : hasB S c = true := hhas c (by rw [hp]; exact hi)
        refine ⟨fun x hx => ?_, ?_⟩
        · rcases List.mem_append.1 hx with q | q
          · simp at q; subst q; exact ⟨by rw [D.in_eq]; simp, hc1⟩
          · exact ⟨(h1.1 x q).1, (h1.1 x q).2.2⟩
        · refine ranked_app (List.pairwise_singleton _ _) h1.2 (fun a ha z hz => ?_)
          simp at ha
          subst ha
          have hz' := h1.1 z hz
          refine ⟨hz'.2.1, fun e2 => ?_⟩
          have := (in_plen D (hne0 z hz'.2.2) hz'.1).2.1
          have := D.plen_up (hne0 a hc1)
          rw [← e2] at this
          omega
      · have hT := hK.trans (hk _ c hK)
        refine step _ _ hT (fun e hp => ?_) (fun e => absurd e hci)
        have h1 := hf _ c hK e hp
        exact ⟨fun x hx => ⟨(h1.1 x hx).1, (h1.1 x hx).2.2⟩, h1.2⟩
end
theorem visS_law : ∀ (k : Nat) (S T : Fo) (i : Int), Keeps S T → hasB S i = true → BelowL S i (visS k T i).2 ∧ Ranked S (visS k T i).2
  | 0, S, T, i, hK, hi => ⟨fun x hx => by simp [visS] at hx, List.Pairwise.nil⟩
  | k + 1, S, T, i, hK, hi => by
    have hiT : hasB T i = true := by rw [hasB_ids hK.ids]; exact hi
    have hi0 := hK.ok.has_ne hiT
    refine fold_law (visS k) i hi0 S (fun U c hU => visS_keeps k U c hU.ok) (fun U c hU hne hp => ?_) (curOf T i) (T, []) hK (curOf_nodup hK.ok hiT) (fun c hc => ?_) ⟨fun x hx => by simp at hx, List.Pairwise.nil, fun x hx => by simp at hx⟩
    · refine visS_law k S U c hU ?_
      rw [← hasB_ids hU.ids]
      exact hU.ok.has_of_par (by rw [hU.par, hp]; exact hi0)
    · by_cases e : c = i
      · exact .inl e
      · exact .inr (by rw [← hK.par]; exact child_of hK.ok hiT hc e)
theorem ranked_nodup {S : Fo} {l : List Int} (h : Ranked S l) : l.Nodup := List.Pairwise.imp (fun q e => q.1 e.symm) h
theorem visS_len (k : Nat) {S : Fo} {i : Int} (h : S.ok) (hi : hasB S i = true) : (visS k S i).2.length ≤ S.length := by
  have h1 := visS_law k S S i (Keeps.refl h) hi
  have := nodup_le _ (S.map Nd.id) (ranked_nodup h1.2) (fun x hx => hasB_iff.1 (h1.1 x hx).2.2)
  rwa [List.length_map] at this
theorem fold_mono (f : Fo → Int → Fo × List Int) (i : Int) : ∀ (L : List Int) (st : Fo × List Int), st.2.length ≤ (L.foldl (visF f i) st).2.length
  | [], st => Nat.le_refl _
  | c :: L, st => by
    refine Nat.le_trans ?_ (fold_mono f i L _)
    unfold visF
    split
    · exact Nat.le_refl _
    · split <;> simp
end Go.Proofs.Ytehcfeibfpgamaa
