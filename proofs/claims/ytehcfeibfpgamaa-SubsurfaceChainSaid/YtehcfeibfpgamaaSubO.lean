/- Trees of subsurfaces: what each call makes of the nodes, and that they stay a forest. No program. -/
import Derived.Test.YtehcfeibfpgamaaSubM
set_option linter.unusedVariables false
set_option linter.unusedSimpArgs false
set_option maxRecDepth 100000
namespace Go.Proofs.Ytehcfeibfpgamaa

def newNd (i : Int) : Nd := ⟨i, 0, false, false, 0, 0, 0, 0, [i], [i]⟩
def addS (S : Fo) (i : Int) : Fo := S ++ [newNd i]
def attN (i p : Int) (n : Nd) : Nd :=
  if n.id = i then { n with par := p, sync := true, px := 0, py := 0, cx := 0, cy := 0 } else if n.id = p then { n with pend := n.pend ++ [i] } else n
def attS (S : Fo) (i p : Int) : Fo := S.map (attN i p)
def rem (i : Int) (l : List Int) : List Int := l.filter fun x => !(x == i)
def detN (i p : Int) (n : Nd) : Nd :=
  if n.id = i then { n with par := 0 } else if n.id = p then { n with pend := rem i n.pend, cur := rem i n.cur } else n
def detS (S : Fo) (i : Int) : Fo := S.map (detN i (parOf S i))
def insAt (s i : Int) (above : Bool) (l : List Int) : List Int := l.flatMap fun x => if x = s then (if above then [x, i] else [i, x]) else [x]
def plcS (S : Fo) (i s : Int) (above : Bool) : Fo := upd S (parOf S i) fun n => { n with pend := insAt s i above (rem i n.pend) }
def posS (S : Fo) (i x y : Int) : Fo := upd S i fun n => { n with px := x, py := y }
def synS (S : Fo) (i : Int) (b : Bool) : Fo := upd S i fun n => { n with sync := b }
def cchS (S : Fo) (i : Int) : Fo := upd S i fun n => { n with cached := true }
def aplN (i : Int) (n : Nd) : Nd :=
  if n.id = i then { n with cur := n.pend, cached := false } else if n.par = i then { n with cx := n.px, cy := n.py } else n
def aplS (S : Fo) (i : Int) : Fo := S.map (aplN i)
def visF (f : Fo → Int → Fo × List Int) (id : Int) (st : Fo × List Int) (c : Int) : Fo × List Int :=
  if (c == id || !synB st.1 c) = true then st
  else if cachedOf st.1 c = true then ((f (aplS st.1 c) c).1, st.2 ++ [c] ++ (f (aplS st.1 c) c).2) else ((f st.1 c).1, st.2 ++ (f st.1 c).2)
def visS : Nat → Fo → Int → Fo × List Int
  | 0, S, _ => (S, [])
  | k + 1, S, id => (curOf S id).foldl (visF (visS k) id) (S, [])
def ordS (add : Int → Int → Int) (S : Fo) : Nat → Int → Int → Int → List (Int × Int × Int)
  | 0, _, _, _ => []
  | k + 1, id, x, y => (curOf S id).flatMap fun c => if c = id then [(id, x, y)] else ordS add S k c (add x (cxOf S c)) (add y (cyOf S c))

/-! ### They stay a forest -/
section
variable {S : Fo} {i j p : Int} {n : Nd}
theorem ok_mapG (h : S.ok) (g : Nd → Nd) (hid : ∀ n, (g n).id = n.id) (hpar : ∀ n ∈ S, (g n).par = 0 ∨ (g n).par ∈ S.map Nd.id) (hd : Deep (parOf (S.map g)))
    (hp : ∀ n ∈ S, (g n).pend.Nodup ∧ n.id ∈ (g n).pend ∧ (∀ c ∈ (g n).pend, c = n.id ∨ parOf (S.map g) c = n.id) ∧ ∀ m ∈ S, (g m).par = n.id → m.id ∈ (g n).pend)
    (hc : ∀ n ∈ S, (g n).cur.Nodup ∧ n.id ∈ (g n).cur ∧ ∀ c ∈ (g n).cur, c = n.id ∨ parOf (S.map g) c = n.id) : Fo.ok (S.map g) := by
  have e : (S.map g).map Nd.id = S.map Nd.id := by rw [List.map_map]; exact List.map_congr_left fun n _ => hid n
  refine ⟨by rw [e]; exact h.ids, ?_, ?_, hd, ?_, ?_⟩
  · intro n hn
    obtain ⟨m, hm, rfl⟩ := List.mem_map.1 hn
    rw [hid]; exact h.pos m hm
  · intro n hn
    obtain ⟨m, hm, rfl⟩ := List.mem_map.1 hn
    rw [e]; exact hpar m hm
  · intro n hn
    obtain ⟨m, hm, rfl⟩ := List.mem_map.1 hn
    rw [hid]
    obtain ⟨a, b, c, d⟩ := hp m hm
    refine ⟨a, b, c, fun k hk he => ?_⟩
    obtain ⟨k', hk', rfl⟩ := List.mem_map.1 hk
    rw [hid]
    exact d k' hk' he
  · intro n hn
    obtain ⟨m, hm, rfl⟩ := List.mem_map.1 hn
    rw [hid]; exact hc m hm
theorem parOf_map (g : Nd → Nd) (hid : ∀ n, (g n).id = n.id) (j : Int) : parOf (S.map g) j = ((get S j).map fun n => (g n).par).getD 0 := by
  unfold parOf; rw [get_map g hid]; cases get S j <;> rfl
theorem parOf_same (g : Nd → Nd) (hid : ∀ n, (g n).id = n.id) (hpar : ∀ n, (g n).par = n.par) : parOf (S.map g) = parOf S := by
  funext j
  rw [parOf_map g hid]
  unfold parOf
  cases get S j with
  | none => rfl
  | some n => simp [hpar]
theorem ok_map (h : S.ok) (g : Nd → Nd) (hid : ∀ n, (g n).id = n.id) (hpar : ∀ n, (g n).par = n.par)
    (hp : ∀ n ∈ S, (g n).pend.Nodup ∧ n.id ∈ (g n).pend ∧ (∀ c ∈ (g n).pend, c = n.id ∨ parOf S c = n.id) ∧ ∀ m ∈ S, m.par = n.id → m.id ∈ (g n).pend)
    (hc : ∀ n ∈ S, (g n).cur.Nodup ∧ n.id ∈ (g n).cur ∧ ∀ c ∈ (g n).cur, c = n.id ∨ parOf S c = n.id) : Fo.ok (S.map g) := by
  have e := parOf_same (S := S) g hid hpar
  refine ok_mapG h g hid (fun n hn => by rw [hpar]; exact h.par n hn) (by rw [e]; exact h.deep) (fun n hn => ?_) (by rw [e]; exact hc)
  rw [e]
  obtain ⟨a, b, c, d⟩ := hp n hn
  exact ⟨a, b, c, fun m hm q => d m hm (by rw [hpar] at q; exact q)⟩

theorem get_add (i j : Int) : get (addS S i) j = (get S j).or (if i = j then some (newNd i) else none) := by
  unfold get addS
  rw [List.find?_append]
  congr 1
  by_cases e : i = j
  · simp [newNd, e]
  · rw [if_neg e, List.find?_cons]
    have : ((newNd i).id == j) = false := beq_eq_false_iff_ne.2 e
    rw [this]; rfl
theorem parOf_add (h : hasB S i = false) : parOf (addS S i) = parOf S := by
  funext j
  unfold parOf
  rw [get_add]
  cases e : get S j with
  | some n => rfl
  | none => simp only [Option.none_or]; split <;> rfl
theorem add_ok (h : S.ok) (hi : hasB S i = false) (h1 : 1 ≤ i) : (addS S i).ok := by
  have hm : i ∉ S.map Nd.id := fun q => by rw [hasB_iff.2 q] at hi; cases hi
  have e := parOf_add (S := S) hi
  refine ⟨?_, ?_, ?_, by rw [e]; exact h.deep, ?_, ?_⟩
  · simp only [addS, List.map_append, List.map_cons, List.map_nil]
    refine List.nodup_append.2 ⟨h.ids, by simp, ?_⟩
    intro a ha b hb
    simp at hb
    subst hb
    rintro rfl
    exact hm ha
  · intro n hn
    rcases List.mem_append.1 hn with q | q
    · exact h.pos n q
    · simp at q; subst q; exact h1
  · intro n hn
    simp only [addS, List.map_append, List.mem_append]
    rcases List.mem_append.1 hn with q | q
    · rcases h.par n q with z | z
      · exact .inl z
      · exact .inr (.inl z)
    · simp at q; subst q; exact .inl rfl
  · rw [e]
    intro n hn
    rcases List.mem_append.1 hn with q | q
    · obtain ⟨a, b, c, d⟩ := h.pnd n q
      refine ⟨a, b, c, fun m hm2 hz => ?_⟩
      rcases List.mem_append.1 hm2 with z | z
      · exact d m z hz
      · simp at z; subst z
        have := h.pos n q
        simp only [newNd] at hz
        omega
    · simp at q; subst q
      refine ⟨by simp [newNd], by simp [newNd], by simp [newNd], fun m hm2 hz => ?_⟩
      rcases List.mem_append.1 hm2 with z | z
      · rcases h.par m z with y | y
        · rw [hz] at y; simp only [newNd] at y; omega
        · rw [hz] at y; exact absurd y hm
      · simp at z; subst z; simp [newNd]
  · rw [e]
    intro n hn
    rcases List.mem_append.1 hn with q | q
    · exact h.crr n q
    · simp at q; subst q; simp [newNd]

theorem attN_id (i p : Int) (n : Nd) : (attN i p n).id = n.id := by unfold attN; split; rfl; split <;> rfl
theorem parOf_att (hi : hasB S i = true) (j : Int) : parOf (attS S i p) j = if j = i then p else parOf S j := by
  unfold attS
  rw [parOf_map _ (attN_id i p)]
  by_cases e : j = i
  · subst e
    rw [if_pos rfl]
    obtain ⟨n, hn⟩ := has_get hi
    rw [hn]
    simp [attN, (get_some hn).2]
  · rw [if_neg e]
    unfold parOf
    cases hg : get S j with
    | none => rfl
    | some n =>
      have := (get_some hg).2
      simp only [Option.map_some, Option.getD_some, attN]
      rw [if_neg (by rw [this]; exact e)]
      split <;> rfl
theorem heightL_ge (S : Fo) (i : Int) : ∀ (l : List Nd) (n : Nd), n ∈ l → inP (parOf S) n.id i = true → depth S n.id - depth S i ≤ heightL S i l
  | [], n, h, _ => by simp at h
  | a :: l, n, h, q => by
    unfold heightL
    rcases List.mem_cons.1 h with rfl | h
    · rw [if_pos q]; omega
    · have := heightL_ge S i l n h q; omega
theorem depth_len (h : S.ok) {j : Int} (hj : j ≠ 0) : (pathOf (parOf S) j).length = depth S j + 1 := by
  have := h.deep.plen_up hj
  unfold depth
  unfold plen at this ⊢
  rw [if_neg hj] at this
  exact this
theorem mem_inP {par : Int → Int} {a b : Int} : inP par a b = true ↔ b ∈ pathOf par a := by unfold inP; rw [List.contains_eq_mem, decide_eq_true_iff]
theorem att_ok (h : S.ok) (hi : hasB S i = true) (hp : hasB S p = true) (h0 : parOf S i = 0) (hn : inP (parOf S) p i = false) (hl : depth S p + 1 + height S i ≤ 8) : (attS S i p).ok := by
  have hi0 := h.has_ne hi
  have hp0 := h.has_ne hp
  have hpi : p ≠ i := by rintro rfl; rw [h.self_in] at hn; cases hn
  have hpar := fun j => parOf_att (S := S) (p := p) hi j
  have hpar' : ∀ j, parOf (S.map (attN i p)) j = if j = i then p else parOf S j := hpar
  have hdi : depth S i = 0 := by unfold depth; rw [h0]; exact Deep.plen0
  refine ok_mapG h _ (attN_id i p) ?_ ?_ ?_ ?_
  · intro n hn
    unfold attN
    split
    · exact .inr (hasB_iff.1 hp)
    · split <;> exact h.par n hn
  · refine h.deep.graft h0 hp0 hn (by rw [hpar' i, if_pos rfl]) (fun x hx => by rw [hpar' x, if_neg hx]) fun j hj => ?_
    cases hjb : hasB S j with
    | false =>
      rw [mem_inP, h.deep.path_root (parOf_no hjb)] at hj
      simp at hj
      subst hj
      rw [hi] at hjb
      cases hjb
    | true =>
      obtain ⟨n, e⟩ := has_get hjb
      obtain ⟨hm, rfl⟩ := get_some e
      have h1 := heightL_ge S i S n hm hj
      have h2 := depth_len h (h.has_ne hjb)
      have h3 := depth_len h hp0
      unfold height at hl
      omega
  · have hmem : ∀ n ∈ S, ∀ c, c ≠ i → (c = n.id ∨ parOf S c = n.id) → (c = n.id ∨ parOf (attS S i p) c = n.id) := by
      intro n _ c hc q
      rw [hpar c, if_neg hc]; exact q
    intro n hn
    show _ ∧ _ ∧ (∀ c ∈ _, c = n.id ∨ parOf (attS S i p) c = n.id) ∧ _
    obtain ⟨a, b, c, d⟩ := h.pnd n hn
    have hin : i ∈ n.pend → n.id = i := fun q => by
      rcases c i q with z | z
      · exact z.symm
      · rw [h0] at z; have := h.pos n hn; omega
    unfold attN
    by_cases e1 : n.id = i
    · rw [if_pos e1]
      refine ⟨a, b, fun x hx => ?_, fun m hm hz => ?_⟩
      · by_cases e : x = i
        · exact .inl (e.trans e1.symm)
        · exact hmem n hn x e (c x hx)
      · by_cases e3 : m.id = i
        · rw [if_pos e3] at hz; simp only at hz; rw [e1] at hz; exact absurd hz hpi
        · rw [if_neg e3] at hz; exact d m hm (by split at hz <;> exact hz)
    · rw [if_neg e1]
      by_cases e2 : n.id = p
      · rw [if_pos e2]
        refine ⟨?_, by simp [b], fun x hx => ?_, fun m hm hz => ?_⟩
        · refine List.nodup_append.2 ⟨a, by simp, fun x hx y hy => ?_⟩
          simp at hy; subst hy
          rintro rfl
          exact e1 (hin hx)
        · rcases List.mem_append.1 hx with q | q
          · exact hmem n hn x (by rintro rfl; exact e1 (hin q)) (c x q)
          · simp at q; subst q; exact .inr (by rw [hpar x, if_pos rfl]; exact e2.symm)
        · simp only [List.mem_append]
          by_cases e3 : m.id = i
          · exact .inr (by simp [e3])
          · rw [if_neg e3] at hz
            exact .inl (d m hm (by split at hz <;> exact hz))
      · rw [if_neg e2]
        refine ⟨a, b, fun x hx => hmem n hn x (by rintro rfl; exact e1 (hin hx)) (c x hx), fun m hm hz => ?_⟩
        by_cases e3 : m.id = i
        · rw [if_pos e3] at hz; simp only at hz; exact absurd hz.symm e2
        · rw [if_neg e3] at hz; exact d m hm (by split at hz <;> exact hz)
  · intro n hnS
    show _ ∧ _ ∧ (∀ c ∈ _, c = n.id ∨ parOf (attS S i p) c = n.id)
    obtain ⟨a, b, c⟩ := h.crr n hnS
    have e : (attN i p n).cur = n.cur := by unfold attN; split; rfl; split <;> rfl
    rw [e]
    refine ⟨a, b, fun x hx => ?_⟩
    rw [hpar x]
    rcases c x hx with q | q
    · exact .inl q
    · by_cases ex : x = i
      · subst ex; rw [h0] at q; have := h.pos n hnS; omega
      · rw [if_neg ex]; exact .inr q

theorem detN_id (i p : Int) (n : Nd) : (detN i p n).id = n.id := by unfold detN; split; rfl; split <;> rfl
theorem parOf_det (j : Int) : parOf (detS S i) j = if j = i then 0 else parOf S j := by
  unfold detS
  rw [parOf_map _ (detN_id _ _)]
  by_cases e : j = i
  · subst e
    rw [if_pos rfl]
    cases hg : get S j with
    | none => rfl
    | some n => simp [detN, (get_some hg).2]
  · rw [if_neg e]
    conv => rhs; unfold parOf
    cases hg : get S j with
    | none => rfl
    | some n =>
      have := (get_some hg).2
      simp only [Option.map_some, Option.getD_some, detN]
      rw [if_neg (by rw [this]; exact e)]
      split <;> rfl
theorem mem_rem {x i : Int} {l : List Int} : x ∈ rem i l ↔ x ∈ l ∧ x ≠ i := by simp [rem, List.mem_filter]
theorem det_ok (h : S.ok) (hi : parOf S i ≠ 0) : (detS S i).ok := by
  have hpar := fun j => parOf_det (S := S) (i := i) j
  have hi0 := h.has_ne (h.has_of_par hi)
  have hpi := h.par_ne i hi0
  have hmem : ∀ n ∈ S, ∀ c, c ≠ i → (c = n.id ∨ parOf S c = n.id) → (c = n.id ∨ parOf (detS S i) c = n.id) := by
    intro n _ c hc q
    rw [hpar c, if_neg hc]; exact q
  have hself : ∀ (n : Nd), n ∈ S → ∀ c, n.id = i → (c = n.id ∨ parOf S c = n.id) → (c = n.id ∨ parOf (detS S i) c = n.id) := by
    intro n hn c e q
    by_cases ec : c = i
    · exact .inl (ec.trans e.symm)
    · exact hmem n hn c ec q
  refine ok_mapG h _ (detN_id i _) ?_ (h.deep.cut (i := i) (by rw [show S.map (detN i (parOf S i)) = detS S i from rfl, hpar, if_pos rfl]) (fun x hx => by rw [show S.map (detN i (parOf S i)) = detS S i from rfl, hpar, if_neg hx])) ?_ ?_
  · intro n hn
    unfold detN
    split
    · exact .inl rfl
    · split <;> exact h.par n hn
  · intro n hn
    show _ ∧ _ ∧ (∀ c ∈ _, c = n.id ∨ parOf (detS S i) c = n.id) ∧ _
    obtain ⟨a, b, c, d⟩ := h.pnd n hn
    have hm2 : ∀ m ∈ S, (detN i (parOf S i) m).par = n.id → m.par = n.id ∧ m.id ≠ i := by
      intro m hm hz
      have := h.pos n hn
      unfold detN at hz
      by_cases e : m.id = i
      · rw [if_pos e] at hz; simp only at hz; omega
      · rw [if_neg e] at hz; exact ⟨by split at hz <;> exact hz, e⟩
    by_cases e1 : n.id = i
    · have e : (detN i (parOf S i) n).pend = n.pend := by unfold detN; rw [if_pos e1]
      rw [e]
      exact ⟨a, b, fun x hx => hself n hn x e1 (c x hx), fun m hm hz => d m hm (hm2 m hm hz).1⟩
    · by_cases e2 : n.id = parOf S i
      · have e : (detN i (parOf S i) n).pend = rem i n.pend := by unfold detN; rw [if_neg e1, if_pos e2]
        rw [e]
        exact ⟨a.filter _, mem_rem.2 ⟨b, e1⟩, fun x hx => hmem n hn x (mem_rem.1 hx).2 (c x (mem_rem.1 hx).1), fun m hm hz => mem_rem.2 ⟨d m hm (hm2 m hm hz).1, (hm2 m hm hz).2⟩⟩
      · have e : (detN i (parOf S i) n).pend = n.pend := by unfold detN; rw [if_neg e1, if_neg e2]
        rw [e]
        refine ⟨a, b, fun x hx => hmem n hn x ?_ (c x hx), fun m hm hz => d m hm (hm2 m hm hz).1⟩
        rintro rfl
        rcases c x hx with q | q
        · exact e1 q.symm
        · exact e2 q.symm
  · intro n hn
    show _ ∧ _ ∧ (∀ c ∈ _, c = n.id ∨ parOf (detS S i) c = n.id)
    obtain ⟨a, b, c⟩ := h.crr n hn
    by_cases e1 : n.id = i
    · have e : (detN i (parOf S i) n).cur = n.cur := by unfold detN; rw [if_pos e1]
      rw [e]
      exact ⟨a, b, fun x hx => hself n hn x e1 (c x hx)⟩
    · by_cases e2 : n.id = parOf S i
      · have e : (detN i (parOf S i) n).cur = rem i n.cur := by unfold detN; rw [if_neg e1, if_pos e2]
        rw [e]
        exact ⟨a.filter _, mem_rem.2 ⟨b, e1⟩, fun x hx => hmem n hn x (mem_rem.1 hx).2 (c x (mem_rem.1 hx).1)⟩
      · have e : (detN i (parOf S i) n).cur = n.cur := by unfold detN; rw [if_neg e1, if_neg e2]
        rw [e]
        refine ⟨a, b, fun x hx => hmem n hn x ?_ (c x hx)⟩
        rintro rfl
        rcases c x hx with q | q
        · exact e1 q.symm
        · exact e2 q.symm

theorem mem_insAt {s i x : Int} {above : Bool} {l : List Int} (hs : s ∈ l) : x ∈ insAt s i above l ↔ x ∈ l ∨ x = i := by
  unfold insAt
  rw [List.mem_flatMap]
  constructor
  · rintro ⟨y, hy, hx⟩
    split at hx
    · split at hx
      · simp at hx; rcases hx with rfl | rfl; exact .inl hy; exact .inr rfl
      · simp at hx; rcases hx with rfl | rfl; exact .inr rfl; exact .inl hy
    · simp at hx; subst hx; exact .inl hy
  · rintro (hx | rfl)
    · refine ⟨x, hx, ?_⟩
      split
      · split <;> simp
      · simp
    · exact ⟨s, hs, by rw [if_pos rfl]; split <;> simp⟩
theorem insAt_nodup {s i : Int} {above : Bool} : ∀ {l : List Int}, l.Nodup → i ∉ l → (insAt s i above l).Nodup
  | [], _, _ => by simp [insAt]
  | x :: l, hn, hi => by
    have hx := List.nodup_cons.1 hn
    simp only [List.mem_cons, not_or] at hi
    have ih := insAt_nodup (s := s) (i := i) (above := above) hx.2 hi.2
    have e : insAt s i above (x :: l) = (if x = s then (if above then [x, i] else [i, x]) else [x]) ++ insAt s i above l := by simp [insAt]
    have hsub : ∀ y, y ∈ insAt s i above l → y ∈ l ∨ (y = i ∧ s ∈ l) := by
      intro y hy
      by_cases hs : s ∈ l
      · rcases (mem_insAt hs).1 hy with q | q
        · exact .inl q
        · exact .inr ⟨q, hs⟩
      · unfold insAt at hy
        rw [List.mem_flatMap] at hy
        obtain ⟨z, hz, hy⟩ := hy
        rw [if_neg (by rintro rfl; exact hs hz)] at hy
        simp at hy; subst hy; exact .inl hz
    have hxn : x ∉ insAt s i above l := fun q => by
      rcases hsub x q with z | ⟨z, _⟩
      · exact hx.1 z
      · exact hi.1 z.symm
    rw [e]
    by_cases hxs : x = s
    · subst hxs
      have hin : i ∉ insAt x i above l := fun q => by
        rcases hsub i q with z | ⟨_, z⟩
        · exact hi.2 z
        · exact hx.1 z
      rw [if_pos rfl]
      cases above
      · simpa using ⟨⟨hi.1, hin⟩, hxn, ih⟩
      · simpa using ⟨⟨fun q => hi.1 q.symm, hxn⟩, hin, ih⟩
    · rw [if_neg hxs]
      simpa using ⟨hxn, ih⟩
theorem plc_ok (h : S.ok) {s : Int} {above : Bool} (hi : parOf S i ≠ 0) (hsi : s ≠ i) (hs : s = parOf S i ∨ parOf S s = parOf S i) : (plcS S i s above).ok := by
  refine ok_map h _ (fun n => by split <;> rfl) (fun n => by split <;> rfl) ?_ (fun n hn => by
    have := h.crr n hn
    split <;> exact this)
  intro n hn
  obtain ⟨a, b, c, d⟩ := h.pnd n hn
  by_cases e : n.id = parOf S i
  · rw [if_pos e]
    have hsm : s ∈ n.pend := by
      rcases hs with q | q
      · rw [q, ← e]; exact b
      · obtain ⟨m, hm⟩ := has_get (h.has_of_par (i := s) (by rw [q]; exact hi))
        have hms := get_some hm
        have := d m hms.1 (by rw [← parOf_get hm, q, e])
        rw [hms.2] at this
        exact this
    have him : i ∈ n.pend := by
      obtain ⟨m, hm⟩ := has_get (h.has_of_par hi)
      have hms := get_some hm
      have := d m hms.1 (by rw [← parOf_get hm, e])
      rw [hms.2] at this
      exact this
    have hiff : ∀ x, x ∈ insAt s i above (rem i n.pend) ↔ x ∈ n.pend := by
      intro x
      rw [mem_insAt (mem_rem.2 ⟨hsm, hsi⟩), mem_rem]
      constructor
      · rintro (q | rfl)
        · exact q.1
        · exact him
      · intro q
        by_cases ex : x = i
        · exact .inr ex
        · exact .inl ⟨q, ex⟩
    exact ⟨insAt_nodup (a.filter _) (fun q => (mem_rem.1 q).2 rfl), (hiff _).2 b, fun x hx => c x ((hiff x).1 hx), fun m hm q => (hiff _).2 (d m hm q)⟩
  · rw [if_neg e]; exact ⟨a, b, c, d⟩
theorem pos_ok (h : S.ok) (x y : Int) : (posS S i x y).ok :=
  ok_map h _ (fun n => by split <;> rfl) (fun n => by split <;> rfl) (fun n hn => by have := h.pnd n hn; split <;> exact this) (fun n hn => by have := h.crr n hn; split <;> exact this)
theorem syn_ok (h : S.ok) (b : Bool) : (synS S i b).ok :=
  ok_map h _ (fun n => by split <;> rfl) (fun n => by split <;> rfl) (fun n hn => by have := h.pnd n hn; split <;> exact this) (fun n hn => by have := h.crr n hn; split <;> exact this)
theorem cch_ok (h : S.ok) : (cchS S i).ok :=
  ok_map h _ (fun n => by split <;> rfl) (fun n => by split <;> rfl) (fun n hn => by have := h.pnd n hn; split <;> exact this) (fun n hn => by have := h.crr n hn; split <;> exact this)
theorem aplN_id (i : Int) (n : Nd) : (aplN i n).id = n.id := by unfold aplN; split; rfl; split <;> rfl
theorem aplN_par (i : Int) (n : Nd) : (aplN i n).par = n.par := by unfold aplN; split; rfl; split <;> rfl
theorem aplN_pend (i : Int) (n : Nd) : (aplN i n).pend = n.pend := by unfold aplN; split; rfl; split <;> rfl
theorem apl_par : parOf (aplS S i) = parOf S := parOf_same _ (aplN_id i) (aplN_par i)
theorem apl_ok (h : S.ok) : (aplS S i).ok := by
  refine ok_map h _ (aplN_id i) (aplN_par i) (fun n hn => by rw [aplN_pend]; exact h.pnd n hn) (fun n hn => ?_)
  have h1 := h.pnd n hn
  have h2 := h.crr n hn
  unfold aplN
  split
  · exact ⟨h1.1, h1.2.1, h1.2.2.1⟩
  · split <;> exact h2
theorem map_ids (g : Nd → Nd) (hid : ∀ n, (g n).id = n.id) : (S.map g).map Nd.id = S.map Nd.id := by rw [List.map_map]; exact List.map_congr_left fun n _ => hid n
theorem hasB_ids {T : Fo} (h : T.map Nd.id = S.map Nd.id) (j : Int) : hasB T j = hasB S j := by
  rw [Bool.eq_iff_iff, hasB_iff, hasB_iff, h]

/-- What a visit keeps: the nodes' names, their parents, the forest. -/
structure Keeps (S T : Fo) : Prop where
  ok : T.ok
  ids : T.map Nd.id = S.map Nd.id
  par : parOf T = parOf S
theorem Keeps.refl (h : S.ok) : Keeps S S := ⟨h, rfl, rfl⟩
theorem Keeps.trans {T U : Fo} (h : Keeps S T) (k : Keeps T U) : Keeps S U := ⟨k.ok, k.ids.trans h.ids, k.par.trans h.par⟩
theorem Keeps.apl (h : S.ok) (i : Int) : Keeps S (aplS S i) := ⟨apl_ok h, map_ids _ (aplN_id i), apl_par⟩
theorem visF_keeps {f : Fo → Int → Fo × List Int} (hf : ∀ S c, S.ok → Keeps S (f S c).1) (id : Int) (st : Fo × List Int) (c : Int) (h : st.1.ok) : Keeps st.1 (visF f id st c).1 := by
  unfold visF
  split
  · exact Keeps.refl h
  · split
    · exact (Keeps.apl h c).trans (hf _ c (apl_ok h))
    · exact hf _ c h
theorem foldF_keeps {f : Fo → Int → Fo × List Int} (hf : ∀ S c, S.ok → Keeps S (f S c).1) (id : Int) : ∀ (l : List Int) (st : Fo × List Int), st.1.ok → Keeps st.1 (l.foldl (visF f id) st).1
  | [], st, h => Keeps.refl h
  | c :: l, st, h => by
    have h1 := visF_keeps hf id st c h
    exact h1.trans (foldF_keeps hf id l _ h1.ok)
theorem visS_keeps : ∀ (k : Nat) (S : Fo) (i : Int), S.ok → Keeps S (visS k S i).1
  | 0, S, _, h => Keeps.refl h
  | k + 1, S, i, h => foldF_keeps (visS_keeps k) i (curOf S i) (S, []) h
end
end Go.Proofs.Ytehcfeibfpgamaa
