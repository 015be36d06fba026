/- The plain side of the serial log, continued: which serials lie where after N of them were issued and none forgotten. -/
import Derived.Test.YtndldjopgbhphaaSerY
set_option linter.unusedVariables false
set_option linter.unusedSimpArgs false
set_option maxRecDepth 100000
namespace Go.Proofs.Ytndldjopgbhphaa
open Go.RowKit

/-- The serial in slot j after N were issued (0: none). -/
def ser (N j : Nat) : Nat := if j < N then N - (N - 1 - j) % 256 else 0
structure SLog.inv (L : SLog) (N : Nat) (g : Nat → Ent) : Prop where
  ok : L.ok
  small : N ≤ 4294967294
  last : L.last = N
  at_ : L.at_ = N % 256
  ents : ∀ j, j < 256 → EntsAt L j = if j < N then g (ser N j) else Ent.zero
  gs : ∀ m, (g m).s = m

theorem EntsAt_new (j : Nat) : EntsAt SLog.new j = Ent.zero := by
  unfold EntsAt SLog.new
  simp only [List.getD_eq_getElem?_getD, List.getElem?_replicate]
  split <;> rfl
theorem SLog.inv_new (g : Nat → Ent) (hg : ∀ m, (g m).s = m) : SLog.new.inv 0 g :=
  ⟨SLog.new_ok, by omega, rfl, rfl, fun j _ => by rw [EntsAt_new]; simp, hg⟩
theorem ser_bd {N j : Nat} (h : j < N) (hj : j < 256) : 1 ≤ ser N j ∧ ser N j ≤ N ∧ N < ser N j + 256 ∧ (ser N j - 1) % 256 = j := by
  unfold ser; rw [if_pos h]; omega
theorem ser_at {N m : Nat} (h1 : 1 ≤ m) (h2 : m ≤ N) (h3 : N < m + 256) : (m - 1) % 256 < N ∧ ser N ((m - 1) % 256) = m := by
  unfold ser
  have : (m - 1) % 256 < N := by omega
  rw [if_pos this]; omega
theorem SLog.inv_issue {L : SLog} {N : Nat} {g : Nat → Ent} (h : L.inv N g) (hN : N + 1 ≤ 4294967294) (c f k : Int) (hg : good c f k = true) (hc2 : c ≤ 9223372036854775807) (hf2 : f ≤ 9223372036854775807) (hgn : g (N + 1) = ⟨(N + 1 : Nat), c, f, k⟩) :
    (L.issue c f k).inv (N + 1) g := by
  have hi : L.issue c f k = L.issued c f k := by unfold SLog.issue; rw [if_pos hg]
  have hn : nxt L.last = (N + 1 : Nat) := by rw [h.last]; unfold nxt; rw [if_neg (by omega)]; omega
  refine ⟨SLog.issue_ok h.ok hc2 hf2, hN, ?_, ?_, ?_, h.gs⟩
  · rw [hi]; exact hn
  · rw [hi]; show (L.at_ + 1) % 256 = _; rw [h.at_]; omega
  · intro j hj
    rw [hi]
    have hlen : L.at_ < L.ents.length := by rw [h.ok.len]; exact h.ok.at_lt
    have e : EntsAt (L.issued c f k) j = if L.at_ = j then ⟨nxt L.last, c, f, k⟩ else EntsAt L j := by
      unfold EntsAt SLog.issued
      simp only [List.getD_eq_getElem?_getD, List.getElem?_set]
      split
      · rename_i hje; subst hje; simp [hlen]
      · rfl
    rw [e, h.at_, hn]
    by_cases hje : N % 256 = j
    · rw [if_pos hje, if_pos (by omega)]
      have : ser (N + 1) j = N + 1 := by unfold ser; rw [if_pos (by omega)]; omega
      rw [this, hgn]
    · rw [if_neg hje, h.ents j hj]
      by_cases hjn : j < N
      · rw [if_pos hjn, if_pos (by omega)]
        have : ser (N + 1) j = ser N j := by unfold ser; rw [if_pos (by omega), if_pos hjn]; omega
        rw [this]
      · rw [if_neg hjn, if_neg (by omega)]
theorem SLog.inv_congr {L : SLog} {N : Nat} {g g' : Nat → Ent} (h : L.inv N g) (hs : ∀ m, (g' m).s = m) (he : ∀ m, 1 ≤ m → m ≤ N → g' m = g m) : L.inv N g' :=
  ⟨h.ok, h.small, h.last, h.at_, fun j hj => by
    rw [h.ents j hj]
    by_cases hjn : j < N
    · have := ser_bd hjn hj
      rw [if_pos hjn, if_pos hjn, he _ this.1 this.2.1]
    · rw [if_neg hjn, if_neg hjn], hs⟩
/-- The last step with whatever g: the new entry is laid into g. -/
theorem SLog.inv_issue' {L : SLog} {N : Nat} {g : Nat → Ent} (h : L.inv N g) (hN : N + 1 ≤ 4294967294) (c f k : Int) (hg : good c f k = true) (hc2 : c ≤ 9223372036854775807) (hf2 : f ≤ 9223372036854775807) :
    ∃ g', (L.issue c f k).inv (N + 1) g' := by
  refine ⟨fun m => if m = N + 1 then ⟨(N + 1 : Nat), c, f, k⟩ else g m, ?_⟩
  refine SLog.inv_issue (SLog.inv_congr h ?_ ?_) hN c f k hg hc2 hf2 (by simp)
  · intro m; split
    · rename_i h; rw [h]
    · exact h.gs m
  · intro m _ h2; exact if_neg (by omega)

theorem SLog.inv_ent {L : SLog} {N : Nat} {g : Nat → Ent} (h : L.inv N g) {m : Nat} (h1 : 1 ≤ m) (h2 : m ≤ N) (h3 : N < m + 256) : EntsAt L ((m - 1) % 256) = g m := by
  have := ser_at h1 h2 h3
  rw [h.ents _ (by omega), if_pos this.1, this.2]
theorem SLog.inv_gok {L : SLog} {N : Nat} {g : Nat → Ent} (h : L.inv N g) {m : Nat} (h1 : 1 ≤ m) (h2 : m ≤ N) (h3 : N < m + 256) : 1 ≤ (g m).c ∧ 0 ≤ (g m).k ∧ (g m).k ≤ 62 := by
  have h4 := EntsAt_ok h.ok ((m - 1) % 256)
  rw [SLog.inv_ent h h1 h2 h3] at h4
  have h5 := h.gs m
  rcases h4 with h4 | h4
  · rw [h4] at h5; simp [Ent.zero] at h5; omega
  · omega
/-- The back-order: the i-th from the end. -/
theorem SLog.inv_back {L : SLog} {N : Nat} {g : Nat → Ent} (h : L.inv N g) {i : Nat} (hi : i < 256) : EntsAt L (L.back i) = if i < N then g (N - i) else Ent.zero := by
  have hb : L.back i = (L.at_ + 256 - 1 - i) % 256 := rfl
  rw [hb, h.at_]
  by_cases hin : i < N
  · rw [if_pos hin]
    have : (N % 256 + 256 - 1 - i) % 256 = (N - i - 1) % 256 := by omega
    rw [this]
    exact SLog.inv_ent h (by omega) (by omega) (by omega)
  · rw [if_neg hin, h.ents _ (by omega), if_neg (by omega)]
theorem SLog.inv_find {L : SLog} {N : Nat} {g : Nat → Ent} (h : L.inv N g) {m : Nat} (h1 : 1 ≤ m) (h2 : m ≤ N) (h3 : N < m + 256) : L.find m = g m := by
  have he := SLog.inv_ent h h1 h2 h3
  have hc := (SLog.inv_gok h h1 h2 h3).1
  have hs := h.gs m
  rw [← he]
  refine SLog.find_hit h.ok (by omega) (by omega) (fun j hj => ?_) ?_
  · unfold hitB
    rw [h.ents j (by omega)]
    by_cases hjn : j < N
    · have hb := ser_bd hjn (by omega)
      rw [if_pos hjn, h.gs]
      have : ((ser N j : Nat) : Int) ≠ (m : Int) := by omega
      simp [this]
    · rw [if_neg hjn]; simp [Ent.zero]
  · rw [he]; simp [hitB, hs]; omega
theorem SLog.inv_find_none {L : SLog} {N : Nat} {g : Nat → Ent} (h : L.inv N g) (n : Int) (hn : n < 1 ∨ N < n ∨ n + 256 ≤ N) : L.find n = Ent.zero := by
  by_cases hz : n = 0
  · unfold SLog.find; rw [if_pos hz]
  · refine SLog.find_miss h.ok hz (fun j hj => ?_)
    unfold hitB
    rw [h.ents j hj]
    by_cases hjn : j < N
    · have hb := ser_bd hjn hj
      rw [if_pos hjn, h.gs]
      have : ((ser N j : Nat) : Int) ≠ n := by omega
      simp [this]
    · rw [if_neg hjn]; simp [Ent.zero]
theorem SLog.check_of {L : SLog} {n : Int} {e : Ent} (he : L.find n = e) (hc : 1 ≤ e.c) (client kinds : Int) : L.check n client kinds = if fitB e.c e.k client kinds then 0 else 13 := by
  unfold SLog.check; rw [he, if_neg (by omega)]
theorem SLog.check_none {L : SLog} {n : Int} (he : L.find n = Ent.zero) (client kinds : Int) : L.check n client kinds = 13 := by
  unfold SLog.check; rw [he]; exact if_pos rfl
theorem fitB_zero (client kinds : Int) : fitB Ent.zero.c Ent.zero.k client kinds = false := by simp [fitB, Ent.zero]

/-- What Latest answers is 0 and nothing fits, or the serial of the last that fits. -/
theorem SLog.inv_latest {L : SLog} {N : Nat} {g : Nat → Ent} (h : L.inv N g) (client kinds : Int) :
    (L.latest client kinds = 0 ∧ ∀ m : Nat, 1 ≤ m → m ≤ N → N < m + 256 → fitB (g m).c (g m).k client kinds = false) ∨
    ∃ n : Nat, 1 ≤ n ∧ n ≤ N ∧ N < n + 256 ∧ L.latest client kinds = n ∧ fitB (g n).c (g n).k client kinds = true ∧ ∀ m : Nat, n < m → m ≤ N → fitB (g m).c (g m).k client kinds = false := by
  by_cases hex : ∃ i, i < 256 ∧ fitB (EntsAt L (L.back i)).c (EntsAt L (L.back i)).k client kinds = true
  · obtain ⟨i, ⟨hi, hfit⟩, hmin⟩ : ∃ i, (i < 256 ∧ fitB (EntsAt L (L.back i)).c (EntsAt L (L.back i)).k client kinds = true) ∧ ∀ j, j < i → ¬ (j < 256 ∧ fitB (EntsAt L (L.back j)).c (EntsAt L (L.back j)).k client kinds = true) := by
      obtain ⟨i0, h0⟩ := hex
      induction i0 using Nat.strongRecOn with
      | _ n ih =>
        by_cases hlt : ∃ j, j < n ∧ (j < 256 ∧ fitB (EntsAt L (L.back j)).c (EntsAt L (L.back j)).k client kinds = true)
        · obtain ⟨j, hj, hh⟩ := hlt; exact ih j hj hh
        · exact ⟨n, h0, fun j hj hh => hlt ⟨j, hj, hh⟩⟩
    have hno : ∀ j, j < i → fitB (EntsAt L (L.back j)).c (EntsAt L (L.back j)).k client kinds = false := fun j hj => by
      have := hmin j hj
      simp only [not_and, Bool.not_eq_true] at this
      exact this (by omega)
    have hl : L.latest client kinds = (EntsAt L (L.back i)).s := by
      unfold SLog.latest
      rw [find_first (fun e => fitB e.c e.k client kinds) (fun i => EntsAt L (L.back i)) 256 i hi hno hfit]
      rfl
    have hb := SLog.inv_back h hi
    by_cases hin : i < N
    · rw [if_pos hin] at hb
      refine .inr ⟨N - i, by omega, by omega, by omega, ?_, ?_, ?_⟩
      · rw [hl, hb, h.gs]
      · rw [← hb]; exact hfit
      · intro m h1 h2
        have h3 := hno (N - m) (by omega)
        rw [SLog.inv_back h (by omega), if_pos (by omega)] at h3
        have : N - (N - m) = m := by omega
        rw [this] at h3
        exact h3
    · rw [if_neg hin] at hb
      rw [hb, fitB_zero] at hfit
      cases hfit
  · have hno : ∀ j, j < 256 → fitB (EntsAt L (L.back j)).c (EntsAt L (L.back j)).k client kinds = false := fun j hj => by
      cases hh : fitB (EntsAt L (L.back j)).c (EntsAt L (L.back j)).k client kinds with
      | false => rfl
      | true => exact absurd ⟨j, hj, hh⟩ hex
    refine .inl ⟨?_, ?_⟩
    · unfold SLog.latest
      rw [find_nobody (fun e => fitB e.c e.k client kinds) (fun i => EntsAt L (L.back i)) 256 hno]
      rfl
    · intro m h1 h2 h3
      have h4 := hno (N - m) (by omega)
      rw [SLog.inv_back h (by omega), if_pos (by omega)] at h4
      have : N - (N - m) = m := by omega
      rw [this] at h4
      exact h4

theorem SLog.build_step {L : SLog} {N : Nat} {g : Nat → Ent} (h : L.inv N g) (hN : N + 1 ≤ 4294967294) (c f k : Int) (hc2 : c ≤ 9223372036854775807) (hf2 : f ≤ 9223372036854775807) :
    ∃ N' g', (L.issue c f k).inv N' g' ∧ N' ≤ N + 1 ∧ (if (N : Int) < L.issueN c f k then L.issueN c f k else (N : Int)) = (N' : Int) := by
  by_cases hg : good c f k = true
  · obtain ⟨g', hg'⟩ := SLog.inv_issue' h hN c f k hg hc2 hf2
    refine ⟨N + 1, g', hg', by omega, ?_⟩
    have e : L.issueN c f k = (N : Int) + 1 := by
      unfold SLog.issueN; rw [if_pos hg, h.last]; unfold nxt; rw [if_neg (by omega)]
    rw [e, if_pos (by omega)]; omega
  · refine ⟨N, g, ?_, by omega, ?_⟩
    · unfold SLog.issue; rw [if_neg hg]; exact h
    · have e : L.issueN c f k = 0 := by unfold SLog.issueN; rw [if_neg hg]
      rw [e, if_neg (by omega)]

theorem SLog.latest_facts {L : SLog} {N : Nat} {g : Nat → Ent} (h : L.inv N g) (client kinds : Int) :
    ∃ n0 : Nat, L.latest client kinds = n0 ∧ n0 ≤ N ∧ (n0 ≠ 0 → L.check n0 client kinds = 0) ∧ ∀ m : Nat, n0 < m → m ≤ N → L.check m client kinds = 13 := by
  have key : ∀ m : Nat, 1 ≤ m → m ≤ N → (N < m + 256 → fitB (g m).c (g m).k client kinds = false) → L.check m client kinds = 13 := by
    intro m h1 h2 h3
    by_cases h4 : N < m + 256
    · rw [SLog.check_of (SLog.inv_find h h1 h2 h4) (SLog.inv_gok h h1 h2 h4).1, h3 h4]; rfl
    · exact SLog.check_none (SLog.inv_find_none h m (by omega)) _ _
  rcases SLog.inv_latest h client kinds with ⟨h0, hno⟩ | ⟨n, h1, h2, h3, h4, h5, h6⟩
  · exact ⟨0, by rw [h0]; rfl, by omega, fun h => absurd rfl h, fun m hm hm2 => key m (by omega) hm2 (hno m (by omega) hm2)⟩
  · refine ⟨n, h4, h2, fun _ => ?_, fun m hm hm2 => key m (by omega) hm2 (fun _ => h6 m hm hm2)⟩
    rw [SLog.check_of (SLog.inv_find h h1 h2 h3) (SLog.inv_gok h h1 h2 h3).1, h5]; rfl

/-! ### Forget -/
theorem EntsAt_forget (L : SLog) (h : L.ok) (client : Int) (j : Nat) : EntsAt (L.forget client) j = if (EntsAt L j).c = client then Ent.zero else EntsAt L j := by
  unfold EntsAt SLog.forget
  simp only [List.getD_eq_getElem?_getD, List.getElem?_map]
  by_cases hj : j < L.ents.length
  · simp [List.getElem?_eq_getElem hj]
  · simp [List.getElem?_eq_none (Nat.le_of_not_lt hj)]
theorem SLog.latest_forget (L : SLog) (h : L.ok) (client kinds : Int) : (L.forget client).latest client kinds = 0 := by
  unfold SLog.latest
  rw [find_nobody (fun e => fitB e.c e.k client kinds) (fun i => EntsAt (L.forget client) ((L.forget client).back i)) 256 (fun j _ => ?_)]
  · rfl
  · rw [EntsAt_forget L h]
    split
    · exact fitB_zero _ _
    · rename_i hc
      have : ((EntsAt L ((L.forget client).back j)).c == client) = false := by simpa using hc
      simp [fitB, this]
theorem SLog.find_forget {L : SLog} {N : Nat} {g : Nat → Ent} (h : L.inv N g) (client n : Int) :
    (L.forget client).find n = if (L.find n).c = client then Ent.zero else L.find n := by
  by_cases hz : n = 0
  · subst hz; unfold SLog.find; simp
  have hno : ∀ j, j < 256 → hitB n (EntsAt L j) = false → hitB n (EntsAt (L.forget client) j) = false := by
    intro j _ hj
    rw [EntsAt_forget L h.ok]
    split
    · simp [hitB, Ent.zero]
    · exact hj
  by_cases hw : 1 ≤ n ∧ n ≤ N ∧ N < n + 256
  · obtain ⟨m, rfl⟩ : ∃ m : Nat, n = m := ⟨n.toNat, by omega⟩
    have h1 : 1 ≤ m := by omega
    have h2 : m ≤ N := by omega
    have h3 : N < m + 256 := by omega
    have hf := SLog.inv_find h h1 h2 h3
    have he := SLog.inv_ent h h1 h2 h3
    have hc := (SLog.inv_gok h h1 h2 h3).1
    have hs := h.gs m
    have hoth : ∀ j, j < 256 → j ≠ (m - 1) % 256 → hitB m (EntsAt L j) = false := by
      intro j hj hne
      unfold hitB
      rw [h.ents j hj]
      by_cases hjn : j < N
      · have hb := ser_bd hjn hj
        rw [if_pos hjn, h.gs]
        have : ((ser N j : Nat) : Int) ≠ (m : Int) := by omega
        simp [this]
      · rw [if_neg hjn]; simp [Ent.zero]
    rw [hf]
    by_cases hcl : (g m).c = client
    · rw [if_pos hcl]
      refine SLog.find_miss (SLog.forget_ok h.ok client) hz (fun j hj => ?_)
      by_cases hje : j = (m - 1) % 256
      · subst hje
        rw [EntsAt_forget L h.ok, he, if_pos hcl]
        simp [hitB, Ent.zero]
      · exact hno j hj (hoth j hj hje)
    · rw [if_neg hcl]
      have he' : EntsAt (L.forget client) ((m - 1) % 256) = g m := by rw [EntsAt_forget L h.ok, he, if_neg hcl]
      rw [← he']
      refine SLog.find_hit (SLog.forget_ok h.ok client) hz (by omega) (fun j hj => hno j (by omega) (hoth j (by omega) (by omega))) ?_
      rw [he']; simp [hitB, hs]; omega
  · have hzf := SLog.inv_find_none h n (by omega)
    rw [hzf]
    have : (L.forget client).find n = Ent.zero := by
      refine SLog.find_miss (SLog.forget_ok h.ok client) hz (fun j hj => hno j hj ?_)
      unfold hitB
      rw [h.ents j hj]
      by_cases hjn : j < N
      · have hb := ser_bd hjn hj
        rw [if_pos hjn, h.gs]
        have : ((ser N j : Nat) : Int) ≠ n := by omega
        simp [this]
      · rw [if_neg hjn]; simp [Ent.zero]
    rw [this]; simp
end Go.Proofs.Ytndldjopgbhphaa
