/- The reference's serial log as numbers and lists, and how it lies beside the program's log. No program. -/
import Derived.Test.YtndldjopgbhphaaSerI
set_option linter.unusedVariables false
set_option linter.unusedSimpArgs false
set_option maxRecDepth 100000
namespace Go.Proofs.Ytndldjopgbhphaa
open Go.RowKit

/-- A slot of the reference's log: the place in the order of issuing is the serial itself (fewer than 2^32 are issued). -/
def Ent.slot (e : Ent) : List Value := [.int .i64 e.s, .int .u32 e.s, .int .i64 e.c, .int .i64 e.f, .int .i64 e.k]
theorem Ent.slot_len (e : Ent) : e.slot.length = 5 := rfl
def rkeep (N : Int) (e : Ent) : Bool := decide (N - 255 < e.s)
/-- Slots after N were issued and one more with c f k. -/
def rIssued (N : Nat) (l : List Ent) (c f k : Int) : List Ent := l.filter (rkeep N) ++ [⟨(N : Int) + 1, c, f, k⟩]
def rFit (client kinds : Int) (e : Ent) : Bool := (e.c == client) && kbit kinds e.k
def rFind (l : List Ent) (n : Int) : Option Ent := l.find? fun e => e.s == n
def rForget (l : List Ent) (client : Int) : List Ent := l.filter fun e => e.c != client
def rLatest (l : List Ent) (client kinds : Int) : Int := (l.reverse.find? (rFit client kinds)).elim 0 (·.s)
def rCheck (l : List Ent) (n client kinds : Int) : Int := match rFind l n with | none => 13 | some e => if rFit client kinds e then 0 else 13

/-- The program's log L and the reference's slots l after N were issued. -/
structure RelR (L : SLog) (N : Nat) (l : List Ent) : Prop where
  ok : L.ok
  small : N ≤ 4294967294
  last : L.last = N
  at_ : L.at_ = N % 256
  len : l.length ≤ N
  sorted : l.Pairwise fun a b => a.s < b.s
  mem : ∀ e ∈ l, 1 ≤ e.s ∧ e.s ≤ N ∧ N < e.s + 256 ∧ 1 ≤ e.c ∧ e.c ≤ 9223372036854775807 ∧ 0 ≤ e.k ∧ e.k ≤ 62 ∧ EntsAt L ((e.s.toNat - 1) % 256) = e
  ents : ∀ j, j < 256 → EntsAt L j = Ent.zero ∨ (EntsAt L j ∈ l ∧ ((EntsAt L j).s.toNat - 1) % 256 = j)

theorem RelR.new : RelR SLog.new 0 [] :=
  ⟨SLog.new_ok, by omega, rfl, rfl, by simp, List.Pairwise.nil, fun e he => by simp at he, fun j _ => .inl (EntsAt_new j)⟩

theorem EntsAt_issued (L : SLog) (h : L.ok) (c f k : Int) (j : Nat) : EntsAt (L.issued c f k) j = if L.at_ = j then ⟨nxt L.last, c, f, k⟩ else EntsAt L j := by
  have hlen : L.at_ < L.ents.length := by rw [h.len]; exact h.at_lt
  unfold EntsAt SLog.issued
  simp only [List.getD_eq_getElem?_getD, List.getElem?_set]
  split
  · rename_i hje; subst hje; simp [hlen]
  · rfl

theorem RelR.issued {L : SLog} {N : Nat} {l : List Ent} (h : RelR L N l) (hN : N + 1 ≤ 4294967294) {c f k : Int} (hg : good c f k = true) (hc2 : c ≤ 9223372036854775807) (hf2 : f ≤ 9223372036854775807) :
    RelR (L.issued c f k) (N + 1) (rIssued N l c f k) := by
  have hg' : 1 ≤ c ∧ 0 ≤ f ∧ 0 ≤ k ∧ k ≤ 62 := by simp [good] at hg; omega
  have hn : nxt L.last = (N : Int) + 1 := by rw [h.last]; unfold nxt; rw [if_neg (by omega)]
  have hfil : ∀ e ∈ l.filter (rkeep N), e ∈ l ∧ (N : Int) - 255 < e.s := by
    intro e he
    rw [List.mem_filter] at he
    exact ⟨he.1, by simpa [rkeep] using he.2⟩
  refine ⟨SLog.issued_ok h.ok hg'.1 hc2 hg'.2.1 hf2 hg'.2.2.1 hg'.2.2.2, hN, ?_, ?_, ?_, ?_, ?_, ?_⟩
  · show nxt L.last = _; rw [hn]; omega
  · show (L.at_ + 1) % 256 = _; rw [h.at_]; omega
  · unfold rIssued; have h1 := List.length_filter_le (rkeep N) l; have h2 := h.len; simp only [List.length_append, List.length_singleton]; omega
  · unfold rIssued
    rw [List.pairwise_append]
    refine ⟨h.sorted.sublist List.filter_sublist, List.pairwise_singleton _ _, fun a ha b hb => ?_⟩
    have := h.mem a (hfil a ha).1
    simp at hb
    subst hb
    show a.s < (N : Int) + 1
    omega
  · intro e he
    unfold rIssued at he
    rcases List.mem_append.1 he with h1 | h1
    · have h2 := hfil e h1
      have h3 := h.mem e h2.1
      refine ⟨by omega, by omega, by omega, by omega, by omega, by omega, by omega, ?_⟩
      rw [EntsAt_issued L h.ok, h.at_, if_neg (by omega)]
      exact h3.2.2.2.2.2.2.2
    · simp at h1
      subst h1
      refine ⟨by show (1 : Int) ≤ (N : Int) + 1; omega, by show (N : Int) + 1 ≤ _; omega, by show _ < (N : Int) + 1 + 256; omega, by show 1 ≤ c; omega, hc2, hg'.2.2.1, hg'.2.2.2, ?_⟩
      rw [EntsAt_issued L h.ok, h.at_, if_pos (by show N % 256 = (((N : Int) + 1).toNat - 1) % 256; omega), hn]
  · intro j hj
    rw [EntsAt_issued L h.ok, h.at_, hn]
    by_cases hje : N % 256 = j
    · rw [if_pos hje]
      exact .inr ⟨by unfold rIssued; simp, by show (((N : Int) + 1).toNat - 1) % 256 = j; omega⟩
    · rw [if_neg hje]
      rcases h.ents j hj with h1 | ⟨h1, h2⟩
      · exact .inl h1
      · have h3 := h.mem _ h1
        refine .inr ⟨?_, h2⟩
        unfold rIssued
        rw [List.mem_append, List.mem_filter]
        refine .inl ⟨h1, ?_⟩
        simp only [rkeep, decide_eq_true_eq]
        omega

theorem RelR.forget {L : SLog} {N : Nat} {l : List Ent} (h : RelR L N l) (client : Int) : RelR (L.forget client) N (rForget l client) := by
  have hlen := List.length_filter_le (fun e : Ent => e.c != client) l
  refine ⟨SLog.forget_ok h.ok client, h.small, h.last, h.at_, by have := h.len; unfold rForget; omega, h.sorted.sublist List.filter_sublist, ?_, ?_⟩
  · intro e he
    unfold rForget at he
    rw [List.mem_filter] at he
    have h3 := h.mem e he.1
    refine ⟨by omega, by omega, by omega, by omega, by omega, by omega, by omega, ?_⟩
    rw [EntsAt_forget L h.ok, h3.2.2.2.2.2.2.2, if_neg (by simpa using he.2)]
  · intro j hj
    rw [EntsAt_forget L h.ok]
    by_cases hc : (EntsAt L j).c = client
    · rw [if_pos hc]; exact .inl rfl
    · rw [if_neg hc]
      rcases h.ents j hj with h1 | ⟨h1, h2⟩
      · exact .inl h1
      · exact .inr ⟨by unfold rForget; rw [List.mem_filter]; exact ⟨h1, by simpa using hc⟩, h2⟩

/-- One slot for one serial. -/
theorem RelR.unique {L : SLog} {N : Nat} {l : List Ent} (h : RelR L N l) {e : Ent} (he : e ∈ l) {j : Nat} (hj : j < 256) (hz : (EntsAt L j).c ≠ 0) (hs : (EntsAt L j).s = e.s) : j = (e.s.toNat - 1) % 256 := by
  rcases h.ents j hj with h1 | ⟨h1, h2⟩
  · rw [h1] at hz; exact absurd rfl hz
  · rw [← hs]; exact h2.symm

theorem RelR.find {L : SLog} {N : Nat} {l : List Ent} (h : RelR L N l) (n : Int) : L.find n = (rFind l n).getD Ent.zero := by
  cases hf : rFind l n with
  | none =>
    by_cases hz : n = 0
    · unfold SLog.find; rw [if_pos hz]; rfl
    · refine SLog.find_miss h.ok hz (fun j hj => ?_)
      unfold rFind at hf
      rw [List.find?_eq_none] at hf
      rcases h.ents j hj with h1 | ⟨h1, _⟩
      · rw [h1]; simp [hitB, Ent.zero]
      · have := hf _ h1
        simp at this
        simp [hitB, this]
  | some e =>
    have he : e ∈ l := List.mem_of_find?_eq_some hf
    have hs : e.s = n := by unfold rFind at hf; have := List.find?_some hf; simpa using this
    have hm := h.mem e he
    have hx := hm.2.2.2.2.2.2.2
    have hz : n ≠ 0 := by omega
    show L.find n = e
    rw [← hx]
    refine SLog.find_hit h.ok hz (by omega) (fun j hj => ?_) ?_
    · cases hh : hitB n (EntsAt L j) with
      | false => rfl
      | true =>
        simp only [hitB, Bool.and_eq_true, beq_iff_eq, bne_iff_ne, ne_eq] at hh
        have := h.unique he (j := j) (by omega) hh.2 (by rw [hh.1, hs])
        omega
    · rw [hx]
      simp [hitB, hs]
      omega

theorem rFit_of {e : Ent} (hc : 1 ≤ e.c) (client kinds : Int) : fitB e.c e.k client kinds = rFit client kinds e := by
  unfold fitB rFit
  have : (e.c != 0) = true := by simp; omega
  rw [this]; rfl

theorem RelR.check {L : SLog} {N : Nat} {l : List Ent} (h : RelR L N l) (n client kinds : Int) : L.check n client kinds = rCheck l n client kinds := by
  have hf := h.find n
  unfold SLog.check rCheck
  cases hr : rFind l n with
  | none => rw [hr] at hf; rw [hf]; exact if_pos rfl
  | some e =>
    rw [hr] at hf
    have hm := h.mem e (List.mem_of_find?_eq_some hr)
    rw [hf]
    show (if e.c = 0 then 13 else if fitB e.c e.k client kinds then 0 else 13) = if rFit client kinds e then 0 else 13
    rw [if_neg (by omega), rFit_of (by omega)]

/-- Latest's answer, told by an element of the list behind which nothing fits. -/
theorem rLatest_at {l : List Ent} {client kinds : Int} {i : Nat} {e : Ent} (he : l[i]? = some e) (hf : rFit client kinds e = true) (hno : ∀ j x, i < j → l[j]? = some x → rFit client kinds x = false) : rLatest l client kinds = e.s := by
  obtain ⟨a, b, hab⟩ : ∃ a b, l = a ++ e :: b ∧ a.length = i := by
    have hi : i < l.length := (List.getElem?_eq_some_iff.1 he).1
    refine ⟨l.take i, l.drop (i + 1), ?_, by simp; omega⟩
    have h1 : l.drop i = e :: l.drop (i + 1) := by
      rw [List.drop_eq_getElem_cons hi]
      have := (List.getElem?_eq_some_iff.1 he).2
      rw [this]
    rw [← h1, List.take_append_drop]
  obtain ⟨rfl, rfl⟩ := hab
  unfold rLatest
  rw [List.reverse_append, List.reverse_cons, List.append_assoc, List.find?_append]
  have hb : b.reverse.find? (rFit client kinds) = none := by
    rw [List.find?_eq_none]
    intro x hx
    rw [List.mem_reverse] at hx
    obtain ⟨j, hj, hjx⟩ := List.getElem_of_mem hx
    have := hno (a.length + 1 + j) x (by omega) (by
      rw [List.getElem?_append_right (by omega)]
      have : a.length + 1 + j - a.length = j + 1 := by omega
      rw [this, List.getElem?_cons_succ, List.getElem?_eq_getElem hj, hjx])
    simp [this]
  rw [hb]
  simp [List.find?_cons, hf]
theorem rLatest_none {l : List Ent} {client kinds : Int} (hno : ∀ x ∈ l, rFit client kinds x = false) : rLatest l client kinds = 0 := by
  unfold rLatest
  have : l.reverse.find? (rFit client kinds) = none := by
    rw [List.find?_eq_none]
    intro x hx
    rw [List.mem_reverse] at hx
    simp [hno x hx]
  rw [this]; rfl
/-- Either nothing fits or there is a last one. -/
theorem last_fit {α : Type} (p : α → Bool) (l : List α) : (∀ x ∈ l, p x = false) ∨ ∃ (i : Nat) (e : α), l[i]? = some e ∧ p e = true ∧ ∀ (j : Nat) (x : α), i < j → l[j]? = some x → p x = false := by
  induction l with
  | nil => exact .inl fun x hx => by simp at hx
  | cons y l ih =>
    rcases ih with h | ⟨i, e, h1, h2, h3⟩
    · cases hy : p y with
      | false =>
        refine .inl fun x hx => ?_
        rcases List.mem_cons.1 hx with rfl | hx
        · exact hy
        · exact h x hx
      | true =>
        refine .inr ⟨0, y, rfl, hy, fun j x hj hx => ?_⟩
        obtain ⟨j, rfl⟩ : ∃ m, j = m + 1 := ⟨j - 1, by omega⟩
        rw [List.getElem?_cons_succ] at hx
        exact h x (List.mem_of_getElem? hx)
    · refine .inr ⟨i + 1, e, by rw [List.getElem?_cons_succ]; exact h1, h2, fun j x hj hx => ?_⟩
      obtain ⟨j, rfl⟩ : ∃ m, j = m + 1 := ⟨j - 1, by omega⟩
      rw [List.getElem?_cons_succ] at hx
      exact h3 j x (by omega) hx
theorem RelR.latest {L : SLog} {N : Nat} {l : List Ent} (h : RelR L N l) (client kinds : Int) : L.latest client kinds = rLatest l client kinds := by
  have hslot : ∀ i, i < 256 → EntsAt L (L.back i) = Ent.zero ∨ (EntsAt L (L.back i) ∈ l ∧ (EntsAt L (L.back i)).s = (N : Int) - i) := by
    intro i hi
    have hb : L.back i = (L.at_ + 256 - 1 - i) % 256 := rfl
    rcases h.ents (L.back i) (by omega) with h1 | ⟨h1, h2⟩
    · exact .inl h1
    · have h3 := h.mem _ h1
      refine .inr ⟨h1, ?_⟩
      have h4 := h.at_
      have h5 : (((EntsAt L (L.back i)).s.toNat - 1) % 256) = (L.at_ + 256 - 1 - i) % 256 := h2
      omega
  rcases last_fit (rFit client kinds) l with hno | ⟨m, e, hm, hf, hafter⟩
  · rw [rLatest_none hno]
    unfold SLog.latest
    rw [find_nobody (fun e => fitB e.c e.k client kinds) (fun i => EntsAt L (L.back i)) 256 (fun i hi => ?_)]
    · rfl
    · rcases hslot i hi with h1 | ⟨h1, _⟩
      · rw [h1]; exact fitB_zero _ _
      · rw [rFit_of (h.mem _ h1).2.2.2.1]; exact hno _ h1
  · rw [rLatest_at hm hf hafter]
    have he := List.mem_of_getElem? hm
    have h1 := h.mem e he
    have hb : L.back ((N : Int) - e.s).toNat = (e.s.toNat - 1) % 256 := by
      show (L.at_ + 256 - 1 - _) % 256 = _
      rw [h.at_]
      omega
    have hx := h1.2.2.2.2.2.2.2
    unfold SLog.latest
    rw [find_first (fun e => fitB e.c e.k client kinds) (fun i => EntsAt L (L.back i)) 256 ((N : Int) - e.s).toNat (by omega) (fun j hj => ?_) ?_]
    · show (EntsAt L (L.back ((N : Int) - e.s).toNat)).s = e.s
      rw [hb, hx]
    · show fitB (EntsAt L (L.back ((N : Int) - e.s).toNat)).c (EntsAt L (L.back ((N : Int) - e.s).toNat)).k client kinds = true
      rw [hb, hx, rFit_of (by omega)]
      exact hf
    · rcases hslot j (by omega) with h2 | ⟨h2, h3⟩
      · rw [h2]; exact fitB_zero _ _
      · rw [rFit_of (h.mem _ h2).2.2.2.1]
        obtain ⟨p, hp⟩ := List.getElem?_of_mem h2
        refine hafter p _ ?_ hp
        have hlt : e.s < (EntsAt L (L.back j)).s := by omega
        refine Nat.lt_of_not_le fun hle => ?_
        rcases Nat.lt_or_eq_of_le hle with h4 | h4
        · have hml : m < l.length := (List.getElem?_eq_some_iff.1 hm).1
          have h5 := List.pairwise_iff_getElem.1 h.sorted p m (by omega) hml h4
          rw [(List.getElem?_eq_some_iff.1 hm).2, (List.getElem?_eq_some_iff.1 hp).2] at h5
          omega
        · subst h4
          rw [hm] at hp
          injection hp with hp
          rw [← hp] at hlt
          omega
end Go.Proofs.Ytndldjopgbhphaa
