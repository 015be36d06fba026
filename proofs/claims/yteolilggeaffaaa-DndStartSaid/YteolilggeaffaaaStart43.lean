/- Which serial begins a drag, in plain Lean; Start of the law's session. -/
import Derived.Test.YteolilggeaffaaaSess43
import Derived.Test.YteolilggeaffaaaSerI
set_option linter.unusedVariables false
set_option linter.unusedSimpArgs false
set_option maxRecDepth 100000
namespace Go.Proofs.Yteolilggeaffaaa
open Go.RowKit

theorem kbit16 {k : Int} (h0 : 0 ≤ k) (h1 : k ≤ 62) : kbit 16 k = (k == 4) := by
  have h : ∀ i : Fin 63, kbit 16 (i.val : Int) = ((i.val : Int) == 4) := by decide +kernel
  obtain ⟨n, rfl⟩ : ∃ n : Nat, k = n := ⟨k.toNat, by omega⟩
  exact h ⟨n, by omega⟩
/-- After the events so far: the last button of client c has the serial lst and was on the surface at. -/
structure LI (L : SLog) (N : Nat) (g : Nat → Ent) (c lst at_ : Int) : Prop where
  inv : L.inv N g
  few : N ≤ 100
  now : (lst = 0 ∧ ∀ m : Nat, 1 ≤ m → m ≤ N → ¬ ((g m).c = c ∧ (g m).k = 4)) ∨ ∃ n : Nat, 1 ≤ n ∧ n ≤ N ∧ lst = n ∧ (g n).c = c ∧ (g n).k = 4 ∧ (g n).f = at_ ∧ ∀ m : Nat, n < m → m ≤ N → ¬ ((g m).c = c ∧ (g m).k = 4)
theorem fit16 {L : SLog} {N : Nat} {g : Nat → Ent} (h : L.inv N g) (hN : N ≤ 100) {c : Int} {m : Nat} (h1 : 1 ≤ m) (h2 : m ≤ N) : fitB (g m).c (g m).k c 16 = true ↔ ((g m).c = c ∧ (g m).k = 4) := by
  have hg := SLog.inv_gok h h1 h2 (by omega)
  unfold fitB
  rw [kbit16 hg.2.1 hg.2.2]
  rw [Bool.and_eq_true, Bool.and_eq_true, beq_iff_eq, beq_iff_eq, bne_iff_ne]
  exact ⟨fun q => ⟨q.1.2, q.2⟩, fun q => ⟨⟨by omega, q.1⟩, q.2⟩⟩
theorem li_valid {L : SLog} {N : Nat} {g : Nat → Ent} {c lst at_ : Int} (h : LI L N g c lst at_) (hc : 1 ≤ c) (s n : Int) : validD L c s n = decide (lst ≠ 0 ∧ n = lst ∧ at_ = s) := by
  have hN := h.few
  have hlat := SLog.inv_latest h.inv c 16
  rcases h.now with ⟨h0, hno⟩ | ⟨n0, h1, h2, rfl, hcc, hk, rfl, hno⟩
  · have hl0 : L.latest c 16 = 0 := by
      rcases hlat with q | ⟨m, m1, m2, m3, m4, m5, m6⟩
      · exact q.1
      · exact absurd ((fit16 h.inv hN m1 m2).1 m5) (hno m m1 m2)
    rw [decide_eq_false (fun q => q.1 h0)]
    unfold validD
    rw [hl0]
    by_cases hn : n = 0
    · have : L.find n = Ent.zero := by unfold SLog.find; rw [if_pos hn]
      rw [this]
      rfl
    · have : ((0 : Int) == n) = false := by simp; omega
      rw [this]
      simp
  · have hl0 : L.latest c 16 = n0 := by
      rcases hlat with q | ⟨m, m1, m2, m3, m4, m5, m6⟩
      · have q2 := q.2 n0 h1 h2 (by omega)
        have q3 := (fit16 h.inv hN h1 h2).2 ⟨hcc, hk⟩
        rw [q2] at q3
        cases q3
      · have m7 := (fit16 h.inv hN m1 m2).1 m5
        have : m = n0 := by
          by_cases q : n0 < m
          · exact absurd m7 (hno m q m2)
          · by_cases q2 : m < n0
            · have q3 := m6 n0 q2 h2
              have q4 := (fit16 h.inv hN h1 h2).2 ⟨hcc, hk⟩
              rw [q3] at q4
              cases q4
            · omega
        rw [m4, this]
    by_cases hn : n = n0
    · subst hn
      have hf := SLog.inv_find h.inv h1 h2 (by omega)
      have hck := SLog.check_of hf (SLog.inv_gok h.inv h1 h2 (by omega)).1 c 16
      rw [(fit16 h.inv hN h1 h2).2 ⟨hcc, hk⟩] at hck
      unfold validD
      rw [hl0, hck, hf, hcc]
      have e1 : (c != 0) = true := by simp; omega
      have e2 : ((n0 : Int) == n0) = true := by simp
      rw [e1, e2]
      by_cases hs : (g n0).f = s
      · rw [decide_eq_true ⟨by omega, rfl, hs⟩]
        simp [hs]
      · rw [decide_eq_false (fun q => hs q.2.2)]
        simp [hs]
    · rw [decide_eq_false (fun q => hn q.2.1)]
      unfold validD
      rw [hl0]
      have : ((n0 : Int) == n) = false := by simp; omega
      rw [this]
      simp
theorem li_new (c : Int) : LI SLog.new 0 (fun m => ⟨m, 0, 0, 0⟩) c 0 0 := ⟨SLog.inv_new _ (fun _ => rfl), by omega, .inl ⟨rfl, fun m h1 h2 => by omega⟩⟩
theorem li_step {L : SLog} {N : Nat} {g : Nat → Ent} {c lst at_ : Int} (h : LI L N g c lst at_) (hN : N < 100) (yc ys yn : Int) (hc2 : yc ≤ 9223372036854775807) (hs2 : ys ≤ 9223372036854775807) :
    ∃ N' g', N' ≤ N + 1 ∧ (lastOf N (L.issueN yc ys yn) = N') ∧ LI (L.issue yc ys yn) N' g' c (if lastOf N (L.issueN yc ys yn) ≠ N ∧ yc = c ∧ yn = 4 then lastOf N (L.issueN yc ys yn) else lst) (if lastOf N (L.issueN yc ys yn) ≠ N ∧ yc = c ∧ yn = 4 then ys else at_) := by
  by_cases hg : good yc ys yn = true
  · have e : L.issueN yc ys yn = ((N + 1 : Nat) : Int) := by
      unfold SLog.issueN; rw [if_pos hg, h.inv.last]; unfold nxt; rw [if_neg (by omega)]; omega
    have el : lastOf N (L.issueN yc ys yn) = ((N + 1 : Nat) : Int) := by unfold lastOf; rw [e, if_neg (by omega)]
    rw [el]
    have hinv : (L.issue yc ys yn).inv (N + 1) (fun m => if m = N + 1 then ⟨((N + 1 : Nat) : Int), yc, ys, yn⟩ else g m) := by
      refine SLog.inv_issue (SLog.inv_congr h.inv ?_ ?_) (by omega) yc ys yn hg hc2 hs2 (by simp)
      · intro m; split
        · rename_i q; rw [q]
        · exact h.inv.gs m
      · intro m _ q2; exact if_neg (by omega)
    refine ⟨N + 1, _, Nat.le_refl _, rfl, hinv, by omega, ?_⟩
    have hne : ((N + 1 : Nat) : Int) ≠ N := by omega
    by_cases hq : yc = c ∧ yn = 4
    · rw [if_pos ⟨hne, hq⟩, if_pos ⟨hne, hq⟩]
      refine .inr ⟨N + 1, by omega, Nat.le_refl _, rfl, ?_, ?_, ?_, fun m q1 q2 => by omega⟩
      · show (if N + 1 = N + 1 then _ else _ : Ent).c = c; rw [if_pos rfl]; exact hq.1
      · show (if N + 1 = N + 1 then _ else _ : Ent).k = 4; rw [if_pos rfl]; exact hq.2
      · show (if N + 1 = N + 1 then _ else _ : Ent).f = ys; rw [if_pos rfl]
    · rw [if_neg (fun q => hq q.2), if_neg (fun q => hq q.2)]
      rcases h.now with ⟨h0, hno⟩ | ⟨n0, h1, h2, e0, hcc, hk, hf, hno⟩
      · refine .inl ⟨h0, fun m m1 m2 => ?_⟩
        by_cases hm : m = N + 1
        · subst hm
          show ¬ ((if N + 1 = N + 1 then _ else _ : Ent).c = c ∧ (if N + 1 = N + 1 then _ else _ : Ent).k = 4)
          rw [if_pos rfl]
          exact hq
        · show ¬ ((if m = N + 1 then _ else _ : Ent).c = c ∧ (if m = N + 1 then _ else _ : Ent).k = 4)
          rw [if_neg hm]
          exact hno m m1 (by omega)
      · refine .inr ⟨n0, h1, by omega, e0, ?_, ?_, ?_, fun m m1 m2 => ?_⟩
        · show (if n0 = N + 1 then _ else _ : Ent).c = c; rw [if_neg (by omega)]; exact hcc
        · show (if n0 = N + 1 then _ else _ : Ent).k = 4; rw [if_neg (by omega)]; exact hk
        · show (if n0 = N + 1 then _ else _ : Ent).f = at_; rw [if_neg (by omega)]; exact hf
        · by_cases hm : m = N + 1
          · subst hm
            show ¬ ((if N + 1 = N + 1 then _ else _ : Ent).c = c ∧ (if N + 1 = N + 1 then _ else _ : Ent).k = 4)
            rw [if_pos rfl]
            exact hq
          · show ¬ ((if m = N + 1 then _ else _ : Ent).c = c ∧ (if m = N + 1 then _ else _ : Ent).k = 4)
            rw [if_neg hm]
            exact hno m m1 (by omega)
  · have e : L.issueN yc ys yn = 0 := by unfold SLog.issueN; rw [if_neg hg]
    have ei : L.issue yc ys yn = L := by unfold SLog.issue; rw [if_neg hg]
    have el : lastOf N (L.issueN yc ys yn) = N := by unfold lastOf; rw [if_pos e]
    rw [el, ei]
    refine ⟨N, g, by omega, rfl, ?_⟩
    rw [if_neg (fun q => q.1 rfl), if_neg (fun q => q.1 rfl)]
    exact h
section
variable {w0 w w' : World} {F : Nat → Prop} {sb lb b : Nat} {L : SLog} {d : DSt} {last : Int}
theorem lq_dstart (d' : DSt) (v client surface icon acts n : Int) (A : Option Addr) (m cap : Nat) (fs : List ByteArray) (h : LQ w0 w F sb lb b L d last) (ha : SArg w0 A m cap fs)
    (hv : d.startE L client surface icon fs acts n = v) (hd' : d.start L client surface icon fs acts n = d') :
    Calls Try.prog 31 #[.pointer (some ⟨b, 0, none⟩), .int .i64 client, .int .i64 surface, .int .i64 icon, .agg #[.slice A m cap, .int .i64 acts], .int .u32 n] w fun e w' => ∃ F', e = .returned (.int .i64 v) ∧ LQ w0 w' F' sb lb b L d' last ∧ Own F F' w w' := by
  obtain ⟨R, PA, pn, pc, h⟩ := h
  refine (ls_start d' v client surface icon acts n A m cap fs h.ls (ha.same h.ls.same) (h.ls.ses.far ha) hv hd').mono ?_
  rintro e w' ⟨R', rfl, hl, hk⟩
  have hlo : ∀ g, (Value.slice PA pn pc).ownBlock = some g → g < w.heap.size := fun g hg => (h.lo g (h.cov g (.inr (.inr (.inr hg))))).2
  refine ⟨fun x => F x ∨ R' x, rfl, ⟨R', PA, pn, pc, hl, ?_, fun g hg => ⟨fun q => ?_, (h.far g hg).2⟩, fun x hx => ?_, fun x hx => ?_⟩, ⟨hk.chg.mono (fun x _ q => h.cov x (.inl q)), fun x hx => ?_⟩⟩
  · rw [← hd', flows_start]
    exact row_chg h.row hk.chg (fun x hx q => (h.far x hx).1 q)
  · rcases hk.new g q with q2 | q2
    · exact (h.far g hg).1 q2
    · have := hlo g hg; omega
  · rcases hx with hx | hx
    · exact .inr hx
    · exact .inl (h.cov x (.inr hx))
  · have hsz := hk.chg.size
    rcases hx with hx | hx
    · have := h.lo x hx; omega
    · exact ⟨hl.ses.fresh x hx, hl.ses.lt x hx⟩
  · rcases hx with hx | hx
    · exact .inl hx
    · rcases hk.new x hx with q | q
      · exact .inl (h.cov x (.inl q))
      · exact .inr q
end
end Go.Proofs.Yteolilggeaffaaa
