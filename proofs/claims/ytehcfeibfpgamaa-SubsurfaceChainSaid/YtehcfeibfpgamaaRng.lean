/- 'for k, v := range m' over a map keyed by int: which keys are still to come. -/
import Derived.Test.YtehcfeibfpgamaaMapI
import Derived.Maps.RangeWalk
set_option linter.unusedVariables false
set_option linter.unusedSimpArgs false
set_option maxRecDepth 100000
namespace Go.Proofs.Ytehcfeibfpgamaa
open Go.RowKit Go.MapKept
open Go.ChangeMaps (setBlock)

def RngIs (w : World) (b r : Nat) (f : Int → Option Value) (left : Int → Bool) (cnt : Nat) : Prop :=
  ∃ es clock since seen c0, w.heap[b]? = some (.map es clock) ∧ Stamped es clock ∧ (∀ x ∈ es.toList, IsKey (.int .i64) x.key) ∧ (∀ k v, f k = some v ↔ ∃ x ∈ es.toList, x.key = .int .i64 k ∧ x.val = v) ∧
    w.heap[r]? = some (.mapIter (some b) since seen c0) ∧ (∀ x ∈ es.toList, x.born < since) ∧ since ≤ c0 ∧ since ≤ clock ∧ (leftOf es seen).size = cnt ∧
    (∀ x ∈ es.toList, ∀ k, x.key = .int .i64 k → left k = !seen.contains x.born) ∧ ∀ k, left k = true → (f k).isSome = true

section
variable {P : Program} {w : World} {b r cnt : Nat} {f : Int → Option Value} {left : Int → Bool} {t kt et : TypeId}
theorem RngIs.map (h : RngIs w b r f left cnt) : MapIs w b f := by
  obtain ⟨es, clock, _, _, _, hb, hs, hk, hf, _⟩ := h; exact ⟨es, clock, hb, hs, hk, hf⟩
theorem RngIs.ne (h : RngIs w b r f left cnt) : r ≠ b := by
  obtain ⟨es, clock, since, seen, c0, hb, _, _, _, hr, _⟩ := h
  rintro rfl; rw [hb] at hr; cases hr
theorem RngIs.left_eq (h : RngIs w b r f left cnt) : w.rangeLeft b r = cnt := by
  obtain ⟨es, clock, since, seen, c0, hb, _, _, _, hr, _, _, _, hc, _⟩ := h
  simp only [World.rangeLeft, hb, hr]; exact hc
theorem RngIs.lt (h : RngIs w b r f left cnt) : r < w.heap.size := by
  obtain ⟨es, clock, since, seen, c0, _, _, _, _, hr, _⟩ := h; exact lt_of_at hr
theorem RngIs.chg {S : Nat → Prop} {w' : World} (h : RngIs w b r f left cnt) (k : Chg S w w') (hb' : ¬ S b) (hr' : ¬ S r) : RngIs w' b r f left cnt := by
  obtain ⟨es, clock, since, seen, c0, hb, h1, h2, h3, hr, rest⟩ := h
  exact ⟨es, clock, since, seen, c0, k.at_ hb hb', h1, h2, h3, k.at_ hr hr', rest⟩
theorem RngIs.same {w' : World} (h : RngIs w b r f left cnt) (k : Same w w') : RngIs w' b r f left cnt := h.chg k (fun q => q) (fun q => q)

theorem MapIs.range (h : MapIs w b f) (ht : P.underlying t = some (.map kt et)) :
    ∃ w' cnt, (Instr.range t (.map (some b))).run P w = .ok (.pointer (some ⟨w.heap.size, 0, none⟩)) w' ∧ RngIs w' b w.heap.size f (fun k => (f k).isSome) cnt ∧ Same w w' ∧ w'.heap.size = w.heap.size + 1 := by
  obtain ⟨es, clock, hb, hs, hk, hf⟩ := h
  refine ⟨_, _, run_range_map w t kt et b es clock ht hb, ⟨es, clock, clock, #[], clock, at_alloc hb, hs, hk, hf, at_new _ _, hs.1, Nat.le_refl _, Nat.le_refl _, rfl, ?_, fun _ h => h⟩, (Chg.refl _ w).alloc _, by simp⟩
  intro x hx k hxk
  have : f k = some x.val := (hf k x.val).2 ⟨x, hx, hxk, rfl⟩
  simp [this]

theorem RngIs.next (h : RngIs w b r f left cnt) (ty : TypeId) :
    ((∀ k, left k = false) ∧ (Instr.next (.pointer (some ⟨r, 0, none⟩)) false ty).run P w = .ok (.tuple #[.bool false]) w) ∨
    ∃ k v w' cnt', left k = true ∧ f k = some v ∧ (Instr.next (.pointer (some ⟨r, 0, none⟩)) false ty).run P w = .ok (.tuple #[.bool true, .int .i64 k, v]) w' ∧
      RngIs w' b r f (fun x => left x && !(x == k)) cnt' ∧ cnt' < cnt ∧ Chg (fun x => x = r) w w' ∧ w'.heap.size = w.heap.size ∧ (Instr.entry (.pointer (some ⟨r, 0, none⟩))).run P w' = .ok (.tuple #[.int .i64 k, v]) w' := by
  have hne := h.ne
  obtain ⟨es, clock, since, seen, c0, hb, hs, hk, hf, hr, hold, hsc, hsk, rfl, hl1, hl2⟩ := h
  rcases run_next_at (P := P) w ty r b since c0 seen es clock hr hb hold hsc with ⟨h0, hrun⟩ | ⟨e, he, w1, hal, hrun⟩
  · refine Or.inl ⟨fun k => ?_, hrun⟩
    cases hkk : left k
    · rfl
    · obtain ⟨v, hv⟩ := Option.isSome_iff_exists.1 (hl2 k hkk)
      obtain ⟨x, hx, hxk, _⟩ := (hf k v).1 hv
      rw [hl1 x hx k hxk, all_seen es seen h0 x hx] at hkk
      cases hkk
  · obtain ⟨hem, hes⟩ := mem_left he
    obtain ⟨k, hek⟩ := key_ext (hk e hem)
    have hr1 : w1.heap[r]? = some (.mapIter (some b) since seen c0) := by rcases hal with rfl | rfl <;> exact hr
    have hb1 : w1.heap[b]? = some (.map es clock) := by rcases hal with rfl | rfl <;> exact hb
    have hset := heap_set (o' := .mapIter (some b) since (seen.push e.born) clock) hr1
    have hb' : (setBlock w1 r (.mapIter (some b) since (seen.push e.born) clock)).heap[b]? = some (.map es clock) := (hset.2 b (fun e1 => hne e1.symm)).trans hb1
    have hent := run_entry_at (P := P) _ r b since seen es clock e hset.1 hb' hem ((stamped_iff es clock).1 hs).2.1
    rw [hek] at hrun hent
    refine Or.inr ⟨k, e.val, _, _, by rw [hl1 e hem k hek, hes]; rfl, (hf k e.val).2 ⟨e, hem, hek, rfl⟩, hrun,
      ⟨es, clock, since, seen.push e.born, clock, hb', hs, hk, hf, hset.1, hold, hsk, hsk, rfl, fun x hx z hxz => ?_, fun z hz => hl2 z (by simp at hz; exact hz.1)⟩, left_shrinks es seen e he, ?_, ?_, hent⟩
    · dsimp only
      rw [hl1 x hx z hxz, contains_push]
      have hzk : (z == k) = (x.born == e.born) := by
        by_cases hbe : x.born = e.born
        · have := born_inj ((stamped_iff es clock).1 hs).2.1 hx hem hbe
          subst this
          rw [hek] at hxz
          cases hxz
          simp
        · have hzn : z ≠ k := by
            rintro rfl
            exact hbe (congrArg MapEntry.born (entry_eq_of_key ((stamped_iff es clock).1 hs).2.2 hx hem (hxz.trans hek.symm)))
          rw [beq_eq_false_iff_ne.2 hbe, beq_eq_false_iff_ne.2 hzn]
      rw [hzk]
      cases seen.contains x.born <;> cases (x.born == e.born) <;> rfl
    · rcases hal with rfl | rfl <;> exact ⟨rfl, rfl, rfl, by simp [setBlock], fun i _ hi => hset.2 i hi⟩
    · rcases hal with rfl | rfl <;> simp [setBlock]
end

section
variable {P : Program} {ops : Array Oper} {Q : Exit → Act → World → Prop} {rest : List Oper} {a : Act} {w : World} {d : Option Tmp} {ty t kt et : TypeId} {ps : String} {ed : Array Edge} {b r cnt : Nat} {f : Int → Option Value} {left : Int → Bool}
theorem wpl_range (hm : MapIs w b f) (ht : P.underlying t = some (.map kt et)) (x : Operand) (hx : a.eval x = .map (some b))
    (h : ∀ w' cnt, RngIs w' b w.heap.size f (fun k => (f k).isSome) cnt → Same w w' → w'.heap.size = w.heap.size + 1 → wpList P ops Q rest (a.put d (.pointer (some ⟨w.heap.size, 0, none⟩))) w') :
    wpList P ops Q (⟨d, .range t x, ty, ps, ed, none⟩ :: rest) a w := by
  obtain ⟨w', cnt, hr, h1, h2, h3⟩ := hm.range (P := P) ht
  exact wpl_ok _ rfl (by unfold execOp; simp only [hx, Sem.run_bind, hr, Result.andThen_ok, Sem.run_pure]) (h w' cnt h1 h2 h3)
theorem wpl_next (hm : RngIs w b r f left cnt) (x : Operand) (hx : a.eval x = .pointer (some ⟨r, 0, none⟩))
    (h0 : (∀ k, left k = false) → wpList P ops Q rest (a.put d (.tuple #[.bool false])) w)
    (h1 : ∀ k v w' cnt', left k = true → f k = some v → RngIs w' b r f (fun x => left x && !(x == k)) cnt' → cnt' < cnt → Chg (fun x => x = r) w w' → w'.heap.size = w.heap.size → (Instr.entry (.pointer (some ⟨r, 0, none⟩))).run P w' = .ok (.tuple #[.int .i64 k, v]) w' →
      wpList P ops Q rest (a.put d (.tuple #[.bool true, .int .i64 k, v])) w') :
    wpList P ops Q (⟨d, .next x false, ty, ps, ed, none⟩ :: rest) a w := by
  rcases hm.next (P := P) ty with ⟨hl, hr⟩ | ⟨k, v, w', cnt', hl, hf, hr, g1, g2, g3, g4, g5⟩
  · exact wpl_ok _ rfl (by unfold execOp; simp only [hx, Sem.run_bind, hr, Result.andThen_ok, Sem.run_pure]) (h0 hl)
  · exact wpl_ok _ rfl (by unfold execOp; simp only [hx, Sem.run_bind, hr, Result.andThen_ok, Sem.run_pure]) (h1 k v w' cnt' hl hf g1 g2 g3 g4 g5)
end
end Go.Proofs.Ytehcfeibfpgamaa
