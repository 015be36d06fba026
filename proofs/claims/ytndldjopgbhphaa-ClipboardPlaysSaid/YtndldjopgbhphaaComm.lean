/- A walk through a function that communicates: select with a default, in one goroutine. The kit's walk asks nothing of the frame; a communication asks that the frame is an ordinary one. -/
import Derived.Test.YtndldjopgbhphaaPk01
import Derived.Conc.LoneSelect
set_option linter.unusedVariables false
set_option linter.unusedSimpArgs false
set_option maxRecDepth 100000
namespace Go.Proofs.Ytndldjopgbhphaa
open Go.RowKit Go.Conc

/-- The kit's 'wp', at ordinary frames alone. -/
def NWp (P : Program) (c : Code) (Q : Exit → Act → World → Prop) (a : Act) (w : World) : Prop :=
  ∀ (b : Frame) (k : List Item) (cs : List Frame), b.kind = .normal → ∃ e a' w', Q e a' w' ∧ Arrives P (lone (b.at a (.code c :: k)) cs w) b k cs e a' w'

section
variable {P : Program} {Q : Exit → Act → World → Prop} {a : Act} {w : World}
theorem nwp_of {c : Code} (h : c.wp P Q a w) : NWp P c Q a w := fun b k cs _ => h b k cs
theorem nwp_seq {x y : Code} (h : NWp P x (Exit.then (NWp P y Q) Q) a w) : NWp P (Code.seq x y) Q a w := by
  intro b k cs hb
  obtain ⟨e, a₁, w₁, hq, harr⟩ := h b (.code y :: k) cs hb
  have out : ∀ e', e' = e → e' ≠ .normal → ∃ e a' w', Q e a' w' ∧ Arrives P (lone (b.at a (.code (.seq x y) :: k)) cs w) b k cs e a' w' := by
    rintro e' rfl hne
    refine ⟨e', a₁, w₁, ?_, .of_steps (.one step_seq) (.pass (x := .code y) rfl (fun _ _ => .inl hne) harr)⟩
    cases e' <;> first | exact hq | exact absurd rfl hne
  cases e with
  | normal =>
    obtain ⟨e₂, a₂, w₂, hq₂, harr₂⟩ := hq b k cs hb
    exact ⟨e₂, a₂, w₂, hq₂, .of_steps (.head step_seq harr) harr₂⟩
  | exit id => exact out _ rfl (by simp)
  | goto l => exact out _ rfl (by simp)
  | ret => exact out _ rfl (by simp)
  | panic ch => exact out _ rfl (by simp)
  | outgrown => exact out _ rfl (by simp)
/-- First what the kit's walk goes through. -/
theorem nwp_walk {x y : Code} (h : ∀ K : Act → World → Prop, (∀ a w, NWp P y Q a w → K a w) → x.wp P (Exit.then K Q) a w) : NWp P (Code.seq x y) Q a w :=
  nwp_seq (nwp_of (h _ fun _ _ k => k))
theorem nwp_then {x y : Code} (h : ∀ K : Act → World → Prop, (∀ a w, y.wp P Q a w → K a w) → NWp P x (Exit.then K Q) a w) : NWp P (Code.seq x y) Q a w := by
  refine nwp_seq ?_
  have := h (fun a w => NWp P y Q a w) (fun a w k => nwp_of k)
  exact this

theorem calls_of_nwp {f : FuncId} {fn : Func} {c : Code} {args : Array Value} {R : Ending → World → Prop} (hf : P.funcs[f]? = some fn) (hb : fn.body = some c)
    (h : NWp P c (bodyPost P fn R) { tmps := args ++ Array.replicate (fn.ntmps - args.size) undef, defers := [] } w) : Calls P f args w R := by
  intro cs
  let b : Frame := { (default : Frame) with fn := f, kind := .normal }
  have henter : Frame.enter P f args .normal = b.at { tmps := args ++ Array.replicate (fn.ntmps - args.size) undef, defers := [] } [.code c] := by
    simp [Frame.enter, Frame.at, hf, hb, b]
  obtain ⟨e, a', w', hq, harr⟩ := h b [] cs rfl
  rw [← henter] at harr
  cases e with
  | normal =>
    obtain ⟨hd, v, hr, hR⟩ := hq
    exact ⟨.returned v, w', _, hR, Steps.trans harr (.one step_end), rfl, rfl, hd, rfl, fn, hf, hr⟩
  | ret =>
    obtain ⟨hd, v, hr, hR⟩ := hq
    obtain ⟨todo, hs⟩ := harr
    exact ⟨.returned v, w', _, hR, hs, rfl, rfl, hd, rfl, fn, hf, hr⟩
  | panic chain =>
    obtain ⟨hd, hR⟩ := hq
    obtain ⟨todo, hs⟩ := harr
    exact ⟨.panicked chain, w', _, hR, hs, rfl, rfl, hd, fn, hf⟩
  | exit id => exact hq.elim
  | goto l => exact hq.elim
  | outgrown => exact ⟨.outgrown, w', b, hq, harr.resolve_left (by simp [b]), rfl, trivial⟩

/-- A region that begins with an operation of the machine's. -/
theorem nwp_region {id : Nat} {o : Oper} {l : List Oper} {v : Value} {w' : World}
    (hs : ∀ (b : Frame) (idx : List Nat) (k : List Item) (cs : List Frame), b.kind = .normal → step P (lone (b.at a (.inRegion (o :: l).toArray (0 :: idx) :: k)) cs w) = .next (lone (b.at (a.put o.dst v) (.inRegion (o :: l).toArray idx :: k)) cs w'))
    (h : wpList P (o :: l).toArray Q l (a.put o.dst v) w') : NWp P (Code.region id (o :: l).toArray false) Q a w := by
  intro b k cs hb
  have e1 := wpOps_eq_wpList (P := P) (ops := (o :: l).toArray) (Q := Q) l 1 (fun j => by simp [Nat.add_comm])
  have e2 : List.range (o :: l).toArray.size = 0 :: List.range' 1 l.length := by
    simp [List.range_eq_range', List.range'_succ]
  rw [← e1] at h
  obtain ⟨e, a', w'', hq, harr⟩ := wp_ops _ _ _ h b k cs
  refine ⟨e, a', w'', hq, .of_steps (.head step_region ?_) harr⟩
  rw [e2]
  exact .one (hs b _ k cs hb)

theorem execOp_select1 {d : Option Tmp} {ty el : TypeId} {ps : String} {ed : Array Edge} {ch : Operand} {sd : Option Operand} {ρ : Operand → Value} {z : Value} (hz : (zeroValue el).run P w = .ok z w) :
    (execOp ρ ⟨d, .select #[⟨ch, sd, el⟩] false, ty, ps, ed, none⟩).run P w = .ok (.comm #[{ chan := ρ ch, send := sd.map ρ, zero := z }] false .select) w := by
  unfold execOp
  simp [Sem.run_bind, Sem.run_pure, hz]

section
variable {d : Option Tmp} {ty el : TypeId} {ps : String} {ed : Array Edge} {ch : Operand} {l : List Oper} {id c cap s r : Nat} {buf : Array Value} {tm : Bool} {z : Value}
/-- A send for which there is room. -/
theorem nwp_select_send {sv : Operand} (v : Value) (hz : (zeroValue el).run P w = .ok z w) (hch : a.eval ch = .chan (some c)) (hv : a.eval sv = v) (hc : w.heap[c]? = some (.chan cap buf false s r tm)) (hroom : buf.size < cap)
    (h : wpList P ((⟨d, .select #[⟨ch, some sv, el⟩] false, ty, ps, ed, none⟩ : Oper) :: l).toArray Q l (a.put d (.tuple #[goInt 0, .bool false])) (w.setChan c cap (buf.push v) false (s + 1) r tm)) :
    NWp P (Code.region id ((⟨d, .select #[⟨ch, some sv, el⟩] false, ty, ps, ed, none⟩ : Oper) :: l).toArray false) Q a w := by
  refine nwp_region (fun b idx k cs hb => ?_) h
  have hr := execOp_select1 (P := P) (w := w) (d := d) (ty := ty) (ps := ps) (ed := ed) (ch := ch) (sd := some sv) (ρ := a.eval) hz
  rw [hch] at hr
  simp only [Option.map_some, hv] at hr
  have hg := stepG_comm (P := P) (main := true) (b := b) (a := a) (k := k) (cs := cs) (rest := idx) (ops := ((⟨d, .select #[⟨ch, some sv, el⟩] false, ty, ps, ed, none⟩ : Oper) :: l).toArray) (i := 0) (by simp) rfl (by rw [hb]; decide) hr
  have := step_lone_select_send_room hg hc hroom
  rw [lone_eq_solo, this, Frame.finish_at]
  rfl
/-- A receive from a buffer that holds something. -/
theorem nwp_select_recv (hz : (zeroValue el).run P w = .ok z w) (hch : a.eval ch = .chan (some c)) (hc : w.heap[c]? = some (.chan cap buf false s r tm)) (hsome : 0 < buf.size)
    (h : wpList P ((⟨d, .select #[⟨ch, none, el⟩] false, ty, ps, ed, none⟩ : Oper) :: l).toArray Q l (a.put d (.tuple #[goInt 0, .bool true, buf.getD 0 undef])) (w.setChan c cap (buf.extract 1 buf.size) false s (r + 1) tm)) :
    NWp P (Code.region id ((⟨d, .select #[⟨ch, none, el⟩] false, ty, ps, ed, none⟩ : Oper) :: l).toArray false) Q a w := by
  refine nwp_region (fun b idx k cs hb => ?_) h
  have hr := execOp_select1 (P := P) (w := w) (d := d) (ty := ty) (ps := ps) (ed := ed) (ch := ch) (sd := none) (ρ := a.eval) hz
  rw [hch] at hr
  have hg := stepG_comm (P := P) (main := true) (b := b) (a := a) (k := k) (cs := cs) (rest := idx) (ops := ((⟨d, .select #[⟨ch, none, el⟩] false, ty, ps, ed, none⟩ : Oper) :: l).toArray) (i := 0) (by simp) rfl (by rw [hb]; decide) hr
  have := step_lone_select_recv_buf hg hc hsome
  rw [lone_eq_solo, this, Frame.finish_at]
  rfl
/-- A receive from an open channel that holds nothing. -/
theorem nwp_select_none (hz : (zeroValue el).run P w = .ok z w) (hch : a.eval ch = .chan (some c)) (hc : w.heap[c]? = some (.chan cap #[] false s r tm))
    (h : wpList P ((⟨d, .select #[⟨ch, none, el⟩] false, ty, ps, ed, none⟩ : Oper) :: l).toArray Q l (a.put d (.tuple #[goInt (-1), .bool false, z])) w) :
    NWp P (Code.region id ((⟨d, .select #[⟨ch, none, el⟩] false, ty, ps, ed, none⟩ : Oper) :: l).toArray false) Q a w := by
  refine nwp_region (fun b idx k cs hb => ?_) h
  have hr := execOp_select1 (P := P) (w := w) (d := d) (ty := ty) (ps := ps) (ed := ed) (ch := ch) (sd := none) (ρ := a.eval) hz
  rw [hch] at hr
  have hg := stepG_comm (P := P) (main := true) (b := b) (a := a) (k := k) (cs := cs) (rest := idx) (ops := ((⟨d, .select #[⟨ch, none, el⟩] false, ty, ps, ed, none⟩ : Oper) :: l).toArray) (i := 0) (by simp) rfl (by rw [hb]; decide) hr
  have := step_lone_select_default hg hc
  rw [lone_eq_solo, this, Frame.finish_at]
  rfl
end
end
end Go.Proofs.Ytndldjopgbhphaa
