/- Parts of the walk, packed: DSes, Ex43. -/
import Derived.Test.YteolilggeaffaaaDragP
set_option linter.unusedVariables false
set_option linter.unusedSimpArgs false
set_option maxRecDepth 100000
namespace Go.Proofs.Yteolilggeaffaaa
open Go.RowKit

structure DSes (w0 w : World) (lb b : Nat) (R : Nat → Prop) (L : SLog) (d : DSt) : Prop where
  log : LogAt w lb L
  drag : DragAt w b lb R d
  fresh : ∀ x, R x → w0.heap.size ≤ x
  lfresh : w0.heap.size ≤ lb
  same : Same w0 w
section
variable {w0 w w' : World} {lb b : Nat} {R R' : Nat → Prop} {L L' : SLog} {d d' : DSt}
theorem DSes.llt (h : DSes w0 w lb b R L d) : lb < w.heap.size := lt_of_at h.log.1
theorem DSes.lt (h : DSes w0 w lb b R L d) : ∀ x, R x → x < w.heap.size := h.drag.lt
theorem DSes.keep (h : DSes w0 w lb b R L d) (k : Same w w') : DSes w0 w' lb b R L d := ⟨h.log.chg k (fun q => q), h.drag.same k, h.fresh, h.lfresh, h.same.trans k⟩
/-- Other new blocks are written. -/
theorem DSes.chg {S : Nat → Prop} (h : DSes w0 w lb b R L d) (k : Chg S w w') (h1 : ∀ x, S x → ¬ R x ∧ x ≠ lb ∧ w0.heap.size ≤ x) : DSes w0 w' lb b R L d :=
  ⟨h.log.chg k (fun q => (h1 lb q).2.1 rfl), h.drag.chg k (fun x hx q => (h1 x q).1 hx), h.fresh, h.lfresh, h.same.then_ k (fun i hi q => by have := (h1 i q).2.2; omega)⟩
theorem DSes.own (h : DSes w0 w lb b R L d) (hc : DragAt w' b lb R' d') (k : Own R R' w w') : DSes w0 w' lb b R' L d' :=
  ⟨h.log.chg k.chg (fun q => h.drag.rl q), hc, k.base h.fresh h.same.size, h.lfresh, k.same_of w0 h.same h.fresh⟩
/-- The drag's own blocks are written. -/
theorem DSes.sub (h : DSes w0 w lb b R L d) (hc : DragAt w' b lb R d') (k : Chg R w w') : DSes w0 w' lb b R L d' :=
  ⟨h.log.chg k (fun q => h.drag.rl q), hc, h.fresh, h.lfresh, h.same.then_ k (fun i hi q => by have := h.fresh i q; omega)⟩

theorem ds_lognew (w : World) : Calls Try.prog 36 #[] w fun e w' => e = .returned (.pointer (some ⟨w.heap.size, 0, none⟩)) ∧ LogAt w' w.heap.size SLog.new ∧ Same w w' := by
  refine (new_ok w).mono ?_
  rintro e w' ⟨rfl, h1, h2, _⟩
  exact ⟨rfl, h1, h2⟩
def DSNew (w0 : World) (lb : Nat) (L : SLog) (w : World) (e : Ending) (w' : World) : Prop := ∃ b R, e = .returned (.pointer (some ⟨b, 0, none⟩)) ∧ DSes w0 w' lb b R L DSt.new ∧ Same w w' ∧ (∀ x, R x → w.heap.size ≤ x)
theorem ds_new (hl : LogAt w lb L) (h0 : w0.heap.size ≤ lb) (hs : Same w0 w) : Calls Try.prog 37 #[.pointer (some ⟨lb, 0, none⟩)] w (DSNew w0 lb L w) := by
  refine (dnew_ok w lb (lt_of_at hl.1)).mono ?_
  rintro e w' ⟨b, R, rfl, hc, hk, hn⟩
  exact ⟨b, R, rfl, ⟨hl.chg hk (fun q => q), hc, fun x hx => by have := hn x hx; have := hs.size; omega, h0, hs.trans hk⟩, hk, hn⟩
def DSI (w0 : World) (lb b : Nat) (L : SLog) (d' : DSt) (v : Value) (R : Nat → Prop) (w : World) (e : Ending) (w' : World) : Prop :=
  ∃ R', e = .returned v ∧ DSes w0 w' lb b R' L d' ∧ Own R R' w w'
def DSV (w0 : World) (lb b : Nat) (R : Nat → Prop) (L : SLog) (d' : DSt) (v : Value) (w : World) (e : Ending) (w' : World) : Prop :=
  e = .returned v ∧ DSes w0 w' lb b R L d' ∧ Chg R w w'
theorem ds_issue (L' : SLog) (v cl f k : Int) (h : DSes w0 w lb b R L d) (h1 : cl ≤ 9223372036854775807) (h2 : f ≤ 9223372036854775807) (hv : L.issueN cl f k = v) (hL : L.issue cl f k = L') :
    Calls Try.prog 38 #[.pointer (some ⟨lb, 0, none⟩), .int .i64 cl, .int .i64 f, .int .i64 k] w fun e w' => e = .returned (.int .u32 v) ∧ DSes w0 w' lb b R L' d ∧ Chg (fun x => x = lb) w w' := by
  refine (issue_ok lb w L cl f k h.log h1 h2).mono ?_
  rintro e w' ⟨rfl, hl, hk⟩
  subst hv hL
  refine ⟨rfl, ⟨hl, h.drag.chg hk (fun x hx e => h.drag.rl (e ▸ hx)), h.fresh, h.lfresh, h.same.then_ hk (fun i hi e => by have := h.lfresh; omega)⟩, hk⟩
/-- Start, whatever it answers. -/
theorem dstart_ok (d' : DSt) (v client surface icon acts n : Int) (Ao : Option Addr) (no co : Nat) (fs : List ByteArray) (h : DragAt w b lb R d) (hL : LogAt w lb L) (ha : SArg w Ao no co fs) (hd : 0 < no → ∀ g o, Ao = some ⟨g, o, none⟩ → ¬ R g)
    (hv : d.startE L client surface icon fs acts n = v) (hd' : d.start L client surface icon fs acts n = d') :
    Calls Try.prog 31 #[.pointer (some ⟨b, 0, none⟩), .int .i64 client, .int .i64 surface, .int .i64 icon, .agg #[.slice Ao no co, .int .i64 acts], .int .u32 n] w (DSOut b lb R d' v w) := by
  subst hv hd'
  have no_ : ∀ v : Int, d.startE L client surface icon fs acts n = v → v ≠ 0 → ∀ w', Same w w' → DSOut b lb R (d.start L client surface icon fs acts n) (d.startE L client surface icon fs acts n) w (.returned (.int .i64 v)) w' := by
    intro v e hv0 w' k
    have e2 : d.start L client surface icon fs acts n = d := by unfold DSt.start; rw [if_neg (by rw [e]; exact hv0)]
    rw [e2, e]
    exact ⟨rfl, R, h.same k, Own.of_same k (fun _ h => .inl h)⟩
  by_cases h1 : min client surface < 1 ∨ icon < 0
  · have e : d.startE L client surface icon fs acts n = 6 := if_pos h1
    refine (dstart_range client surface icon acts n Ao no co h h1).mono ?_
    rintro e' w' ⟨rfl, hs⟩
    exact no_ 6 e (by omega) w' hs
  · have h1a : ¬ (min client surface < 1) := fun q => h1 (.inl q)
    have h1b : ¬ icon < 0 := fun q => h1 (.inr q)
    by_cases h2 : d.state = 0
    · by_cases h3 : checkV fs acts = 0
      · cases h4 : validD L client surface n
        · have e : d.startE L client surface icon fs acts n = 13 := by unfold DSt.startE; rw [if_neg h1, if_neg (fun q => q h2), if_neg (fun q => q h3), h4]; rfl
          refine (dstart_serial client surface icon acts n Ao no co fs h ha h1a h1b h2 h3 hL h4).mono ?_
          rintro e' w' ⟨rfl, hs⟩
          exact no_ 13 e (by omega) w' hs
        · have e : d.startE L client surface icon fs acts n = 0 := by unfold DSt.startE; rw [if_neg h1, if_neg (fun q => q h2), if_neg (fun q => q h3), h4]; rfl
          have e2 : d.start L client surface icon fs acts n = d.begin fs acts := by unfold DSt.start; rw [if_pos e]; rfl
          rw [e, e2]
          exact dstart_yes client surface icon acts n Ao no co fs h ha h1a h1b h2 h3 hL h4 hd
      · have e : d.startE L client surface icon fs acts n = checkV fs acts := by unfold DSt.startE; rw [if_neg h1, if_neg (fun q => q h2), if_pos h3]
        refine (dstart_check _ client surface icon acts n Ao no co fs h ha h1a h1b h2 rfl h3).mono ?_
        rintro e' w' ⟨rfl, hs⟩
        exact no_ _ e h3 w' hs
    · have e : d.startE L client surface icon fs acts n = 14 := by unfold DSt.startE; rw [if_neg h1, if_pos h2]
      refine (dstart_state client surface icon acts n Ao no co h h1a h1b h2).mono ?_
      rintro e' w' ⟨rfl, hs⟩
      exact no_ 14 e (by omega) w' hs
theorem ds_start (d' : DSt) (v client surface icon acts n : Int) (Ao : Option Addr) (no co : Nat) (fs : List ByteArray) (h : DSes w0 w lb b R L d) (ha : SArg w Ao no co fs) (hd : 0 < no → ∀ g o, Ao = some ⟨g, o, none⟩ → ¬ R g)
    (hv : d.startE L client surface icon fs acts n = v) (hd' : d.start L client surface icon fs acts n = d') :
    Calls Try.prog 31 #[.pointer (some ⟨b, 0, none⟩), .int .i64 client, .int .i64 surface, .int .i64 icon, .agg #[.slice Ao no co, .int .i64 acts], .int .u32 n] w (DSI w0 lb b L d' (.int .i64 v) R w) := by
  refine (dstart_ok d' v client surface icon acts n Ao no co fs h.drag h.log ha hd hv hd').mono ?_
  rintro e w' ⟨rfl, R', hc, hk⟩
  exact ⟨R', rfl, h.own hc hk, hk⟩
/-- Move, whatever the drag's state. -/
def DSt.mv (d : DSt) (client surface time : Int) : DSt := if d.state = 1 then d.moveCS (posC client surface) (posS client surface) time else d
def DSt.mvL (d : DSt) (L : SLog) (client surface : Int) : SLog := if d.state = 1 then d.logCS L (posC client surface) (posS client surface) else L
def DSt.mvO (d : DSt) (L : SLog) (client surface x y time : Int) : List (List Value) := if d.state = 1 then d.outCS L (posC client surface) (posS client surface) x y time else []
def DSO (w0 : World) (lb b : Nat) (R : Nat → Prop) (L' : SLog) (d' : DSt) (l : List (List Value)) (S : Nat → Prop) (w : World) (e : Ending) (w' : World) : Prop :=
  ∃ v, e = .returned v ∧ OutAt w.heap.size w' v l ∧ DSes w0 w' lb b R L' d' ∧ Chg S w w'
theorem ds_move (d' : DSt) (L' : SLog) (l : List (List Value)) (client surface x y time : Int) (h : DSes w0 w lb b R L d) (ho : d.offers < 1000000) (hb1 : client ≤ 9223372036854775807) (hb2 : surface ≤ 9223372036854775807)
    (hd : d.mv client surface time = d') (hL : d.mvL L client surface = L') (hl : d.mvO L client surface x y time = l) :
    Calls Try.prog 20 #[.pointer (some ⟨b, 0, none⟩), .int .i64 client, .int .i64 surface, .int .i64 x, .int .i64 y, .int .i64 time] w (DSO w0 lb b R L' d' l (fun x => x = b ∨ x = lb) w) := by
  subst hd hL hl
  by_cases h1 : d.state = 1
  · unfold DSt.mv DSt.mvL DSt.mvO
    rw [if_pos h1, if_pos h1, if_pos h1]
    refine (dmove_on _ _ client surface x y time h.drag h.log h1 rfl rfl ho hb1 hb2).mono ?_
    rintro e w' ⟨v, rfl, ho, hc, hl, hk⟩
    refine ⟨v, rfl, ho, ⟨hl, hc, h.fresh, h.lfresh, h.same.then_ hk (fun i hi q => ?_)⟩, hk⟩
    rcases q with q | q
    · have := h.fresh b h.drag.rb; omega
    · have := h.lfresh; omega
  · unfold DSt.mv DSt.mvL DSt.mvO
    rw [if_neg h1, if_neg h1, if_neg h1]
    refine (dmove_idle client surface x y time h.drag h1).mono ?_
    rintro e w' ⟨rfl, rfl⟩
    exact ⟨_, rfl, World.ownsRow_nil _ _ _ _, h, Chg.refl _ _⟩
theorem ds_state (v : Int) (h : DSes w0 w lb b R L d) (hv : d.state = v) : Calls Try.prog 21 #[.pointer (some ⟨b, 0, none⟩)] w fun e w' => e = .returned (.int .i64 v) ∧ w = w' := dstate_ok v h.drag hv
theorem ds_action (v : Int) (h : DSes w0 w lb b R L d) (hv : d.act = v) : Calls Try.prog 15 #[.pointer (some ⟨b, 0, none⟩)] w fun e w' => e = .returned (.int .i64 v) ∧ DSes w0 w' lb b R L d ∧ Same w w' := by
  refine (daction_ok v h.drag hv).mono ?_
  rintro e w' ⟨rfl, hs⟩
  exact ⟨rfl, h.keep hs, hs⟩
theorem ds_accept (d' : DSt) (v client : Int) (f : ByteArray) (h : DSes w0 w lb b R L d) (hv : d.acceptE client f = v) (hd : d.accept client f = d') :
    Calls Try.prog 13 #[.pointer (some ⟨b, 0, none⟩), .int .i64 client, .string f] w (DSV w0 lb b R L d' (.int .i64 v) w) := by
  refine (daccept_ok d' v client f h.drag hv hd).mono ?_
  rintro e w' ⟨rfl, hc, hk⟩
  have hk := hk.mono (R := R) (fun x _ e => by rw [e]; exact h.drag.rb)
  exact ⟨rfl, h.sub hc hk, hk⟩
theorem ds_setact (d' : DSt) (v client a p : Int) (h : DSes w0 w lb b R L d) (hv : d.setActE client a p = v) (hd : d.setAct client a p = d') :
    Calls Try.prog 14 #[.pointer (some ⟨b, 0, none⟩), .int .i64 client, .int .i64 a, .int .i64 p] w (DSV w0 lb b R L d' (.int .i64 v) w) := by
  refine (dsetact_ok d' v client a p h.drag hv hd).mono ?_
  rintro e w' ⟨rfl, hc, hk⟩
  have hk := hk.mono (R := R) (fun x _ e => by rw [e]; exact h.drag.rb)
  exact ⟨rfl, h.sub hc hk, hk⟩
theorem ds_finish (d' : DSt) (v client : Int) (h : DSes w0 w lb b R L d) (hv : d.finE client = v) (hd : d.fin client = d') :
    Calls Try.prog 18 #[.pointer (some ⟨b, 0, none⟩), .int .i64 client] w (DSV w0 lb b R L d' (.int .i64 v) w) := by
  refine (dfinish_ok d' v client h.drag hv hd).mono ?_
  rintro e w' ⟨rfl, hc, hk⟩
  have hk := hk.mono (R := R) (fun x _ e => by rw [e]; exact h.drag.rb)
  exact ⟨rfl, h.sub hc hk, hk⟩
theorem ds_cancel (d' : DSt) (l : List (List Value)) (h : DSes w0 w lb b R L d) (hd : d.cancS = d') (hl : d.cancO = l) : Calls Try.prog 34 #[.pointer (some ⟨b, 0, none⟩)] w (DSO w0 lb b R L d' l R w) := by
  refine (dcancel_ok d' l h.drag hd hl).mono ?_
  rintro e w' ⟨v, rfl, ho, hc, hk⟩
  exact ⟨v, rfl, ho, h.sub hc hk, hk⟩
def DSD (w0 : World) (lb b : Nat) (R : Nat → Prop) (L' : SLog) (d' : DSt) (l : List (List Value)) (ok : Bool) (w : World) (e : Ending) (w' : World) : Prop :=
  ∃ v, e = .returned (.tuple #[v, .bool ok]) ∧ OutAt w.heap.size w' v l ∧ DSes w0 w' lb b R L' d' ∧ Chg R w w'
theorem ds_drop (d' : DSt) (l : List (List Value)) (ok : Bool) (h : DSes w0 w lb b R L d) (hd : d.dropS = d') (hl : d.dropO = l) (hb : d.dropB = ok) : Calls Try.prog 16 #[.pointer (some ⟨b, 0, none⟩)] w (DSD w0 lb b R L d' l ok w) := by
  refine (ddrop_ok d' l ok h.drag hd hl hb).mono ?_
  rintro e w' ⟨v, rfl, ho, hc, hk⟩
  exact ⟨v, rfl, ho, h.sub hc hk, hk⟩
theorem ds_rcv_no (v client win : Int) (f : ByteArray) (h : DSes w0 w lb b R L d) (hv : d.rcvE client f win = v) (h0 : v ≠ 0) :
    Calls Try.prog 17 #[.pointer (some ⟨b, 0, none⟩), .int .i64 client, .string f, .int .i64 win] w fun e w' => e = .returned (.tuple #[.pointer none, .int .i64 v]) ∧ w = w' := drcv_no v client win f h.drag hv h0
def DSR (w0 : World) (lb b : Nat) (R : Nat → Prop) (L : SLog) (d : DSt) (win : Int) (w : World) (e : Ending) (w' : World) : Prop :=
  ∃ R' pb Rp, e = .returned (.tuple #[.pointer (some ⟨pb, 0, none⟩), .int .i64 0]) ∧ DSes w0 w' lb b R' L { d with flows := d.flows ++ [⟨pb, Rp, PSt.new win⟩] } ∧ Own R R' w w'
theorem ds_rcv (client win : Int) (f : ByteArray) (h : DSes w0 w lb b R L d) (hv : d.rcvE client f win = 0) (hf : d.flows.length < 1000) :
    Calls Try.prog 17 #[.pointer (some ⟨b, 0, none⟩), .int .i64 client, .string f, .int .i64 win] w (DSR w0 lb b R L d win w) := by
  refine (drcv_yes client win f h.drag hv hf).mono ?_
  rintro e w' ⟨R', pb, Rp, rfl, hc, hk⟩
  exact ⟨R', pb, Rp, rfl, h.own hc hk, hk⟩
/-- A pipe of the drag's, as the law holds it. -/
theorem DSes.pipe (h : DSes w0 w lb b R L d) {i : Nat} {x : DFlow} (hx : d.flows[i]? = some x) : Pip w0 w x.pb x.R x.q := by
  obtain ⟨A, n, cap, PA, pn, pcap, hh⟩ := h.drag
  have hm := List.mem_of_getElem? hx
  exact ⟨hh.pipes x hm, fun j hj => h.fresh j (hh.sub x hm j hj).1, h.same⟩
theorem DSes.used (h : DSes w0 w lb b R L d) {i : Nat} {x : DFlow} (hx : d.flows[i]? = some x) {q2 : PSt} (k : Chg x.R w w') (hp : PipeAt w' x.pb x.R q2) :
    DSes w0 w' lb b R L { d with flows := d.flows.set i { x with q := q2 } } ∧ Chg R w w' := by
  obtain ⟨A, n, cap, PA, pn, pcap, hh⟩ := h.drag
  have hm := List.mem_of_getElem? hx
  have hk : Chg R w w' := k.mono (fun j _ hj => (hh.sub x hm j hj).1)
  exact ⟨h.sub ⟨A, n, cap, PA, pn, pcap, hh.flow hx k hp⟩ hk, hk⟩
end
end Go.Proofs.Yteolilggeaffaaa

namespace Go.Proofs.Yteolilggeaffaaa
open Go.RowKit

def tp : ByteArray := ⟨#[116, 101, 120, 116, 47, 112, 108, 97, 105, 110]⟩
theorem infoOff : (Try.prog.info? 74).map (fun i => i.size) = some 2 := by kernel_rfl
theorem run_load_off {w : World} {g : Nat} {a b : Value} (h : w.heap[g]? = some (.cells #[a, b] 74 (0, 0))) : (loadVar 74 ⟨g, 0, none⟩).run Try.prog w = .ok (.agg #[a, b]) w :=
  run_loadMid (P := Try.prog) (C := [a, b]) 74 0 2 _ h infoOff Try.underlying74 rfl (by simp)
def TextOut (acts : Int) (w : World) (e : Ending) (w' : World) : Prop := ∃ g, e = .returned (.agg #[.slice (some ⟨g, 0, none⟩) 1 1, .int .i64 acts]) ∧ w.heap.size ≤ g ∧ SArg w' (some ⟨g, 0, none⟩) 1 1 [tp] ∧ Same w w'
theorem text_ok (acts : Int) (w : World) : Calls Try.prog 39 #[.int .i64 acts] w (TextOut acts w) := by
  go_enter Try.func39, Try.ntmps39
  go_wp2
  refine bodyPost_ret (results_cell1 Try.results39 rfl (run_load_off (at_alloc (at_new _ _)))) rfl ⟨w.heap.size + 1, rfl, by omega, ⟨strs_new _ _ _ 1 [tp] _ rfl rfl _ (by simp), by omega, by unfold maxLen; omega⟩, ((Chg.refl _ _).alloc _).alloc _⟩

theorem under_deliv : Try.prog.underlying 72 = some (.struct (Try.prog.fieldsOf 72)) := by kernel_rfl
theorem stood_deliv : Try.prog.stoodInHeld 72 = false := by kernel_rfl
/-- A delivery compared with itself. -/
theorem eql_deliv (a1 a2 a3 a4 a5 a6 a7 a8 a9 : Int) (w : World) : (binOp .eql 72 (.agg #[.int .i64 a1, .int .i64 a2, .int .i64 a3, .int .i64 a4, .int .i64 a5, .int .i64 a6, .int .i64 a7, .int .i64 a8, .int .u32 a9]) (.agg #[.int .i64 a1, .int .i64 a2, .int .i64 a3, .int .i64 a4, .int .i64 a5, .int .i64 a6, .int .i64 a7, .int .i64 a8, .int .u32 a9])).run Try.prog w = .ok (.bool true) w := by
  have h9 : (Op.equalIn 10000 72 (.agg #[.int .i64 a1, .int .i64 a2, .int .i64 a3, .int .i64 a4, .int .i64 a5, .int .i64 a6, .int .i64 a7, .int .i64 a8, .int .u32 a9]) (.agg #[.int .i64 a1, .int .i64 a2, .int .i64 a3, .int .i64 a4, .int .i64 a5, .int .i64 a6, .int .i64 a7, .int .i64 a8, .int .u32 a9])).run Try.prog w = .ok true w := by
    rw [run_equalIn_agg w 9999 _ _ _ under_deliv stood_deliv]
    have h := under_deliv
    rw [Try.underlying72] at h
    simp only [Option.some.injEq, TypeDesc.struct.injEq] at h
    rw [← h]
    simp [Op.eqFields, part, isAgg, run_underlying Try.underlying33, run_underlying Try.underlying3, Sem.run_bind, run_equalIn_int _ _ _ _ _ _ _ Try.underlying33, run_equalIn_int _ _ _ _ _ _ _ Try.underlying3]
  simp only [binOp]
  simp [Op.equal, Op.maxDepth, h9]
/-- One delivery, where it lies. -/
def One (w : World) (g : Nat) (C : List Value) : Prop := ∃ cur : List Value, w.heap[g]? = some (.cells cur.toArray 72 (0, 0)) ∧ cur.take 9 = C
theorem OutAt.one {base : Nat} {w : World} {v : Value} {C : List Value} (h : OutAt base w v [C]) : ∃ g cap, v = .slice (some ⟨g, 0, none⟩) 1 cap ∧ base ≤ g ∧ g < w.heap.size ∧ 1 ≤ cap ∧ One w g C := by
  rcases h.2 with ⟨_, hn⟩ | ⟨g, cap, cur, rfl, hb, hg, hc, hm, hs, ht⟩
  · simp at hn
  · refine ⟨g, cap, rfl, hb, (Array.getElem?_eq_some_iff.1 hg).1, hc, cur.toList, by simpa using hg, by simpa using ht⟩
theorem OutAt.none {base : Nat} {w : World} {v : Value} (h : OutAt base w v []) : ∃ A cap, v = .slice A 0 cap := by
  rcases h.2 with ⟨rfl, _⟩ | ⟨g, cap, cur, rfl, _⟩
  · exact ⟨_, _, rfl⟩
  · exact ⟨_, _, rfl⟩
theorem One.chg {S : Nat → Prop} {w w' : World} {g : Nat} {C : List Value} (h : One w g C) (k : Chg S w w') (hs : ¬ S g) : One w' g C := by
  obtain ⟨cur, h1, h2⟩ := h
  exact ⟨cur, k.at_ h1 hs, h2⟩
theorem One.cell {w : World} {g : Nat} {C : List Value} (h : One w g C) (i : Nat) (hi : i < 9) : w.cell? ⟨g, i, none⟩ = C[i]? := by
  obtain ⟨cur, h1, h2⟩ := h
  rw [cell_at h1 i, ← h2, List.getElem?_take, if_pos hi]
theorem One.lt {w : World} {g : Nat} {C : List Value} (h : One w g C) : g < w.heap.size := by
  obtain ⟨cur, h1, _⟩ := h
  exact (Array.getElem?_eq_some_iff.1 h1).1
theorem One.cells {w : World} {g : Nat} {a1 a2 a3 a4 a5 a6 a7 a8 a9 : Int} (h : One w g (delivC a1 a2 a3 a4 a5 a6 a7 a8 a9)) :
    w.cell? ⟨g, 0, none⟩ = some (.int .i64 a1) ∧ w.cell? ⟨g, 1, none⟩ = some (.int .i64 a2) ∧ w.cell? ⟨g, 2, none⟩ = some (.int .i64 a3) ∧ w.cell? ⟨g, 3, none⟩ = some (.int .i64 a4) ∧ w.cell? ⟨g, 4, none⟩ = some (.int .i64 a5) ∧
    w.cell? ⟨g, 5, none⟩ = some (.int .i64 a6) ∧ w.cell? ⟨g, 6, none⟩ = some (.int .i64 a7) ∧ w.cell? ⟨g, 7, none⟩ = some (.int .i64 a8) ∧ w.cell? ⟨g, 8, none⟩ = some (.int .u32 a9) := by
  refine ⟨?_, ?_, ?_, ?_, ?_, ?_, ?_, ?_, ?_⟩ <;> (rw [h.cell _ (by omega)]; rfl)
def exL : SLog := SLog.new.issue 1 5 4
def exL2 : SLog := exL.issue 2 7 14
def exD1 : DSt := ⟨1, [tp], 3, 0, 0, ByteArray.empty, 0, 0, 0, false, 0, [], 0⟩
def exD2 : DSt := ⟨1, [tp], 3, 2, 7, ByteArray.empty, 0, 0, 1, true, 10, [], 0⟩
def exD3 : DSt := ⟨1, [tp], 3, 2, 7, ByteArray.empty, 0, 0, 1, true, 11, [], 0⟩
def exD4 : DSt := ⟨1, [tp], 3, 2, 7, tp, 0, 0, 1, true, 11, [], 0⟩
def exD5 : DSt := ⟨1, [tp], 3, 2, 7, tp, 6, 2, 1, true, 11, [], 0⟩
def exD6 : DSt := ⟨2, [tp], 3, 2, 7, tp, 6, 2, 1, true, 11, [], 0⟩
theorem ex_a : DSt.startE DSt.new exL 1 5 0 [tp] 3 1 = 0 := by decide +kernel
theorem ex_a' : DSt.start DSt.new exL 1 5 0 [tp] 3 1 = exD1 := by unfold DSt.start; rw [if_pos ex_a]; rfl
theorem ex_b : DSt.mv exD1 2 7 10 = exD2 := by rfl
theorem ex_bl : DSt.mvL exD1 exL 2 7 = exL2 := by rfl
theorem ex_bo : DSt.mvO exD1 exL 2 7 3 4 10 = [delivC 2 7 14 0 3 4 1 0 2] := by rfl
theorem ex_c : DSt.mv exD2 2 7 11 = exD3 := by rfl
theorem ex_cl : DSt.mvL exD2 exL2 2 7 = exL2 := by rfl
theorem ex_co : DSt.mvO exD2 exL2 2 7 4 4 11 = [delivC 2 7 15 11 4 4 0 0 0] := by rfl
theorem ex_e : DSt.acceptE exD3 3 tp = 17 := by decide +kernel
theorem ex_e' : DSt.accept exD3 3 tp = exD3 := by unfold DSt.accept; rw [if_neg (by rw [ex_e]; decide)]
theorem ex_f : DSt.acceptE exD3 2 tp = 0 := by decide +kernel
theorem ex_f' : DSt.accept exD3 2 tp = exD4 := by unfold DSt.accept; rw [if_pos ex_f]; rfl
theorem ex_g : DSt.setActE exD4 2 6 2 = 0 := by decide +kernel
theorem ex_g' : DSt.setAct exD4 2 6 2 = exD5 := by unfold DSt.setAct; rw [if_pos ex_g]; rfl
theorem ex_act : DSt.act exD5 = 2 := by decide +kernel
theorem ex_h : DSt.dropB exD5 = true := by decide +kernel
theorem ex_hs : DSt.dropS exD5 = exD6 := (drop_yes rfl ex_h).1
theorem ex_ho : DSt.dropO exD5 = [delivC 2 7 17 0 0 0 0 0 0] := (drop_yes rfl ex_h).2
theorem ex_i : DSt.finE exD6 2 = 14 := by decide +kernel
theorem ex_i' : DSt.fin exD6 2 = exD6 := by unfold DSt.fin; rw [if_neg (by rw [ex_i]; decide)]
theorem ex_j : DSt.rcvE exD6 2 tp 100 = 0 := by decide +kernel
theorem ex_k (x : DFlow) : DSt.finE { exD6 with flows := exD6.flows ++ [x] } 2 = 0 := by rfl
theorem ex_k' (x : DFlow) : DSt.fin { exD6 with flows := exD6.flows ++ [x] } 2 = DSt.endS { exD6 with flows := exD6.flows ++ [x] } := by unfold DSt.fin; rw [if_pos (ex_k x)]
end Go.Proofs.Yteolilggeaffaaa
