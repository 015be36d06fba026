/- The law's session with its log and drag: each call with its results by name. -/
import Derived.Test.YteolilggeaffaaaLaw43
set_option linter.unusedVariables false
set_option linter.unusedSimpArgs false
set_option maxRecDepth 100000
namespace Go.Proofs.Yteolilggeaffaaa
open Go.RowKit

structure LS (w0 w : World) (sb lb b : Nat) (R : Nat → Prop) (L : SLog) (d : DSt) (last : Int) (PA : Option Addr) (pn pc : Nat) : Prop where
  ses : DSes w0 w lb b R L d
  at_ : SessAt w sb lb b last PA pn pc
  new : w0.heap.size ≤ sb
  nR : ¬ R sb
  nl : sb ≠ lb
section
variable {w0 w w' : World} {sb lb b : Nat} {R R' : Nat → Prop} {L L' : SLog} {d d' : DSt} {last : Int} {PA : Option Addr} {pn pc : Nat}
theorem LS.same (h : LS w0 w sb lb b R L d last PA pn pc) : Same w0 w := h.ses.same
theorem LS.keep (h : LS w0 w sb lb b R L d last PA pn pc) (k : Same w w') : LS w0 w' sb lb b R L d last PA pn pc := ⟨h.ses.keep k, h.at_.chg k (fun q => q), h.new, h.nR, h.nl⟩
theorem LS.step {S : Nat → Prop} (h : LS w0 w sb lb b R L d last PA pn pc) (hd : DSes w0 w' lb b R' L' d') (k : Chg S w w') (hS : ¬ S sb) (hR : ∀ x, R' x → R x ∨ w.heap.size ≤ x) : LS w0 w' sb lb b R' L' d' last PA pn pc :=
  ⟨hd, h.at_.chg k hS, h.new, fun q => by rcases hR sb q with q | q; exact h.nR q; have := h.at_.lt; omega, h.nl⟩
theorem LS.own (h : LS w0 w sb lb b R L d last PA pn pc) (hd : DSes w0 w' lb b R' L' d') (k : Own R R' w w') : LS w0 w' sb lb b R' L' d' last PA pn pc := h.step hd k.chg h.nR k.new
theorem LS.sub (h : LS w0 w sb lb b R L d last PA pn pc) (hd : DSes w0 w' lb b R L' d') (k : Chg R w w') : LS w0 w' sb lb b R L' d' last PA pn pc := h.step hd k h.nR (fun _ q => .inl q)
theorem LS.two (h : LS w0 w sb lb b R L d last PA pn pc) (hd : DSes w0 w' lb b R L' d') (k : Chg (fun x => x = b ∨ x = lb) w w') : LS w0 w' sb lb b R L' d' last PA pn pc :=
  h.step hd k (fun q => by rcases q with q | q; exact h.nR (by rw [q]; exact h.ses.drag.rb); exact h.nl q) (fun _ q => .inl q)

theorem ls_begin (w : World) : Calls Try.prog 22 #[] w fun e w' => ∃ sb lb b R, e = .returned (.tuple #[.pointer (some ⟨sb, 0, none⟩), .bool true]) ∧ LS w w' sb lb b R SLog.new DSt.new 0 none 0 0 := by
  refine (begin_ok w).mono ?_
  rintro e w' ⟨sb, lb, b, R, rfl, hat, hs, h1, h2, h3⟩
  exact ⟨sb, lb, b, R, rfl, hs, hat, h1, h2, h3⟩
theorem ls_dragging (x : OArg) (w : World) (h : x.ok w) (h0 : checkV x.fs x.acts = 0) : Calls Try.prog 12 #[.agg #[.slice x.A x.len x.cap, .int .i64 x.acts]] w fun e w' => ∃ sb lb b R, e = .returned (.tuple #[.pointer (some ⟨sb, 0, none⟩), .bool true]) ∧ LS w w' sb lb b R exL2 (dragD x.fs x.acts) 0 none 0 0 := by
  refine (dragging_ok x w h h0).mono ?_
  rintro e w' ⟨sb, lb, b, R, rfl, hat, hs, h1, h2, h3⟩
  exact ⟨sb, lb, b, R, rfl, hs, hat, h1, h2, h3⟩
theorem ls_state (v : Int) (h : LS w0 w sb lb b R L d last PA pn pc) (hv : d.state = v) : Calls Try.prog 21 #[.pointer (some ⟨b, 0, none⟩)] w fun e w' => e = .returned (.int .i64 v) ∧ w = w' := dstate_ok v h.ses.drag hv
def LSV (w0 : World) (sb lb b : Nat) (R : Nat → Prop) (L : SLog) (d' : DSt) (last : Int) (PA : Option Addr) (pn pc : Nat) (v : Value) (w : World) (e : Ending) (w' : World) : Prop :=
  e = .returned v ∧ LS w0 w' sb lb b R L d' last PA pn pc ∧ Chg R w w'
theorem ls_action (v : Int) (h : LS w0 w sb lb b R L d last PA pn pc) (hv : d.act = v) : Calls Try.prog 15 #[.pointer (some ⟨b, 0, none⟩)] w fun e w' => e = .returned (.int .i64 v) ∧ LS w0 w' sb lb b R L d last PA pn pc ∧ Same w w' := by
  refine (ds_action v h.ses hv).mono ?_
  rintro e w' ⟨rfl, _, hs⟩
  exact ⟨rfl, h.keep hs, hs⟩
theorem ls_accept (d' : DSt) (v client : Int) (f : ByteArray) (h : LS w0 w sb lb b R L d last PA pn pc) (hv : d.acceptE client f = v) (hd : d.accept client f = d') :
    Calls Try.prog 13 #[.pointer (some ⟨b, 0, none⟩), .int .i64 client, .string f] w (LSV w0 sb lb b R L d' last PA pn pc (.int .i64 v) w) := by
  refine (ds_accept d' v client f h.ses hv hd).mono ?_
  rintro e w' ⟨rfl, hs, hk⟩
  exact ⟨rfl, h.sub hs hk, hk⟩
theorem ls_setact (d' : DSt) (v client a p : Int) (h : LS w0 w sb lb b R L d last PA pn pc) (hv : d.setActE client a p = v) (hd : d.setAct client a p = d') :
    Calls Try.prog 14 #[.pointer (some ⟨b, 0, none⟩), .int .i64 client, .int .i64 a, .int .i64 p] w (LSV w0 sb lb b R L d' last PA pn pc (.int .i64 v) w) := by
  refine (ds_setact d' v client a p h.ses hv hd).mono ?_
  rintro e w' ⟨rfl, hs, hk⟩
  exact ⟨rfl, h.sub hs hk, hk⟩
theorem ls_finish (d' : DSt) (v client : Int) (h : LS w0 w sb lb b R L d last PA pn pc) (hv : d.finE client = v) (hd : d.fin client = d') :
    Calls Try.prog 18 #[.pointer (some ⟨b, 0, none⟩), .int .i64 client] w (LSV w0 sb lb b R L d' last PA pn pc (.int .i64 v) w) := by
  refine (ds_finish d' v client h.ses hv hd).mono ?_
  rintro e w' ⟨rfl, hs, hk⟩
  exact ⟨rfl, h.sub hs hk, hk⟩
def LSO (w0 : World) (sb lb b : Nat) (R : Nat → Prop) (L : SLog) (d' : DSt) (last : Int) (PA : Option Addr) (pn pc : Nat) (l : List (List Value)) (S : Nat → Prop) (w : World) (e : Ending) (w' : World) : Prop :=
  ∃ v, e = .returned v ∧ OutAt w.heap.size w' v l ∧ LS w0 w' sb lb b R L d' last PA pn pc ∧ Chg S w w'
theorem ls_move (d' : DSt) (L' : SLog) (l : List (List Value)) (client surface x y time : Int) (h : LS w0 w sb lb b R L d last PA pn pc) (ho : d.offers < 1000000) (hb1 : client ≤ 9223372036854775807) (hb2 : surface ≤ 9223372036854775807)
    (hd : d.mv client surface time = d') (hL : d.mvL L client surface = L') (hl : d.mvO L client surface x y time = l) :
    Calls Try.prog 20 #[.pointer (some ⟨b, 0, none⟩), .int .i64 client, .int .i64 surface, .int .i64 x, .int .i64 y, .int .i64 time] w (LSO w0 sb lb b R L' d' last PA pn pc l (fun x => x = b ∨ x = lb) w) := by
  refine (ds_move d' L' l client surface x y time h.ses ho hb1 hb2 hd hL hl).mono ?_
  rintro e w' ⟨v, rfl, ho, hs, hk⟩
  exact ⟨v, rfl, ho, h.two hs hk, hk⟩
theorem ls_cancel (d' : DSt) (l : List (List Value)) (h : LS w0 w sb lb b R L d last PA pn pc) (hd : d.cancS = d') (hl : d.cancO = l) : Calls Try.prog 34 #[.pointer (some ⟨b, 0, none⟩)] w (LSO w0 sb lb b R L d' last PA pn pc l R w) := by
  refine (ds_cancel d' l h.ses hd hl).mono ?_
  rintro e w' ⟨v, rfl, ho, hs, hk⟩
  exact ⟨v, rfl, ho, h.sub hs hk, hk⟩
def LSD (w0 : World) (sb lb b : Nat) (R : Nat → Prop) (L : SLog) (d' : DSt) (last : Int) (PA : Option Addr) (pn pc : Nat) (l : List (List Value)) (ok : Bool) (w : World) (e : Ending) (w' : World) : Prop :=
  ∃ v, e = .returned (.tuple #[v, .bool ok]) ∧ OutAt w.heap.size w' v l ∧ LS w0 w' sb lb b R L d' last PA pn pc ∧ Chg R w w'
theorem ls_drop (d' : DSt) (l : List (List Value)) (ok : Bool) (h : LS w0 w sb lb b R L d last PA pn pc) (hd : d.dropS = d') (hl : d.dropO = l) (hb : d.dropB = ok) : Calls Try.prog 16 #[.pointer (some ⟨b, 0, none⟩)] w (LSD w0 sb lb b R L d' last PA pn pc l ok w) := by
  refine (ds_drop d' l ok h.ses hd hl hb).mono ?_
  rintro e w' ⟨v, rfl, ho, hs, hk⟩
  exact ⟨v, rfl, ho, h.sub hs hk, hk⟩
theorem ls_rcv_no (v client win : Int) (f : ByteArray) (h : LS w0 w sb lb b R L d last PA pn pc) (hv : d.rcvE client f win = v) (h0 : v ≠ 0) :
    Calls Try.prog 17 #[.pointer (some ⟨b, 0, none⟩), .int .i64 client, .string f, .int .i64 win] w fun e w' => e = .returned (.tuple #[.pointer none, .int .i64 v]) ∧ w = w' := drcv_no v client win f h.ses.drag hv h0
def LSR (w0 : World) (sb lb b : Nat) (R : Nat → Prop) (L : SLog) (d : DSt) (last : Int) (PA : Option Addr) (pn pc : Nat) (win : Int) (w : World) (e : Ending) (w' : World) : Prop :=
  ∃ R' pb Rp, e = .returned (.tuple #[.pointer (some ⟨pb, 0, none⟩), .int .i64 0]) ∧ LS w0 w' sb lb b R' L { d with flows := d.flows ++ [⟨pb, Rp, PSt.new win⟩] } last PA pn pc ∧ Own R R' w w'
theorem ls_rcv (client win : Int) (f : ByteArray) (h : LS w0 w sb lb b R L d last PA pn pc) (hv : d.rcvE client f win = 0) (hf : d.flows.length < 1000) :
    Calls Try.prog 17 #[.pointer (some ⟨b, 0, none⟩), .int .i64 client, .string f, .int .i64 win] w (LSR w0 sb lb b R L d last PA pn pc win w) := by
  refine (ds_rcv client win f h.ses hv hf).mono ?_
  rintro e w' ⟨R', pb, Rp, rfl, hs, hk⟩
  exact ⟨R', pb, Rp, rfl, h.own hs hk, hk⟩
theorem ls_start (d' : DSt) (v client surface icon acts n : Int) (Ao : Option Addr) (no co : Nat) (fs : List ByteArray) (h : LS w0 w sb lb b R L d last PA pn pc) (ha : SArg w Ao no co fs) (hd : 0 < no → ∀ g o, Ao = some ⟨g, o, none⟩ → ¬ R g)
    (hv : d.startE L client surface icon fs acts n = v) (hd' : d.start L client surface icon fs acts n = d') :
    Calls Try.prog 31 #[.pointer (some ⟨b, 0, none⟩), .int .i64 client, .int .i64 surface, .int .i64 icon, .agg #[.slice Ao no co, .int .i64 acts], .int .u32 n] w fun e w' => ∃ R', e = .returned (.int .i64 v) ∧ LS w0 w' sb lb b R' L d' last PA pn pc ∧ Own R R' w w' := by
  refine (ds_start d' v client surface icon acts n Ao no co fs h.ses ha hd hv hd').mono ?_
  rintro e w' ⟨R', rfl, hs, hk⟩
  exact ⟨R', rfl, h.own hs hk, hk⟩
theorem ls_issue (L' : SLog) (v cl f k : Int) (h : LS w0 w sb lb b R L d last PA pn pc) (h1 : cl ≤ 9223372036854775807) (h2 : f ≤ 9223372036854775807) (hv : L.issueN cl f k = v) (hL : L.issue cl f k = L') :
    Calls Try.prog 38 #[.pointer (some ⟨lb, 0, none⟩), .int .i64 cl, .int .i64 f, .int .i64 k] w fun e w' => e = .returned (.int .u32 v) ∧ LS w0 w' sb lb b R L' d last PA pn pc ∧ Chg (fun x => x = lb) w w' := by
  refine (ds_issue L' v cl f k h.ses h1 h2 hv hL).mono ?_
  rintro e w' ⟨rfl, hs, hk⟩
  exact ⟨rfl, h.step hs hk h.nl (fun _ q => .inl q), hk⟩
/-- Grant of a pipe of the drag's. -/
theorem ls_grant {i : Nat} {x : DFlow} (q2 : PSt) (v n : Int) (h : LS w0 w sb lb b R L d last PA pn pc) (hx : d.flows[i]? = some x) (hn2 : n ≤ 9223372036854775807) (hv : x.q.grE n = v) (hq : x.q.grant n = q2) :
    Calls Try.prog 35 #[.pointer (some ⟨x.pb, 0, none⟩), .int .i64 n] w (LSV w0 sb lb b R L { d with flows := d.flows.set i { x with q := q2 } } last PA pn pc (.int .i64 v) w) := by
  refine (pgrant_v q2 v n (h.ses.pipe hx) hn2 hv hq).mono ?_
  rintro e w' ⟨rfl, hp, hk⟩
  have h2 := h.ses.used hx hk hp.pipe
  exact ⟨rfl, h.sub h2.1 h2.2, h2.2⟩
end
end Go.Proofs.Yteolilggeaffaaa
