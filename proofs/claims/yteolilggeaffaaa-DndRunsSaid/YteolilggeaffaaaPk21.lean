/- Parts of the walk, packed: LS43, UAct, UActW. -/
import Derived.Test.YteolilggeaffaaaPk20
import Derived.Test.YteolilggeaffaaaPk09
set_option linter.unusedVariables false
set_option linter.unusedSimpArgs false
set_option maxRecDepth 100000
namespace Go.Proofs.Yteolilggeaffaaa
open Go.RowKit

structure LS (w0 w : World) (sb lb b : Nat) (R : Nat → Prop) (L : SLog) (d : DSt) (last : Int) (PA : Option Addr) (pn pc : Nat) : Prop where
  ses : DSes w0 w lb b R L d
  at_ : SessAt w sb lb b last PA pn pc
  new : w0.heap.size ≤ sb
  nR : ¬ R sb
  nl : sb ≠ lb
section
variable {w0 w w' : World} {sb lb b : Nat} {R R' : Nat → Prop} {L L' : SLog} {d d' : DSt} {last : Int} {PA : Option Addr} {pn pc : Nat}
theorem LS.same (h : LS w0 w sb lb b R L d last PA pn pc) : Same w0 w := h.ses.same
theorem LS.keep (h : LS w0 w sb lb b R L d last PA pn pc) (k : Same w w') : LS w0 w' sb lb b R L d last PA pn pc := ⟨h.ses.keep k, h.at_.chg k (fun q => q), h.new, h.nR, h.nl⟩
theorem LS.step {S : Nat → Prop} (h : LS w0 w sb lb b R L d last PA pn pc) (hd : DSes w0 w' lb b R' L' d') (k : Chg S w w') (hS : ¬ S sb) (hR : ∀ x, R' x → R x ∨ w.heap.size ≤ x) : LS w0 w' sb lb b R' L' d' last PA pn pc :=
  ⟨hd, h.at_.chg k hS, h.new, fun q => by rcases hR sb q with q | q; exact h.nR q; have := h.at_.lt; omega, h.nl⟩
theorem LS.own (h : LS w0 w sb lb b R L d last PA pn pc) (hd : DSes w0 w' lb b R' L' d') (k : Own R R' w w') : LS w0 w' sb lb b R' L' d' last PA pn pc := h.step hd k.chg h.nR k.new
theorem LS.sub (h : LS w0 w sb lb b R L d last PA pn pc) (hd : DSes w0 w' lb b R L' d') (k : Chg R w w') : LS w0 w' sb lb b R L' d' last PA pn pc := h.step hd k h.nR (fun _ q => .inl q)
theorem LS.two (h : LS w0 w sb lb b R L d last PA pn pc) (hd : DSes w0 w' lb b R L' d') (k : Chg (fun x => x = b ∨ x = lb) w w') : LS w0 w' sb lb b R L' d' last PA pn pc :=
  h.step hd k (fun q => by rcases q with q | q; exact h.nR (by rw [q]; exact h.ses.drag.rb); exact h.nl q) (fun _ q => .inl q)

theorem ls_begin (w : World) : Calls Try.prog 22 #[] w fun e w' => ∃ sb lb b R, e = .returned (.tuple #[.pointer (some ⟨sb, 0, none⟩), .bool true]) ∧ LS w w' sb lb b R SLog.new DSt.new 0 none 0 0 := by
  refine (begin_ok w).mono ?_
  rintro e w' ⟨sb, lb, b, R, rfl, hat, hs, h1, h2, h3⟩
  exact ⟨sb, lb, b, R, rfl, hs, hat, h1, h2, h3⟩
theorem ls_dragging (x : OArg) (w : World) (h : x.ok w) (h0 : checkV x.fs x.acts = 0) : Calls Try.prog 12 #[.agg #[.slice x.A x.len x.cap, .int .i64 x.acts]] w fun e w' => ∃ sb lb b R, e = .returned (.tuple #[.pointer (some ⟨sb, 0, none⟩), .bool true]) ∧ LS w w' sb lb b R exL2 (dragD x.fs x.acts) 0 none 0 0 := by
  refine (dragging_ok x w h h0).mono ?_
  rintro e w' ⟨sb, lb, b, R, rfl, hat, hs, h1, h2, h3⟩
  exact ⟨sb, lb, b, R, rfl, hs, hat, h1, h2, h3⟩
theorem ls_state (v : Int) (h : LS w0 w sb lb b R L d last PA pn pc) (hv : d.state = v) : Calls Try.prog 21 #[.pointer (some ⟨b, 0, none⟩)] w fun e w' => e = .returned (.int .i64 v) ∧ w = w' := dstate_ok v h.ses.drag hv
def LSV (w0 : World) (sb lb b : Nat) (R : Nat → Prop) (L : SLog) (d' : DSt) (last : Int) (PA : Option Addr) (pn pc : Nat) (v : Value) (w : World) (e : Ending) (w' : World) : Prop :=
  e = .returned v ∧ LS w0 w' sb lb b R L d' last PA pn pc ∧ Chg R w w'
theorem ls_action (v : Int) (h : LS w0 w sb lb b R L d last PA pn pc) (hv : d.act = v) : Calls Try.prog 15 #[.pointer (some ⟨b, 0, none⟩)] w fun e w' => e = .returned (.int .i64 v) ∧ LS w0 w' sb lb b R L d last PA pn pc ∧ Same w w' := by
  refine (ds_action v h.ses hv).mono ?_
  rintro e w' ⟨rfl, _, hs⟩
  exact ⟨rfl, h.keep hs, hs⟩
theorem ls_accept (d' : DSt) (v client : Int) (f : ByteArray) (h : LS w0 w sb lb b R L d last PA pn pc) (hv : d.acceptE client f = v) (hd : d.accept client f = d') :
    Calls Try.prog 13 #[.pointer (some ⟨b, 0, none⟩), .int .i64 client, .string f] w (LSV w0 sb lb b R L d' last PA pn pc (.int .i64 v) w) := by
  refine (ds_accept d' v client f h.ses hv hd).mono ?_
  rintro e w' ⟨rfl, hs, hk⟩
  exact ⟨rfl, h.sub hs hk, hk⟩
theorem ls_setact (d' : DSt) (v client a p : Int) (h : LS w0 w sb lb b R L d last PA pn pc) (hv : d.setActE client a p = v) (hd : d.setAct client a p = d') :
    Calls Try.prog 14 #[.pointer (some ⟨b, 0, none⟩), .int .i64 client, .int .i64 a, .int .i64 p] w (LSV w0 sb lb b R L d' last PA pn pc (.int .i64 v) w) := by
  refine (ds_setact d' v client a p h.ses hv hd).mono ?_
  rintro e w' ⟨rfl, hs, hk⟩
  exact ⟨rfl, h.sub hs hk, hk⟩
theorem ls_finish (d' : DSt) (v client : Int) (h : LS w0 w sb lb b R L d last PA pn pc) (hv : d.finE client = v) (hd : d.fin client = d') :
    Calls Try.prog 18 #[.pointer (some ⟨b, 0, none⟩), .int .i64 client] w (LSV w0 sb lb b R L d' last PA pn pc (.int .i64 v) w) := by
  refine (ds_finish d' v client h.ses hv hd).mono ?_
  rintro e w' ⟨rfl, hs, hk⟩
  exact ⟨rfl, h.sub hs hk, hk⟩
def LSO (w0 : World) (sb lb b : Nat) (R : Nat → Prop) (L : SLog) (d' : DSt) (last : Int) (PA : Option Addr) (pn pc : Nat) (l : List (List Value)) (S : Nat → Prop) (w : World) (e : Ending) (w' : World) : Prop :=
  ∃ v, e = .returned v ∧ OutAt w.heap.size w' v l ∧ LS w0 w' sb lb b R L d' last PA pn pc ∧ Chg S w w'
theorem ls_move (d' : DSt) (L' : SLog) (l : List (List Value)) (client surface x y time : Int) (h : LS w0 w sb lb b R L d last PA pn pc) (ho : d.offers < 1000000) (hb1 : client ≤ 9223372036854775807) (hb2 : surface ≤ 9223372036854775807)
    (hd : d.mv client surface time = d') (hL : d.mvL L client surface = L') (hl : d.mvO L client surface x y time = l) :
    Calls Try.prog 20 #[.pointer (some ⟨b, 0, none⟩), .int .i64 client, .int .i64 surface, .int .i64 x, .int .i64 y, .int .i64 time] w (LSO w0 sb lb b R L' d' last PA pn pc l (fun x => x = b ∨ x = lb) w) := by
  refine (ds_move d' L' l client surface x y time h.ses ho hb1 hb2 hd hL hl).mono ?_
  rintro e w' ⟨v, rfl, ho, hs, hk⟩
  exact ⟨v, rfl, ho, h.two hs hk, hk⟩
theorem ls_cancel (d' : DSt) (l : List (List Value)) (h : LS w0 w sb lb b R L d last PA pn pc) (hd : d.cancS = d') (hl : d.cancO = l) : Calls Try.prog 34 #[.pointer (some ⟨b, 0, none⟩)] w (LSO w0 sb lb b R L d' last PA pn pc l R w) := by
  refine (ds_cancel d' l h.ses hd hl).mono ?_
  rintro e w' ⟨v, rfl, ho, hs, hk⟩
  exact ⟨v, rfl, ho, h.sub hs hk, hk⟩
def LSD (w0 : World) (sb lb b : Nat) (R : Nat → Prop) (L : SLog) (d' : DSt) (last : Int) (PA : Option Addr) (pn pc : Nat) (l : List (List Value)) (ok : Bool) (w : World) (e : Ending) (w' : World) : Prop :=
  ∃ v, e = .returned (.tuple #[v, .bool ok]) ∧ OutAt w.heap.size w' v l ∧ LS w0 w' sb lb b R L d' last PA pn pc ∧ Chg R w w'
theorem ls_drop (d' : DSt) (l : List (List Value)) (ok : Bool) (h : LS w0 w sb lb b R L d last PA pn pc) (hd : d.dropS = d') (hl : d.dropO = l) (hb : d.dropB = ok) : Calls Try.prog 16 #[.pointer (some ⟨b, 0, none⟩)] w (LSD w0 sb lb b R L d' last PA pn pc l ok w) := by
  refine (ds_drop d' l ok h.ses hd hl hb).mono ?_
  rintro e w' ⟨v, rfl, ho, hs, hk⟩
  exact ⟨v, rfl, ho, h.sub hs hk, hk⟩
theorem ls_rcv_no (v client win : Int) (f : ByteArray) (h : LS w0 w sb lb b R L d last PA pn pc) (hv : d.rcvE client f win = v) (h0 : v ≠ 0) :
    Calls Try.prog 17 #[.pointer (some ⟨b, 0, none⟩), .int .i64 client, .string f, .int .i64 win] w fun e w' => e = .returned (.tuple #[.pointer none, .int .i64 v]) ∧ w = w' := drcv_no v client win f h.ses.drag hv h0
def LSR (w0 : World) (sb lb b : Nat) (R : Nat → Prop) (L : SLog) (d : DSt) (last : Int) (PA : Option Addr) (pn pc : Nat) (win : Int) (w : World) (e : Ending) (w' : World) : Prop :=
  ∃ R' pb Rp, e = .returned (.tuple #[.pointer (some ⟨pb, 0, none⟩), .int .i64 0]) ∧ LS w0 w' sb lb b R' L { d with flows := d.flows ++ [⟨pb, Rp, PSt.new win⟩] } last PA pn pc ∧ Own R R' w w'
theorem ls_rcv (client win : Int) (f : ByteArray) (h : LS w0 w sb lb b R L d last PA pn pc) (hv : d.rcvE client f win = 0) (hf : d.flows.length < 1000) :
    Calls Try.prog 17 #[.pointer (some ⟨b, 0, none⟩), .int .i64 client, .string f, .int .i64 win] w (LSR w0 sb lb b R L d last PA pn pc win w) := by
  refine (ds_rcv client win f h.ses hv hf).mono ?_
  rintro e w' ⟨R', pb, Rp, rfl, hs, hk⟩
  exact ⟨R', pb, Rp, rfl, h.own hs hk, hk⟩
theorem ls_start (d' : DSt) (v client surface icon acts n : Int) (Ao : Option Addr) (no co : Nat) (fs : List ByteArray) (h : LS w0 w sb lb b R L d last PA pn pc) (ha : SArg w Ao no co fs) (hd : 0 < no → ∀ g o, Ao = some ⟨g, o, none⟩ → ¬ R g)
    (hv : d.startE L client surface icon fs acts n = v) (hd' : d.start L client surface icon fs acts n = d') :
    Calls Try.prog 31 #[.pointer (some ⟨b, 0, none⟩), .int .i64 client, .int .i64 surface, .int .i64 icon, .agg #[.slice Ao no co, .int .i64 acts], .int .u32 n] w fun e w' => ∃ R', e = .returned (.int .i64 v) ∧ LS w0 w' sb lb b R' L d' last PA pn pc ∧ Own R R' w w' := by
  refine (ds_start d' v client surface icon acts n Ao no co fs h.ses ha hd hv hd').mono ?_
  rintro e w' ⟨R', rfl, hs, hk⟩
  exact ⟨R', rfl, h.own hs hk, hk⟩
theorem ls_issue (L' : SLog) (v cl f k : Int) (h : LS w0 w sb lb b R L d last PA pn pc) (h1 : cl ≤ 9223372036854775807) (h2 : f ≤ 9223372036854775807) (hv : L.issueN cl f k = v) (hL : L.issue cl f k = L') :
    Calls Try.prog 38 #[.pointer (some ⟨lb, 0, none⟩), .int .i64 cl, .int .i64 f, .int .i64 k] w fun e w' => e = .returned (.int .u32 v) ∧ LS w0 w' sb lb b R L' d last PA pn pc ∧ Chg (fun x => x = lb) w w' := by
  refine (ds_issue L' v cl f k h.ses h1 h2 hv hL).mono ?_
  rintro e w' ⟨rfl, hs, hk⟩
  exact ⟨rfl, h.step hs hk h.nl (fun _ q => .inl q), hk⟩
/-- Grant of a pipe of the drag's. -/
theorem ls_grant {i : Nat} {x : DFlow} (q2 : PSt) (v n : Int) (h : LS w0 w sb lb b R L d last PA pn pc) (hx : d.flows[i]? = some x) (hn2 : n ≤ 9223372036854775807) (hv : x.q.grE n = v) (hq : x.q.grant n = q2) :
    Calls Try.prog 35 #[.pointer (some ⟨x.pb, 0, none⟩), .int .i64 n] w (LSV w0 sb lb b R L { d with flows := d.flows.set i { x with q := q2 } } last PA pn pc (.int .i64 v) w) := by
  refine (pgrant_v q2 v n (h.ses.pipe hx) hn2 hv hq).mono ?_
  rintro e w' ⟨rfl, hp, hk⟩
  have h2 := h.ses.used hx hk hp.pipe
  exact ⟨rfl, h.sub h2.1 h2.2, h2.2⟩
end
end Go.Proofs.Yteolilggeaffaaa

namespace Go.Proofs.Yteolilggeaffaaa
open Go.RowKit

theorem bits7 (x : Int) : 0 ≤ bits BinOp.and IntKind.i64 x 7 ∧ bits BinOp.and IntKind.i64 x 7 ≤ 7 := by
  unfold bits
  dsimp only
  have h1 : (BitVec.ofInt IntKind.i64.bits x &&& BitVec.ofInt IntKind.i64.bits 7).toNat ≤ 7 := by
    rw [BitVec.toNat_and]
    exact Nat.le_trans Nat.and_le_right (by decide)
  rw [IntWalk.i64_in _ (by omega)]
  omega
theorem range8 {c : Int} (h : 0 ≤ c ∧ c ≤ 7) : c = 0 ∨ c = 1 ∨ c = 2 ∨ c = 3 ∨ c = 4 ∨ c = 5 ∨ c = 6 ∨ c = 7 := by omega
theorem common8 (s t : Int) : 0 ≤ commonV s t ∧ commonV s t ≤ 7 := bits7 _

def singleV (p : Int) : Bool := p == 1 || p == 2 || p == 4
/-- compositorref40.Action, told plainly. -/
def uactionV (c p m : Int) : Int :=
  if c == 0 then 0
  else if (bits BinOp.and IntKind.i64 m 4 != 0) && (bits BinOp.and IntKind.i64 c 1 != 0) then 1
  else if (bits BinOp.and IntKind.i64 m 1 != 0) && (bits BinOp.and IntKind.i64 c 2 != 0) then 2
  else if singleV p && (bits BinOp.and IntKind.i64 c p != 0) then p
  else if bits BinOp.and IntKind.i64 c 1 != 0 then 1
  else if bits BinOp.and IntKind.i64 c 2 != 0 then 2 else 4
theorem contains_single (p : Int) : ([1, 2, 4] : List Int).contains p = singleV p := by
  unfold singleV
  rw [show ([1, 2, 4] : List Int).contains p = (p == 1 || (p == 2 || (p == 4 || false))) from rfl, Bool.or_false, Bool.or_assoc]
theorem single_iff {p : Int} (h : singleV p = true) : p = 1 ∨ p = 2 ∨ p = 4 := by
  unfold singleV at h
  simp only [Bool.or_eq_true, beq_iff_eq] at h
  omega
theorem action_eq (s t p m : Int) : actionV s t p m = uactionV (commonV s t) p m := by
  unfold actionV
  have hr := common8 s t
  generalize commonV s t = c at hr
  unfold ordC ordM ordP uactionV
  rw [contains_single]
  cases (bits BinOp.and IntKind.i64 m 4 != 0) <;> cases (bits BinOp.and IntKind.i64 m 1 != 0) <;> cases hs : singleV p
  all_goals
    try (have hp : p = 1 ∨ p = 2 ∨ p = 4 := single_iff hs)
    try (rcases hp with rfl | rfl | rfl)
  all_goals
    clear hs
    rcases range8 hr with rfl | rfl | rfl | rfl | rfl | rfl | rfl | rfl <;> rfl

set_option maxRecDepth 100000 in
theorem single_ok (p : Int) (w : World) : Calls Try.prog 46 #[.int .i64 p] w fun e w' => e = .returned (.bool (singleV p)) ∧ w = w' := by
  by_cases h1 : p = 1
  · subst h1
    go_enter Try.func46, Try.ntmps46
    go_wp2
    go_ret
    exact ⟨rfl, rfl⟩
  by_cases h2 : p = 2
  · subst h2
    go_enter Try.func46, Try.ntmps46
    go_wp2
    go_ret
    exact ⟨rfl, rfl⟩
  by_cases h4 : p = 4
  · subst h4
    go_enter Try.func46, Try.ntmps46
    go_wp2
    go_ret
    exact ⟨rfl, rfl⟩
  have e1 : (p == 1) = false := by simpa using h1
  have e2 : (p == 2) = false := by simpa using h2
  have e4 : (p == 4) = false := by simpa using h4
  have HV := Lib.hid (show singleV p = false by unfold singleV; rw [e1, e2, e4]; rfl)
  clear h1 h2 h4
  go_enter Try.func46, Try.ntmps46
  go_wp2
  go_ret
  exact ⟨by rw [HV.out]; rfl, rfl⟩
theorem single_v (p : Int) (b : Bool) (w : World) (h : singleV p = b) : Calls Try.prog 46 #[.int .i64 p] w fun e w' => e = .returned (.bool b) ∧ w = w' := by
  subst h
  exact single_ok p w

end Go.Proofs.Yteolilggeaffaaa

namespace Go.Proofs.Yteolilggeaffaaa
open Go.RowKit

set_option maxRecDepth 100000 in
set_option maxHeartbeats 4000000 in
theorem uaction_ok (s t p m : Int) (w : World) : Calls Try.prog 19 #[.int .i64 s, .int .i64 t, .int .i64 p, .int .i64 m] w fun e w' => e = .returned (.int .i64 (actionV s t p m)) ∧ w = w' := by
  rw [action_eq]
  unfold commonV
  cases h0 : (bits BinOp.and IntKind.i64 (bits BinOp.and IntKind.i64 s t) 7 == 0)
  · cases h1 : (bits BinOp.and IntKind.i64 (bits BinOp.and IntKind.i64 (bits BinOp.and IntKind.i64 s t) 7) 1 != 0) <;> cases h2 : (bits BinOp.and IntKind.i64 (bits BinOp.and IntKind.i64 (bits BinOp.and IntKind.i64 s t) 7) 2 != 0) <;>
    cases m4 : (bits BinOp.and IntKind.i64 m 4 != 0) <;> cases m1 : (bits BinOp.and IntKind.i64 m 1 != 0) <;> cases hs : singleV p <;>
    cases hp : (bits BinOp.and IntKind.i64 (bits BinOp.and IntKind.i64 (bits BinOp.and IntKind.i64 s t) 7) p != 0)
    all_goals
      have HV := Lib.hid (show uactionV (bits BinOp.and IntKind.i64 (bits BinOp.and IntKind.i64 s t) 7) p m = _ by unfold uactionV; rw [h0, h1, h2, m4, m1, hs, hp])
      have HS := Lib.hid hs
      have h1' := beq_of_bne _ h1
      have h2' := beq_of_bne _ h2
      have m4' := beq_of_bne _ m4
      have m1' := beq_of_bne _ m1
      have hp' := beq_of_bne _ hp
      simp only [Bool.not_true, Bool.not_false] at h1' h2' m4' m1' hp'
      clear hs
      go_enter Try.func19, Try.ntmps19
      go_wp2_with (go_at_call 46; refine (single_v _ _ _ HS.out).mono ?_; rintro e w' ⟨rfl, rfl⟩)
      go_ret
      exact ⟨by rw [HV.out]; rfl, rfl⟩
  · have HV := Lib.hid (show uactionV (bits BinOp.and IntKind.i64 (bits BinOp.and IntKind.i64 s t) 7) p m = 0 by unfold uactionV; rw [h0]; rfl)
    go_enter Try.func19, Try.ntmps19
    go_wp2
    go_ret
    exact ⟨by rw [HV.out]; rfl, rfl⟩
end Go.Proofs.Yteolilggeaffaaa
