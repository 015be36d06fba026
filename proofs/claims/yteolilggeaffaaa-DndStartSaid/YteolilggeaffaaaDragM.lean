/- The drag: its pure state, what each call makes of it, and how it lies in memory. -/
import Derived.Test.YteolilggeaffaaaPipB
import Derived.Test.YteolilggeaffaaaOwn
import Derived.Test.YteolilggeaffaaaSerL
import Derived.Test.YteolilggeaffaaaAct
import Derived.Test.YteolilggeaffaaaChk
set_option linter.unusedVariables false
set_option linter.unusedSimpArgs false
set_option maxRecDepth 100000
namespace Go.Proofs.Yteolilggeaffaaa
open Go.RowKit

/-- A transfer that Receive began: its pipe with what it is made of and its state. -/
structure DFlow where
  pb : Nat
  R : Nat → Prop
  q : PSt
def DFlow.ptr (x : DFlow) : Value := .pointer (some ⟨x.pb, 0, none⟩)
structure DSt where
  state : Int
  fmts : List ByteArray
  acts : Int
  tc : Int
  ts : Int
  tf : ByteArray
  ta : Int
  tp : Int
  offers : Nat
  timed : Bool
  latest : Int
  flows : List DFlow   -- all that ever were
  old : Nat            -- so many of them the drag has let go
def DSt.new : DSt := ⟨0, [], 0, 0, 0, ByteArray.empty, 0, 0, 0, false, 0, [], 0⟩
def DSt.act (d : DSt) : Int := if d.state = 0 ∨ d.ts = 0 then 0 else actionV d.acts d.ta d.tp 0
def delivC (client surface kind time x y code value serial : Int) : List Value := [.int .i64 client, .int .i64 surface, .int .i64 kind, .int .i64 time, .int .i64 x, .int .i64 y, .int .i64 code, .int .i64 value, .int .u32 serial]
def DSt.left (d : DSt) : List (List Value) := if d.ts = 0 then [] else [delivC d.tc d.ts 16 0 0 0 0 0 0]
def DSt.acc (d : DSt) (client state : Int) : Int := if d.state ≠ state then 14 else if d.ts = 0 ∨ d.tc ≠ client then 17 else 0
def DSt.endS (d : DSt) : DSt := { d with state := 0, tc := 0, ts := 0, tf := ByteArray.empty, ta := 0, tp := 0, old := d.flows.length }
def DSt.acceptE (d : DSt) (client : Int) (f : ByteArray) : Int := if d.acc client 1 ≠ 0 then d.acc client 1 else if f ≠ ByteArray.empty ∧ hasS d.fmts f = false then 8 else 0
def DSt.accept (d : DSt) (client : Int) (f : ByteArray) : DSt := if d.acceptE client f = 0 then { d with tf := f } else d
def setActOk (a p : Int) : Bool := decide (0 ≤ a ∧ a ≤ 7) && (decide (p = 0) || ((decide (p = 1) || decide (p = 2) || decide (p = 4)) && decide (bits .and .i64 a p ≠ 0)))
def DSt.setActE (d : DSt) (client a p : Int) : Int := if d.acc client 1 ≠ 0 then d.acc client 1 else if setActOk a p then 0 else 2
def DSt.setAct (d : DSt) (client a p : Int) : DSt := if d.setActE client a p = 0 then { d with ta := a, tp := p } else d
def DSt.finE (d : DSt) (client : Int) : Int := if d.acc client 2 ≠ 0 then d.acc client 2 else if d.flows.length = d.old then 14 else 0
def DSt.fin (d : DSt) (client : Int) : DSt := if d.finE client = 0 then d.endS else d
def DSt.rcvE (d : DSt) (client : Int) (f : ByteArray) (win : Int) : Int :=
  if d.acc client 2 ≠ 0 then d.acc client 2 else if hasS d.fmts f = false then 8 else if win < 1 ∨ 65536 < win then 6 else 0

def dcells (lb : Nat) (d : DSt) (A : Option Addr) (n cap : Nat) (PA : Option Addr) (pn pcap : Nat) : List Value :=
  [.iface 31 (.pointer (some ⟨lb, 0, none⟩)), .int .i64 d.state, .slice A n cap, .int .i64 d.acts, .int .i64 d.tc, .int .i64 d.ts, .string d.tf, .int .i64 d.ta, .int .i64 d.tp, .int .i64 d.offers, .bool d.timed, .int .i64 d.latest, .slice PA pn pcap]
theorem row_chg {w0 w1 : World} {base e size n : Nat} {v : Value} {ys : List Value} {S : Nat → Prop} (h : w0.ownsRow base e size v n ys) (k : Chg S w0 w1) (hs : ∀ x, v.ownBlock = some x → ¬ S x) : w1.ownsRow base e size v n ys := by
  refine ⟨h.1, ?_⟩
  rcases h.2 with hn | ⟨g, cap, cur, rfl, hb, hgg, rest⟩
  · exact .inl hn
  · exact .inr ⟨g, cap, cur, rfl, hb, k.at_ hgg (hs g rfl), rest⟩
/-- The drag in block b with the log in block lb; all that it is made of lies in R. -/
structure DragHd (w : World) (b lb : Nat) (R : Nat → Prop) (d : DSt) (A : Option Addr) (n cap : Nat) (PA : Option Addr) (pn pcap : Nat) : Prop where
  at_ : w.heap[b]? = some (.cells (dcells lb d A n cap PA pn pcap).toArray 84 (0, 0))
  fm : SArg w A n cap d.fmts
  fo : 0 < n → ∀ g o, A = some ⟨g, o, none⟩ → R g ∧ g ≠ b ∧ (Value.slice PA pn pcap).ownBlock ≠ some g ∧ ∀ x ∈ d.flows, ¬ x.R g
  pl : w.ownsRow 0 43 1 (.slice PA pn pcap) pn ((d.flows.drop d.old).map DFlow.ptr)
  lo : ∀ g, (Value.slice PA pn pcap).ownBlock = some g → R g ∧ g ≠ b ∧ ∀ x ∈ d.flows, ¬ x.R g
  pipes : ∀ x ∈ d.flows, PipeAt w x.pb x.R x.q
  sub : ∀ x ∈ d.flows, ∀ i, x.R i → R i ∧ i ≠ b
  apart : d.flows.Pairwise fun x y => ∀ i, x.R i → ¬ y.R i
  rb : R b
  lt : ∀ x, R x → x < w.heap.size
  rl : ¬ R lb
  ll : lb < w.heap.size
  few : d.flows.length ≤ 1000
  offs : d.offers ≤ 1000000
  len : d.fmts.length ≤ 1000
  oldl : d.old ≤ d.flows.length
def DragAt (w : World) (b lb : Nat) (R : Nat → Prop) (d : DSt) : Prop := ∃ A n cap PA pn pcap, DragHd w b lb R d A n cap PA pn pcap

section
variable {w w' : World} {b lb : Nat} {R S : Nat → Prop} {d : DSt} {A PA : Option Addr} {n cap pn pcap : Nat}
theorem DragHd.chg (h : DragHd w b lb R d A n cap PA pn pcap) (k : Chg S w w') (hs : ∀ x, R x → ¬ S x) : DragHd w' b lb R d A n cap PA pn pcap :=
  { h with
    at_ := k.at_ h.at_ (hs _ h.rb)
    fm := h.fm.chg2 k (fun hn g o hA => hs g (h.fo hn g o hA).1)
    pl := row_chg h.pl k (fun x hx => hs x (h.lo x hx).1)
    pipes := fun x hx => (h.pipes x hx).chg k (fun i hi => hs i (h.sub x hx i hi).1)
    lt := fun x hx => Nat.lt_of_lt_of_le (h.lt x hx) k.size
    ll := Nat.lt_of_lt_of_le h.ll k.size }
theorem DragAt.chg (h : DragAt w b lb R d) (k : Chg S w w') (hs : ∀ x, R x → ¬ S x) : DragAt w' b lb R d := by
  obtain ⟨A, n, cap, PA, pn, pcap, h⟩ := h; exact ⟨A, n, cap, PA, pn, pcap, h.chg k hs⟩
theorem DragAt.same (h : DragAt w b lb R d) (k : Same w w') : DragAt w' b lb R d := h.chg k (fun _ _ q => q)
theorem DragAt.lt (h : DragAt w b lb R d) : ∀ x, R x → x < w.heap.size := by obtain ⟨A, n, cap, PA, pn, pcap, h⟩ := h; exact h.lt
theorem DragAt.rl (h : DragAt w b lb R d) : ¬ R lb := by obtain ⟨A, n, cap, PA, pn, pcap, h⟩ := h; exact h.rl
theorem DragAt.rb (h : DragAt w b lb R d) : R b := by obtain ⟨A, n, cap, PA, pn, pcap, h⟩ := h; exact h.rb
theorem DragAt.blt (h : DragAt w b lb R d) : b < w.heap.size := h.lt b h.rb
theorem DragHd.cell (h : DragHd w b lb R d A n cap PA pn pcap) (i : Nat) : w.cell? ⟨b, i, none⟩ = (dcells lb d A n cap PA pn pcap)[i]? := cell_at h.at_ i
theorem DragHd.fr (h : DragHd w b lb R d A n cap PA pn pcap) (i : Nat) : w.frozen? ⟨b, i, none⟩ = false := frozen_at h.at_ i
/-- Cells of b alone are written; the formats and the transfers stay. -/
theorem DragHd.upd (h : DragHd w b lb R d A n cap PA pn pcap) (d' : DSt) (hfl : d'.flows = d.flows) (hol : d'.old = d.old) (hfm : d'.fmts = d.fmts) (ho : d'.offers ≤ 1000000) (k : Chg (fun x => x = b) w w')
    (hb : w'.heap[b]? = some (.cells (dcells lb d' A n cap PA pn pcap).toArray 84 (0, 0))) : DragHd w' b lb R d' A n cap PA pn pcap := by
  refine ⟨hb, ?_, ?_, ?_, ?_, ?_, ?_, ?_, h.rb, fun x hx => Nat.lt_of_lt_of_le (h.lt x hx) k.size, h.rl, Nat.lt_of_lt_of_le h.ll k.size, ?_, ho, ?_, ?_⟩
  · rw [hfm]; exact h.fm.chg2 k (fun hn g o hA => (h.fo hn g o hA).2.1)
  · rw [hfl]; exact h.fo
  · rw [hfl, hol]; exact row_chg h.pl k (fun x hx => (h.lo x hx).2.1)
  · rw [hfl]; exact h.lo
  · rw [hfl]; exact fun x hx => (h.pipes x hx).chg k (fun i hi => (h.sub x hx i hi).2)
  · rw [hfl]; exact h.sub
  · rw [hfl]; exact h.apart
  · rw [hfl]; exact h.few
  · rw [hfm]; exact h.len
  · rw [hfl, hol]; exact h.oldl
/-- The drag ends: it lets go of its transfers. -/
theorem DragHd.ended (h : DragHd w b lb R d A n cap PA pn pcap) (d' : DSt) (hfl : d'.flows = d.flows) (hol : d'.old = d.flows.length) (hfm : d'.fmts = d.fmts) (ho : d'.offers ≤ 1000000) (k : Chg (fun x => x = b) w w')
    (hb : w'.heap[b]? = some (.cells (dcells lb d' A n cap none 0 0).toArray 84 (0, 0))) : DragHd w' b lb R d' A n cap none 0 0 := by
  refine ⟨hb, ?_, ?_, ?_, fun g hg => by simp [Value.ownBlock] at hg, ?_, ?_, ?_, h.rb, fun x hx => Nat.lt_of_lt_of_le (h.lt x hx) k.size, h.rl, Nat.lt_of_lt_of_le h.ll k.size, ?_, ho, ?_, ?_⟩
  · rw [hfm]; exact h.fm.chg2 k (fun hn g o hA => (h.fo hn g o hA).2.1)
  · rw [hfl]; exact fun hn g o hA => ⟨(h.fo hn g o hA).1, (h.fo hn g o hA).2.1, by simp [Value.ownBlock], (h.fo hn g o hA).2.2.2⟩
  · rw [hfl, hol, List.drop_length]; exact World.ownsRow_nil _ _ _ _
  · rw [hfl]; exact fun x hx => (h.pipes x hx).chg k (fun i hi => (h.sub x hx i hi).2)
  · rw [hfl]; exact h.sub
  · rw [hfl]; exact h.apart
  · rw [hfl]; exact h.few
  · rw [hfm]; exact h.len
  · rw [hfl, hol]; exact Nat.le_refl _
end
end Go.Proofs.Yteolilggeaffaaa
