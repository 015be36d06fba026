/- Parts of the walk, packed: DragM, StrO. -/
import Derived.Test.YteolilggeaffaaaPk03
import Derived.Test.YteolilggeaffaaaPk05
import Derived.Test.YteolilggeaffaaaPk08
import Derived.Test.YteolilggeaffaaaPk09
import Derived.Deep.AppendLies
import Derived.Deep.Upon
set_option linter.unusedVariables false
set_option linter.unusedSimpArgs false
set_option maxRecDepth 100000
namespace Go.Proofs.Yteolilggeaffaaa
open Go.RowKit

/-- A transfer that Receive began: its pipe with what it is made of and its state. -/
structure DFlow where
  pb : Nat
  R : Nat → Prop
  q : PSt
def DFlow.ptr (x : DFlow) : Value := .pointer (some ⟨x.pb, 0, none⟩)
structure DSt where
  state : Int
  fmts : List ByteArray
  acts : Int
  tc : Int
  ts : Int
  tf : ByteArray
  ta : Int
  tp : Int
  offers : Nat
  timed : Bool
  latest : Int
  flows : List DFlow   -- all that ever were
  old : Nat            -- so many of them the drag has let go
def DSt.new : DSt := ⟨0, [], 0, 0, 0, ByteArray.empty, 0, 0, 0, false, 0, [], 0⟩
def DSt.act (d : DSt) : Int := if d.state = 0 ∨ d.ts = 0 then 0 else actionV d.acts d.ta d.tp 0
def delivC (client surface kind time x y code value serial : Int) : List Value := [.int .i64 client, .int .i64 surface, .int .i64 kind, .int .i64 time, .int .i64 x, .int .i64 y, .int .i64 code, .int .i64 value, .int .u32 serial]
def DSt.left (d : DSt) : List (List Value) := if d.ts = 0 then [] else [delivC d.tc d.ts 16 0 0 0 0 0 0]
def DSt.acc (d : DSt) (client state : Int) : Int := if d.state ≠ state then 14 else if d.ts = 0 ∨ d.tc ≠ client then 17 else 0
def DSt.endS (d : DSt) : DSt := { d with state := 0, tc := 0, ts := 0, tf := ByteArray.empty, ta := 0, tp := 0, old := d.flows.length }
def DSt.acceptE (d : DSt) (client : Int) (f : ByteArray) : Int := if d.acc client 1 ≠ 0 then d.acc client 1 else if f ≠ ByteArray.empty ∧ hasS d.fmts f = false then 8 else 0
def DSt.accept (d : DSt) (client : Int) (f : ByteArray) : DSt := if d.acceptE client f = 0 then { d with tf := f } else d
def setActOk (a p : Int) : Bool := decide (0 ≤ a ∧ a ≤ 7) && (decide (p = 0) || ((decide (p = 1) || decide (p = 2) || decide (p = 4)) && decide (bits .and .i64 a p ≠ 0)))
def DSt.setActE (d : DSt) (client a p : Int) : Int := if d.acc client 1 ≠ 0 then d.acc client 1 else if setActOk a p then 0 else 2
def DSt.setAct (d : DSt) (client a p : Int) : DSt := if d.setActE client a p = 0 then { d with ta := a, tp := p } else d
def DSt.finE (d : DSt) (client : Int) : Int := if d.acc client 2 ≠ 0 then d.acc client 2 else if d.flows.length = d.old then 14 else 0
def DSt.fin (d : DSt) (client : Int) : DSt := if d.finE client = 0 then d.endS else d
def DSt.rcvE (d : DSt) (client : Int) (f : ByteArray) (win : Int) : Int :=
  if d.acc client 2 ≠ 0 then d.acc client 2 else if hasS d.fmts f = false then 8 else if win < 1 ∨ 65536 < win then 6 else 0

def dcells (lb : Nat) (d : DSt) (A : Option Addr) (n cap : Nat) (PA : Option Addr) (pn pcap : Nat) : List Value :=
  [.iface 31 (.pointer (some ⟨lb, 0, none⟩)), .int .i64 d.state, .slice A n cap, .int .i64 d.acts, .int .i64 d.tc, .int .i64 d.ts, .string d.tf, .int .i64 d.ta, .int .i64 d.tp, .int .i64 d.offers, .bool d.timed, .int .i64 d.latest, .slice PA pn pcap]
theorem row_chg {w0 w1 : World} {base e size n : Nat} {v : Value} {ys : List Value} {S : Nat → Prop} (h : w0.ownsRow base e size v n ys) (k : Chg S w0 w1) (hs : ∀ x, v.ownBlock = some x → ¬ S x) : w1.ownsRow base e size v n ys := by
  refine ⟨h.1, ?_⟩
  rcases h.2 with hn | ⟨g, cap, cur, rfl, hb, hgg, rest⟩
  · exact .inl hn
  · exact .inr ⟨g, cap, cur, rfl, hb, k.at_ hgg (hs g rfl), rest⟩
/-- The drag in block b with the log in block lb; all that it is made of lies in R. -/
structure DragHd (w : World) (b lb : Nat) (R : Nat → Prop) (d : DSt) (A : Option Addr) (n cap : Nat) (PA : Option Addr) (pn pcap : Nat) : Prop where
  at_ : w.heap[b]? = some (.cells (dcells lb d A n cap PA pn pcap).toArray 84 (0, 0))
  fm : SArg w A n cap d.fmts
  fo : 0 < n → ∀ g o, A = some ⟨g, o, none⟩ → R g ∧ g ≠ b ∧ (Value.slice PA pn pcap).ownBlock ≠ some g ∧ ∀ x ∈ d.flows, ¬ x.R g
  pl : w.ownsRow 0 43 1 (.slice PA pn pcap) pn ((d.flows.drop d.old).map DFlow.ptr)
  lo : ∀ g, (Value.slice PA pn pcap).ownBlock = some g → R g ∧ g ≠ b ∧ ∀ x ∈ d.flows, ¬ x.R g
  pipes : ∀ x ∈ d.flows, PipeAt w x.pb x.R x.q
  sub : ∀ x ∈ d.flows, ∀ i, x.R i → R i ∧ i ≠ b
  apart : d.flows.Pairwise fun x y => ∀ i, x.R i → ¬ y.R i
  rb : R b
  lt : ∀ x, R x → x < w.heap.size
  rl : ¬ R lb
  ll : lb < w.heap.size
  few : d.flows.length ≤ 1000
  offs : d.offers ≤ 1000000
  len : d.fmts.length ≤ 1000
  oldl : d.old ≤ d.flows.length
def DragAt (w : World) (b lb : Nat) (R : Nat → Prop) (d : DSt) : Prop := ∃ A n cap PA pn pcap, DragHd w b lb R d A n cap PA pn pcap

section
variable {w w' : World} {b lb : Nat} {R S : Nat → Prop} {d : DSt} {A PA : Option Addr} {n cap pn pcap : Nat}
theorem DragHd.chg (h : DragHd w b lb R d A n cap PA pn pcap) (k : Chg S w w') (hs : ∀ x, R x → ¬ S x) : DragHd w' b lb R d A n cap PA pn pcap :=
  { h with
    at_ := k.at_ h.at_ (hs _ h.rb)
    fm := h.fm.chg2 k (fun hn g o hA => hs g (h.fo hn g o hA).1)
    pl := row_chg h.pl k (fun x hx => hs x (h.lo x hx).1)
    pipes := fun x hx => (h.pipes x hx).chg k (fun i hi => hs i (h.sub x hx i hi).1)
    lt := fun x hx => Nat.lt_of_lt_of_le (h.lt x hx) k.size
    ll := Nat.lt_of_lt_of_le h.ll k.size }
theorem DragAt.chg (h : DragAt w b lb R d) (k : Chg S w w') (hs : ∀ x, R x → ¬ S x) : DragAt w' b lb R d := by
  obtain ⟨A, n, cap, PA, pn, pcap, h⟩ := h; exact ⟨A, n, cap, PA, pn, pcap, h.chg k hs⟩
theorem DragAt.same (h : DragAt w b lb R d) (k : Same w w') : DragAt w' b lb R d := h.chg k (fun _ _ q => q)
theorem DragAt.lt (h : DragAt w b lb R d) : ∀ x, R x → x < w.heap.size := by obtain ⟨A, n, cap, PA, pn, pcap, h⟩ := h; exact h.lt
theorem DragAt.rl (h : DragAt w b lb R d) : ¬ R lb := by obtain ⟨A, n, cap, PA, pn, pcap, h⟩ := h; exact h.rl
theorem DragAt.rb (h : DragAt w b lb R d) : R b := by obtain ⟨A, n, cap, PA, pn, pcap, h⟩ := h; exact h.rb
theorem DragAt.blt (h : DragAt w b lb R d) : b < w.heap.size := h.lt b h.rb
theorem DragHd.cell (h : DragHd w b lb R d A n cap PA pn pcap) (i : Nat) : w.cell? ⟨b, i, none⟩ = (dcells lb d A n cap PA pn pcap)[i]? := cell_at h.at_ i
theorem DragHd.fr (h : DragHd w b lb R d A n cap PA pn pcap) (i : Nat) : w.frozen? ⟨b, i, none⟩ = false := frozen_at h.at_ i
/-- Cells of b alone are written; the formats and the transfers stay. -/
theorem DragHd.upd (h : DragHd w b lb R d A n cap PA pn pcap) (d' : DSt) (hfl : d'.flows = d.flows) (hol : d'.old = d.old) (hfm : d'.fmts = d.fmts) (ho : d'.offers ≤ 1000000) (k : Chg (fun x => x = b) w w')
    (hb : w'.heap[b]? = some (.cells (dcells lb d' A n cap PA pn pcap).toArray 84 (0, 0))) : DragHd w' b lb R d' A n cap PA pn pcap := by
  refine ⟨hb, ?_, ?_, ?_, ?_, ?_, ?_, ?_, h.rb, fun x hx => Nat.lt_of_lt_of_le (h.lt x hx) k.size, h.rl, Nat.lt_of_lt_of_le h.ll k.size, ?_, ho, ?_, ?_⟩
  · rw [hfm]; exact h.fm.chg2 k (fun hn g o hA => (h.fo hn g o hA).2.1)
  · rw [hfl]; exact h.fo
  · rw [hfl, hol]; exact row_chg h.pl k (fun x hx => (h.lo x hx).2.1)
  · rw [hfl]; exact h.lo
  · rw [hfl]; exact fun x hx => (h.pipes x hx).chg k (fun i hi => (h.sub x hx i hi).2)
  · rw [hfl]; exact h.sub
  · rw [hfl]; exact h.apart
  · rw [hfl]; exact h.few
  · rw [hfm]; exact h.len
  · rw [hfl, hol]; exact h.oldl
/-- The drag ends: it lets go of its transfers. -/
theorem DragHd.ended (h : DragHd w b lb R d A n cap PA pn pcap) (d' : DSt) (hfl : d'.flows = d.flows) (hol : d'.old = d.flows.length) (hfm : d'.fmts = d.fmts) (ho : d'.offers ≤ 1000000) (k : Chg (fun x => x = b) w w')
    (hb : w'.heap[b]? = some (.cells (dcells lb d' A n cap none 0 0).toArray 84 (0, 0))) : DragHd w' b lb R d' A n cap none 0 0 := by
  refine ⟨hb, ?_, ?_, ?_, fun g hg => by simp [Value.ownBlock] at hg, ?_, ?_, ?_, h.rb, fun x hx => Nat.lt_of_lt_of_le (h.lt x hx) k.size, h.rl, Nat.lt_of_lt_of_le h.ll k.size, ?_, ho, ?_, ?_⟩
  · rw [hfm]; exact h.fm.chg2 k (fun hn g o hA => (h.fo hn g o hA).2.1)
  · rw [hfl]; exact fun hn g o hA => ⟨(h.fo hn g o hA).1, (h.fo hn g o hA).2.1, by simp [Value.ownBlock], (h.fo hn g o hA).2.2.2⟩
  · rw [hfl, hol, List.drop_length]; exact World.ownsRow_nil _ _ _ _
  · rw [hfl]; exact fun x hx => (h.pipes x hx).chg k (fun i hi => (h.sub x hx i hi).2)
  · rw [hfl]; exact h.sub
  · rw [hfl]; exact h.apart
  · rw [hfl]; exact h.few
  · rw [hfm]; exact h.len
  · rw [hfl, hol]; exact Nat.le_refl _
end
end Go.Proofs.Yteolilggeaffaaa

namespace Go.Proofs.Yteolilggeaffaaa
open Go.RowKit

def strVals (xs : List ByteArray) : List Value := xs.map Value.string
theorem StrsAt.of_own {w : World} {base n : Nat} {v : Value} {xs : List ByteArray} (h : w.ownsRow base 9 1 v n (strVals xs)) : ∃ A cap, v = .slice A n cap ∧ SArg w A n cap xs := by
  have hl : xs.length = n := by have := h.1; simpa [strVals] using this
  rcases h.2 with ⟨rfl, rfl⟩ | ⟨g, cap, cur, rfl, hb, hg, hc, hm, hs, ht⟩
  · exact ⟨none, 0, rfl, ⟨hl, fun h => absurd h (by omega)⟩, by omega, by unfold maxLen; omega⟩
  · refine ⟨_, cap, rfl, ⟨hl, fun _ => ⟨g, 0, rfl, (Array.getElem?_eq_some_iff.1 hg).1, fun j x hj => ?_⟩⟩, by omega, by omega⟩
    have := h.cells (g := g) rfl j (.string x) (by unfold strVals; rw [List.getElem?_map, hj]; rfl)
    rw [add_plain] at this
    exact this

theorem infoStr : (Try.prog.info? 9).map (fun i => (i.zero, i.size, i.bytes)) = some (some (.string ⟨#[]⟩), 1, 16) := by kernel_rfl

/-- append of m elements, also none, which lie elsewhere. -/
theorem wpl_appendSl {P : Program} {ops : Array Oper} {Q : Exit → Act → World → Prop} {rest : List Oper} {a : Act} {w : World} {d : Option Tmp} {ty t : TypeId} {pst : String} {ed : Array Edge} {s x : Operand}
    (base : Nat) (e : TypeId) (z : Value) (size bytes : Nat) (ht : P.underlying t = some (.slice e)) (hi : (P.info? e).map (fun i => (i.zero, i.size, i.bytes)) = some (some z, size, bytes)) (hz : z.cells.size = size) (h0 : 0 < size)
    (v : Value) (n : Nat) (xs : List Value) (hown : w.ownsRow base e size v n xs) (hs : a.eval s = v) (A : Option Addr) (m c : Nat) (news : List Value) (hx : a.eval x = .slice A m c) (hl : news.length = m * size)
    (hnews : 0 < m → ∃ b o, A = some ⟨b, o, none⟩ ∧ ∀ j u, news[j]? = some u → w.cell? ⟨b, o + j, none⟩ = some u) (h1 : ∀ u ∈ news, u.oneCell' = true) (hn : n + m ≤ 1000000) (hby : bytes ≤ 100000) (hbase : base ≤ w.heap.size)
    (h : ∀ A' cap w', w'.ownsRow base e size (.slice A' (n + m) cap) (n + m) (xs ++ news) → w.grownBy w' v.ownBlock → wpList P ops Q rest (a.put d (.slice A' (n + m) cap)) w') :
    wpList P ops Q (⟨d, .call { callee := .builtin .append, args := #[s, x], argTypes := #[t, t] }, ty, pst, ed, none⟩ :: rest) a w := by
  obtain ⟨i, hi0, hz0, hz1, hz2⟩ := info_parts hi
  have hb : (n + m) * bytes ≤ 140737488355328 := Nat.le_trans (Nat.mul_le_mul (show n + m ≤ 1000000 by omega) hby) (by omega)
  rcases Nat.eq_zero_or_pos m with hm | hm
  · subst hm
    have hform : ∃ A0 cap0, v = .slice A0 n cap0 ∧ n ≤ cap0 := by
      rcases hown.2 with ⟨rfl, rfl⟩ | ⟨g, cap, cur, rfl, _, _, hc, _⟩
      · exact ⟨none, 0, rfl, Nat.le_refl _⟩
      · exact ⟨_, cap, rfl, hc⟩
    obtain ⟨A0, cap0, rfl, hle⟩ := hform
    obtain rfl : news = [] := List.length_eq_zero_iff.1 (by rw [hl]; omega)
    have hsrc : Go.Src P i.size t (.slice A 0 c) 0 [] w := by
      cases A with
      | none => exact Go.Src.ofNil w ht c
      | some ad => exact Go.Src.ofSlice w ht ad 0 c [] (by simp) (fun j u hj => by simp at hj) (fun u hu => by simp at hu)
    have hr := run_append_nothing w t t ty e i ht hi0 A0 n cap0 hle (.slice A 0 c) hsrc
    refine wpl_ok (.slice A0 n cap0) rfl ?_ (h A0 cap0 w (by simpa using hown) ⟨rfl, rfl, rfl, Nat.le_refl _, fun _ _ _ => rfl⟩)
    unfold execOp
    simp only [resolve, invoke, builtin, Sem.run_bind, Sem.run_pure, Result.andThen_ok, List.map_toArray, List.map_cons, List.map_nil, hs, hx, hr]
  · obtain ⟨b, o, rfl, hc⟩ := hnews hm
    refine wpList_append_lies w rfl s x t rfl base e i z size bytes ht hi0 hz0 hz1 hz2 hz h0 v n xs hs hown ⟨b, o, none⟩ m c news hx (by omega) (fun j u hj => by rw [add_plain]; exact hc j u hj) h1 hm (by simp only [maxLen]; omega) hb hbase _ rfl ?_
    intro g cap w' h2 h3 _ _
    exact h _ cap w' h2 h3

theorem run_eq_nil {P : Program} {t e : TypeId} (ht : P.underlying t = some (.slice e)) (w : World) (a : Option Addr) (n c : Nat) : (binOp .eql t (.slice a n c) (.slice none 0 0)).run P w = .ok (.bool a.isNone) w := by
  have h : ∀ d : Nat, (Op.equalIn (d + 1) t (.slice a n c) (.slice none 0 0)).run P w = .ok a.isNone w := fun d => by
    cases a <;> simp [Op.equalIn, run_underlying ht]
  simp only [binOp]
  simp [Op.equal, Op.maxDepth, h 9999]
theorem contains_v (r : Bool) (A : Option Addr) (n cap : Nat) (xs : List ByteArray) (x : ByteArray) (w : World) (h : StrsAt w A n xs) (hn : n ≤ 1000000) (hr : hasS xs x = r) :
    Calls Try.prog 41 #[.slice A n cap, .string x] w fun e w' => e = .returned (.bool r) ∧ w = w' := by
  subst hr
  exact containsStrs_ok A n cap xs x w h hn
/-- What Clone gives back. -/
def CloneOut (w : World) (n : Nat) (fs : List ByteArray) (e : Ending) (w' : World) : Prop :=
  ∃ A cap, e = .returned (.slice A n cap) ∧ SArg w' A n cap fs ∧ Same w w' ∧ (0 < n → ∀ g o, A = some ⟨g, o, none⟩ → w.heap.size ≤ g ∧ g < w'.heap.size)
theorem StrsAt.src {w : World} {A : Option Addr} {n : Nat} {xs : List ByteArray} (h : StrsAt w A n xs) (hn : 0 < n) : ∃ b o, A = some ⟨b, o, none⟩ ∧ ∀ j u, (strVals xs)[j]? = some u → w.cell? ⟨b, o + j, none⟩ = some u := by
  obtain ⟨b, o, hA, _, hc⟩ := h.2 hn
  refine ⟨b, o, hA, fun j u hj => ?_⟩
  unfold strVals at hj
  rw [List.getElem?_map] at hj
  cases hx : xs[j]? with
  | none => rw [hx] at hj; cases hj
  | some y => rw [hx] at hj; cases hj; exact hc j y hx
theorem strVals_one (xs : List ByteArray) : ∀ u ∈ strVals xs, u.oneCell' = true := by
  intro u hu
  unfold strVals at hu
  obtain ⟨y, _, rfl⟩ := List.mem_map.1 hu
  rfl
theorem clone_ok (A : Option Addr) (n cap : Nat) (fs : List ByteArray) (w : World) (h : SArg w A n cap fs) (hn : n ≤ 1000000) :
    Calls Try.prog 60 #[.slice A n cap] w (CloneOut w n fs) := by
  have HA := Lib.hid h
  have hl := h.1.1
  have HL := Lib.hid hl
  cases A with
  | none =>
    have he := fun w => run_eq_nil Try.underlying22 w none n cap
    have h0 : n = 0 := by
      rcases Nat.eq_zero_or_pos n with h0 | h0
      · exact h0
      · obtain ⟨b, o, hA, _⟩ := h.1.2 h0; cases hA
    subst h0
    obtain rfl : fs = [] := List.length_eq_zero_iff.1 hl
    clear h hl
    simp only [Option.isNone_none, Option.isNone_some] at he
    go_enter Try.func60, Try.ntmps60
    go_wp2
    go_ret
    exact ⟨none, 0, rfl, SArg.nil _, Chg.refl _ _, fun h => absurd h (by omega)⟩
  | some ad =>
    have he := fun w => run_eq_nil Try.underlying22 w (some ad) n cap
    clear h hl
    simp only [Option.isNone_none, Option.isNone_some] at he
    go_enter Try.func60, Try.ntmps60
    go_wp2_with (at_builtin; refine wpl_appendSl w.heap.size 9 _ 1 16 Try.underlying22 infoStr rfl (by omega) _ 0 [] (World.ownsRow_made w #[] 0 (Nat.le_refl _) (by unfold maxLen; omega) rfl) rfl (some ad) n cap (strVals fs) rfl (by unfold strVals; rw [List.length_map, HL.out, Nat.mul_one]) (fun hp => (HA.out.1.alloc _).src hp) (strVals_one fs) (by omega) (by omega) (by simp) ?_; intro A' cap' w2 hown hgrow; have HOWN := Lib.hid hown; have HGROW := Lib.hid hgrow; clear hown hgrow)
    go_ret
    have e0 : 0 + n = n := Nat.zero_add n
    have HO := HOWN.out
    rw [e0, List.nil_append] at HO
    obtain ⟨A2, cap2, hv, hs⟩ := StrsAt.of_own HO
    cases hv
    refine ⟨A', cap', rfl, hs, ?_, fun hp g o hA => ?_⟩
    · exact ((Chg.refl (fun _ => False) w).alloc _).then_ (Chg.grownO (Chg.refl _ _) HGROW.out) (fun i hi e => by simp [Value.ownBlock] at e; omega)
    · subst hA
      have := HO.lt g (by
        rcases HO.2 with ⟨q, _⟩ | ⟨g', cap', cur, hq, _⟩
        · cases q
        · cases hq; rfl)
      exact this
end Go.Proofs.Yteolilggeaffaaa
