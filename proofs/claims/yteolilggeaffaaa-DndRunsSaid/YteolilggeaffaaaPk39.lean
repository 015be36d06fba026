/- Parts of the walk, packed: WanR43, Want43. -/
import Derived.Test.YteolilggeaffaaaPk32
import Derived.Test.YteolilggeaffaaaMP43
import Derived.Test.YteolilggeaffaaaPk33
import Derived.Test.YteolilggeaffaaaMS43
import Derived.WalkMore
set_option linter.unusedVariables false
set_option linter.unusedSimpArgs false
set_option maxRecDepth 100000
namespace Go.Proofs.Yteolilggeaffaaa
open Go.RowKit

section
variable {w w' u v : World} {F F' S : Nat → Prop} {d : DSt} {x : MD} {rs : List RPp} {L : SLog} {N n : Nat} {A : Option Addr} {l : List Ent} {ds : List Dv}
theorem RD.weak (h : RD w F d x rs) (k : ∀ y, F' y → F y) : RD w F' d x rs :=
  { h with fmF := fun g o hA hn q => h.fmF g o hA hn (k g q), row := h.row.weak k }
theorem RL.weak (h : RL w F L N A n l) (k : ∀ y, F' y → F y) : RL w F' L N A n l := ⟨h.rel, h.at_, fun g o hA hn q => h.far g o hA hn (k g q)⟩
/-- A row of deliveries outside F. -/
def DvsF (w : World) (F : Nat → Prop) (A : Option Addr) (ds : List Dv) : Prop := DvsAt w A ds ∧ FarA F A ds.length
theorem DvsF.chg (h : DvsF w F A ds) (k : Chg S w w') (hS : ∀ y, S y → F y) : DvsF w' F A ds :=
  ⟨fun hn => by
    obtain ⟨g, e, hg, hc⟩ := h.1 hn
    have hf := h.2 g 0 e hn
    exact ⟨g, e, Nat.lt_of_lt_of_le hg k.size, fun i x hx j u hu => k.cell (hc i x hx j u hu) (fun q => hf (hS g q))⟩, h.2⟩
theorem DvsF.weak (h : DvsF w F A ds) (k : ∀ y, F' y → F y) : DvsF w F' A ds := ⟨h.1, fun g o hA hn q => h.2 g o hA hn (k g q)⟩
theorem DvsF.nil (w : World) (F : Nat → Prop) (A : Option Addr) : DvsF w F A [] := ⟨fun q => absurd q (by simp), fun _ _ _ q => absurd q (by simp)⟩
theorem DvsF.out {base c m : Nat} (h : OutAt base w (.slice A m c) (ds.map Dv.cells)) (hF : ∀ y, F y → y < base) : DvsF w F A ds := by
  obtain ⟨A', c', e, _, _, hc⟩ := out_rows h
  cases e
  exact ⟨fun hn => by
    obtain ⟨g, e, _, hg, hc⟩ := hc hn
    exact ⟨g, e, hg, hc⟩, fun g o hA hn q => by
    obtain ⟨g2, e, hb, _, _⟩ := hc hn
    rw [hA] at e
    cases e
    have := hF g q
    omega⟩
theorem DvsF.own {k : Own F F' w w'} (h : DvsF w F A ds) : DvsF w' F' A ds :=
  ⟨fun hn => by
    obtain ⟨g, e, hg, hc⟩ := h.1 hn
    have hf := h.2 g 0 e hn
    exact ⟨g, e, Nat.lt_of_lt_of_le hg k.size, fun i x hx j u hu => k.chg.cell (hc i x hx j u hu) hf⟩, fun g o hA hn => by
    obtain ⟨g2, e, hg, _⟩ := h.1 hn
    have hA2 := hA
    rw [hA] at e
    cases e
    exact k.not hg (h.2 _ _ hA2 hn)⟩
/-- What want has found stands beside whatever the program's call does. -/
def WantR (op : DOp) (d : DSt) (L : SLog) (last : Int) (F : Nat → Prop) (N : Nat) (x' : MD) (N' : Nat) (LA' : Option Addr) (ln' : Nat) (VA : Option Addr) (vn : Nat) (ok : Bool) (er : Int) (w : World) : Prop :=
  ∀ d' L' last' ds ok' er', StepR op d L last d' L' last' ds ok' er' → vn = ds.length ∧ ok' = ok ∧ er' = er ∧ N' ≤ N + 1 ∧ DvsF w F VA ds ∧ ∃ rs' l', RD w F d' x' rs' ∧ RL w F L' N' LA' ln' l'
section
variable {op : DOp} {last : Int} {x' : MD} {N' : Nat} {LA' : Option Addr} {ln' : Nat} {VA : Option Addr} {vn : Nat} {ok : Bool} {er : Int}
theorem WantR.chg (h : WantR op d L last F N x' N' LA' ln' VA vn ok er u) (k : Chg S u v) (hS : ∀ y, S y → F y) : WantR op d L last F N x' N' LA' ln' VA vn ok er v := fun d' L' last' ds ok' er' hst => by
  obtain ⟨h1, h2, h3, h4, h5, rs', l', h6, h7⟩ := h d' L' last' ds ok' er' hst
  have ko : Own F F u v := ⟨k.mono (fun y _ q => hS y q), fun _ q => .inl q⟩
  exact ⟨h1, h2, h3, h4, h5.chg k hS, rs', l', h6.own ko, h7.own ko⟩
theorem WantR.weak (h : WantR op d L last F N x' N' LA' ln' VA vn ok er u) (k : ∀ y, F' y → F y) : WantR op d L last F' N x' N' LA' ln' VA vn ok er u := fun d' L' last' ds ok' er' hst => by
  obtain ⟨h1, h2, h3, h4, h5, rs', l', h6, h7⟩ := h d' L' last' ds ok' er' hst
  exact ⟨h1, h2, h3, h4, h5.weak k, rs', l', h6.weak k, h7.weak k⟩
end
def WantOut (op : DOp) (d : DSt) (L : SLog) (last : Int) (F : Nat → Prop) (N : Nat) (w : World) (e : Ending) (w' : World) : Prop :=
  ∃ (x' : MD) (N' : Nat) (LA' : Option Addr) (ln' lc' : Nat) (VA : Option Addr) (vn vc : Nat) (ok : Bool) (er : Int), e = .returned (.tuple #[.agg x'.cells.toArray, .agg #[.int .i64 N', .slice LA' ln' lc'], .agg #[.slice VA vn vc, .bool ok, .int .i64 er]]) ∧ WantR op d L last F N x' N' LA' ln' VA vn ok er w' ∧ Same w w'
/-- The blocks F and the six that want makes. -/
def six (w : World) (F : Nat → Prop) : Nat → Prop := fun y => F y ∨ (w.heap.size ≤ y ∧ y < w.heap.size + 6)
structure WIn (w : World) (F : Nat → Prop) (d : DSt) (L : SLog) (x : MD) (rs : List RPp) (N : Nat) (LA : Option Addr) (ln : Nat) (l : List Ent) (op : DOp) : Prop where
  rd : RD w F d x rs
  rl : RL w F L N LA ln l
  lo : ∀ y, F y → y < w.heap.size
  okw : op.ok w
  light : LightOp op
  off : d.offers ≤ 40
  fl : d.flows.length ≤ 40
  few : N ≤ 40
theorem WIn.six {LA : Option Addr} {ln : Nat} {op : DOp} (h : WIn w F d L x rs N LA ln l op) (hs : Same w v) (hz : v.heap.size = w.heap.size + 6) : WIn v (six w F) d L x rs N LA ln l op := by
  have ko : Own F (Go.Proofs.Yteolilggeaffaaa.six w F) w v := Own.of_same hs (fun y q => by rcases q with q | q; exact .inl q; exact .inr q.1)
  refine ⟨h.rd.own ko, h.rl.own ko, fun y q => ?_, h.okw.same hs, h.light, h.off, h.fl, h.few⟩
  rcases q with q | q
  · have := h.lo y q; omega
  · omega
theorem WIn.pn {LA : Option Addr} {ln : Nat} {op : DOp} (h : WIn w F d L x rs N LA ln l op) : x.pn ≤ 1000 := by have := h.rd.pn; have := h.fl; omega
theorem WIn.ln {LA : Option Addr} {ln : Nat} {op : DOp} (h : WIn w F d L x rs N LA ln l op) : ln ≤ 1000 := by have := h.rl.at_.1; have := h.rl.rel.len; have := h.few; omega
theorem WIn.kinds {LA : Option Addr} {ln : Nat} {op : DOp} (h : WIn w F d L x rs N LA ln l op) : ∀ e ∈ l, 0 ≤ e.k ∧ e.k ≤ 62 := fun e he => ⟨(h.rl.rel.mem e he).2.2.2.2.2.1, (h.rl.rel.mem e he).2.2.2.2.2.2.1⟩
theorem RL.issued {LA' : Option Addr} {ln' base : Nat} {c f k : Int} (h : RelR L N l) (hN : N ≤ 40) (hg : good c f k = true) (hc : c ≤ 9223372036854775807) (hf : f ≤ 9223372036854775807) (hs : SlotsAt w base LA' ln' (rIssued N l c f k)) (hF : ∀ y, F y → y < base) : RL w F (L.issue c f k) (N + 1) LA' ln' (rIssued N l c f k) := by
  have e : L.issue c f k = L.issued c f k := if_pos hg
  rw [e]
  refine ⟨h.issued (by omega) hg hc hf, ⟨hs.1, fun q => ?_⟩, fun g o hA hn q => ?_⟩
  · obtain ⟨b, e1, _, e3, e4, e5⟩ := hs.2 q
    exact ⟨b, e1, Nat.zero_le _, e3, e4, e5⟩
  · obtain ⟨b, e1, e2, _⟩ := hs.2 hn
    rw [hA] at e1
    cases e1
    have := hF g q
    omega
end
/-! ### What a call of one kind can be. -/
section
variable {x : DOp} {d d' : DSt} {L L' : SLog} {last last' : Int} {ds : List Dv} {ok : Bool} {er : Int}
theorem step0 (h : StepR x d L last d' L' last' ds ok er) (hk : x.kind = 0) : d' = d ∧ L' = L.issue x.client x.surface x.n ∧ last' = lastOf last (L.issueN x.client x.surface x.n) ∧ ds = [] ∧ ok = false ∧ er = 0 := by
  rcases h with h | h | h | h | h | h | h | h | h | h
  all_goals first | exact h.2 | (exfalso; have := h.1; omega)
theorem step1 (h : StepR x d L last d' L' last' ds ok er) (hk : x.kind = 1) : d' = d.start L x.client x.surface x.other x.o.fs x.o.acts (IntKind.u32.wrap (last - x.back)) ∧ L' = L ∧ last' = last ∧ ds = [] ∧ ok = false ∧ er = d.startE L x.client x.surface x.other x.o.fs x.o.acts (IntKind.u32.wrap (last - x.back)) := by
  rcases h with h | h | h | h | h | h | h | h | h | h
  all_goals first | exact h.2 | (exfalso; have := h.1; omega)
theorem step2 (h : StepR x d L last d' L' last' ds ok er) (hk : x.kind = 2) : d' = d.mv x.client x.surface x.time ∧ L' = d.mvL L x.client x.surface ∧ last' = lastFold last ds ∧ ds = d.mvD L x.client x.surface x.x x.y x.time ∧ ok = false ∧ er = 0 := by
  rcases h with h | h | h | h | h | h | h | h | h | h
  all_goals first | exact h.2 | (exfalso; have := h.1; omega)
theorem step3 (h : StepR x d L last d' L' last' ds ok er) (hk : x.kind = 3) : d' = d.accept x.client x.f ∧ L' = L ∧ last' = last ∧ ds = [] ∧ ok = false ∧ er = d.acceptE x.client x.f := by
  rcases h with h | h | h | h | h | h | h | h | h | h
  all_goals first | exact h.2 | (exfalso; have := h.1; omega)
theorem step4 (h : StepR x d L last d' L' last' ds ok er) (hk : x.kind = 4) : d' = d.setAct x.client x.n x.other ∧ L' = L ∧ last' = last ∧ ds = [] ∧ ok = false ∧ er = d.setActE x.client x.n x.other := by
  rcases h with h | h | h | h | h | h | h | h | h | h
  all_goals first | exact h.2 | (exfalso; have := h.1; omega)
theorem step5 (h : StepR x d L last d' L' last' ds ok er) (hk : x.kind = 5) : d' = d.dropS ∧ L' = L ∧ last' = last ∧ ds = d.dropD ∧ ok = d.dropB ∧ er = 0 := by
  rcases h with h | h | h | h | h | h | h | h | h | h
  all_goals first | exact h.2 | (exfalso; have := h.1; omega)
theorem step6 (h : StepR x d L last d' L' last' ds ok er) (hk : x.kind = 6) : L' = L ∧ last' = last ∧ ds = [] ∧ ((d.rcvE x.client x.f x.n ≠ 0 ∧ d' = d ∧ ok = false ∧ er = d.rcvE x.client x.f x.n) ∨ (d.rcvE x.client x.f x.n = 0 ∧ ok = true ∧ er = 0 ∧ ∃ pb Rp, d' = { d with flows := d.flows ++ [⟨pb, Rp, PSt.new x.n⟩] })) := by
  rcases h with h | h | h | h | h | h | h | h | h | h
  all_goals first | exact h.2 | (exfalso; have := h.1; omega)
theorem step7 (h : StepR x d L last d' L' last' ds ok er) (hk : x.kind = 7) : d' = d.fin x.client ∧ L' = L ∧ last' = last ∧ ds = [] ∧ ok = false ∧ er = d.finE x.client := by
  rcases h with h | h | h | h | h | h | h | h | h | h
  all_goals first | exact h.2 | (exfalso; have := h.1; omega)
theorem step8 (h : StepR x d L last d' L' last' ds ok er) (hk : x.kind = 8) : d' = d.cancS ∧ L' = L ∧ last' = last ∧ ds = d.cancD ∧ ok = false ∧ er = 0 := by
  rcases h with h | h | h | h | h | h | h | h | h | h
  all_goals first | exact h.2 | (exfalso; have := h.1; omega)
theorem stepx (h : StepR x d L last d' L' last' ds ok er) (hk : x.kind < 0 ∨ 8 < x.kind) : L' = L ∧ last' = last ∧ ds = [] ∧ ok = false ∧ (((x.n < 0 ∨ (d.flows.length : Int) ≤ x.n) ∧ d' = d ∧ er = 0) ∨ ∃ (k : Nat) (z : DFlow), x.n = k ∧ d.flows[k]? = some z ∧ d' = { d with flows := d.flows.set k { z with q := z.q.grant 1 } } ∧ er = z.q.grE 1) := by
  rcases h with h | h | h | h | h | h | h | h | h | h
  all_goals first | exact h.2 | (exfalso; have := h.1; omega)
end
end Go.Proofs.Yteolilggeaffaaa

namespace Go.Proofs.Yteolilggeaffaaa
open Go.RowKit

/-- The six blocks that want makes first. -/
theorem six_at (w : World) (a b c d e f : Array Value) (Ta Tb Tc Td Te Tf : TypeId) :
    VarAt ((((((w.alloc (.cells a Ta)).alloc (.cells b Tb)).alloc (.cells c Tc)).alloc (.cells d Td)).alloc (.cells e Te)).alloc (.cells f Tf)) w.heap.size Ta a ∧
    VarAt ((((((w.alloc (.cells a Ta)).alloc (.cells b Tb)).alloc (.cells c Tc)).alloc (.cells d Td)).alloc (.cells e Te)).alloc (.cells f Tf)) (w.heap.size + 1) Tb b ∧
    VarAt ((((((w.alloc (.cells a Ta)).alloc (.cells b Tb)).alloc (.cells c Tc)).alloc (.cells d Td)).alloc (.cells e Te)).alloc (.cells f Tf)) (w.heap.size + 1 + 1 + 1) Td d ∧
    VarAt ((((((w.alloc (.cells a Ta)).alloc (.cells b Tb)).alloc (.cells c Tc)).alloc (.cells d Td)).alloc (.cells e Te)).alloc (.cells f Tf)) (w.heap.size + 1 + 1 + 1 + 1) Te e ∧
    VarAt ((((((w.alloc (.cells a Ta)).alloc (.cells b Tb)).alloc (.cells c Tc)).alloc (.cells d Td)).alloc (.cells e Te)).alloc (.cells f Tf)) (w.heap.size + 1 + 1 + 1 + 1 + 1) Tf f ∧
    ((((((w.alloc (.cells a Ta)).alloc (.cells b Tb)).alloc (.cells c Tc)).alloc (.cells d Td)).alloc (.cells e Te)).alloc (.cells f Tf)).heap.size = w.heap.size + 6 ∧
    Same w ((((((w.alloc (.cells a Ta)).alloc (.cells b Tb)).alloc (.cells c Tc)).alloc (.cells d Td)).alloc (.cells e Te)).alloc (.cells f Tf)) :=
  ⟨(((((VarAt.new _ _ _).alloc _).alloc _).alloc _).alloc _).alloc _, ((((VarAt.newk (by simp)).alloc _).alloc _).alloc _).alloc _, ((VarAt.newk (by simp)).alloc _).alloc _, (VarAt.newk (by simp)).alloc _, VarAt.newk (by simp), by simp, ((((((Chg.refl _ _).alloc _).alloc _).alloc _).alloc _).alloc _).alloc _⟩
section
variable {w W : World} {b8 b9 b10 : Nat} {d0 l0 r0 d1 l1 r1 : Array Value}
/-- Three struct variables are set. -/
theorem three_set (h8 : VarAt W b8 56 d0) (h9 : VarAt W b9 60 l0) (h10 : VarAt W b10 63 r0) (n1 : b8 ≠ b9) (n2 : b8 ≠ b10) (n3 : b9 ≠ b10) :
    VarAt (((W.setRow b8 d1).setRow b9 l1).setRow b10 r1) b8 56 d1 ∧ VarAt (((W.setRow b8 d1).setRow b9 l1).setRow b10 r1) b9 60 l1 ∧ VarAt (((W.setRow b8 d1).setRow b9 l1).setRow b10 r1) b10 63 r1 := by
  refine ⟨((h8.put d1).set l1 n1).set r1 n2, ((h9.set d1 (Ne.symm n1)).put l1).set r1 n3, ((h10.set d1 (Ne.symm n2)).set l1 (Ne.symm n3)).put r1⟩
theorem three_same (hs : Same w W) (hb : w.heap.size ≤ b8 ∧ w.heap.size ≤ b9 ∧ w.heap.size ≤ b10) : Same w (((W.setRow b8 d1).setRow b9 l1).setRow b10 r1) :=
  ((hs.setRow b8 d1 (fun q => by omega)).setRow b9 l1 (fun q => by omega)).setRow b10 r1 (fun q => by omega)
end
end Go.Proofs.Yteolilggeaffaaa
