/- Parts of the walk, packed: RD43, RE43. -/
import Derived.Test.YteolilggeaffaaaPk26
import Derived.Test.YteolilggeaffaaaPk30
import Derived.Test.YteolilggeaffaaaPk31
set_option linter.unusedVariables false
set_option linter.unusedSimpArgs false
set_option maxRecDepth 100000
namespace Go.Proofs.Yteolilggeaffaaa
open Go.RowKit

/-- One of the reference's pipes, as the drag's list holds it. -/
structure RPp where
  q : PSt
  A : Option Addr
  cap : Nat
def RPp.cells (z : RPp) : List Value := [.int .i64 z.q.win, .int .i64 z.q.cr, .slice z.A 0 z.cap, .bool (z.q.cl && !z.q.cn), .bool z.q.cn]
theorem RPp.len (z : RPp) : z.cells.length = 5 := rfl
def RPp.ok (z : RPp) : Prop := z.q.ok ∧ z.q.bs = [] ∧ z.cap ≤ maxLen
def FarA (F : Nat → Prop) (A : Option Addr) (n : Nat) : Prop := ∀ g o, A = some ⟨g, o, none⟩ → 0 < n → ¬ F g
/-- A row of pipes, outside F. -/
def PRow (w : World) (F : Nat → Prop) (A : Option Addr) (n : Nat) (rs : List RPp) : Prop :=
  rs.length = n ∧ (∀ z ∈ rs, z.ok) ∧ (0 < n → ∃ g, A = some ⟨g, 0, none⟩ ∧ ¬ F g ∧ g < w.heap.size ∧ ∀ i z, rs[i]? = some z → ∀ j u, z.cells[j]? = some u → w.cell? ⟨g, i * 5 + j, none⟩ = some u)
theorem PRow.own {w w' : World} {F F' : Nat → Prop} {A : Option Addr} {n : Nat} {rs : List RPp} (h : PRow w F A n rs) (k : Own F F' w w') : PRow w' F' A n rs := by
  refine ⟨h.1, h.2.1, fun hn => ?_⟩
  obtain ⟨g, e, hF, hg, hc⟩ := h.2.2 hn
  exact ⟨g, e, k.not hg hF, Nat.lt_of_lt_of_le hg k.size, fun i z hz j u hu => k.chg.cell (hc i z hz j u hu) hF⟩
theorem PRow.same {w w' : World} {F : Nat → Prop} {A : Option Addr} {n : Nat} {rs : List RPp} (h : PRow w F A n rs) (k : Same w w') : PRow w' F A n rs := by
  refine ⟨h.1, h.2.1, fun hn => ?_⟩
  obtain ⟨g, e, hF, hg, hc⟩ := h.2.2 hn
  exact ⟨g, e, hF, Nat.lt_of_lt_of_le hg k.size, fun i z hz j u hu => k.cell (hc i z hz j u hu) (fun q => q)⟩
theorem PRow.nil (w : World) (F : Nat → Prop) : PRow w F none 0 [] := ⟨rfl, fun z hz => by simp at hz, fun h => absurd h (by omega)⟩
/-- What a call has built. -/
theorem PRow.of_own {w : World} {base : Nat} {F : Nat → Prop} {v : Value} {n : Nat} {rs : List RPp} (h : w.ownsRow base 112 5 v n (rs.flatMap RPp.cells)) (hl : rs.length = n) (hz : ∀ z ∈ rs, z.ok) (hF : ∀ x, F x → x < base) : ∃ A cap, v = .slice A n cap ∧ n ≤ cap ∧ PRow w F A n rs := by
  rcases h.2 with ⟨rfl, rfl⟩ | ⟨g, cap, cur, rfl, hb, hg, hnc, hcm, hcs, htake⟩
  · obtain rfl : rs = [] := List.eq_nil_of_length_eq_zero hl
    exact ⟨none, 0, rfl, Nat.le_refl _, PRow.nil w F⟩
  · refine ⟨_, cap, rfl, hnc, hl, hz, fun _ => ⟨g, rfl, fun q => by have := hF g q; omega, lt_of_at hg, fun i x hx j v hv => ?_⟩⟩
    have hj : j < 5 := by have := (List.getElem?_eq_some_iff.1 hv).1; rw [RPp.len] at this; exact this
    have h1 := flat_get RPp.cells 5 RPp.len rs i j x hx hj
    have h2 := h.cells (g := g) rfl (i * 5 + j) v (by rw [h1]; exact hv)
    rw [add_plain, Nat.zero_add] at h2
    exact h2

/-- The reference's log beside the program's. -/
structure RL (w : World) (F : Nat → Prop) (L : SLog) (N : Nat) (A : Option Addr) (n : Nat) (l : List Ent) : Prop where
  rel : RelR L N l
  at_ : SlotsAt w 0 A n l
  far : FarA F A n
theorem SlotsAt.chgA {S : Nat → Prop} {w w' : World} {base : Nat} {A : Option Addr} {n : Nat} {l : List Ent} (h : SlotsAt w base A n l) (k : Chg S w w') (hs : FarA S A n) : SlotsAt w' base A n l := by
  refine ⟨h.1, fun hl => ?_⟩
  obtain ⟨b, hA, hb, hlt, ⟨cur, fr, ht⟩, hc⟩ := h.2 hl
  have hS := hs b 0 hA hl
  exact ⟨b, hA, hb, Nat.lt_of_lt_of_le hlt k.size, ⟨cur, fr, k.at_ ht hS⟩, fun i x hx j v hv => k.cell (hc i x hx j v hv) hS⟩
theorem RL.own {w w' : World} {F F' : Nat → Prop} {L : SLog} {N : Nat} {A : Option Addr} {n : Nat} {l : List Ent} (h : RL w F L N A n l) (k : Own F F' w w') : RL w' F' L N A n l := by
  refine ⟨h.rel, h.at_.chgA k.chg h.far, fun g o hA hn => ?_⟩
  obtain ⟨b, hA2, _, hlt, _⟩ := h.at_.2 hn
  rw [hA] at hA2
  cases hA2
  exact k.not hlt (h.far _ _ hA hn)
theorem RL.same {w w' : World} {F : Nat → Prop} {L : SLog} {N : Nat} {A : Option Addr} {n : Nat} {l : List Ent} (h : RL w F L N A n l) (k : Same w w') : RL w' F L N A n l :=
  ⟨h.rel, h.at_.chgA k (fun _ _ _ _ q => q), h.far⟩

/-- The two drags, x and d, say the same; what x points at lies outside F. -/
structure RD (w : World) (F : Nat → Prop) (d : DSt) (x : MD) (rs : List RPp) : Prop where
  ph : x.ph = d.state
  cl : x.cl = d.tc
  tg : x.tg = d.ts
  acts : x.acts = d.acts
  f : x.f = d.tf
  a : x.a = d.ta
  p : x.p = d.tp
  nm : x.nm = (d.offers : Int)
  tm : x.tm = d.timed
  la : x.la = d.latest
  pos : (d.ts = 0 ∧ d.tc = 0) ∨ (1 ≤ d.ts ∧ 1 ≤ d.tc)
  off : d.state = 0 → d.ts = 0 ∧ d.tc = 0 ∧ d.tf = ByteArray.empty ∧ d.ta = 0 ∧ d.tp = 0
  fst : d.state ≠ 0 → x.fst = (d.old : Int)
  st : d.state = 0 ∨ d.state = 1 ∨ d.state = 2
  fm : StrsAt w x.A x.n d.fmts
  fmF : FarA F x.A x.n
  fmn : x.n ≤ 1000
  row : PRow w F x.PA x.pn rs
  qs : rs.map (·.q) = d.flows.map (·.q)
theorem RD.own {w w' : World} {F F' : Nat → Prop} {d : DSt} {x : MD} {rs : List RPp} (h : RD w F d x rs) (k : Own F F' w w') : RD w' F' d x rs :=
  { h with
    fm := h.fm.chg2 k.chg (fun hn b o hA => h.fmF b o hA hn)
    fmF := fun g o hA hn => by
      obtain ⟨b, o', hA2, hlt, _⟩ := h.fm.2 hn
      have hA3 := hA
      rw [hA] at hA2
      cases hA2
      exact k.not hlt (h.fmF _ _ hA3 hn)
    row := h.row.own k }
theorem RD.same {w w' : World} {F : Nat → Prop} {d : DSt} {x : MD} {rs : List RPp} (h : RD w F d x rs) (k : Same w w') : RD w' F d x rs :=
  { h with fm := h.fm.same k, row := h.row.same k }
section
variable {w w' : World} {F : Nat → Prop} {d : DSt} {x : MD} {rs : List RPp}
theorem RD.pn (h : RD w F d x rs) : x.pn = d.flows.length := by
  have h1 := h.row.1
  have h2 := congrArg List.length h.qs
  simp only [List.length_map] at h2
  omega
theorem rd_new (w : World) (F : Nat → Prop) : RD w F DSt.new MD.zero [] :=
  ⟨rfl, rfl, rfl, rfl, rfl, rfl, rfl, rfl, rfl, rfl, .inl ⟨rfl, rfl⟩, fun _ => ⟨rfl, rfl, rfl, rfl, rfl⟩, fun q => absurd rfl q, .inl rfl, ⟨rfl, fun q => absurd q (by decide)⟩, (fun _ _ q => absurd q (by simp [MD.zero])), by decide, PRow.nil w F, rfl⟩
theorem rd_state (h : RD w F d x rs) : x.ph = d.state := h.ph
theorem rd_act (h : RD w F d x rs) : x.act = d.act := by
  unfold MD.act DSt.act
  rw [h.ph, h.tg, h.acts, h.a, h.p]
theorem rd_acc (h : RD w F d x rs) (st client : Int) : x.acc st client = d.acc client st := by
  unfold MD.acc DSt.acc
  rw [h.ph, h.cl]
  split
  · rfl
  · have := h.pos
    by_cases h1 : client < 1 ∨ d.tc ≠ client
    · rw [if_pos h1, if_pos (by omega)]
    · rw [if_neg h1, if_neg (by omega)]
/-! ### Accept, SetActions, Finish -/
theorem acc_zero {client st : Int} (h : d.acc client st = 0) : d.state = st ∧ d.ts ≠ 0 ∧ d.tc = client := by
  unfold DSt.acc at h
  split at h
  · exact absurd h (by decide)
  · split at h
    · exact absurd h (by decide)
    · omega
theorem rd_accept (h : RD w F d x rs) (client : Int) (f : ByteArray) : x.acceptE d.fmts client f = d.acceptE client f ∧ RD w F (d.accept client f) (x.accept d.fmts client f) rs := by
  have e : x.acceptE d.fmts client f = d.acceptE client f := by unfold MD.acceptE DSt.acceptE; rw [rd_acc h]
  refine ⟨e, ?_⟩
  unfold MD.accept DSt.accept
  rw [e]
  split
  · rename_i h0
    have hs : d.state = 1 := by
      unfold DSt.acceptE at h0
      split at h0
      · rename_i hx; exact absurd h0 hx
      · rename_i hx
        exact (acc_zero (Decidable.not_not.1 hx)).1
    exact { h with f := rfl, off := fun q => by have q2 : d.state = 0 := q; omega }
  · exact h
theorem rd_setAct (h : RD w F d x rs) (client a p : Int) : x.setActE client a p = d.setActE client a p ∧ RD w F (d.setAct client a p) (x.setAct client a p) rs := by
  have e : x.setActE client a p = d.setActE client a p := by unfold MD.setActE DSt.setActE; rw [rd_acc h]
  refine ⟨e, ?_⟩
  unfold MD.setAct DSt.setAct
  rw [e]
  split
  · rename_i h0
    have hs : d.state = 1 := by
      unfold DSt.setActE at h0
      split at h0
      · rename_i hx; exact absurd h0 hx
      · rename_i hx
        exact (acc_zero (Decidable.not_not.1 hx)).1
    exact { h with a := rfl, p := rfl, off := fun q => by have q2 : d.state = 0 := q; omega }
  · exact h
/-- The drag is over. -/
theorem rd_end (h : RD w F d x rs) : RD w F d.endS ({ x with ph := 0 }.aim 0 0) rs :=
  { h with ph := rfl, cl := rfl, tg := rfl, f := rfl, a := rfl, p := rfl, pos := .inl ⟨rfl, rfl⟩, off := fun _ => ⟨rfl, rfl, rfl, rfl, rfl⟩, fst := fun q => absurd rfl q, st := .inl rfl }
theorem rd_finish (h : RD w F d x rs) (client : Int) : x.finE client = d.finE client ∧ RD w F (d.fin client) (x.fin client) rs := by
  have e : x.finE client = d.finE client := by
    unfold MD.finE DSt.finE
    rw [rd_acc h]
    split
    · rfl
    · rename_i hx
      have hs := (acc_zero (Decidable.not_not.1 hx)).1
      have hf := h.fst (by omega)
      rw [h.pn, hf]
      by_cases hq : d.flows.length = d.old
      · rw [if_pos hq, if_pos (by omega)]
      · rw [if_neg hq, if_neg (by omega)]
  refine ⟨e, ?_⟩
  unfold MD.fin DSt.fin
  rw [e]
  split
  · exact rd_end h
  · exact h
end
end Go.Proofs.Yteolilggeaffaaa

namespace Go.Proofs.Yteolilggeaffaaa
open Go.RowKit

/-! ### Start -/
def rvalidB (l : List Ent) (client surface n : Int) : Bool := (rFind l n).isSome && ((rCheck l n client 16 == 0) && ((((rFind l n).getD Ent.zero).f == surface) && (rLatest l client 16 == n)))
theorem rel_valid {L : SLog} {N : Nat} {l : List Ent} (h : RelR L N l) (client surface n : Int) : rvalidB l client surface n = validD L client surface n := by
  unfold rvalidB validD
  rw [h.find, h.check, h.latest]
  have e : (((rFind l n).getD Ent.zero).c != 0) = (rFind l n).isSome := by
    cases hf : rFind l n with
    | none => rfl
    | some e =>
      have hm := h.mem e (List.mem_of_find?_eq_some hf)
      show (e.c != 0) = true
      simp only [bne_iff_ne, ne_eq]
      omega
  rw [e]
  cases (rFind l n).isSome <;> cases (rCheck l n client 16 == 0) <;> cases (((rFind l n).getD Ent.zero).f == surface) <;> cases (rLatest l client 16 == n) <;> rfl
def MD.startE (x : MD) (l : List Ent) (client surface icon : Int) (fs : List ByteArray) (acts n : Int) : Int :=
  if client < 1 ∨ surface < 1 ∨ icon < 0 then 6 else if x.ph ≠ 0 then 14 else if checkV fs acts ≠ 0 then checkV fs acts else if rvalidB l client surface n then 0 else 13
def MD.begin (x : MD) (client acts : Int) (A : Option Addr) (n cap : Nat) : MD := ({ x with ph := 1, src := client, A := A, n := n, cap := cap, acts := acts, fst := x.pn } : MD).aim 0 0
section
variable {w w' : World} {F : Nat → Prop} {d : DSt} {x : MD} {rs : List RPp} {L : SLog} {N : Nat} {l : List Ent}
theorem rd_startE (h : RD w F d x rs) (hl : RelR L N l) (client surface icon : Int) (fs : List ByteArray) (acts n : Int) : x.startE l client surface icon fs acts n = d.startE L client surface icon fs acts n := by
  unfold MD.startE DSt.startE
  rw [rel_valid hl, h.ph]
  by_cases h1 : client < 1 ∨ surface < 1 ∨ icon < 0
  · rw [if_pos h1, if_pos (show min client surface < 1 ∨ icon < 0 by omega)]
  · rw [if_neg h1, if_neg (show ¬ (min client surface < 1 ∨ icon < 0) by omega)]
theorem rd_begin (h : RD w F d x rs) {client surface icon acts n : Int} {fs : List ByteArray} (h0 : d.startE L client surface icon fs acts n = 0) {A : Option Addr} {m cap : Nat} (hs : StrsAt w A m fs) (hf : FarA F A m) (hm : m ≤ 1000) :
    RD w F (d.start L client surface icon fs acts n) (x.begin client acts A m cap) rs := by
  unfold DSt.start
  rw [if_pos h0]
  exact { h with ph := rfl, cl := rfl, tg := rfl, acts := rfl, f := rfl, a := rfl, p := rfl, pos := .inl ⟨rfl, rfl⟩, off := fun q => absurd (show (1 : Int) = 0 from q) (by decide), fst := fun _ => by show (x.pn : Int) = _; rw [h.pn]; rfl, st := .inr (.inl rfl), fm := hs, fmF := hf, fmn := hm }
theorem rd_start_no {client surface icon acts n : Int} {fs : List ByteArray} (h0 : d.startE L client surface icon fs acts n ≠ 0) : d.start L client surface icon fs acts n = d := by
  unfold DSt.start
  rw [if_neg h0]
/-! ### Move -/
end
def MD.tick (x : MD) (time : Int) : MD := if x.tm = false ∨ x.la < time then { x with tm := true, la := time } else x
def MD.mvCS (x : MD) (c s time : Int) : MD := if c = x.cl ∧ s = x.tg then x.tick time else { (x.tick time).aim c s with nm := if s = 0 then x.nm else x.nm + 1 }
def MD.outCS (x : MD) (N : Nat) (c s px py time : Int) : List Dv :=
  if c = x.cl ∧ s = x.tg then (if s = 0 then [] else [⟨c, s, 15, (x.tick time).la, px, py, 0, 0, 0⟩]) else if s = 0 then x.left else x.left ++ [⟨c, s, 14, 0, px, py, x.nm + 1, 0, (N : Int) + 1⟩]
def MD.iss (x : MD) (c s : Int) : Bool := !(decide (c = x.cl ∧ s = x.tg) || decide (s = 0))
section
variable {w w' : World} {F : Nat → Prop} {d : DSt} {x : MD} {rs : List RPp} {L : SLog} {N : Nat} {l : List Ent}
theorem rd_tick (h : RD w F d x rs) (time : Int) (h1 : d.state = 1) : RD w F (d.tick time) (x.tick time) rs := by
  unfold MD.tick DSt.tick
  rw [h.tm, h.la]
  split
  · exact { h with tm := rfl, la := rfl }
  · exact h
theorem rd_mvCS (h : RD w F d x rs) (c s time : Int) (h1 : d.state = 1) (hp : (s = 0 ∧ c = 0) ∨ (1 ≤ s ∧ 1 ≤ c)) : RD w F (d.moveCS c s time) (x.mvCS c s time) rs := by
  have ht := rd_tick h time h1
  have hst := (tick_all d time).1
  have hof := (tick_all d time).2.2.2.1
  unfold MD.mvCS DSt.moveCS
  rw [h.cl, h.tg]
  split
  · exact ht
  · refine { ht with cl := rfl, tg := rfl, f := rfl, a := rfl, p := rfl, nm := ?_, pos := hp, off := fun q => ?_ }
    · show (if s = 0 then x.nm else x.nm + 1) = ((if s = 0 then d.offers else d.offers + 1 : Nat) : Int)
      rw [h.nm]
      split <;> simp
    · have q2 : (d.tick time).state = 0 := q
      omega
theorem rd_outCS (h : RD w F d x rs) (hl : RelR L N l) (hN : (N : Int) + 1 ≤ 4294967294) (c s px py time : Int) (h1 : d.state = 1) (hg : s ≠ 0 → L.issueN c s 14 = (N : Int) + 1) : x.outCS N c s px py time = d.outD L c s px py time := by
  have ht := rd_tick h time h1
  unfold MD.outCS DSt.outD MD.left DSt.leftD
  rw [h.cl, h.tg, ht.la, h.nm]
  split
  · rfl
  · split
    · rfl
    · rename_i hs
      rw [hg hs]
      rfl
end
theorem posCS (client surface : Int) : (posS client surface = 0 ∧ posC client surface = 0) ∨ (1 ≤ posS client surface ∧ 1 ≤ posC client surface ∧ posS client surface = surface ∧ posC client surface = client) := by
  unfold posS posC
  by_cases h : min client surface < 1
  · rw [if_pos h, if_pos h]; exact .inl ⟨rfl, rfl⟩
  · rw [if_neg h, if_neg h]; exact .inr ⟨by omega, by omega, rfl, rfl⟩
theorem rel_issueN {L : SLog} {N : Nat} {l : List Ent} (h : RelR L N l) (hN : (N : Int) + 1 ≤ 4294967294) {c f k : Int} (hg : good c f k = true) : L.issueN c f k = (N : Int) + 1 := by
  unfold SLog.issueN
  rw [if_pos hg, h.last]
  unfold nxt
  rw [if_neg (by omega)]
/-! ### Cancel -/
def cancQ (two : Bool) (fst : Int) (i : Nat) (q : PSt) : PSt := if two = true ∧ fst ≤ i then q.cancel else q
section
variable {w w' : World} {F : Nat → Prop} {d : DSt} {x : MD} {rs : List RPp} {L : SLog} {N : Nat} {l : List Ent}
/-- What a row of pipes becomes. -/
def CancRow (two : Bool) (fst : Int) (rs rs' : List RPp) : Prop := rs'.map (·.q) = (rs.map (·.q)).mapIdx (cancQ two fst)
def MD.over (x : MD) (PA : Option Addr) (pc : Nat) : MD := ({ x with ph := 0, PA := PA, pc := pc } : MD).aim 0 0
theorem rd_cancS {rs' : List RPp} {PA : Option Addr} {pc : Nat} (h : RD w F d x rs) (h0 : d.state ≠ 0) (hc : CancRow (x.ph == 2) x.fst rs rs') (hr : PRow w F PA x.pn rs') : RD w F d.cancS (x.over PA pc) rs' := by
  have hf := h.fst h0
  have hq : rs'.map (·.q) = d.cancS.flows.map (·.q) := by
    unfold CancRow at hc
    rw [hc, h.qs, h.ph, hf]
    unfold DSt.cancS
    apply List.ext_getElem?
    intro j
    rw [List.getElem?_mapIdx, List.getElem?_map]
    by_cases h2 : d.state = 2
    · rw [if_pos h2]
      have e2 : (d.state == 2) = true := by simp [h2]
      rw [e2]
      show _ = ((d.flows.mapIdx _).map _)[j]?
      rw [List.getElem?_map, List.getElem?_mapIdx]
      cases hz : d.flows[j]? with
      | none => rfl
      | some z =>
        have hj := (List.getElem?_eq_some_iff.1 hz).1
        simp only [Option.map_some]
        unfold cancQ
        by_cases h3 : d.old ≤ j
        · rw [if_pos ⟨rfl, by omega⟩, if_pos ⟨h3, by omega⟩]; rfl
        · rw [if_neg (by omega), if_neg (by omega)]
    · rw [if_neg h2]
      have e2 : (d.state == 2) = false := by simp [h2]
      rw [e2]
      show _ = (d.flows.map _)[j]?
      rw [List.getElem?_map]
      cases d.flows[j]? with
      | none => rfl
      | some z => rfl
  have hst : d.cancS.state = 0 ∧ d.cancS.ts = 0 ∧ d.cancS.tc = 0 ∧ d.cancS.tf = ByteArray.empty ∧ d.cancS.ta = 0 ∧ d.cancS.tp = 0 ∧ d.cancS.acts = d.acts ∧ d.cancS.offers = d.offers ∧ d.cancS.timed = d.timed ∧ d.cancS.latest = d.latest ∧ d.cancS.fmts = d.fmts := by
    unfold DSt.cancS
    split <;> exact ⟨rfl, rfl, rfl, rfl, rfl, rfl, rfl, rfl, rfl, rfl, rfl⟩
  obtain ⟨s1, s2, s3, s4, s5, s6, s7, s8, s9, s10, s11⟩ := hst
  exact ⟨s1.symm, s3.symm, s2.symm, by rw [s7]; exact h.acts, s4.symm, s5.symm, s6.symm, by rw [s8]; exact h.nm, by rw [s9]; exact h.tm, by rw [s10]; exact h.la, .inl ⟨s2, s3⟩, fun _ => ⟨s2, s3, s4, s5, s6⟩, fun q => absurd s1 q, .inl s1, by rw [s11]; exact h.fm, h.fmF, h.fmn, hr, hq⟩
theorem rd_canc_no (h : RD w F d x rs) (h0 : d.state = 0) : RD w F d.cancS x rs := by
  have hs : d.cancS = d.endS := by unfold DSt.cancS; rw [if_neg (by omega)]
  obtain ⟨o1, o2, o3, o4, o5⟩ := h.off h0
  rw [hs]
  exact ⟨by rw [h.ph, h0]; rfl, by rw [h.cl, o2]; rfl, by rw [h.tg, o1]; rfl, h.acts, by rw [h.f, o3]; rfl, by rw [h.a, o4]; rfl, by rw [h.p, o5]; rfl, h.nm, h.tm, h.la, .inl ⟨rfl, rfl⟩, fun _ => ⟨rfl, rfl, rfl, rfl, rfl⟩, fun q => absurd rfl q, .inl rfl, h.fm, h.fmF, h.fmn, h.row, h.qs⟩
def MD.cancD (x : MD) : List Dv := if x.ph = 1 then x.left else []
theorem rd_cancD (h : RD w F d x rs) : x.cancD = d.cancD := by
  unfold MD.cancD DSt.cancD MD.left DSt.leftD
  rw [h.ph, h.cl, h.tg]
/-! ### Drop -/
theorem rd_drop (h : RD w F d x rs) (h1 : d.state = 1) (h2 : d.dropB = true) : RD w F d.dropS { x with ph := 2 } rs := by
  unfold DSt.dropS
  rw [if_pos h1, if_pos h2]
  exact { h with ph := rfl, off := fun q => absurd (show (2 : Int) = 0 from q) (by decide), fst := fun _ => h.fst (by omega), st := .inr (.inr rfl) }
def MD.dropB (x : MD) : Bool := decide (x.ph = 1) && (!decide (x.tg = 0) && (!decide (x.f = ByteArray.empty) && !decide (x.act = 0)))
theorem rd_dropB (h : RD w F d x rs) : x.dropB = d.dropB := by
  unfold MD.dropB DSt.dropB
  rw [h.ph, h.tg, h.f, rd_act h]
  by_cases h2 : d.ts = 0
  · have : d.act = 0 := by unfold DSt.act; rw [if_pos (.inr h2)]
    rw [decide_eq_true h2, decide_eq_true this]
    cases decide (d.state = 1) <;> cases decide (d.tf = ByteArray.empty) <;> rfl
  · rw [decide_eq_false h2]
    rfl
/-! ### Receive -/
def MD.rcvE (x : MD) (fs : List ByteArray) (client : Int) (f : ByteArray) (win : Int) : Int :=
  if x.acc 2 client ≠ 0 then x.acc 2 client else if hasS fs f = false then 8 else if win < 1 ∨ 65536 < win then 6 else 0
theorem rd_rcvE (h : RD w F d x rs) (client : Int) (f : ByteArray) (win : Int) : x.rcvE d.fmts client f win = d.rcvE client f win := by
  unfold MD.rcvE DSt.rcvE
  rw [rd_acc h]
theorem rd_rcv (h : RD w F d x rs) {client win : Int} {f : ByteArray} (h0 : d.rcvE client f win = 0) (pb : Nat) (Rp : Nat → Prop) {PA : Option Addr} {pc : Nat} (hr : PRow w F PA (x.pn + 1) (rs ++ [⟨PSt.new win, none, 0⟩])) :
    RD w F { d with flows := d.flows ++ [⟨pb, Rp, PSt.new win⟩] } { x with PA := PA, pn := x.pn + 1, pc := pc } (rs ++ [⟨PSt.new win, none, 0⟩]) :=
  { h with row := hr, qs := by rw [List.map_append, List.map_append, h.qs]; rfl }
/-! ### Grant -/
theorem rd_grant (h : RD w F d x rs) {k : Nat} {z : DFlow} (hz : d.flows[k]? = some z) {z' : RPp} (hq : z'.q = z.q.grant 1) {PA : Option Addr} {pc : Nat} (hr : PRow w F PA x.pn (rs.set k z')) :
    RD w F { d with flows := d.flows.set k { z with q := z.q.grant 1 } } { x with PA := PA, pc := pc } (rs.set k z') :=
  { h with
    row := hr
    qs := by
      rw [List.map_set, List.map_set, h.qs, hq] }
theorem rd_pipe (h : RD w F d x rs) {k : Nat} {z : DFlow} (hz : d.flows[k]? = some z) : ∃ y, rs[k]? = some y ∧ y.q = z.q := by
  have h1 := congrArg (fun l => l[k]?) h.qs
  simp only [List.getElem?_map, hz, Option.map_some] at h1
  cases hy : rs[k]? with
  | none => rw [hy] at h1; cases h1
  | some y => rw [hy] at h1; exact ⟨y, rfl, by simpa using h1⟩
end
end Go.Proofs.Yteolilggeaffaaa
