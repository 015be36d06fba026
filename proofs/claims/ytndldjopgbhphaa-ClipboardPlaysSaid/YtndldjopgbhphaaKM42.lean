/- The reference's clipboard beside the program's: the relation, and that each call keeps it. No walk. -/
import Derived.Test.YtndldjopgbhphaaSes
import Derived.Test.YtndldjopgbhphaaPk31
import Derived.Test.YtndldjopgbhphaaPk35
set_option linter.unusedVariables false
set_option linter.unusedSimpArgs false
set_option maxRecDepth 100000
namespace Go.Proofs.Ytndldjopgbhphaa
open Go.RowKit

/-- One of the reference's pipes. -/
structure RPp where
  q : PSt
  A : Option Addr
  cap : Nat
def RPp.cells (z : RPp) : List Value := [.int .i64 z.q.win, .int .i64 z.q.cr, .slice z.A 0 z.cap, .bool (z.q.cl && !z.q.cn), .bool z.q.cn]
def RPp.ok (z : RPp) : Prop := z.q.ok ∧ z.q.bs = [] ∧ z.cap ≤ maxLen
/-- One of the reference's transfers. -/
structure KFl where
  so : Int
  re : Int
  z : RPp
def KFl.cells (x : KFl) : List Value := [.int .i64 x.so, .int .i64 x.re, .int .i64 x.z.q.win, .int .i64 x.z.q.cr, .slice x.z.A 0 x.z.cap, .bool (x.z.q.cl && !x.z.q.cn), .bool x.z.q.cn]
theorem KFl.len (x : KFl) : x.cells.length = 7 := rfl
def FarA (F : Nat → Prop) (A : Option Addr) (n : Nat) : Prop := ∀ g o, A = some ⟨g, o, none⟩ → 0 < n → ¬ F g
/-- A row of transfers, outside F. -/
def KRow (w : World) (F : Nat → Prop) (A : Option Addr) (n : Nat) (rs : List KFl) : Prop :=
  rs.length = n ∧ (∀ x ∈ rs, x.z.ok) ∧ (0 < n → ∃ g, A = some ⟨g, 0, none⟩ ∧ ¬ F g ∧ g < w.heap.size ∧ ∀ i x, rs[i]? = some x → ∀ j u, x.cells[j]? = some u → w.cell? ⟨g, i * 7 + j, none⟩ = some u)
section
variable {w w' : World} {F F' S : Nat → Prop} {A : Option Addr} {n : Nat} {rs : List KFl}
theorem KRow.own (h : KRow w F A n rs) (k : Own F F' w w') : KRow w' F' A n rs := by
  refine ⟨h.1, h.2.1, fun hn => ?_⟩
  obtain ⟨g, e, hF, hg, hc⟩ := h.2.2 hn
  exact ⟨g, e, k.not hg hF, Nat.lt_of_lt_of_le hg k.size, fun i z hz j u hu => k.chg.cell (hc i z hz j u hu) hF⟩
theorem KRow.same (h : KRow w F A n rs) (k : Same w w') : KRow w' F A n rs := by
  refine ⟨h.1, h.2.1, fun hn => ?_⟩
  obtain ⟨g, e, hF, hg, hc⟩ := h.2.2 hn
  exact ⟨g, e, hF, Nat.lt_of_lt_of_le hg k.size, fun i z hz j u hu => k.cell (hc i z hz j u hu) (fun q => q)⟩
theorem KRow.weak (h : KRow w F A n rs) (k : ∀ x, F' x → F x) : KRow w F' A n rs := by
  refine ⟨h.1, h.2.1, fun hn => ?_⟩
  obtain ⟨g, e, hF, hg, hc⟩ := h.2.2 hn
  exact ⟨g, e, fun q => hF (k g q), hg, hc⟩
theorem KRow.chgF (h : KRow w F A n rs) (k : Chg S w w') (hS : ∀ x, S x → F x) : KRow w' F A n rs := by
  refine ⟨h.1, h.2.1, fun hn => ?_⟩
  obtain ⟨g, e, hF, hg, hc⟩ := h.2.2 hn
  exact ⟨g, e, hF, Nat.lt_of_lt_of_le hg k.size, fun i z hz j u hu => k.cell (hc i z hz j u hu) (fun q => hF (hS g q))⟩
theorem KRow.nil (w : World) (F : Nat → Prop) : KRow w F none 0 [] := ⟨rfl, fun z hz => by simp at hz, fun h => absurd h (by omega)⟩
theorem krows_len (rs : List KFl) : (rs.flatMap KFl.cells).length = rs.length * 7 := by
  induction rs with
  | nil => rfl
  | cons z rs ih => simp only [List.flatMap_cons, List.length_append, ih, KFl.len, List.length_cons]; omega
theorem krows_one (rs : List KFl) : ∀ u ∈ rs.flatMap KFl.cells, u.oneCell' = true := by
  intro u hu
  obtain ⟨z, _, hz⟩ := List.mem_flatMap.1 hu
  simp [KFl.cells] at hz
  rcases hz with rfl | rfl | rfl | rfl | rfl | rfl | rfl <;> rfl
theorem KRow.src (h : KRow w F A n rs) (hn : 0 < n) : ∃ b o, A = some ⟨b, o, none⟩ ∧ ∀ j u, (rs.flatMap KFl.cells)[j]? = some u → w.cell? ⟨b, o + j, none⟩ = some u := by
  obtain ⟨g, e, _, _, hc⟩ := h.2.2 hn
  refine ⟨g, 0, e, fun j u hj => ?_⟩
  have hjl := (List.getElem?_eq_some_iff.1 hj).1
  rw [krows_len] at hjl
  have hi : j / 7 < rs.length := by omega
  have hx : rs[j / 7]? = some rs[j / 7] := List.getElem?_eq_getElem hi
  have h1 := flat_get KFl.cells 7 KFl.len rs (j / 7) (j % 7) _ hx (by omega)
  have hjj : j / 7 * 7 + j % 7 = j := by omega
  rw [hjj, hj] at h1
  have := hc (j / 7) _ hx (j % 7) u h1.symm
  rw [hjj] at this
  rw [Nat.zero_add]
  exact this
theorem KRow.of_own {base : Nat} {v : Value} (h : w.ownsRow base 132 7 v n (rs.flatMap KFl.cells)) (hl : rs.length = n) (hz : ∀ x ∈ rs, x.z.ok) (hF : ∀ x, F x → x < base) : ∃ A cap, v = .slice A n cap ∧ n ≤ cap ∧ KRow w F A n rs := by
  rcases h.2 with ⟨rfl, rfl⟩ | ⟨g, cap, cur, rfl, hb, hg, hnc, hcm, hcs, htake⟩
  · obtain rfl : rs = [] := List.eq_nil_of_length_eq_zero hl
    exact ⟨none, 0, rfl, Nat.le_refl _, KRow.nil w F⟩
  · refine ⟨_, cap, rfl, hnc, hl, hz, fun _ => ⟨g, rfl, fun q => by have := hF g q; omega, lt_of_at hg, fun i x hx j v hv => ?_⟩⟩
    have hj : j < 7 := by have := (List.getElem?_eq_some_iff.1 hv).1; rw [KFl.len] at this; exact this
    have h1 := flat_get KFl.cells 7 KFl.len rs i j x hx hj
    have h2 := h.cells (g := g) rfl (i * 7 + j) v (by rw [h1]; exact hv)
    rw [add_plain, Nat.zero_add] at h2
    exact h2
end
/-- The reference's log beside the program's. -/
structure RL (w : World) (F : Nat → Prop) (L : SLog) (N : Nat) (A : Option Addr) (n : Nat) (l : List Ent) : Prop where
  rel : RelR L N l
  at_ : SlotsAt w 0 A n l
  far : FarA F A n
theorem SlotsAt.chgA {S : Nat → Prop} {w w' : World} {base : Nat} {A : Option Addr} {n : Nat} {l : List Ent} (h : SlotsAt w base A n l) (k : Chg S w w') (hs : FarA S A n) : SlotsAt w' base A n l := by
  refine ⟨h.1, fun hl => ?_⟩
  obtain ⟨b, hA, hb, hlt, ⟨cur, fr, ht⟩, hc⟩ := h.2 hl
  have hS := hs b 0 hA hl
  exact ⟨b, hA, hb, Nat.lt_of_lt_of_le hlt k.size, ⟨cur, fr, k.at_ ht hS⟩, fun i x hx j v hv => k.cell (hc i x hx j v hv) hS⟩
section
variable {w w' : World} {F F' : Nat → Prop} {L : SLog} {N : Nat} {A : Option Addr} {n : Nat} {l : List Ent}
theorem RL.own (h : RL w F L N A n l) (k : Own F F' w w') : RL w' F' L N A n l := by
  refine ⟨h.rel, h.at_.chgA k.chg h.far, fun g o hA hn => ?_⟩
  obtain ⟨b, hA2, _, hlt, _⟩ := h.at_.2 hn
  rw [hA] at hA2
  cases hA2
  exact k.not hlt (h.far _ _ hA hn)
theorem RL.same (h : RL w F L N A n l) (k : Same w w') : RL w' F L N A n l :=
  ⟨h.rel, h.at_.chgA k (fun _ _ _ _ q => q), h.far⟩
theorem RL.weak (h : RL w F L N A n l) (k : ∀ y, F' y → F y) : RL w F' L N A n l := ⟨h.rel, h.at_, fun g o hA hn q => h.far g o hA hn (k g q)⟩
theorem RL.ln (h : RL w F L N A n l) : n ≤ N := by have := h.at_.1; have := h.rel.len; omega
theorem RL.kinds (h : RL w F L N A n l) : ∀ e ∈ l, 0 ≤ e.k ∧ e.k ≤ 62 := fun e he => ⟨(h.rel.mem e he).2.2.2.2.2.1, (h.rel.mem e he).2.2.2.2.2.2.1⟩
theorem RL.issued {LA' : Option Addr} {ln' base : Nat} {c f k : Int} (h : RelR L N l) (hN : N ≤ 1000) (hg : good c f k = true) (hc : c ≤ 9223372036854775807) (hf : f ≤ 9223372036854775807) (hs : SlotsAt w base LA' ln' (rIssued N l c f k)) (hF : ∀ y, F y → y < base) : RL w F (L.issue c f k) (N + 1) LA' ln' (rIssued N l c f k) := by
  have e : L.issue c f k = L.issued c f k := if_pos hg
  rw [e]
  refine ⟨h.issued (by omega) hg hc hf, ⟨hs.1, fun q => ?_⟩, fun g o hA hn q => ?_⟩
  · obtain ⟨b, e1, _, e3, e4, e5⟩ := hs.2 q
    exact ⟨b, e1, Nat.zero_le _, e3, e4, e5⟩
  · obtain ⟨b, e1, e2, _⟩ := hs.2 hn
    rw [hA] at e1
    cases e1
    have := hF g q
    omega
theorem RL.new (w : World) (F : Nat → Prop) : RL w F SLog.new 0 none 0 [] := ⟨RelR.new, ⟨rfl, fun q => absurd q (by decide)⟩, fun _ _ _ q => absurd q (by decide)⟩
theorem rel_issueN (h : RelR L N l) (hN : N ≤ 1000) {c f k : Int} (hg : good c f k = true) : L.issueN c f k = (N : Int) + 1 := by
  unfold SLog.issueN
  rw [if_pos hg, h.last]
  unfold nxt
  rw [if_neg (by omega)]
end
/-- The reference's clipboard. -/
structure KC where
  ho : Int
  wa : Int
  A : Option Addr
  n : Nat
  cap : Nat
  acts : Int
  us : Bool
  la : Int
  nu : Int
  PA : Option Addr
  pn : Nat
  pc : Nat
def KC.cells (x : KC) : List Value := [.bool true, .int .i64 x.ho, .int .i64 x.wa, .slice x.A x.n x.cap, .int .i64 x.acts, .bool x.us, .int .u32 x.la, .int .i64 x.nu, .slice x.PA x.pn x.pc]
def KC.zero : KC := ⟨0, 0, none, 0, 0, 0, false, 0, 0, none, 0, 0⟩
/-- The two clipboards, x and c, say the same; what x points at lies outside F. -/
structure RK (w : World) (F : Nat → Prop) (c : CSt) (x : KC) (rs : List KFl) : Prop where
  ho : x.ho = c.owner
  wa : x.wa = c.focus
  us : x.us = c.used
  la : x.la = c.last
  nu : x.nu = (c.offers : Int)
  own0 : c.owner = 0 → c.fmts = []
  pos : 0 ≤ c.owner ∧ 0 ≤ c.focus
  fm : StrsAt w x.A x.n c.fmts
  fmF : FarA F x.A x.n
  fmn : x.n ≤ 1000
  row : KRow w F x.PA x.pn rs
section
variable {w w' : World} {F F' : Nat → Prop} {c : CSt} {x : KC} {rs : List KFl} {L : SLog} {N : Nat} {l : List Ent}
theorem RK.own (h : RK w F c x rs) (k : Own F F' w w') : RK w' F' c x rs :=
  { h with
    fm := h.fm.chg2 k.chg (fun hn b o hA => h.fmF b o hA hn)
    fmF := fun g o hA hn => by
      obtain ⟨b, o', hA2, hlt, _⟩ := h.fm.2 hn
      have hA3 := hA
      rw [hA] at hA2
      cases hA2
      exact k.not hlt (h.fmF _ _ hA3 hn)
    row := h.row.own k }
theorem RK.same (h : RK w F c x rs) (k : Same w w') : RK w' F c x rs := { h with fm := h.fm.same k, row := h.row.same k }
theorem RK.weak (h : RK w F c x rs) (k : ∀ y, F' y → F y) : RK w F' c x rs := { h with fmF := fun g o hA hn q => h.fmF g o hA hn (k g q), row := h.row.weak k }
theorem rk_new (w : World) (F : Nat → Prop) : RK w F CSt.new KC.zero [] :=
  ⟨rfl, rfl, rfl, rfl, rfl, fun _ => rfl, ⟨Int.le_refl _, Int.le_refl _⟩, ⟨rfl, fun q => absurd q (by decide)⟩, (fun _ _ _ q => absurd q (by decide)), by decide, KRow.nil w F⟩
def KC.validB (x : KC) (l : List Ent) (client n : Int) : Bool := (rCheck l n client 2576 == 0) && (!x.us || newerB n x.la)
theorem rk_valid (h : RK w F c x rs) (hl : RelR L N l) (client n : Int) : x.validB l client n = c.validB L client n := by
  unfold KC.validB CSt.validB
  rw [hl.check, h.us, h.la]
def KC.setE (x : KC) (l : List Ent) (client : Int) (fs : List ByteArray) (acts n : Int) : Int :=
  if client < 1 then 6 else if checkV fs acts ≠ 0 then checkV fs acts else if x.validB l client n then 0 else 13
def KC.set (x : KC) (client n acts : Int) (A : Option Addr) (m cap : Nat) : KC := { x with ho := client, us := true, la := n, A := A, n := m, cap := cap, acts := acts }
theorem rk_setE (h : RK w F c x rs) (hl : RelR L N l) (client : Int) (fs : List ByteArray) (acts n : Int) : x.setE l client fs acts n = c.setE L client fs acts n := by
  unfold KC.setE CSt.setE
  rw [rk_valid h hl]
theorem rk_set (h : RK w F c x rs) {client acts n : Int} {fs : List ByteArray} (h0 : c.setE L client fs acts n = 0) {A : Option Addr} {m cap : Nat} (hs : StrsAt w A m fs) (hf : FarA F A m) (hm : m ≤ 1000) : RK w F (c.set L client fs acts n) (x.set client n acts A m cap) rs := by
  have h1 : 1 ≤ client := by
    unfold CSt.setE at h0
    split at h0
    · exact absurd h0 (by decide)
    · omega
  unfold CSt.set
  rw [if_pos h0]
  exact { h with ho := rfl, us := rfl, la := rfl, own0 := fun q => by have q2 : client = 0 := q; omega, pos := ⟨by show 0 ≤ client; omega, h.pos.2⟩, fm := hs, fmF := hf, fmn := hm }
theorem rk_set_no {client acts n : Int} {fs : List ByteArray} (h0 : c.setE L client fs acts n ≠ 0) : c.set L client fs acts n = c := by unfold CSt.set; rw [if_neg h0]
def KC.clrE (x : KC) (l : List Ent) (client n : Int) : Int := if x.ho = 0 ∨ x.ho ≠ client then 17 else if x.validB l client n then 0 else 13
def KC.clear (x : KC) (n : Int) : KC := { x with ho := 0, us := true, la := n, A := none, n := 0, cap := 0, acts := 0 }
theorem rk_clrE (h : RK w F c x rs) (hl : RelR L N l) (client n : Int) : x.clrE l client n = c.clrE L client n := by
  unfold KC.clrE CSt.clrE
  rw [rk_valid h hl, h.ho]
  have := h.pos.1
  by_cases h1 : c.owner = 0 ∨ c.owner ≠ client
  · rw [if_pos h1, if_pos (show client < 1 ∨ client ≠ c.owner by omega)]
  · rw [if_neg h1, if_neg (show ¬ (client < 1 ∨ client ≠ c.owner) by omega)]
theorem rk_clear (h : RK w F c x rs) {client n : Int} (h0 : c.clrE L client n = 0) : RK w F (c.clear L client n) (x.clear n) rs := by
  unfold CSt.clear
  rw [if_pos h0]
  exact { h with ho := rfl, us := rfl, la := rfl, own0 := fun _ => rfl, pos := ⟨Int.le_refl _, h.pos.2⟩, fm := ⟨rfl, fun q => absurd q (by show ¬ 0 < 0; omega)⟩, fmF := fun _ _ _ q => absurd q (by show ¬ 0 < 0; omega), fmn := Nat.zero_le _ }
theorem rk_clear_no {client n : Int} (h0 : c.clrE L client n ≠ 0) : c.clear L client n = c := by unfold CSt.clear; rw [if_neg h0]
def KC.foc (x : KC) (client : Int) : KC := { x with wa := max 0 client, nu := if client < 1 ∨ x.ho = 0 then x.nu else x.nu + 1 }
def KC.code (x : KC) : Int := if x.ho = 0 then 0 else x.nu + 1
theorem rk_foc (h : RK w F c x rs) (client : Int) : RK w F (c.foc client) (x.foc client) rs ∧ x.code = c.focCode := by
  refine ⟨{ h with wa := ?_, nu := ?_, pos := ⟨h.pos.1, ?_⟩ }, ?_⟩
  · show max 0 client = max client 0; omega
  · show (if client < 1 ∨ x.ho = 0 then x.nu else x.nu + 1) = ((if client < 1 ∨ c.owner = 0 then c.offers else c.offers + 1 : Nat) : Int)
    rw [h.ho, h.nu]
    split <;> simp
  · show 0 ≤ max client 0; omega
  · unfold KC.code CSt.focCode
    rw [h.ho, h.nu]
def KC.rcvE (x : KC) (fs : List ByteArray) (client : Int) (f : ByteArray) (win : Int) : Int :=
  if client < 1 ∨ x.wa ≠ client then 17 else if x.ho = 0 ∨ hasS fs f = false then 8 else if win < 1 ∨ 65536 < win then 6 else 0
theorem rk_rcvE (h : RK w F c x rs) (client : Int) (f : ByteArray) (win : Int) : x.rcvE c.fmts client f win = c.rcvE client f win := by
  unfold KC.rcvE CSt.rcvE
  rw [h.wa, h.ho]
  by_cases h1 : client < 1 ∨ c.focus ≠ client
  · rw [if_pos h1, if_pos (show client < 1 ∨ client ≠ c.focus by omega)]
  · rw [if_neg h1, if_neg (show ¬ (client < 1 ∨ client ≠ c.focus) by omega)]
theorem rk_rcv (h : RK w F c x rs) (fl : List CFlow) {PA : Option Addr} {pn pc : Nat} {rs' : List KFl} (hr : KRow w F PA pn rs') : RK w F { c with flows := fl } { x with PA := PA, pn := pn, pc := pc } rs' :=
  { h with row := hr }
def KC.gone (x : KC) (client : Int) (PA : Option Addr) (pc : Nat) : KC :=
  { x with PA := PA, pc := pc, ho := if x.ho = client then 0 else x.ho, A := if x.ho = client then none else x.A, n := if x.ho = client then 0 else x.n, cap := if x.ho = client then 0 else x.cap, acts := if x.ho = client then 0 else x.acts, wa := if x.wa = client then 0 else x.wa }
theorem rk_gone (h : RK w F c x rs) {client : Int} (h1 : ¬ client < 1) {PA : Option Addr} {pc : Nat} {rs' : List KFl} (hr : KRow w F PA x.pn rs') : RK w F (c.gone client) (x.gone client PA pc) rs' := by
  unfold CSt.gone KC.gone
  rw [if_neg h1, h.ho, h.wa]
  have hp := h.pos
  by_cases h2 : c.owner = client
  · simp only [if_pos h2]
    refine { h with ho := rfl, wa := rfl, own0 := fun _ => rfl, pos := ⟨Int.le_refl _, ?_⟩, fm := ⟨rfl, fun q => absurd q (by show ¬ 0 < 0; omega)⟩, fmF := fun _ _ _ q => absurd q (by show ¬ 0 < 0; omega), fmn := Nat.zero_le _, row := hr }
    show 0 ≤ (if c.focus = client then 0 else c.focus)
    split <;> omega
  · simp only [if_neg h2]
    refine { h with ho := rfl, wa := rfl, own0 := h.own0, pos := ⟨hp.1, ?_⟩, row := hr }
    show 0 ≤ (if c.focus = client then 0 else c.focus)
    split <;> omega
theorem rk_gone_no {client : Int} (h1 : client < 1) : c.gone client = c := by unfold CSt.gone; rw [if_pos h1]
/-- What a client sees. -/
theorem rk_sees (h : RK w F c x rs) (client : Int) : c.sees client = if client < 1 ∨ x.wa ≠ client ∨ x.ho = 0 then [] else c.fmts := by
  unfold CSt.sees
  rw [h.wa, h.ho]
  by_cases h1 : client < 1 ∨ client ≠ c.focus
  · rw [if_pos h1, if_pos (by omega)]
  · rw [if_neg h1]
    by_cases h2 : c.owner = 0
    · rw [if_pos (.inr (.inr h2)), h.own0 h2]
    · rw [if_neg (by omega)]
end
end Go.Proofs.Ytndldjopgbhphaa
