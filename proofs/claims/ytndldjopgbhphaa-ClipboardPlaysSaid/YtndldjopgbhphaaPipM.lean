/- The pipe with credit: its pure state, what each call makes of it, and how it lies in memory. -/
import Derived.Test.YtndldjopgbhphaaComm
set_option linter.unusedVariables false
set_option linter.unusedSimpArgs false
set_option maxRecDepth 100000
namespace Go.Proofs.Ytndldjopgbhphaa
open Go.RowKit

structure PSt where
  win : Int
  cr : Int
  bs : List Int
  cl : Bool
  cn : Bool
structure PSt.ok (q : PSt) : Prop where
  w0 : 1 ≤ q.win
  w1 : q.win ≤ 65536
  c0 : 0 ≤ q.cr
  sum : q.cr + q.bs.length ≤ q.win
  cn0 : q.cn = true → q.cr = 0 ∧ q.bs = []
  cl0 : q.cl = true → q.cr = 0
def PSt.new (n : Int) : PSt := ⟨n, 0, [], false, false⟩
def PSt.over (q : PSt) : Bool := q.cl || q.cn
def PSt.wrE (q : PSt) : Int := if q.over then 20 else 0
def PSt.wrN (q : PSt) (l : Nat) : Nat := if q.over then 0 else min l q.cr.toNat
def PSt.write (q : PSt) (b : List Int) : PSt := { q with cr := q.cr - q.wrN b.length, bs := q.bs ++ b.take (q.wrN b.length) }
def PSt.rdE (q : PSt) (m : Int) : Int := if m < 0 then 6 else if q.cn || (q.cl && q.bs.isEmpty) then 20 else 0
def PSt.rdN (q : PSt) (m : Int) : Nat := if q.rdE m = 0 then min m.toNat q.bs.length else 0
def PSt.rd (q : PSt) (m : Int) : List Int := q.bs.take (q.rdN m)
def PSt.read (q : PSt) (m : Int) : PSt := { q with bs := q.bs.drop (q.rdN m) }
def PSt.grE (q : PSt) (n : Int) : Int := if n < 0 then 6 else if q.over then 20 else if n > q.win - q.cr - q.bs.length then 18 else 0
def PSt.grant (q : PSt) (n : Int) : PSt := if q.grE n = 0 then { q with cr := q.cr + n } else q
def PSt.clE (q : PSt) : Int := if q.over then 20 else 0
def PSt.close (q : PSt) : PSt := if q.over then q else { q with cl := true, cr := 0 }
def PSt.done (q : PSt) : Bool := q.cl && q.bs.isEmpty && !q.cn
def PSt.caE (q : PSt) : Int := if q.cn || q.done then 20 else 0
def PSt.cancel (q : PSt) : PSt := if q.cn || q.done then q else { q with cn := true, cr := 0, bs := [] }

theorem PSt.new_ok {n : Int} (h0 : 1 ≤ n) (h1 : n ≤ 65536) : (PSt.new n).ok :=
  ⟨h0, h1, Int.le_refl _, by simp [PSt.new]; omega, fun h => by simp [PSt.new] at h, fun h => by simp [PSt.new] at h⟩
theorem PSt.wrN_le (q : PSt) (l : Nat) : q.wrN l ≤ l ∧ q.wrN l ≤ q.cr.toNat := by unfold PSt.wrN; split <;> omega
theorem PSt.write_ok {q : PSt} (h : q.ok) (b : List Int) : (q.write b).ok := by
  have h1 := q.wrN_le b.length
  have h2 := h.sum
  have h3 := h.c0
  refine ⟨h.w0, h.w1, ?_, ?_, fun hc => ?_, fun hc => ?_⟩
  · show 0 ≤ q.cr - _; omega
  · show q.cr - _ + ((q.bs ++ b.take (q.wrN b.length)).length : Int) ≤ q.win
    simp only [List.length_append, List.length_take]; omega
  · have := h.cn0 hc
    have hov : q.over = true := by unfold PSt.over; rw [show q.cn = true from hc]; simp
    have hn : q.wrN b.length = 0 := by unfold PSt.wrN; rw [if_pos hov]
    constructor
    · show q.cr - _ = 0; rw [hn]; omega
    · show q.bs ++ _ = _; rw [hn]; simp [this.2]
  · have := h.cl0 hc
    have hov : q.over = true := by unfold PSt.over; rw [show q.cl = true from hc]; simp
    have hn : q.wrN b.length = 0 := by unfold PSt.wrN; rw [if_pos hov]
    show q.cr - _ = 0; rw [hn]; omega
theorem PSt.rdN_le (q : PSt) (m : Int) : q.rdN m ≤ q.bs.length := by unfold PSt.rdN; split <;> omega
theorem PSt.read_ok {q : PSt} (h : q.ok) (m : Int) : (q.read m).ok := by
  have h2 := h.sum
  refine ⟨h.w0, h.w1, h.c0, ?_, fun hc => ?_, h.cl0⟩
  · show q.cr + ((q.bs.drop _).length : Int) ≤ q.win
    simp only [List.length_drop]; omega
  · have := h.cn0 hc
    exact ⟨this.1, by show q.bs.drop _ = _; rw [this.2]; simp⟩
theorem PSt.grE_bd {q : PSt} {n : Int} (h : q.grE n = 0) : 0 ≤ n ∧ q.over = false ∧ n ≤ q.win - q.cr - q.bs.length := by
  unfold PSt.grE at h
  split at h
  · simp at h
  · split at h
    · simp at h
    · split at h
      · simp at h
      · rename_i a b c; exact ⟨by omega, by simpa using b, by omega⟩
theorem PSt.grant_ok {q : PSt} (h : q.ok) (n : Int) : (q.grant n).ok := by
  unfold PSt.grant
  split
  · rename_i hz
    obtain ⟨h1, h2, h3⟩ := PSt.grE_bd hz
    have h4 := h.c0
    have h5 := h.w1
    unfold PSt.over at h2
    simp only [Bool.or_eq_false_iff] at h2
    exact ⟨h.w0, h.w1, by show 0 ≤ q.cr + n; omega, by show q.cr + n + (q.bs.length : Int) ≤ q.win; omega, fun hc => by rw [show q.cn = true from hc] at h2; simp at h2, fun hc => by rw [show q.cl = true from hc] at h2; simp at h2⟩
  · exact h
theorem PSt.close_ok {q : PSt} (h : q.ok) : q.close.ok := by
  unfold PSt.close
  split
  · exact h
  · rename_i ho
    have h2 := h.sum
    have h3 := h.c0
    unfold PSt.over at ho
    simp only [Bool.or_eq_true, not_or] at ho
    exact ⟨h.w0, h.w1, Int.le_refl _, by show 0 + (q.bs.length : Int) ≤ q.win; omega, fun hc => absurd hc ho.2, fun _ => rfl⟩
theorem PSt.cancel_ok {q : PSt} (h : q.ok) : q.cancel.ok := by
  unfold PSt.cancel
  split
  · exact h
  · exact ⟨h.w0, h.w1, Int.le_refl _, by have := h.w0; simp; omega, fun _ => ⟨rfl, rfl⟩, fun _ => rfl⟩

/-! ### Slices of bytes -/
/-- The slice (A, n, cap) reads as xs; what it reads lies in a block with R. -/
def BytesAt (w : World) (R : Nat → Prop) (A : Option Addr) (n cap : Nat) (xs : List Int) : Prop :=
  xs.length = n ∧ n ≤ cap ∧ cap ≤ maxLen ∧ (0 < n → ∃ b o, A = some ⟨b, o, none⟩ ∧ R b ∧ b < w.heap.size ∧ ∀ j x, xs[j]? = some x → w.cell? ⟨b, o + j, none⟩ = some (.int .u8 x))
section
variable {w w' : World} {R R' S : Nat → Prop} {A : Option Addr} {n cap : Nat} {xs : List Int}
theorem BytesAt.nil (w : World) (R : Nat → Prop) : BytesAt w R none 0 0 [] := ⟨rfl, Nat.le_refl _, by unfold maxLen; omega, fun h => absurd h (by omega)⟩
theorem BytesAt.chg (h : BytesAt w R A n cap xs) (k : Chg S w w') (hs : ∀ b, R b → ¬ S b) : BytesAt w' R A n cap xs := by
  refine ⟨h.1, h.2.1, h.2.2.1, fun hn => ?_⟩
  obtain ⟨b, o, hA, hb, hlt, hc⟩ := h.2.2.2 hn
  exact ⟨b, o, hA, hb, Nat.lt_of_lt_of_le hlt k.size, fun j x hj => k.cell (hc j x hj) (hs b hb)⟩
theorem BytesAt.mono (h : BytesAt w R A n cap xs) (hs : ∀ b, b < w.heap.size → R b → R' b) : BytesAt w R' A n cap xs := by
  refine ⟨h.1, h.2.1, h.2.2.1, fun hn => ?_⟩
  obtain ⟨b, o, hA, hb, hlt, hc⟩ := h.2.2.2 hn
  exact ⟨b, o, hA, hs b hlt hb, hlt, hc⟩
theorem BytesAt.any (h : BytesAt w R A n cap xs) : BytesAt w (fun x => x < w.heap.size) A n cap xs := h.mono fun _ h _ => h
theorem BytesAt.take (h : BytesAt w R A n cap xs) {k : Nat} (hk : k ≤ n) : BytesAt w R A k cap (xs.take k) := by
  refine ⟨by rw [List.length_take, h.1]; omega, by have := h.2.1; omega, h.2.2.1, fun hn => ?_⟩
  obtain ⟨b, o, hA, hb, hlt, hc⟩ := h.2.2.2 (by omega)
  refine ⟨b, o, hA, hb, hlt, fun j x hj => hc j x ?_⟩
  rw [List.getElem?_take] at hj
  split at hj
  · exact hj
  · cases hj
/-- 's[k:]': where it begins is the walk's own word. -/
theorem BytesAt.drop (h : BytesAt w R A n cap xs) {k : Nat} (hk : k ≤ n) : BytesAt w R (if cap = k then A else A.map (·.add (k * 1))) (n - k) (cap - k) (xs.drop k) := by
  have h1 := h.1
  have h2 := h.2.1
  have h3 := h.2.2.1
  refine ⟨by rw [List.length_drop, h1], by omega, by omega, fun hn => ?_⟩
  obtain ⟨b, o, hA, hb, hlt, hc⟩ := h.2.2.2 (by omega)
  refine ⟨b, o + k, ?_, hb, hlt, fun j x hj => ?_⟩
  · rw [if_neg (by omega), hA]
    simp only [Option.map_some, Option.some.injEq]
    rw [Nat.mul_one, add_plain]
  · rw [List.getElem?_drop] at hj
    rw [Nat.add_assoc]
    exact hc _ x hj
/-- A row of the call's own, as bytes. -/
theorem BytesAt.of_own {base : Nat} {v : Value} {t : TypeId} (h : w.ownsRow base t 1 v n (xs.map (Value.int .u8))) : ∃ A cap, v = .slice A n cap ∧ BytesAt w (fun x => base ≤ x) A n cap xs := by
  have hl : xs.length = n := by have := h.1; simpa using this
  rcases h.2 with ⟨rfl, rfl⟩ | ⟨g, cap, cur, rfl, hb, hg, hc, hm, hs, ht⟩
  · exact ⟨none, 0, rfl, hl, Nat.le_refl _, by unfold maxLen; omega, fun h => absurd h (by omega)⟩
  · refine ⟨_, cap, rfl, hl, hc, hm, fun _ => ⟨g, 0, rfl, hb, lt_of_at hg, fun j x hj => ?_⟩⟩
    have := h.cells (g := g) rfl j (.int .u8 x) (by rw [List.getElem?_map, hj]; rfl)
    rw [add_plain] at this
    exact this
end

/-! ### The pipe in memory -/
def pcells (q : PSt) (ch : Option Nat) (hv : Value) : List Value := [.int .i64 q.win, .int .i64 q.cr, .int .i64 q.bs.length, .bool q.cl, .bool q.cn, .chan ch, hv]
/-- What waits in the channel: pieces, none of them empty. -/
def PiecesAt (w : World) (R : Nat → Prop) : List Value → List (List Int) → Prop
  | [], [] => True
  | v :: vs, p :: ps => p ≠ [] ∧ (∃ A n cap, v = .slice A n cap ∧ BytesAt w R A n cap p) ∧ PiecesAt w R vs ps
  | _, _ => False
theorem PiecesAt.imp {w w' : World} {R R' : Nat → Prop} (hi : ∀ A n cap xs, BytesAt w R A n cap xs → BytesAt w' R' A n cap xs) : ∀ {vs : List Value} {ps : List (List Int)}, PiecesAt w R vs ps → PiecesAt w' R' vs ps
  | [], [], _ => trivial
  | v :: vs, p :: ps, ⟨h1, ⟨A, n, cap, hv, hb⟩, h3⟩ => ⟨h1, ⟨A, n, cap, hv, hi A n cap p hb⟩, PiecesAt.imp hi h3⟩
theorem PiecesAt.snoc {w : World} {R : Nat → Prop} {A : Option Addr} {n cap : Nat} {p : List Int} (hp : p ≠ []) (hb : BytesAt w R A n cap p) : ∀ {vs : List Value} {ps : List (List Int)}, PiecesAt w R vs ps → PiecesAt w R (vs ++ [.slice A n cap]) (ps ++ [p])
  | [], [], _ => ⟨hp, ⟨A, n, cap, rfl, hb⟩, trivial⟩
  | _ :: _, _ :: _, ⟨h1, h2, h3⟩ => ⟨h1, h2, PiecesAt.snoc hp hb h3⟩
theorem PiecesAt.length {w : World} {R : Nat → Prop} : ∀ {vs : List Value} {ps : List (List Int)}, PiecesAt w R vs ps → vs.length ≤ ps.flatten.length
  | [], [], _ => Nat.le_refl _
  | _ :: _, p :: _, ⟨h1, _, h3⟩ => by
    have := PiecesAt.length h3
    have hp : 0 < p.length := List.length_pos_iff.2 h1
    simp only [List.length_cons, List.flatten_cons, List.length_append]
    omega

/-- An open pipe, or one that was closed: head hx (the slice hA hn hcap), pieces ps in the channel's block c. -/
structure PipeHd (w : World) (b c : Nat) (R : Nat → Prop) (q : PSt) (hA : Option Addr) (hn hcap : Nat) (hx : List Int) (vs : List Value) (ps : List (List Int)) : Prop where
  ok : q.ok
  ncn : q.cn = false
  lt : ∀ x, R x → x < w.heap.size
  rb : R b
  rc : R c
  at_ : w.heap[b]? = some (.cells (pcells q (some c) (.slice hA hn hcap)).toArray 142 (0, 0))
  ch : ∃ s r, w.heap[c]? = some (.chan q.win.toNat vs.toArray false s r false)
  hd : BytesAt w (fun x => R x ∧ x ≠ b ∧ x ≠ c) hA hn hcap hx
  pieces : PiecesAt w (fun x => R x ∧ x ≠ b ∧ x ≠ c) vs ps
  bs : q.bs = hx ++ ps.flatten

/-- The pipe in block b; all that it is made of lies in R. -/
def PipeAt (w : World) (b : Nat) (R : Nat → Prop) (q : PSt) : Prop :=
  (∃ c hA hn hcap hx vs ps, PipeHd w b c R q hA hn hcap hx vs ps) ∨
  (q.ok ∧ q.cn = true ∧ (∀ x, R x → x < w.heap.size) ∧ R b ∧ w.heap[b]? = some (.cells (pcells q none (.slice none 0 0)).toArray 142 (0, 0)))

section
variable {w w' : World} {b c : Nat} {R S : Nat → Prop} {q : PSt} {hA : Option Addr} {hn hcap : Nat} {hx : List Int} {vs : List Value} {ps : List (List Int)}
theorem PipeHd.bc (h : PipeHd w b c R q hA hn hcap hx vs ps) : b ≠ c := by
  intro e
  have h1 := h.at_
  obtain ⟨s, r, h2⟩ := h.ch
  rw [e, h2] at h1
  cases h1
theorem PipeHd.chg (h : PipeHd w b c R q hA hn hcap hx vs ps) (k : Chg S w w') (hs : ∀ x, R x → ¬ S x) : PipeHd w' b c R q hA hn hcap hx vs ps := by
  obtain ⟨s, r, hc⟩ := h.ch
  exact ⟨h.ok, h.ncn, fun x hx => Nat.lt_of_lt_of_le (h.lt x hx) k.size, h.rb, h.rc, k.at_ h.at_ (hs _ h.rb), ⟨s, r, k.at_ hc (hs _ h.rc)⟩, h.hd.chg k (fun x hx => hs x hx.1),
    h.pieces.imp (fun _ _ _ _ hb => hb.chg k (fun x hx => hs x hx.1)), h.bs⟩
theorem PipeAt.chg (h : PipeAt w b R q) (k : Chg S w w') (hs : ∀ x, R x → ¬ S x) : PipeAt w' b R q := by
  rcases h with ⟨c, hA, hn, hcap, hx, vs, ps, h⟩ | ⟨h1, h2, h3, h4, h5⟩
  · exact .inl ⟨c, hA, hn, hcap, hx, vs, ps, h.chg k hs⟩
  · exact .inr ⟨h1, h2, fun x hx => Nat.lt_of_lt_of_le (h3 x hx) k.size, h4, k.at_ h5 (hs _ h4)⟩
theorem PipeAt.ok (h : PipeAt w b R q) : q.ok := Or.elim h (fun ⟨_, _, _, _, _, _, _, h⟩ => h.ok) (fun h => h.1)
theorem PipeAt.lt (h : PipeAt w b R q) : ∀ x, R x → x < w.heap.size := Or.elim h (fun ⟨_, _, _, _, _, _, _, h⟩ => h.lt) (fun h => h.2.2.1)
theorem PipeAt.rb (h : PipeAt w b R q) : R b := Or.elim h (fun ⟨_, _, _, _, _, _, _, h⟩ => h.rb) (fun h => h.2.2.2.1)
theorem PipeAt.at_ (h : PipeAt w b R q) : ∃ ch hv, w.heap[b]? = some (.cells (pcells q ch hv).toArray 142 (0, 0)) := by
  rcases h with ⟨c, hA, hn, hcap, hx, vs, ps, h⟩ | ⟨_, _, _, _, h5⟩
  · exact ⟨_, _, h.at_⟩
  · exact ⟨_, _, h5⟩
theorem PipeAt.blt (h : PipeAt w b R q) : b < w.heap.size := h.lt b h.rb
theorem PipeAt.c0 (h : PipeAt w b R q) : w.cell? ⟨b, 0, none⟩ = some (.int .i64 q.win) := by obtain ⟨ch, hv, h⟩ := h.at_; rw [cell_at h]; rfl
theorem PipeAt.c1 (h : PipeAt w b R q) : w.cell? ⟨b, 1, none⟩ = some (.int .i64 q.cr) := by obtain ⟨ch, hv, h⟩ := h.at_; rw [cell_at h]; rfl
theorem PipeAt.c2 (h : PipeAt w b R q) : w.cell? ⟨b, 2, none⟩ = some (.int .i64 q.bs.length) := by obtain ⟨ch, hv, h⟩ := h.at_; rw [cell_at h]; rfl
theorem PipeAt.c3 (h : PipeAt w b R q) : w.cell? ⟨b, 3, none⟩ = some (.bool q.cl) := by obtain ⟨ch, hv, h⟩ := h.at_; rw [cell_at h]; rfl
theorem PipeAt.c4 (h : PipeAt w b R q) : w.cell? ⟨b, 4, none⟩ = some (.bool q.cn) := by obtain ⟨ch, hv, h⟩ := h.at_; rw [cell_at h]; rfl
theorem PipeAt.fr (h : PipeAt w b R q) (i : Nat) : w.frozen? ⟨b, i, none⟩ = false := by obtain ⟨ch, hv, h⟩ := h.at_; exact frozen_at h i
/-- Credit and 'closed' are set; the bytes stay. -/
theorem PipeAt.upd (h : PipeAt w b R q) (cr : Int) (cl : Bool) (ok' : PSt.ok { q with cr := cr, cl := cl }) (k : Chg (fun x => x = b) w w')
    (hb : ∀ ch hv, w.heap[b]? = some (.cells (pcells q ch hv).toArray 142 (0, 0)) → w'.heap[b]? = some (.cells (pcells { q with cr := cr, cl := cl } ch hv).toArray 142 (0, 0))) : PipeAt w' b R { q with cr := cr, cl := cl } := by
  rcases h with ⟨c, hA, hn, hcap, hx, vs, ps, h⟩ | ⟨h1, h2, h3, h4, h5⟩
  · obtain ⟨s, r, hc⟩ := h.ch
    exact .inl ⟨c, hA, hn, hcap, hx, vs, ps, ok', h.ncn, fun x hx => Nat.lt_of_lt_of_le (h.lt x hx) k.size, h.rb, h.rc, hb _ _ h.at_, ⟨s, r, k.at_ hc (Ne.symm h.bc)⟩, h.hd.chg k (fun x hx => hx.2.1),
      h.pieces.imp (fun _ _ _ _ hb => hb.chg k (fun x hx => hx.2.1)), h.bs⟩
  · exact .inr ⟨ok', h2, fun x hx => Nat.lt_of_lt_of_le (h3 x hx) k.size, h4, hb _ _ h5⟩
end
end Go.Proofs.Ytndldjopgbhphaa
