/- The walk of package transfer's Read: a loop that fills the head and takes of it. -/
import Derived.Test.YtndldjopgbhphaaPipH
set_option linter.unusedVariables false
set_option linter.unusedSimpArgs false
set_option maxRecDepth 100000
namespace Go.Proofs.Ytndldjopgbhphaa
open Go.RowKit

/-- What Read leaves: the bytes that it read lie in a row that is new. -/
def ReadOut (w : World) (b : Nat) (R : Nat → Prop) (q : PSt) (m : Int) (e : Ending) (w' : World) : Prop :=
  ∃ A n cap, e = .returned (.tuple #[.slice A n cap, .int .i64 (q.rdE m)]) ∧ w'.ownsRow w.heap.size 5 1 (.slice A n cap) n ((q.rd m).map (Value.int .u8)) ∧ PipeAt w' b R (q.read m) ∧ Chg R w w'

theorem readout_none {w : World} {b : Nat} {R : Nat → Prop} {q : PSt} {m : Int} (h : PipeAt w b R q) (v : Int) (he : q.rdE m = v) (hz : q.rdN m = 0) : ReadOut w b R q m (.returned (.tuple #[.slice none 0 0, .int .i64 v])) w := by
  have e1 : q.rd m = [] := by unfold PSt.rd; rw [hz]; simp
  have e2 : q.read m = q := by unfold PSt.read; rw [hz]; simp
  exact ⟨none, 0, 0, by rw [he], by rw [e1]; exact World.ownsRow_nil _ _ _ _, by rw [e2]; exact h, Chg.refl _ _⟩

theorem pread_bad (b : Nat) (w : World) (R : Nat → Prop) (q : PSt) (m : Int) (h : PipeAt w b R q) (hb : q.rdE m ≠ 0) :
    Calls Try.prog 43 #[.pointer (some ⟨b, 0, none⟩), .int .i64 m] w (ReadOut w b R q m) := by
  have HU := Lib.hid (pusable_at h)
  have hz : q.rdN m = 0 := by unfold PSt.rdN; rw [if_neg hb]
  by_cases h6 : m < 0
  · have HR := Lib.hid (readout_none h 6 (by unfold PSt.rdE; rw [if_pos h6]) hz)
    clear h hb hz
    go_enter Try.func43, Try.ntmps43
    go_wp2_with fail
    refine HU.out.mono ?_
    rintro e w' ⟨rfl, rfl⟩
    go_wp2
    go_ret2
    exact HR.out
  · have e20 : q.rdE m = 20 := by
      unfold PSt.rdE at hb ⊢
      rw [if_neg h6] at hb ⊢
      split at hb
      · rename_i hc; rw [if_pos hc]
      · exact absurd rfl hb
    have hc : (q.cn || (q.cl && q.bs.isEmpty)) = true := by
      unfold PSt.rdE at e20
      rw [if_neg h6] at e20
      split at e20
      · assumption
      · cases e20
    have HR := Lib.hid (readout_none h 20 e20 hz)
    have c2 := h.c2
    have c3 := h.c3
    have c4 := h.c4
    have h7 : 0 ≤ m := by omega
    by_cases hcn : q.cn = true
    · rw [hcn] at c4
      clear h hb hz e20 hc c2 hcn
      go_enter Try.func43, Try.ntmps43
      go_wp2_with fail
      refine HU.out.mono ?_
      rintro e w' ⟨rfl, rfl⟩
      go_wp2
      go_ret2
      exact HR.out
    · have hcn' : q.cn = false := by simpa using hcn
      rw [hcn'] at hc c4
      simp only [Bool.false_or, Bool.and_eq_true, List.isEmpty_iff] at hc
      rw [hc.1] at c3
      rw [hc.2] at c2
      clear h hb hz e20 hc hcn hcn'
      go_enter Try.func43, Try.ntmps43
      go_wp2_with fail
      refine HU.out.mono ?_
      rintro e w' ⟨rfl, rfl⟩
      go_wp2
      go_ret2
      exact HR.out

/-- Where the loop stands: k of K bytes are read. -/
def ReadRel (w : World) (b c : Nat) (R : Nat → Prop) (q : PSt) (K : Nat) (v6 v7 : Value) (wr : World) : Prop :=
  ∃ k, k ≤ K ∧ v7 = .int .i64 ((K : Int) - k) ∧ wr.ownsRow w.heap.size 5 1 v6 k ((q.bs.take k).map (Value.int .u8)) ∧
    (∃ hA hn hcap hx vs ps, PipeHd wr b c R { q with bs := q.bs.drop k } hA hn hcap hx vs ps) ∧ Chg R w wr
theorem own_far {w0 : World} {base : Nat} {v : Value} {n : Nat} {ys : List Value} {R : Nat → Prop} (hown : w0.ownsRow base 5 1 v n ys) (hlt : ∀ x, R x → x < base) : ∀ x, v.ownBlock = some x → ¬ R x := by
  intro x hx hr
  have := (hown.lt x hx).1
  have := hlt x hr
  omega
theorem _root_.Go.World.ownsRow.chg {w0 w1 : World} {base e size n : Nat} {v : Value} {ys : List Value} {S : Nat → Prop} (h : w0.ownsRow base e size v n ys) (k : Chg S w0 w1) (hs : ∀ x, v.ownBlock = some x → ¬ S x) : w1.ownsRow base e size v n ys := by
  refine ⟨h.1, ?_⟩
  rcases h.2 with hn | ⟨g, cap, cur, rfl, hb, hgg, rest⟩
  · exact .inl hn
  · exact .inr ⟨g, cap, cur, rfl, hb, k.at_ hgg (hs g rfl), rest⟩
theorem _root_.Go.World.ownsRow.chgR {w0 w1 : World} {base : Nat} {v : Value} {n : Nat} {ys : List Value} {R : Nat → Prop} (h : w0.ownsRow base 5 1 v n ys) (k : Chg R w0 w1) (hlt : ∀ x, R x → x < base) : w1.ownsRow base 5 1 v n ys :=
  h.chg k (own_far h hlt)
theorem chg_own {w0 w1 w2 : World} {base : Nat} {v : Value} {n : Nat} {ys : List Value} (h : w0.ownsRow base 5 1 v n ys) (k : Chg (fun y => v.ownBlock = some y) w1 w2) : Chg (fun x => base ≤ x) w1 w2 :=
  k.mono (fun x _ hx => (h.lt x hx).1)
theorem pcells_len (q : PSt) (k : Nat) (hk : k ≤ q.bs.length) (ch : Option Nat) (hv : Value) : (pcells { q with bs := q.bs.drop k } ch hv)[2]? = some (.int .i64 ((q.bs.length : Int) - k)) := by
  simp only [pcells, List.getElem?_cons_succ, List.getElem?_cons_zero, Option.some.injEq, Value.int.injEq, true_and, List.length_drop]
  omega

theorem PSt.ok_drop {q q' : PSt} (h : q.ok) (j : Nat) (e : q'.bs = q.bs.drop j) (e1 : q'.win = q.win := by rfl) (e2 : q'.cr = q.cr := by rfl) (e3 : q'.cl = q.cl := by rfl) (e4 : q'.cn = q.cn := by rfl) : q'.ok := by
  obtain ⟨a1, a2, a3, a4, a5⟩ := q'
  simp only at e e1 e2 e3 e4
  subst e e1 e2 e3 e4
  have h1 := h.sum
  refine ⟨h.w0, h.w1, h.c0, ?_, fun hc => ?_, h.cl0⟩
  · show q.cr + ((q.bs.drop j).length : Int) ≤ q.win
    rw [List.length_drop]; omega
  · have := h.cn0 hc
    exact ⟨this.1, by show q.bs.drop j = []; rw [this.2]; simp⟩
theorem readrel_step {w w1 w2 : World} {b c : Nat} {R : Nat → Prop} {q : PSt} {K k j g capg hn1 hcap1 : Nat} {hA1 : Option Addr} {hx1 : List Int} {vs1 : List Value} {ps1 : List (List Int)} {vw vl : Int}
    (hkj : k + j ≤ K) (hKb : K ≤ q.bs.length) (hj : j ≤ hn1) (HC : Chg R w w1) (HK : Chg (fun x => w.heap.size ≤ x) w1 w2) (h2 : PipeHd w2 b c R { q with bs := q.bs.drop k } hA1 hn1 hcap1 hx1 vs1 ps1)
    (hown : w2.ownsRow w.heap.size 5 1 (.slice (some ⟨g, 0, none⟩) (k + j) capg) (k + j) ((q.bs.take k ++ hx1.take j).map (Value.int .u8))) (hlt : ∀ x, R x → x < w.heap.size)
    (hvw : vw = (K : Int) - k - j) (hvl : vl = (q.bs.length : Int) - k - j) :
    ReadRel w b c R q K (.slice (some ⟨g, 0, none⟩) (k + j) capg) (.int .i64 vw) ((w2.setCell ⟨b, 6, none⟩ (.slice (if hcap1 = j then hA1 else hA1.map (fun x => x.add j)) (hn1 - j) (hcap1 - j))).setCell ⟨b, 2, none⟩ (.int .i64 vl)) := by
  have hbs : q.bs.drop k = hx1 ++ ps1.flatten := h2.bs
  have hxl := h2.hd.1
  have hk : Chg (fun x => x = b) w2 ((w2.setCell ⟨b, 6, none⟩ (.slice (if hcap1 = j then hA1 else hA1.map (fun x => x.add j)) (hn1 - j) (hcap1 - j))).setCell ⟨b, 2, none⟩ (.int .i64 vl)) :=
    ((Chg.refl (fun x => x = b) w2).setCell _ _ (fun _ => rfl)).setCell _ _ (fun _ => rfl)
  have hb := hlt b h2.rb
  have e1 : q.bs.take (k + j) = q.bs.take k ++ hx1.take j := by
    rw [List.take_add, hbs, List.take_append_of_le_length (by omega)]
  have e2 : q.bs.drop (k + j) = hx1.drop j ++ ps1.flatten := by
    rw [← List.drop_drop, hbs, List.drop_append_of_le_length (by omega)]
  refine ⟨k + j, hkj, by rw [hvw]; congr 1; omega, ?_, ⟨if hcap1 = j then hA1 else hA1.map (fun x => x.add j), hn1 - j, hcap1 - j, hx1.drop j, vs1, ps1, ?_⟩, ?_⟩
  · rw [e1]
    exact hown.chg hk (fun x hx e => by have := (hown.lt x hx).1; omega)
  · obtain ⟨s, r, hch⟩ := h2.ch
    have hd := (h2.hd.chg hk (fun x hx => hx.2.1)).drop hj
    rw [Nat.mul_one] at hd
    refine ⟨PSt.ok_drop h2.ok j (by rw [List.drop_drop]), h2.ncn, fun x hx => Nat.lt_of_lt_of_le (h2.lt x hx) hk.size, h2.rb, h2.rc, ?_, ⟨s, r, hk.at_ hch (Ne.symm h2.bc)⟩, hd, h2.pieces.imp (fun _ _ _ _ hb => hb.chg hk (fun x hx => hx.2.1)), e2⟩
    have := at_setCell (i := 2) (.int .i64 vl) (at_setCell (i := 6) (.slice (if hcap1 = j then hA1 else hA1.map (fun x => x.add j)) (hn1 - j) (hcap1 - j)) h2.at_)
    rw [this]
    congr 3
    simp only [pcells, List.set_cons_succ, List.set_cons_zero, List.cons.injEq, true_and, and_true, Value.int.injEq, List.length_drop]
    omega
  · exact (HC.then_ HK (fun i hi q => by omega)).then_ hk (fun i hi e => by rw [e]; exact h2.rb)
theorem read_end {w wr : World} {b c : Nat} {R : Nat → Prop} {q : PSt} {m : Int} {K : Nat} {v6 : Value} (he0 : q.rdE m = 0) (hKm : q.rdN m = K) (hown : wr.ownsRow w.heap.size 5 1 v6 K ((q.bs.take K).map (Value.int .u8)))
    (hp : ∃ hA hn hcap hx vs ps, PipeHd wr b c R { q with bs := q.bs.drop K } hA hn hcap hx vs ps) (hc : Chg R w wr) : ReadOut w b R q m (.returned (.tuple #[v6, .int .i64 0])) wr := by
  have e1 : q.rd m = q.bs.take K := by unfold PSt.rd; rw [hKm]
  have e2 : q.read m = { q with bs := q.bs.drop K } := by unfold PSt.read; rw [hKm]
  obtain ⟨A, cap, hv, _⟩ := BytesAt.of_own hown
  subst hv
  refine ⟨A, K, cap, by rw [he0], by rw [e1]; exact hown, ?_, hc⟩
  rw [e2]
  exact .inl ⟨c, hp⟩
end Go.Proofs.Ytndldjopgbhphaa
