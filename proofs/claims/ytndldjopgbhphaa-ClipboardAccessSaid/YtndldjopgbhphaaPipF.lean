/- The walk of package transfer's fill: a select with a default. -/
import Derived.Test.YtndldjopgbhphaaPipX
set_option linter.unusedVariables false
set_option linter.unusedSimpArgs false
set_option maxRecDepth 100000
namespace Go.Proofs.Ytndldjopgbhphaa
open Go.RowKit

theorem chg_setChan (w : World) {c : Nat} (cap : Nat) (buf : Array Value) (cl : Bool) (s r : Nat) (tm : Bool) : Chg (fun x => x = c) w (w.setChan c cap buf cl s r tm) :=
  ⟨rfl, rfl, rfl, by simp [World.setChan], fun k _ hk => by simp [World.setChan, Ne.symm hk]⟩
theorem at_setChan {w : World} {c : Nat} {o : Obj} (h : w.heap[c]? = some o) (cap : Nat) (buf : Array Value) (cl : Bool) (s r : Nat) (tm : Bool) : (w.setChan c cap buf cl s r tm).heap[c]? = some (.chan cap buf cl s r tm) := by
  simp [World.setChan, lt_of_at h]
theorem zero_bytes (w : World) : (zeroValue 22).run Try.prog w = .ok (.slice none 0 0) w := by kernel_rfl

section
variable {P : Program} {Q : Exit → Act → World → Prop} {a : Act} {w : World} {d : Option Tmp} {ty el : TypeId} {ps : String} {ed : Array Edge} {ch : Operand} {l : List Oper} {id c cap s r : Nat} {tm : Bool} {z : Value}
theorem nwp_recv_cons (v : Value) (vs : List Value) (hz : (zeroValue el).run P w = .ok z w) (hch : a.eval ch = .chan (some c)) (hc : w.heap[c]? = some (.chan cap (v :: vs).toArray false s r tm))
    (h : ∀ w3, Chg (fun x => x = c) w w3 → w3.heap[c]? = some (.chan cap vs.toArray false s (r + 1) tm) → wpList P ((⟨d, .select #[⟨ch, none, el⟩] false, ty, ps, ed, none⟩ : Oper) :: l).toArray Q l (a.put d (.tuple #[goInt 0, .bool true, v])) w3) :
    NWp P (Code.region id ((⟨d, .select #[⟨ch, none, el⟩] false, ty, ps, ed, none⟩ : Oper) :: l).toArray false) Q a w := by
  refine nwp_select_recv hz hch hc (by simp) ?_
  have e : (v :: vs).toArray.extract 1 (v :: vs).toArray.size = vs.toArray := by simp
  rw [e]
  exact h _ (chg_setChan w cap _ _ _ _ _) (at_setChan hc cap _ _ _ _ _)
theorem nwp_send {sv : Operand} (v : Value) (vs : List Value) (hz : (zeroValue el).run P w = .ok z w) (hch : a.eval ch = .chan (some c)) (hv : a.eval sv = v) (hc : w.heap[c]? = some (.chan cap vs.toArray false s r tm)) (hroom : vs.length < cap)
    (h : ∀ w3, Chg (fun x => x = c) w w3 → w3.heap[c]? = some (.chan cap (vs ++ [v]).toArray false (s + 1) r tm) → wpList P ((⟨d, .select #[⟨ch, some sv, el⟩] false, ty, ps, ed, none⟩ : Oper) :: l).toArray Q l (a.put d (.tuple #[goInt 0, .bool false])) w3) :
    NWp P (Code.region id ((⟨d, .select #[⟨ch, some sv, el⟩] false, ty, ps, ed, none⟩ : Oper) :: l).toArray false) Q a w := by
  refine nwp_select_send v hz hch hv hc (by simpa using hroom) ?_
  have e : vs.toArray.push v = (vs ++ [v]).toArray := by simp
  rw [e]
  exact h _ (chg_setChan w cap _ _ _ _ _) (at_setChan hc cap _ _ _ _ _)
end

def Filled (w : World) (b c : Nat) (R : Nat → Prop) (q : PSt) (e : Ending) (w' : World) : Prop :=
  e = .returned (.tuple #[]) ∧ ∃ hA hn hcap hx vs ps, PipeHd w' b c R q hA hn hcap hx vs ps ∧ (hx = [] → q.bs = []) ∧ Chg R w w'

theorem pfill_ok (w : World) (b c : Nat) (R : Nat → Prop) (q : PSt) (hA : Option Addr) (hn hcap : Nat) (hx : List Int) (vs : List Value) (ps : List (List Int)) (h : PipeHd w b c R q hA hn hcap hx vs ps) :
    Calls Try.prog 71 #[.pointer (some ⟨b, 0, none⟩)] w (Filled w b c R q) := by
  have HH := Lib.hid h
  have c5 : w.cell? ⟨b, 5, none⟩ = some (.chan (some c)) := by rw [cell_at h.at_]; rfl
  have c6 : w.cell? ⟨b, 6, none⟩ = some (.slice hA hn hcap) := by rw [cell_at h.at_]; rfl
  have fr := frozen_at h.at_
  have hlen : hn ≤ 1048576 := by
    have h1 := h.hd.1
    have h2 := h.bs
    have h3 := h.ok.sum
    have h4 := h.ok.w1
    have h5 := h.ok.c0
    rw [h2, List.length_append] at h3
    omega
  by_cases h0 : 0 < hn
  · have hne : hx ≠ [] := by intro e; have := h.hd.1; rw [e] at this; simp at this; omega
    have HN := Lib.hid hne
    clear h hne
    go_enter Try.func71, Try.ntmps71
    go_wp2
    go_end0
    exact ⟨rfl, hA, hn, hcap, hx, vs, ps, HH.out, fun e => absurd e HN.out, Chg.refl _ _⟩
  · have hn0 : hn = 0 := by omega
    subst hn0
    have hx0 : hx = [] := List.length_eq_zero_iff.1 h.hd.1
    subst hx0
    obtain ⟨s, r, hch⟩ := h.ch
    have hpc := h.pieces
    have hbs := h.bs
    match vs, ps, hpc with
    | [], [], _ =>
      have HB := Lib.hid hbs
      clear h hpc hbs h0 hlen
      refine calls_of_nwp Try.func71 rfl ?_
      simp only [Try.ntmps71, List.size_toArray, List.length_cons, List.length_nil, Nat.reduceAdd, Nat.reduceSub, Array.replicate_succ, Array.replicate_zero, List.push_toArray, List.append_toArray, List.nil_append, List.cons_append]
      refine nwp_walk fun K hK => ?_
      go_wp2
      refine nwp_walk fun K hK => ?_
      go_wp2
      refine nwp_then fun K hK => ?_
      refine nwp_select_none (zero_bytes w) rfl hch ?_
      go_wp2
      go_end0
      exact ⟨rfl, hA, 0, hcap, [], [], [], HH.out, fun _ => HB.out, Chg.refl _ _⟩
    | v :: vs, p :: ps, ⟨hp, ⟨A', n', cap', hv, hb⟩, hpc⟩ =>
      subst hv
      have HB := Lib.hid hb
      have HP := Lib.hid hpc
      have HN := Lib.hid hp
      have hbc := h.bc
      clear h hbs h0 hlen hpc hp hb
      refine calls_of_nwp Try.func71 rfl ?_
      simp only [Try.ntmps71, List.size_toArray, List.length_cons, List.length_nil, Nat.reduceAdd, Nat.reduceSub, Array.replicate_succ, Array.replicate_zero, List.push_toArray, List.append_toArray, List.nil_append, List.cons_append]
      refine nwp_walk fun K hK => ?_
      go_wp2
      refine nwp_walk fun K hK => ?_
      go_wp2
      refine nwp_then fun K hK => ?_
      refine nwp_recv_cons _ _ (zero_bytes w) rfl hch fun w3 hc3 hch3 => ?_
      have hat3 := hc3.at_ HH.out.at_ hbc
      have c6' : w3.cell? ⟨b, 6, none⟩ = some (.slice hA 0 hcap) := by rw [cell_at hat3]; rfl
      have fr' := frozen_at hat3
      have HC := Lib.hid hc3
      have HCH := Lib.hid hch3
      have HAT := Lib.hid hat3
      clear hc3 hch3 hat3 hch c5 c6 fr
      go_wp2
      go_end0
      refine ⟨rfl, A', n', cap', p, vs, ps, ?_, fun e => absurd e HN.out, ?_⟩
      · have hk : Chg (fun x => x = b ∨ x = c) w (w3.setCell ⟨b, 6, none⟩ (.slice A' n' cap')) := (HC.out.mono (fun _ _ e => .inr e)).setCell _ _ (fun _ => .inl rfl)
        have h := HH.out
        refine ⟨h.ok, h.ncn, fun x hx => Nat.lt_of_lt_of_le (h.lt x hx) hk.size, h.rb, h.rc, at_setCell (i := 6) (.slice A' n' cap') HAT.out, ⟨s, r + 1, at_setCell_other _ (Ne.symm hbc) HCH.out⟩, HB.out.chg hk ?_, HP.out.imp (fun _ _ _ _ hb => hb.chg hk ?_), ?_⟩
        · exact fun x hx h3 => h3.elim hx.2.1 hx.2.2
        · exact fun x hx h3 => h3.elim hx.2.1 hx.2.2
        · have := h.bs; simpa using this
      · exact (HC.out.mono (fun x _ e => by rw [e]; exact HH.out.rc)).setCell _ _ (fun _ => HH.out.rb)
end Go.Proofs.Ytndldjopgbhphaa
