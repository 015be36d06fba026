/- Parts of the walk, packed: PipF, PipG. -/
import Derived.Test.YtndldjopgbhphaaPipX
set_option linter.unusedVariables false
set_option linter.unusedSimpArgs false
set_option maxRecDepth 100000
namespace Go.Proofs.Ytndldjopgbhphaa
open Go.RowKit

theorem chg_setChan (w : World) {c : Nat} (cap : Nat) (buf : Array Value) (cl : Bool) (s r : Nat) (tm : Bool) : Chg (fun x => x = c) w (w.setChan c cap buf cl s r tm) :=
  ⟨rfl, rfl, rfl, by simp [World.setChan], fun k _ hk => by simp [World.setChan, Ne.symm hk]⟩
theorem at_setChan {w : World} {c : Nat} {o : Obj} (h : w.heap[c]? = some o) (cap : Nat) (buf : Array Value) (cl : Bool) (s r : Nat) (tm : Bool) : (w.setChan c cap buf cl s r tm).heap[c]? = some (.chan cap buf cl s r tm) := by
  simp [World.setChan, lt_of_at h]
theorem zero_bytes (w : World) : (zeroValue 22).run Try.prog w = .ok (.slice none 0 0) w := by kernel_rfl

section
variable {P : Program} {Q : Exit → Act → World → Prop} {a : Act} {w : World} {d : Option Tmp} {ty el : TypeId} {ps : String} {ed : Array Edge} {ch : Operand} {l : List Oper} {id c cap s r : Nat} {tm : Bool} {z : Value}
theorem nwp_recv_cons (v : Value) (vs : List Value) (hz : (zeroValue el).run P w = .ok z w) (hch : a.eval ch = .chan (some c)) (hc : w.heap[c]? = some (.chan cap (v :: vs).toArray false s r tm))
    (h : ∀ w3, Chg (fun x => x = c) w w3 → w3.heap[c]? = some (.chan cap vs.toArray false s (r + 1) tm) → wpList P ((⟨d, .select #[⟨ch, none, el⟩] false, ty, ps, ed, none⟩ : Oper) :: l).toArray Q l (a.put d (.tuple #[goInt 0, .bool true, v])) w3) :
    NWp P (Code.region id ((⟨d, .select #[⟨ch, none, el⟩] false, ty, ps, ed, none⟩ : Oper) :: l).toArray false) Q a w := by
  refine nwp_select_recv hz hch hc (by simp) ?_
  have e : (v :: vs).toArray.extract 1 (v :: vs).toArray.size = vs.toArray := by simp
  rw [e]
  exact h _ (chg_setChan w cap _ _ _ _ _) (at_setChan hc cap _ _ _ _ _)
theorem nwp_send {sv : Operand} (v : Value) (vs : List Value) (hz : (zeroValue el).run P w = .ok z w) (hch : a.eval ch = .chan (some c)) (hv : a.eval sv = v) (hc : w.heap[c]? = some (.chan cap vs.toArray false s r tm)) (hroom : vs.length < cap)
    (h : ∀ w3, Chg (fun x => x = c) w w3 → w3.heap[c]? = some (.chan cap (vs ++ [v]).toArray false (s + 1) r tm) → wpList P ((⟨d, .select #[⟨ch, some sv, el⟩] false, ty, ps, ed, none⟩ : Oper) :: l).toArray Q l (a.put d (.tuple #[goInt 0, .bool false])) w3) :
    NWp P (Code.region id ((⟨d, .select #[⟨ch, some sv, el⟩] false, ty, ps, ed, none⟩ : Oper) :: l).toArray false) Q a w := by
  refine nwp_select_send v hz hch hv hc (by simpa using hroom) ?_
  have e : vs.toArray.push v = (vs ++ [v]).toArray := by simp
  rw [e]
  exact h _ (chg_setChan w cap _ _ _ _ _) (at_setChan hc cap _ _ _ _ _)
end

def Filled (w : World) (b c : Nat) (R : Nat → Prop) (q : PSt) (e : Ending) (w' : World) : Prop :=
  e = .returned (.tuple #[]) ∧ ∃ hA hn hcap hx vs ps, PipeHd w' b c R q hA hn hcap hx vs ps ∧ (hx = [] → q.bs = []) ∧ Chg R w w'

theorem pfill_ok (w : World) (b c : Nat) (R : Nat → Prop) (q : PSt) (hA : Option Addr) (hn hcap : Nat) (hx : List Int) (vs : List Value) (ps : List (List Int)) (h : PipeHd w b c R q hA hn hcap hx vs ps) :
    Calls Try.prog 71 #[.pointer (some ⟨b, 0, none⟩)] w (Filled w b c R q) := by
  have HH := Lib.hid h
  have c5 : w.cell? ⟨b, 5, none⟩ = some (.chan (some c)) := by rw [cell_at h.at_]; rfl
  have c6 : w.cell? ⟨b, 6, none⟩ = some (.slice hA hn hcap) := by rw [cell_at h.at_]; rfl
  have fr := frozen_at h.at_
  have hlen : hn ≤ 1048576 := by
    have h1 := h.hd.1
    have h2 := h.bs
    have h3 := h.ok.sum
    have h4 := h.ok.w1
    have h5 := h.ok.c0
    rw [h2, List.length_append] at h3
    omega
  by_cases h0 : 0 < hn
  · have hne : hx ≠ [] := by intro e; have := h.hd.1; rw [e] at this; simp at this; omega
    have HN := Lib.hid hne
    clear h hne
    go_enter Try.func71, Try.ntmps71
    go_wp2
    go_end0
    exact ⟨rfl, hA, hn, hcap, hx, vs, ps, HH.out, fun e => absurd e HN.out, Chg.refl _ _⟩
  · have hn0 : hn = 0 := by omega
    subst hn0
    have hx0 : hx = [] := List.length_eq_zero_iff.1 h.hd.1
    subst hx0
    obtain ⟨s, r, hch⟩ := h.ch
    have hpc := h.pieces
    have hbs := h.bs
    match vs, ps, hpc with
    | [], [], _ =>
      have HB := Lib.hid hbs
      clear h hpc hbs h0 hlen
      refine calls_of_nwp Try.func71 rfl ?_
      simp only [Try.ntmps71, List.size_toArray, List.length_cons, List.length_nil, Nat.reduceAdd, Nat.reduceSub, Array.replicate_succ, Array.replicate_zero, List.push_toArray, List.append_toArray, List.nil_append, List.cons_append]
      refine nwp_walk fun K hK => ?_
      go_wp2
      refine nwp_walk fun K hK => ?_
      go_wp2
      refine nwp_then fun K hK => ?_
      refine nwp_select_none (zero_bytes w) rfl hch ?_
      go_wp2
      go_end0
      exact ⟨rfl, hA, 0, hcap, [], [], [], HH.out, fun _ => HB.out, Chg.refl _ _⟩
    | v :: vs, p :: ps, ⟨hp, ⟨A', n', cap', hv, hb⟩, hpc⟩ =>
      subst hv
      have HB := Lib.hid hb
      have HP := Lib.hid hpc
      have HN := Lib.hid hp
      have hbc := h.bc
      clear h hbs h0 hlen hpc hp hb
      refine calls_of_nwp Try.func71 rfl ?_
      simp only [Try.ntmps71, List.size_toArray, List.length_cons, List.length_nil, Nat.reduceAdd, Nat.reduceSub, Array.replicate_succ, Array.replicate_zero, List.push_toArray, List.append_toArray, List.nil_append, List.cons_append]
      refine nwp_walk fun K hK => ?_
      go_wp2
      refine nwp_walk fun K hK => ?_
      go_wp2
      refine nwp_then fun K hK => ?_
      refine nwp_recv_cons _ _ (zero_bytes w) rfl hch fun w3 hc3 hch3 => ?_
      have hat3 := hc3.at_ HH.out.at_ hbc
      have c6' : w3.cell? ⟨b, 6, none⟩ = some (.slice hA 0 hcap) := by rw [cell_at hat3]; rfl
      have fr' := frozen_at hat3
      have HC := Lib.hid hc3
      have HCH := Lib.hid hch3
      have HAT := Lib.hid hat3
      clear hc3 hch3 hat3 hch c5 c6 fr
      go_wp2
      go_end0
      refine ⟨rfl, A', n', cap', p, vs, ps, ?_, fun e => absurd e HN.out, ?_⟩
      · have hk : Chg (fun x => x = b ∨ x = c) w (w3.setCell ⟨b, 6, none⟩ (.slice A' n' cap')) := (HC.out.mono (fun _ _ e => .inr e)).setCell _ _ (fun _ => .inl rfl)
        have h := HH.out
        refine ⟨h.ok, h.ncn, fun x hx => Nat.lt_of_lt_of_le (h.lt x hx) hk.size, h.rb, h.rc, at_setCell (i := 6) (.slice A' n' cap') HAT.out, ⟨s, r + 1, at_setCell_other _ (Ne.symm hbc) HCH.out⟩, HB.out.chg hk ?_, HP.out.imp (fun _ _ _ _ hb => hb.chg hk ?_), ?_⟩
        · exact fun x hx h3 => h3.elim hx.2.1 hx.2.2
        · exact fun x hx h3 => h3.elim hx.2.1 hx.2.2
        · have := h.bs; simpa using this
      · exact (HC.out.mono (fun x _ e => by rw [e]; exact HH.out.rc)).setCell _ _ (fun _ => HH.out.rb)
end Go.Proofs.Ytndldjopgbhphaa

namespace Go.Proofs.Ytndldjopgbhphaa
open Go.RowKit

/-- What Write leaves: rows that are new may have come to the pipe's. -/
def Wrote (w : World) (b : Nat) (R : Nat → Prop) (q : PSt) (xs : List Int) (e : Ending) (w' : World) : Prop :=
  e = .returned (.tuple #[.int .i64 (q.wrN xs.length), .int .i64 q.wrE]) ∧ ∃ R', PipeAt w' b R' (q.write xs) ∧ (∀ x, R' x → R x ∨ w.heap.size ≤ x) ∧ Chg R w w'

theorem wrote_same {w : World} {b : Nat} {R : Nat → Prop} {q : PSt} {xs : List Int} (h : PipeAt w b R q) (hz : q.wrN xs.length = 0) (v : Int) (he : q.wrE = v) : Wrote w b R q xs (.returned (.tuple #[.int .i64 0, .int .i64 v])) w := by
  have e : q.write xs = q := by unfold PSt.write; rw [hz]; simp
  refine ⟨by rw [hz, he]; rfl, R, by rw [e]; exact h, fun x hx => .inl hx, Chg.refl _ _⟩
theorem info_u8 : (Try.prog.info? 5).map (fun i => (i.zero, i.size, i.bytes)) = some (some (.int .u8 0), 1, 1) := by kernel_rfl

/-- append of some bytes, which lie elsewhere, onto a slice that the call owns. -/
theorem wpl_appendB {ops : Array Oper} {Q : Exit → Act → World → Prop} {rest : List Oper} {a : Act} {w : World} {d : Option Tmp} {ty : TypeId} {pst : String} {ed : Array Edge} {s x : Operand} {R : Nat → Prop}
    (base : Nat) (v : Value) (n : Nat) (ys : List Int) (hown : w.ownsRow base 5 1 v n (ys.map (Value.int .u8))) (hs : a.eval s = v) (A : Option Addr) (m c : Nat) (xs : List Int) (hx : a.eval x = .slice A m c) (hb : BytesAt w R A m c xs)
    (hm : 0 < m) (hn : n + m ≤ 10000000) (hbase : base ≤ w.heap.size)
    (h : ∀ g cap w', w'.ownsRow base 5 1 (.slice (some ⟨g, 0, none⟩) (n + m) cap) (n + m) ((ys ++ xs).map (Value.int .u8)) → Chg (fun y => v.ownBlock = some y) w w' → (v.ownBlock = some g ∨ g = w.heap.size) → g < w'.heap.size → wpList Try.prog ops Q rest (a.put d (.slice (some ⟨g, 0, none⟩) (n + m) cap)) w') :
    wpList Try.prog ops Q (⟨d, .call { callee := .builtin .append, args := #[s, x], argTypes := #[22, 22] }, ty, pst, ed, none⟩ :: rest) a w := by
  obtain ⟨i, hi0, hz0, hz1, hz2⟩ := info_parts info_u8
  obtain ⟨b, o, hA, _, _, hc⟩ := hb.2.2.2 hm
  subst hA
  refine wpList_append_lies w rfl s x 22 rfl base 5 i (.int .u8 0) 1 1 Try.underlying22 hi0 hz0 hz1 hz2 rfl (by omega) v n _ hs hown ⟨b, o, none⟩ m c (xs.map (Value.int .u8)) hx (by rw [List.length_map, hb.1]; omega) ?_ ?_ hm (by unfold maxLen; omega) (by omega) hbase _ rfl ?_
  · intro j u hj
    rw [add_plain]
    rw [List.getElem?_map] at hj
    cases hxj : xs[j]? with
    | none => rw [hxj] at hj; cases hj
    | some y => rw [hxj] at hj; cases hj; exact hc j y hxj
  · intro u hu
    rw [List.mem_map] at hu
    obtain ⟨y, _, rfl⟩ := hu
    rfl
  · intro g cap w' h1 h2 h3 h4
    rw [← List.map_append] at h1
    exact h g cap w' h1 ((Chg.refl _ w).grown h2 (fun k e _ => e)) h3 h4

theorem pwrite_over (b : Nat) (w : World) (R : Nat → Prop) (q : PSt) (A : Option Addr) (len cap : Nat) (xs : List Int) (h : PipeAt w b R q) (ho : q.over = true) :
    Calls Try.prog 41 #[.pointer (some ⟨b, 0, none⟩), .slice A len cap] w (Wrote w b R q xs) := by
  have HU := Lib.hid (pusable_at h)
  have HW := Lib.hid (wrote_same h (xs := xs) (by unfold PSt.wrN; rw [if_pos ho]) 20 (by unfold PSt.wrE; rw [if_pos ho]))
  have c3 := h.c3
  have c4 := h.c4
  unfold PSt.over at ho
  cases hcl : q.cl <;> cases hcn : q.cn
  · rw [hcl, hcn] at ho; cases ho
  all_goals
    rw [hcl] at c3
    rw [hcn] at c4
    clear h ho hcl hcn
    go_enter Try.func41, Try.ntmps41
    go_wp2_with fail
    refine HU.out.mono ?_
    rintro e w' ⟨rfl, rfl⟩
    go_wp2
    go_ret2
    exact HW.out
theorem pwrite_none (b : Nat) (w : World) (R : Nat → Prop) (q : PSt) (A : Option Addr) (len cap : Nat) (xs : List Int) (h : PipeAt w b R q) (ho : q.over = false) (hx : BytesAt w (fun _ => True) A len cap xs) (h0 : len = 0 ∨ q.cr = 0) :
    Calls Try.prog 41 #[.pointer (some ⟨b, 0, none⟩), .slice A len cap] w (Wrote w b R q xs) := by
  have HU := Lib.hid (pusable_at h)
  have HW := Lib.hid (wrote_same h (xs := xs) (by unfold PSt.wrN; rw [hx.1]; split <;> omega) 0 (by unfold PSt.wrE; rw [if_neg (by rw [ho]; simp)]))
  have c1 := h.c1
  have c3 := h.c3
  have c4 := h.c4
  have hcr := h.ok.c0
  have hcap := hx.2.2.1
  have hlc := hx.2.1
  unfold maxLen at hcap
  have hov : q.cl = false ∧ q.cn = false := by unfold PSt.over at ho; simpa using ho
  rw [hov.1] at c3
  rw [hov.2] at c4
  clear h ho hov hx
  rcases h0 with h0 | h0
  · subst h0
    go_enter Try.func41, Try.ntmps41
    go_wp2_with fail
    refine HU.out.mono ?_
    rintro e w' ⟨rfl, rfl⟩
    go_wp2
    all_goals
      go_ret2
      exact HW.out
  · rw [h0] at c1
    clear hcr h0
    go_enter Try.func41, Try.ntmps41
    go_wp2_with fail
    refine HU.out.mono ?_
    rintro e w' ⟨rfl, rfl⟩
    go_wp2
    all_goals
      go_ret2
      exact HW.out
end Go.Proofs.Ytndldjopgbhphaa
