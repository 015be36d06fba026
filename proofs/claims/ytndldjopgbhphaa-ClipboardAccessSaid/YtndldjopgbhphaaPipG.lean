/- The walk of package transfer's Write: a select that sends, with a default. -/
import Derived.Test.YtndldjopgbhphaaPipF
set_option linter.unusedVariables false
set_option linter.unusedSimpArgs false
set_option maxRecDepth 100000
namespace Go.Proofs.Ytndldjopgbhphaa
open Go.RowKit

/-- What Write leaves: rows that are new may have come to the pipe's. -/
def Wrote (w : World) (b : Nat) (R : Nat → Prop) (q : PSt) (xs : List Int) (e : Ending) (w' : World) : Prop :=
  e = .returned (.tuple #[.int .i64 (q.wrN xs.length), .int .i64 q.wrE]) ∧ ∃ R', PipeAt w' b R' (q.write xs) ∧ (∀ x, R' x → R x ∨ w.heap.size ≤ x) ∧ Chg R w w'

theorem wrote_same {w : World} {b : Nat} {R : Nat → Prop} {q : PSt} {xs : List Int} (h : PipeAt w b R q) (hz : q.wrN xs.length = 0) (v : Int) (he : q.wrE = v) : Wrote w b R q xs (.returned (.tuple #[.int .i64 0, .int .i64 v])) w := by
  have e : q.write xs = q := by unfold PSt.write; rw [hz]; simp
  refine ⟨by rw [hz, he]; rfl, R, by rw [e]; exact h, fun x hx => .inl hx, Chg.refl _ _⟩
theorem info_u8 : (Try.prog.info? 5).map (fun i => (i.zero, i.size, i.bytes)) = some (some (.int .u8 0), 1, 1) := by kernel_rfl

/-- append of some bytes, which lie elsewhere, onto a slice that the call owns. -/
theorem wpl_appendB {ops : Array Oper} {Q : Exit → Act → World → Prop} {rest : List Oper} {a : Act} {w : World} {d : Option Tmp} {ty : TypeId} {pst : String} {ed : Array Edge} {s x : Operand} {R : Nat → Prop}
    (base : Nat) (v : Value) (n : Nat) (ys : List Int) (hown : w.ownsRow base 5 1 v n (ys.map (Value.int .u8))) (hs : a.eval s = v) (A : Option Addr) (m c : Nat) (xs : List Int) (hx : a.eval x = .slice A m c) (hb : BytesAt w R A m c xs)
    (hm : 0 < m) (hn : n + m ≤ 10000000) (hbase : base ≤ w.heap.size)
    (h : ∀ g cap w', w'.ownsRow base 5 1 (.slice (some ⟨g, 0, none⟩) (n + m) cap) (n + m) ((ys ++ xs).map (Value.int .u8)) → Chg (fun y => v.ownBlock = some y) w w' → (v.ownBlock = some g ∨ g = w.heap.size) → g < w'.heap.size → wpList Try.prog ops Q rest (a.put d (.slice (some ⟨g, 0, none⟩) (n + m) cap)) w') :
    wpList Try.prog ops Q (⟨d, .call { callee := .builtin .append, args := #[s, x], argTypes := #[22, 22] }, ty, pst, ed, none⟩ :: rest) a w := by
  obtain ⟨i, hi0, hz0, hz1, hz2⟩ := info_parts info_u8
  obtain ⟨b, o, hA, _, _, hc⟩ := hb.2.2.2 hm
  subst hA
  refine wpList_append_lies w rfl s x 22 rfl base 5 i (.int .u8 0) 1 1 Try.underlying22 hi0 hz0 hz1 hz2 rfl (by omega) v n _ hs hown ⟨b, o, none⟩ m c (xs.map (Value.int .u8)) hx (by rw [List.length_map, hb.1]; omega) ?_ ?_ hm (by unfold maxLen; omega) (by omega) hbase _ rfl ?_
  · intro j u hj
    rw [add_plain]
    rw [List.getElem?_map] at hj
    cases hxj : xs[j]? with
    | none => rw [hxj] at hj; cases hj
    | some y => rw [hxj] at hj; cases hj; exact hc j y hxj
  · intro u hu
    rw [List.mem_map] at hu
    obtain ⟨y, _, rfl⟩ := hu
    rfl
  · intro g cap w' h1 h2 h3 h4
    rw [← List.map_append] at h1
    exact h g cap w' h1 ((Chg.refl _ w).grown h2 (fun k e _ => e)) h3 h4

theorem pwrite_over (b : Nat) (w : World) (R : Nat → Prop) (q : PSt) (A : Option Addr) (len cap : Nat) (xs : List Int) (h : PipeAt w b R q) (ho : q.over = true) :
    Calls Try.prog 41 #[.pointer (some ⟨b, 0, none⟩), .slice A len cap] w (Wrote w b R q xs) := by
  have HU := Lib.hid (pusable_at h)
  have HW := Lib.hid (wrote_same h (xs := xs) (by unfold PSt.wrN; rw [if_pos ho]) 20 (by unfold PSt.wrE; rw [if_pos ho]))
  have c3 := h.c3
  have c4 := h.c4
  unfold PSt.over at ho
  cases hcl : q.cl <;> cases hcn : q.cn
  · rw [hcl, hcn] at ho; cases ho
  all_goals
    rw [hcl] at c3
    rw [hcn] at c4
    clear h ho hcl hcn
    go_enter Try.func41, Try.ntmps41
    go_wp2_with fail
    refine HU.out.mono ?_
    rintro e w' ⟨rfl, rfl⟩
    go_wp2
    go_ret2
    exact HW.out
theorem pwrite_none (b : Nat) (w : World) (R : Nat → Prop) (q : PSt) (A : Option Addr) (len cap : Nat) (xs : List Int) (h : PipeAt w b R q) (ho : q.over = false) (hx : BytesAt w (fun _ => True) A len cap xs) (h0 : len = 0 ∨ q.cr = 0) :
    Calls Try.prog 41 #[.pointer (some ⟨b, 0, none⟩), .slice A len cap] w (Wrote w b R q xs) := by
  have HU := Lib.hid (pusable_at h)
  have HW := Lib.hid (wrote_same h (xs := xs) (by unfold PSt.wrN; rw [hx.1]; split <;> omega) 0 (by unfold PSt.wrE; rw [if_neg (by rw [ho]; simp)]))
  have c1 := h.c1
  have c3 := h.c3
  have c4 := h.c4
  have hcr := h.ok.c0
  have hcap := hx.2.2.1
  have hlc := hx.2.1
  unfold maxLen at hcap
  have hov : q.cl = false ∧ q.cn = false := by unfold PSt.over at ho; simpa using ho
  rw [hov.1] at c3
  rw [hov.2] at c4
  clear h ho hov hx
  rcases h0 with h0 | h0
  · subst h0
    go_enter Try.func41, Try.ntmps41
    go_wp2_with fail
    refine HU.out.mono ?_
    rintro e w' ⟨rfl, rfl⟩
    go_wp2
    all_goals
      go_ret2
      exact HW.out
  · rw [h0] at c1
    clear hcr h0
    go_enter Try.func41, Try.ntmps41
    go_wp2_with fail
    refine HU.out.mono ?_
    rintro e w' ⟨rfl, rfl⟩
    go_wp2
    all_goals
      go_ret2
      exact HW.out
end Go.Proofs.Ytndldjopgbhphaa
