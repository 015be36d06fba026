/- append of bytes, however many (also none). -/
import Derived.Test.YtndldjopgbhphaaPipG
import Derived.Deep.Upon
set_option linter.unusedVariables false
set_option linter.unusedSimpArgs false
set_option maxRecDepth 100000
namespace Go.Proofs.Ytndldjopgbhphaa
open Go.RowKit

theorem wpl_append_nothing {P : Program} {ops : Array Oper} {Q : Exit → Act → World → Prop} {rest : List Oper} {a : Act} {w : World} {d : Option Tmp} {ty t e : TypeId} {pst : String} {ed : Array Edge} {s x : Operand} {size bytes : Nat} {z : Value}
    (ht : P.underlying t = some (.slice e)) (hi : (P.info? e).map (fun i => (i.zero, i.size, i.bytes)) = some (some z, size, bytes)) (A0 : Option Addr) (n cap : Nat) (hle : n ≤ cap) (hs : a.eval s = .slice A0 n cap) (A : Option Addr) (c : Nat) (hx : a.eval x = .slice A 0 c)
    (h : wpList P ops Q rest (a.put d (.slice A0 n cap)) w) :
    wpList P ops Q (⟨d, .call { callee := .builtin .append, args := #[s, x], argTypes := #[t, t] }, ty, pst, ed, none⟩ :: rest) a w := by
  obtain ⟨i, hi0, hz0, hz1, hz2⟩ := info_parts hi
  have hsrc : Go.Src P i.size t (.slice A 0 c) 0 [] w := by
    cases A with
    | none => exact Go.Src.ofNil w ht c
    | some ad => exact Go.Src.ofSlice w ht ad 0 c [] (by simp) (fun j u hj => by simp at hj) (fun u hu => by simp at hu)
  have hr := run_append_nothing w t t ty e i ht hi0 A0 n cap hle (.slice A 0 c) hsrc
  refine wpl_ok (.slice A0 n cap) rfl ?_ h
  unfold execOp
  simp only [resolve, invoke, builtin, Sem.run_bind, Sem.run_pure, Result.andThen_ok, List.map_toArray, List.map_cons, List.map_nil, hs, hx, hr]

theorem own_form {w : World} {base : Nat} {e : TypeId} {size : Nat} {v : Value} {n : Nat} {ys : List Value} (h : w.ownsRow base e size v n ys) : ∃ A cap, v = .slice A n cap ∧ n ≤ cap := by
  rcases h.2 with ⟨rfl, rfl⟩ | ⟨g, cap, cur, rfl, hb, hg, hc, _⟩
  · exact ⟨none, 0, rfl, Nat.le_refl _⟩
  · exact ⟨_, cap, rfl, hc⟩

theorem wpl_appendAny {ops : Array Oper} {Q : Exit → Act → World → Prop} {rest : List Oper} {a : Act} {w : World} {d : Option Tmp} {ty : TypeId} {pst : String} {ed : Array Edge} {s x : Operand} {R : Nat → Prop}
    (base : Nat) (v : Value) (n : Nat) (ys : List Int) (hown : w.ownsRow base 5 1 v n (ys.map (Value.int .u8))) (hs : a.eval s = v) (A : Option Addr) (m c : Nat) (xs : List Int) (hx : a.eval x = .slice A m c) (hb : BytesAt w R A m c xs)
    (hn : n + m ≤ 10000000) (hbase : base ≤ w.heap.size)
    (h : ∀ A' cap w', w'.ownsRow base 5 1 (.slice A' (n + m) cap) (n + m) ((ys ++ xs).map (Value.int .u8)) → Chg (fun y => v.ownBlock = some y) w w' → wpList Try.prog ops Q rest (a.put d (.slice A' (n + m) cap)) w') :
    wpList Try.prog ops Q (⟨d, .call { callee := .builtin .append, args := #[s, x], argTypes := #[22, 22] }, ty, pst, ed, none⟩ :: rest) a w := by
  rcases Nat.eq_zero_or_pos m with h0 | h0
  · subst h0
    obtain ⟨A0, cap0, rfl, hle⟩ := own_form hown
    obtain rfl : xs = [] := List.length_eq_zero_iff.1 hb.1
    refine wpl_append_nothing Try.underlying22 info_u8 A0 n cap0 hle hs A c hx ?_
    exact h A0 cap0 w (by simpa using hown) (Chg.refl _ _)
  · exact wpl_appendB base v n ys hown hs A m c xs hx hb h0 hn hbase (fun g cap w' h1 h2 _ _ => h _ cap w' h1 h2)
end Go.Proofs.Ytndldjopgbhphaa
