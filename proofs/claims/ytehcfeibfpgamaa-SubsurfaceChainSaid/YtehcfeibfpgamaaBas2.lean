/- More base lemmas: results that lie in blocks. -/
import Derived.Test.YtehcfeibfpgamaaBase
import Derived.Deep.AppendLies
set_option linter.unusedVariables false
set_option linter.unusedSimpArgs false
set_option maxRecDepth 100000
namespace Go.Proofs.Ytehcfeibfpgamaa
open Go.RowKit

theorem results_cell1 {P : Program} {fn : Func} {p : Tmp} {ty : TypeId} {tmps : Array Value} {w : World} {A : Addr} {V : Value} (h : fn.results = #[.cell p ty]) (hp : tmps.getD p undef = .pointer (some A)) (hr : (loadVar ty A).run P w = .ok V w) :
    (results fn tmps).run P w = .ok V w := by
  have hp' : tmps[p]?.getD undef = .pointer (some A) := by simpa using hp
  simp [results, h, hp', hr, asAddr, Sem.run_bind, Sem.run_pure]
theorem results_cell_tmp2 {P : Program} {fn : Func} {p t u : Tmp} {ty : TypeId} {tmps : Array Value} {w : World} {A : Addr} {V : Value} (h : fn.results = #[.cell p ty, .tmp t, .tmp u]) (hp : tmps.getD p undef = .pointer (some A)) (hr : (loadVar ty A).run P w = .ok V w) :
    (results fn tmps).run P w = .ok (.tuple #[V, tmps.getD t undef, tmps.getD u undef]) w := by
  have hp' : tmps[p]?.getD undef = .pointer (some A) := by simpa using hp
  simp [results, h, hp', hr, asAddr, Sem.run_bind, Sem.run_pure]

/-- append of one element, which lies in a block of its own, onto a slice that the call owns. -/
theorem wpl_append1 {P : Program} {ops : Array Oper} {Q : Exit → Act → World → Prop} {rest : List Oper} {a : Act} {w : World} {d : Option Tmp} {ty t t' : TypeId} {ps : String} {ed : Array Edge} {s x : Operand} {fr : Nat × Nat}
    (base : Nat) (e : TypeId) (z : Value) (size bytes : Nat) (ht : P.underlying t = some (.slice e)) (hi : (P.info? e).map (fun i => (i.zero, i.size, i.bytes)) = some (some z, size, bytes)) (hz : z.cells.size = size) (h0 : 0 < size)
    (v : Value) (n : Nat) (xs : List Value) (hown : w.ownsRow base e size v n xs) (hs : a.eval s = v) (g' c : Nat) (news : List Value) (hx : a.eval x = .slice (some ⟨g', 0, none⟩) 1 c) (hnews : w.heap[g']? = some (.cells news.toArray t' fr)) (hl : news.length = size)
    (h1 : ∀ u ∈ news, u.oneCell' = true) (hn : n ≤ 1000000) (hby : bytes ≤ 100000) (hbase : base ≤ w.heap.size)
    (h : ∀ g cap w', w'.ownsRow base e size (.slice (some ⟨g, 0, none⟩) (n + 1) cap) (n + 1) (xs ++ news) → w.grownBy w' v.ownBlock → (v.ownBlock = some g ∨ g = w.heap.size) → g < w'.heap.size → wpList P ops Q rest (a.put d (.slice (some ⟨g, 0, none⟩) (n + 1) cap)) w') :
    wpList P ops Q (⟨d, .call { callee := .builtin .append, args := #[s, x], argTypes := #[t, t] }, ty, ps, ed, none⟩ :: rest) a w := by
  obtain ⟨i, hi0, hz0, hz1, hz2⟩ := info_parts hi
  have hb : (n + 1) * bytes ≤ 140737488355328 := Nat.le_trans (Nat.mul_le_mul (show n + 1 ≤ 1000001 by omega) hby) (by omega)
  exact wpList_append_lies w rfl s x t rfl base e i z size bytes ht hi0 hz0 hz1 hz2 hz h0 v n xs hs hown ⟨g', 0, none⟩ 1 c news hx (by omega) (World.news_of_block (cs := news.toArray) hnews) h1 (by omega) (by simp only [maxLen]; omega) hb hbase w.heap.size rfl h

theorem Chg.grownO {u v w : World} {row : Option Nat} (h : Same u v) (hg : v.grownBy w row) : Chg (fun x => some x = row) u w :=
  (Chg.of_same h).grown hg (fun _ e _ => e.symm)
theorem grownBy_setCell (w : World) (b i : Nat) (v : Value) : w.grownBy (w.setCell ⟨b, i, none⟩ v) (some b) :=
  ⟨rfl, rfl, rfl, by simp, fun k _ hne => Below.heap_setCell _ _ _ _ (by intro e; exact hne (by rw [e]))⟩
end Go.Proofs.Ytehcfeibfpgamaa
