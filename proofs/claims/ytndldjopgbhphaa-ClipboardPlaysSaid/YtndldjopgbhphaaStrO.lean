/- append of a whole slice onto one that the call owns; rows of strings that the call owns; slices.Clone at []string. -/
import Derived.Test.YtndldjopgbhphaaPk14
import Derived.Deep.AppendLies
import Derived.Deep.Upon
set_option linter.unusedVariables false
set_option linter.unusedSimpArgs false
set_option maxRecDepth 100000
namespace Go.Proofs.Ytndldjopgbhphaa
open Go.RowKit

def strVals (xs : List ByteArray) : List Value := xs.map Value.string
theorem StrsAt.of_own {w : World} {base n : Nat} {v : Value} {xs : List ByteArray} (h : w.ownsRow base 9 1 v n (strVals xs)) : ∃ A cap, v = .slice A n cap ∧ SArg w A n cap xs := by
  have hl : xs.length = n := by have := h.1; simpa [strVals] using this
  rcases h.2 with ⟨rfl, rfl⟩ | ⟨g, cap, cur, rfl, hb, hg, hc, hm, hs, ht⟩
  · exact ⟨none, 0, rfl, ⟨hl, fun h => absurd h (by omega)⟩, by omega, by unfold maxLen; omega⟩
  · refine ⟨_, cap, rfl, ⟨hl, fun _ => ⟨g, 0, rfl, (Array.getElem?_eq_some_iff.1 hg).1, fun j x hj => ?_⟩⟩, by omega, by omega⟩
    have := h.cells (g := g) rfl j (.string x) (by unfold strVals; rw [List.getElem?_map, hj]; rfl)
    rw [add_plain] at this
    exact this

theorem infoStr : (Try.prog.info? 9).map (fun i => (i.zero, i.size, i.bytes)) = some (some (.string ⟨#[]⟩), 1, 16) := by kernel_rfl

/-- append of m elements, also none, which lie elsewhere. -/
theorem wpl_appendSl {P : Program} {ops : Array Oper} {Q : Exit → Act → World → Prop} {rest : List Oper} {a : Act} {w : World} {d : Option Tmp} {ty t : TypeId} {pst : String} {ed : Array Edge} {s x : Operand}
    (base : Nat) (e : TypeId) (z : Value) (size bytes : Nat) (ht : P.underlying t = some (.slice e)) (hi : (P.info? e).map (fun i => (i.zero, i.size, i.bytes)) = some (some z, size, bytes)) (hz : z.cells.size = size) (h0 : 0 < size)
    (v : Value) (n : Nat) (xs : List Value) (hown : w.ownsRow base e size v n xs) (hs : a.eval s = v) (A : Option Addr) (m c : Nat) (news : List Value) (hx : a.eval x = .slice A m c) (hl : news.length = m * size)
    (hnews : 0 < m → ∃ b o, A = some ⟨b, o, none⟩ ∧ ∀ j u, news[j]? = some u → w.cell? ⟨b, o + j, none⟩ = some u) (h1 : ∀ u ∈ news, u.oneCell' = true) (hn : n + m ≤ 1000000) (hby : bytes ≤ 100000) (hbase : base ≤ w.heap.size)
    (h : ∀ A' cap w', w'.ownsRow base e size (.slice A' (n + m) cap) (n + m) (xs ++ news) → w.grownBy w' v.ownBlock → wpList P ops Q rest (a.put d (.slice A' (n + m) cap)) w') :
    wpList P ops Q (⟨d, .call { callee := .builtin .append, args := #[s, x], argTypes := #[t, t] }, ty, pst, ed, none⟩ :: rest) a w := by
  obtain ⟨i, hi0, hz0, hz1, hz2⟩ := info_parts hi
  have hb : (n + m) * bytes ≤ 140737488355328 := Nat.le_trans (Nat.mul_le_mul (show n + m ≤ 1000000 by omega) hby) (by omega)
  rcases Nat.eq_zero_or_pos m with hm | hm
  · subst hm
    have hform : ∃ A0 cap0, v = .slice A0 n cap0 ∧ n ≤ cap0 := by
      rcases hown.2 with ⟨rfl, rfl⟩ | ⟨g, cap, cur, rfl, _, _, hc, _⟩
      · exact ⟨none, 0, rfl, Nat.le_refl _⟩
      · exact ⟨_, cap, rfl, hc⟩
    obtain ⟨A0, cap0, rfl, hle⟩ := hform
    obtain rfl : news = [] := List.length_eq_zero_iff.1 (by rw [hl]; omega)
    have hsrc : Go.Src P i.size t (.slice A 0 c) 0 [] w := by
      cases A with
      | none => exact Go.Src.ofNil w ht c
      | some ad => exact Go.Src.ofSlice w ht ad 0 c [] (by simp) (fun j u hj => by simp at hj) (fun u hu => by simp at hu)
    have hr := run_append_nothing w t t ty e i ht hi0 A0 n cap0 hle (.slice A 0 c) hsrc
    refine wpl_ok (.slice A0 n cap0) rfl ?_ (h A0 cap0 w (by simpa using hown) ⟨rfl, rfl, rfl, Nat.le_refl _, fun _ _ _ => rfl⟩)
    unfold execOp
    simp only [resolve, invoke, builtin, Sem.run_bind, Sem.run_pure, Result.andThen_ok, List.map_toArray, List.map_cons, List.map_nil, hs, hx, hr]
  · obtain ⟨b, o, rfl, hc⟩ := hnews hm
    refine wpList_append_lies w rfl s x t rfl base e i z size bytes ht hi0 hz0 hz1 hz2 hz h0 v n xs hs hown ⟨b, o, none⟩ m c news hx (by omega) (fun j u hj => by rw [add_plain]; exact hc j u hj) h1 hm (by simp only [maxLen]; omega) hb hbase _ rfl ?_
    intro g cap w' h2 h3 _ _
    exact h _ cap w' h2 h3

theorem run_eq_nil {P : Program} {t e : TypeId} (ht : P.underlying t = some (.slice e)) (w : World) (a : Option Addr) (n c : Nat) : (binOp .eql t (.slice a n c) (.slice none 0 0)).run P w = .ok (.bool a.isNone) w := by
  have h : ∀ d : Nat, (Op.equalIn (d + 1) t (.slice a n c) (.slice none 0 0)).run P w = .ok a.isNone w := fun d => by
    cases a <;> simp [Op.equalIn, run_underlying ht]
  simp only [binOp]
  simp [Op.equal, Op.maxDepth, h 9999]
theorem contains_v (r : Bool) (A : Option Addr) (n cap : Nat) (xs : List ByteArray) (x : ByteArray) (w : World) (h : StrsAt w A n xs) (hn : n ≤ 1000000) (hr : hasS xs x = r) :
    Calls Try.prog 61 #[.slice A n cap, .string x] w fun e w' => e = .returned (.bool r) ∧ w = w' := by
  subst hr
  exact containsStrs_ok A n cap xs x w h hn
/-- What Clone gives back. -/
def CloneOut (w : World) (n : Nat) (fs : List ByteArray) (e : Ending) (w' : World) : Prop :=
  ∃ A cap, e = .returned (.slice A n cap) ∧ SArg w' A n cap fs ∧ Same w w' ∧ (0 < n → ∀ g o, A = some ⟨g, o, none⟩ → w.heap.size ≤ g ∧ g < w'.heap.size)
theorem StrsAt.src {w : World} {A : Option Addr} {n : Nat} {xs : List ByteArray} (h : StrsAt w A n xs) (hn : 0 < n) : ∃ b o, A = some ⟨b, o, none⟩ ∧ ∀ j u, (strVals xs)[j]? = some u → w.cell? ⟨b, o + j, none⟩ = some u := by
  obtain ⟨b, o, hA, _, hc⟩ := h.2 hn
  refine ⟨b, o, hA, fun j u hj => ?_⟩
  unfold strVals at hj
  rw [List.getElem?_map] at hj
  cases hx : xs[j]? with
  | none => rw [hx] at hj; cases hj
  | some y => rw [hx] at hj; cases hj; exact hc j y hx
theorem strVals_one (xs : List ByteArray) : ∀ u ∈ strVals xs, u.oneCell' = true := by
  intro u hu
  unfold strVals at hu
  obtain ⟨y, _, rfl⟩ := List.mem_map.1 hu
  rfl
theorem clone_ok (A : Option Addr) (n cap : Nat) (fs : List ByteArray) (w : World) (h : SArg w A n cap fs) (hn : n ≤ 1000000) :
    Calls Try.prog 60 #[.slice A n cap] w (CloneOut w n fs) := by
  have HA := Lib.hid h
  have hl := h.1.1
  have HL := Lib.hid hl
  cases A with
  | none =>
    have he := fun w => run_eq_nil Try.underlying34 w none n cap
    have h0 : n = 0 := by
      rcases Nat.eq_zero_or_pos n with h0 | h0
      · exact h0
      · obtain ⟨b, o, hA, _⟩ := h.1.2 h0; cases hA
    subst h0
    obtain rfl : fs = [] := List.length_eq_zero_iff.1 hl
    clear h hl
    simp only [Option.isNone_none, Option.isNone_some] at he
    go_enter Try.func60, Try.ntmps60
    go_wp2
    go_ret
    exact ⟨none, 0, rfl, SArg.nil _, Chg.refl _ _, fun h => absurd h (by omega)⟩
  | some ad =>
    have he := fun w => run_eq_nil Try.underlying34 w (some ad) n cap
    clear h hl
    simp only [Option.isNone_none, Option.isNone_some] at he
    go_enter Try.func60, Try.ntmps60
    go_wp2_with (at_builtin; refine wpl_appendSl w.heap.size 9 _ 1 16 Try.underlying34 infoStr rfl (by omega) _ 0 [] (World.ownsRow_made w #[] 0 (Nat.le_refl _) (by unfold maxLen; omega) rfl) rfl (some ad) n cap (strVals fs) rfl (by unfold strVals; rw [List.length_map, HL.out, Nat.mul_one]) (fun hp => (HA.out.1.alloc _).src hp) (strVals_one fs) (by omega) (by omega) (by simp) ?_; intro A' cap' w2 hown hgrow; have HOWN := Lib.hid hown; have HGROW := Lib.hid hgrow; clear hown hgrow)
    go_ret
    have e0 : 0 + n = n := Nat.zero_add n
    have HO := HOWN.out
    rw [e0, List.nil_append] at HO
    obtain ⟨A2, cap2, hv, hs⟩ := StrsAt.of_own HO
    cases hv
    refine ⟨A', cap', rfl, hs, ?_, fun hp g o hA => ?_⟩
    · exact ((Chg.refl (fun _ => False) w).alloc _).then_ (Chg.grownO (Chg.refl _ _) HGROW.out) (fun i hi e => by simp [Value.ownBlock] at e; omega)
    · subst hA
      have := HO.lt g (by
        rcases HO.2 with ⟨q, _⟩ | ⟨g', cap', cur, hq, _⟩
        · cases q
        · cases hq; rfl)
      exact this
end Go.Proofs.Ytndldjopgbhphaa
