/- Three boxes beside a call: what stands at each set of steps done, in any world. (Printed by inv3.py.) -/
import Derived.Test.YteolilggeaffaaaBox3
import Derived.Test.YteolilggeaffaaaPk33
set_option linter.unusedVariables false
set_option linter.unusedSimpArgs false
set_option maxRecDepth 100000
namespace Go.Proofs.Yteolilggeaffaaa
open Go.RowKit

theorem put_comm {a : Act} {i j : Tmp} {u v : Value} (h : i ≠ j) : (a.put (some i) u).put (some j) v = (a.put (some j) v).put (some i) u := by
  unfold Act.put
  simp only [Array.setIfInBounds_comm _ _ h]
theorem put_twice {a : Act} {i : Tmp} {u v : Value} : (a.put (some i) u).put (some i) v = a.put (some i) v := by
  unfold Act.put
  simp
theorem put_size {a : Act} {i : Tmp} {u : Value} : (a.put (some i) u).tmps.size = a.tmps.size := by
  unfold Act.put
  simp
theorem eval_put {a : Act} {i : Tmp} {u : Value} (h : i < a.tmps.size) : (a.put (some i) u).eval (.tmp i) = u := by
  unfold Act.put Act.eval
  simp [Array.getD_eq_getD_getElem?, h]
theorem eval_put_ne {a : Act} {i j : Tmp} {u : Value} (h : i ≠ j) : (a.put (some i) u).eval (.tmp j) = a.eval (.tmp j) := by
  unfold Act.put Act.eval
  simp [Array.getD_eq_getD_getElem?, Array.getElem?_setIfInBounds, h]
theorem put_self {a : Act} {i : Tmp} : a.put (some i) (a.eval (.tmp i)) = a := by
  unfold Act.put Act.eval
  obtain ⟨t, d⟩ := a
  simp only [Act.mk.injEq, and_true]
  apply Array.ext_getElem?
  intro j
  rw [Array.getElem?_setIfInBounds]
  split
  · rename_i e
    subst e
    split
    · rename_i hs
      simp [Array.getD_eq_getD_getElem?, hs]
    · rename_i hs
      rw [Array.getElem?_eq_none (by omega)]
  · rfl
def fr3 (t1 t2 t3 : Tmp) (a : Act) (p1 p2 p3 : Value) : Act := ((a.put (some t1) p1).put (some t2) p2).put (some t3) p3
section
variable {t1 t2 t3 : Tmp} {a : Act} {p1 p2 p3 v : Value}
theorem fr3_1 (h1 : t1 ≠ t2) (h2 : t1 ≠ t3) : (fr3 t1 t2 t3 a p1 p2 p3).put (some t1) v = fr3 t1 t2 t3 a v p2 p3 := by
  unfold fr3
  rw [put_comm (Ne.symm h2), put_comm (Ne.symm h1), put_twice]
theorem fr3_2 (h3 : t2 ≠ t3) : (fr3 t1 t2 t3 a p1 p2 p3).put (some t2) v = fr3 t1 t2 t3 a p1 v p3 := by
  unfold fr3
  rw [put_comm (Ne.symm h3), put_twice]
theorem fr3_3 : (fr3 t1 t2 t3 a p1 p2 p3).put (some t3) v = fr3 t1 t2 t3 a p1 p2 v := by
  unfold fr3
  rw [put_twice]
theorem fr3_self : fr3 t1 t2 t3 a (a.eval (.tmp t1)) (a.eval (.tmp t2)) (a.eval (.tmp t3)) = a := by
  unfold fr3
  rw [put_self, put_self, put_self]
theorem fr3_e1 (h1 : t1 ≠ t2) (h2 : t1 ≠ t3) (h : t1 < a.tmps.size) : (fr3 t1 t2 t3 a p1 p2 p3).eval (.tmp t1) = p1 := by
  unfold fr3
  rw [eval_put_ne (Ne.symm h2), eval_put_ne (Ne.symm h1), eval_put h]
theorem fr3_e2 (h3 : t2 ≠ t3) (h : t2 < a.tmps.size) : (fr3 t1 t2 t3 a p1 p2 p3).eval (.tmp t2) = p2 := by
  unfold fr3
  rw [eval_put_ne (Ne.symm h3), eval_put (by rw [put_size]; exact h)]
theorem fr3_e3 (h : t3 < a.tmps.size) : (fr3 t1 t2 t3 a p1 p2 p3).eval (.tmp t3) = p3 := by
  unfold fr3
  rw [eval_put (by rw [put_size, put_size]; exact h)]
theorem fr3_eo {u : Tmp} (h1 : t1 ≠ u) (h2 : t2 ≠ u) (h3 : t3 ≠ u) : (fr3 t1 t2 t3 a p1 p2 p3).eval (.tmp u) = a.eval (.tmp u) := by
  unfold fr3
  rw [eval_put_ne h3, eval_put_ne h2, eval_put_ne h1]
end
theorem VarAt.typ {w : World} {g : Nat} {T T' : TypeId} {a b : Array Value} (h : VarAt w g T a) (k : VarAt w g T' b) : T = T' := by
  unfold VarAt at h k
  rw [h] at k
  simp only [Option.some.injEq, Obj.cells.injEq] at k
  exact k.2.1

/-- A box: not made; made and empty; filled. -/
def BoxK (w1 w : World) (X : Nat → Prop) (T : TypeId) (Z U : Array Value) (k : Nat) (p : Value) : Prop :=
  k = 0 ∨ ∃ g, p = .pointer (some ⟨g, 0, none⟩) ∧ w1.heap.size ≤ g ∧ X g ∧ ((k = 1 ∧ VarAt w g T Z) ∨ (k = 2 ∧ VarAt w g T U))
section
variable {w1 w w' : World} {X X' : Nat → Prop} {T : TypeId} {Z U U' : Array Value} {k : Nat} {p : Value}
theorem BoxK.same (h : BoxK w1 w X T Z U k p) (s : Same w w') (hX : ∀ y, X y → X' y) : BoxK w1 w' X' T Z U k p := by
  rcases h with h | ⟨g, h1, h2, h3, h4⟩
  · exact .inl h
  · refine .inr ⟨g, h1, h2, hX g h3, ?_⟩
    rcases h4 with h4 | h4
    · exact .inl ⟨h4.1, h4.2.same s⟩
    · exact .inr ⟨h4.1, h4.2.same s⟩
theorem BoxK.set {g : Nat} {T' : TypeId} {old : Array Value} (h : BoxK w1 w X T Z U k p) (hT : T ≠ T') (hg : VarAt w g T' old) (cs : Array Value) : BoxK w1 (w.setRow g cs) X T Z U k p := by
  rcases h with h | ⟨g2, h1, h2, h3, h4⟩
  · exact .inl h
  · refine .inr ⟨g2, h1, h2, h3, ?_⟩
    rcases h4 with h4 | h4
    · exact .inl ⟨h4.1, h4.2.set cs (fun e => by subst e; exact hT (h4.2.typ hg))⟩
    · exact .inr ⟨h4.1, h4.2.set cs (fun e => by subst e; exact hT (h4.2.typ hg))⟩
theorem BoxK.low (h : BoxK w1 w X T Z U k p) (hk : k ≤ 1) : BoxK w1 w X T Z U' k p := by
  rcases h with h | ⟨g2, h1, h2, h3, h4⟩
  · exact .inl h
  · refine .inr ⟨g2, h1, h2, h3, ?_⟩
    rcases h4 with h4 | h4
    · exact .inl h4
    · exfalso; omega
theorem BoxK.new (hs : w1.heap.size ≤ w.heap.size) (hX : X w.heap.size) : BoxK w1 (w.alloc (.cells Z T)) X T Z U 1 (.pointer (some ⟨w.heap.size, 0, none⟩)) :=
  .inr ⟨w.heap.size, rfl, hs, hX, .inl ⟨rfl, VarAt.new _ _ _⟩⟩
end
structure Three (R : Type) where
  t1 : Tmp
  t2 : Tmp
  t3 : Tmp
  u1 : Tmp
  u2 : Tmp
  u3 : Tmp
  T1 : TypeId
  T2 : TypeId
  T3 : TypeId
  Z1 : Array Value
  Z2 : Array Value
  Z3 : Array Value
  U1 : R → Array Value
  U2 : R → Array Value
  U3 : R → Array Value
  fr : Option R → Act
  Rel : (Nat → Prop) → R → World → Prop
def outO {R : Type} (U : R → Array Value) : Option R → Array Value
  | none => #[]
  | some r => U r
section
variable {R : Type} {M : Three R} {w1 w w' : World} {c : Bool} {k1 k2 k3 : Nat} {a : Act}
def Three.rel (M : Three R) (X : Nat → Prop) : Option R → World → Prop
  | none, _ => True
  | some r, w => M.Rel X r w
def Three.Inv (M : Three R) (w1 : World) (c : Bool) (k1 k2 k3 : Nat) (a : Act) (w : World) : Prop :=
  ∃ (r : Option R) (p1 p2 p3 : Value) (X : Nat → Prop), r.isSome = c ∧ a = fr3 M.t1 M.t2 M.t3 (M.fr r) p1 p2 p3 ∧ (∀ y, X y → w1.heap.size ≤ y ∧ y < w.heap.size) ∧ M.rel X r w ∧
    BoxK w1 w X M.T1 M.Z1 (outO M.U1 r) k1 p1 ∧ BoxK w1 w X M.T2 M.Z2 (outO M.U2 r) k2 p2 ∧ BoxK w1 w X M.T3 M.Z3 (outO M.U3 r) k3 p3
structure Three.Ok (M : Three R) : Prop where
  n12 : M.t1 ≠ M.t2
  n13 : M.t1 ≠ M.t3
  n23 : M.t2 ≠ M.t3
  T12 : M.T1 ≠ M.T2
  T13 : M.T1 ≠ M.T3
  T23 : M.T2 ≠ M.T3
  us : ∀ t, t = M.t1 ∨ t = M.t2 ∨ t = M.t3 → t ≠ M.u1 ∧ t ≠ M.u2 ∧ t ≠ M.u3
  e1 : ∀ r, (M.fr (some r)).eval (.tmp M.u1) = .agg (M.U1 r)
  e2 : ∀ r, (M.fr (some r)).eval (.tmp M.u2) = .agg (M.U2 r)
  e3 : ∀ r, (M.fr (some r)).eval (.tmp M.u3) = .agg (M.U3 r)
  sz : ∀ r, M.t1 < (M.fr r).tmps.size ∧ M.t2 < (M.fr r).tmps.size ∧ M.t3 < (M.fr r).tmps.size
  own : ∀ X X' r u v, M.Rel X r u → Same u v → (∀ y, X' y → X y ∨ u.heap.size ≤ y) → M.Rel X' r v
  chg : ∀ X r u v g, M.Rel X r u → X g → Chg (fun y => y = g) u v → M.Rel X r v
theorem Three.rel_own (h : M.Ok) {X X' : Nat → Prop} {r : Option R} (q : M.rel X r w) (s : Same w w') (hX : ∀ y, X' y → X y ∨ w.heap.size ≤ y) : M.rel X' r w' := by
  cases r with
  | none => trivial
  | some r => exact h.own _ _ _ _ _ q s hX
theorem Three.start (M : Three R) (w1 w : World) : M.Inv w1 false 0 0 0 (M.fr none) w :=
  ⟨none, _, _, _, fun _ => False, rfl, fr3_self.symm, fun _ q => q.elim, trivial, .inl rfl, .inl rfl, .inl rfl⟩
theorem Three.alloc1 (h : M.Ok) (s : Same w1 w) (q : M.Inv w1 c 0 k2 k3 a w) : M.Inv w1 c 1 k2 k3 (a.put (some M.t1) (.pointer (some ⟨w.heap.size, 0, none⟩))) (w.alloc (.cells M.Z1 M.T1)) := by
  obtain ⟨r, p1, p2, p3, X, q1, rfl, q3, q4, b1, b2, b3⟩ := q
  have sa : Same w (w.alloc (.cells M.Z1 M.T1)) := (Chg.refl _ _).alloc _
  refine ⟨r, _, p2, p3, fun y => X y ∨ y = w.heap.size, q1, by rw [fr3_1 h.n12 h.n13], fun y hy => ?_, M.rel_own h q4 sa (fun y hy => by rcases hy with hy | hy; exact .inl hy; exact .inr (by omega)), BoxK.new s.size (.inr rfl), b2.same sa (fun y hy => .inl hy), b3.same sa (fun y hy => .inl hy)⟩
  have e : (w.alloc (.cells M.Z1 M.T1)).heap.size = w.heap.size + 1 := by simp
  rcases hy with hy | hy
  · have := q3 y hy; omega
  · have := s.size; omega
theorem Three.store1 (h : M.Ok) (s : Same w1 w) (q : M.Inv w1 true 1 k2 k3 a w) : ∃ g r, a.eval (.tmp M.t1) = .pointer (some ⟨g, 0, none⟩) ∧ VarAt w g M.T1 M.Z1 ∧ a.eval (.tmp M.u1) = .agg (M.U1 r) ∧ w1.heap.size ≤ g ∧ M.Inv w1 true 2 k2 k3 a (w.setRow g (M.U1 r)) := by
  obtain ⟨r, p1, p2, p3, X, q1, rfl, q3, q4, b1, b2, b3⟩ := q
  rcases b1 with b | ⟨g, rfl, g1, g2, g3⟩
  · exfalso; omega
  · have hv : VarAt w g M.T1 M.Z1 := by
      rcases g3 with g3 | g3
      · exact g3.2
      · exfalso; have := g3.1; omega
    cases r with
    | none => cases q1
    | some r =>
      refine ⟨g, r, fr3_e1 h.n12 h.n13 (h.sz _).1, hv, ?_, g1, some r, _, p2, p3, X, rfl, rfl, fun y hy => by rw [setRow_size]; exact q3 y hy, h.chg _ _ _ _ g q4 g2 ((Chg.refl _ _).setRow _ _ (fun _ => rfl)), .inr ⟨g, rfl, g1, g2, .inr ⟨rfl, hv.put _⟩⟩, b2.set (Ne.symm h.T12) hv _, b3.set (Ne.symm h.T13) hv _⟩
      rw [fr3_eo (h.us _ (.inl rfl)).1 (h.us _ (.inr (.inl rfl))).1 (h.us _ (.inr (.inr rfl))).1]
      exact h.e1 r
theorem Three.alloc2 (h : M.Ok) (s : Same w1 w) (q : M.Inv w1 c k1 0 k3 a w) : M.Inv w1 c k1 1 k3 (a.put (some M.t2) (.pointer (some ⟨w.heap.size, 0, none⟩))) (w.alloc (.cells M.Z2 M.T2)) := by
  obtain ⟨r, p1, p2, p3, X, q1, rfl, q3, q4, b1, b2, b3⟩ := q
  have sa : Same w (w.alloc (.cells M.Z2 M.T2)) := (Chg.refl _ _).alloc _
  refine ⟨r, p1, _, p3, fun y => X y ∨ y = w.heap.size, q1, by rw [fr3_2 h.n23], fun y hy => ?_, M.rel_own h q4 sa (fun y hy => by rcases hy with hy | hy; exact .inl hy; exact .inr (by omega)), b1.same sa (fun y hy => .inl hy), BoxK.new s.size (.inr rfl), b3.same sa (fun y hy => .inl hy)⟩
  have e : (w.alloc (.cells M.Z2 M.T2)).heap.size = w.heap.size + 1 := by simp
  rcases hy with hy | hy
  · have := q3 y hy; omega
  · have := s.size; omega
theorem Three.store2 (h : M.Ok) (s : Same w1 w) (q : M.Inv w1 true k1 1 k3 a w) : ∃ g r, a.eval (.tmp M.t2) = .pointer (some ⟨g, 0, none⟩) ∧ VarAt w g M.T2 M.Z2 ∧ a.eval (.tmp M.u2) = .agg (M.U2 r) ∧ w1.heap.size ≤ g ∧ M.Inv w1 true k1 2 k3 a (w.setRow g (M.U2 r)) := by
  obtain ⟨r, p1, p2, p3, X, q1, rfl, q3, q4, b1, b2, b3⟩ := q
  rcases b2 with b | ⟨g, rfl, g1, g2, g3⟩
  · exfalso; omega
  · have hv : VarAt w g M.T2 M.Z2 := by
      rcases g3 with g3 | g3
      · exact g3.2
      · exfalso; have := g3.1; omega
    cases r with
    | none => cases q1
    | some r =>
      refine ⟨g, r, fr3_e2 h.n23 (h.sz _).2.1, hv, ?_, g1, some r, p1, _, p3, X, rfl, rfl, fun y hy => by rw [setRow_size]; exact q3 y hy, h.chg _ _ _ _ g q4 g2 ((Chg.refl _ _).setRow _ _ (fun _ => rfl)), b1.set h.T12 hv _, .inr ⟨g, rfl, g1, g2, .inr ⟨rfl, hv.put _⟩⟩, b3.set (Ne.symm h.T23) hv _⟩
      rw [fr3_eo (h.us _ (.inl rfl)).2.1 (h.us _ (.inr (.inl rfl))).2.1 (h.us _ (.inr (.inr rfl))).2.1]
      exact h.e2 r
theorem Three.alloc3 (h : M.Ok) (s : Same w1 w) (q : M.Inv w1 c k1 k2 0 a w) : M.Inv w1 c k1 k2 1 (a.put (some M.t3) (.pointer (some ⟨w.heap.size, 0, none⟩))) (w.alloc (.cells M.Z3 M.T3)) := by
  obtain ⟨r, p1, p2, p3, X, q1, rfl, q3, q4, b1, b2, b3⟩ := q
  have sa : Same w (w.alloc (.cells M.Z3 M.T3)) := (Chg.refl _ _).alloc _
  refine ⟨r, p1, p2, _, fun y => X y ∨ y = w.heap.size, q1, by rw [fr3_3], fun y hy => ?_, M.rel_own h q4 sa (fun y hy => by rcases hy with hy | hy; exact .inl hy; exact .inr (by omega)), b1.same sa (fun y hy => .inl hy), b2.same sa (fun y hy => .inl hy), BoxK.new s.size (.inr rfl)⟩
  have e : (w.alloc (.cells M.Z3 M.T3)).heap.size = w.heap.size + 1 := by simp
  rcases hy with hy | hy
  · have := q3 y hy; omega
  · have := s.size; omega
theorem Three.store3 (h : M.Ok) (s : Same w1 w) (q : M.Inv w1 true k1 k2 1 a w) : ∃ g r, a.eval (.tmp M.t3) = .pointer (some ⟨g, 0, none⟩) ∧ VarAt w g M.T3 M.Z3 ∧ a.eval (.tmp M.u3) = .agg (M.U3 r) ∧ w1.heap.size ≤ g ∧ M.Inv w1 true k1 k2 2 a (w.setRow g (M.U3 r)) := by
  obtain ⟨r, p1, p2, p3, X, q1, rfl, q3, q4, b1, b2, b3⟩ := q
  rcases b3 with b | ⟨g, rfl, g1, g2, g3⟩
  · exfalso; omega
  · have hv : VarAt w g M.T3 M.Z3 := by
      rcases g3 with g3 | g3
      · exact g3.2
      · exfalso; have := g3.1; omega
    cases r with
    | none => cases q1
    | some r =>
      refine ⟨g, r, fr3_e3 (h.sz _).2.2, hv, ?_, g1, some r, p1, p2, _, X, rfl, rfl, fun y hy => by rw [setRow_size]; exact q3 y hy, h.chg _ _ _ _ g q4 g2 ((Chg.refl _ _).setRow _ _ (fun _ => rfl)), b1.set h.T13 hv _, b2.set h.T23 hv _, .inr ⟨g, rfl, g1, g2, .inr ⟨rfl, hv.put _⟩⟩⟩
      rw [fr3_eo (h.us _ (.inl rfl)).2.2 (h.us _ (.inr (.inl rfl))).2.2 (h.us _ (.inr (.inr rfl))).2.2]
      exact h.e3 r
/-- At the call: no result yet. -/
theorem Three.atCall (q : M.Inv w1 false k1 k2 k3 a w) : ∃ (p1 p2 p3 : Value) (X : Nat → Prop), a = fr3 M.t1 M.t2 M.t3 (M.fr none) p1 p2 p3 ∧ (∀ y, X y → w1.heap.size ≤ y ∧ y < w.heap.size) ∧
    BoxK w1 w X M.T1 M.Z1 #[] k1 p1 ∧ BoxK w1 w X M.T2 M.Z2 #[] k2 p2 ∧ BoxK w1 w X M.T3 M.Z3 #[] k3 p3 := by
  obtain ⟨r, p1, p2, p3, X, q1, q2, q3, q4, b1, b2, b3⟩ := q
  cases r with
  | none => exact ⟨p1, p2, p3, X, q2, q3, b1, b2, b3⟩
  | some r => cases q1
theorem Three.called {X : Nat → Prop} {p1 p2 p3 : Value} (s : Same w w') (h1 : k1 ≤ 1) (h2 : k2 ≤ 1) (h3 : k3 ≤ 1) (hX : ∀ y, X y → w1.heap.size ≤ y ∧ y < w.heap.size)
    (b1 : BoxK w1 w X M.T1 M.Z1 #[] k1 p1) (b2 : BoxK w1 w X M.T2 M.Z2 #[] k2 p2) (b3 : BoxK w1 w X M.T3 M.Z3 #[] k3 p3) (r : R) (hr : M.Rel X r w') (ha : a = fr3 M.t1 M.t2 M.t3 (M.fr (some r)) p1 p2 p3) : M.Inv w1 true k1 k2 k3 a w' :=
  ⟨some r, p1, p2, p3, X, rfl, ha, fun y hy => ⟨(hX y hy).1, Nat.lt_of_lt_of_le (hX y hy).2 s.size⟩, hr, (b1.same s (fun _ q => q)).low h1, (b2.same s (fun _ q => q)).low h2, (b3.same s (fun _ q => q)).low h3⟩
/-- All three are filled. -/
theorem Three.done (q : M.Inv w1 true 2 2 2 a w) : ∃ (r : R) (g1 g2 g3 : Nat) (X : Nat → Prop), a = fr3 M.t1 M.t2 M.t3 (M.fr (some r)) (.pointer (some ⟨g1, 0, none⟩)) (.pointer (some ⟨g2, 0, none⟩)) (.pointer (some ⟨g3, 0, none⟩)) ∧ (∀ y, X y → w1.heap.size ≤ y ∧ y < w.heap.size) ∧ M.Rel X r w ∧
    VarAt w g1 M.T1 (M.U1 r) ∧ VarAt w g2 M.T2 (M.U2 r) ∧ VarAt w g3 M.T3 (M.U3 r) ∧ X g1 ∧ X g2 ∧ X g3 := by
  obtain ⟨r, p1, p2, p3, X, q1, q2, q3, q4, b1, b2, b3⟩ := q
  cases r with
  | none => cases q1
  | some r =>
    rcases b1 with b | ⟨g1, rfl, _, x1, v1⟩
    · exfalso; omega
    rcases b2 with b | ⟨g2, rfl, _, x2, v2⟩
    · exfalso; omega
    rcases b3 with b | ⟨g3, rfl, _, x3, v3⟩
    · exfalso; omega
    have v1 := v1.resolve_left (fun q => by have := q.1; omega)
    have v2 := v2.resolve_left (fun q => by have := q.1; omega)
    have v3 := v3.resolve_left (fun q => by have := q.1; omega)
    exact ⟨r, g1, g2, g3, X, q2, q3, q4, v1.2, v2.2, v3.2, x1, x2, x3⟩
end
end Go.Proofs.Yteolilggeaffaaa
