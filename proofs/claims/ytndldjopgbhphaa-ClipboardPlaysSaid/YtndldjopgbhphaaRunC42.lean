/- ClipboardPlays: what stands at the head of the loop and within a round. No walk. (Printed by plays42.py.) -/
import Derived.Test.YtndldjopgbhphaaKU42
import Derived.Test.YtndldjopgbhphaaPk48
set_option linter.unusedVariables false
set_option linter.unusedSimpArgs false
set_option maxRecDepth 100000
namespace Go.Proofs.Ytndldjopgbhphaa
open Go.RowKit

/-- The blocks of the clipboard, the log and the loop's two boxes. -/
def FC (R : Nat → Prop) (lb g4 g6 : Nat) : Nat → Prop := fun y => R y ∨ y = lb ∨ y = g4 ∨ y = g6
/-- The program stands at (L, c), the reference at (L', c'). -/
structure RunH (w0 w : World) (lb b g4 g6 : Nat) (R : Nat → Prop) (L : SLog) (c : CSt) (L' : SLog) (c' : CSt) (x : KC) (rs : List KFl) (N : Nat) (LA : Option Addr) (ln lc : Nat) (l : List Ent) : Prop where
  ses : Ses w0 w lb b R L c
  vl : VarAt w g4 58 #[.int .i64 N, .slice LA ln lc]
  vk : VarAt w g6 63 x.cells.toArray
  rk : RK w (FC R lb g4 g6) c' x rs
  rl : RL w (FC R lb g4 g6) L' N LA ln l
  n4 : ¬ R g4 ∧ g4 ≠ lb
  n6 : ¬ R g6 ∧ g6 ≠ lb
  lo4 : w0.heap.size ≤ g4
  lo6 : w0.heap.size ≤ g6
section
variable {w0 w w' u : World} {lb b g4 g6 : Nat} {R R' X : Nat → Prop} {L L' L2 : SLog} {c c' c2 : CSt} {x x2 : KC} {rs rs2 : List KFl} {N N2 : Nat} {LA LA2 : Option Addr} {ln lc ln2 lc2 : Nat} {l l2 : List Ent}
theorem RunH.same (h : RunH w0 w lb b g4 g6 R L c L' c' x rs N LA ln lc l) (k : Same w w') : RunH w0 w' lb b g4 g6 R L c L' c' x rs N LA ln lc l :=
  ⟨h.ses.keep k, h.vl.same k, h.vk.same k, h.rk.same k, h.rl.same k, h.n4, h.n6, h.lo4, h.lo6⟩
theorem RunH.lt (h : RunH w0 w lb b g4 g6 R L c L' c' x rs N LA ln lc l) : ∀ y, FC R lb g4 g6 y → y < w.heap.size := fun y hy => by
  rcases hy with hy | rfl | rfl | rfl
  · exact h.ses.clip.lt y hy
  · exact h.ses.llt
  · exact lt_of_at h.vl
  · exact lt_of_at h.vk
theorem RunH.ne (h : RunH w0 w lb b g4 g6 R L c L' c' x rs N LA ln lc l) : g4 ≠ g6 := fun e => by
  have h1 := h.vl
  rw [e] at h1
  have h2 := h.vk
  unfold VarAt at h1 h2
  rw [h1] at h2
  simp only [Option.some.injEq, Obj.cells.injEq] at h2
  exact absurd h2.2.1 (by decide)
/-- F with the blocks X, all new. -/
theorem RunH.rkX (h : RunH w0 w lb b g4 g6 R L c L' c' x rs N LA ln lc l) (k : Same w u) (hX : ∀ y, X y → w.heap.size ≤ y) : RK u (fun y => FC R lb g4 g6 y ∨ X y) c' x rs :=
  h.rk.own (Own.of_same k (fun y q => by rcases q with q | q; exact .inl q; exact .inr (hX y q)))
theorem RunH.rlX (h : RunH w0 w lb b g4 g6 R L c L' c' x rs N LA ln lc l) (k : Same w u) (hX : ∀ y, X y → w.heap.size ≤ y) : RL u (fun y => FC R lb g4 g6 y ∨ X y) L' N LA ln l :=
  h.rl.own (Own.of_same k (fun y q => by rcases q with q | q; exact .inl q; exact .inr (hX y q)))
/-- The box of the reference's clipboard is set. -/
theorem RunH.setK (h : RunH w0 w lb b g4 g6 R L c L' c' x rs N LA ln lc l) (hk : RK w (FC R lb g4 g6) c2 x2 rs2) : RunH w0 (w.setRow g6 x2.cells.toArray) lb b g4 g6 R L c L' c2 x2 rs2 N LA ln lc l ∧ Chg (fun y => y = g6) w (w.setRow g6 x2.cells.toArray) := by
  have hc : Chg (fun y => y = g6) w (w.setRow g6 x2.cells.toArray) := (Chg.refl _ _).setRow _ _ (fun _ => rfl)
  have ho : Own (FC R lb g4 g6) (FC R lb g4 g6) w (w.setRow g6 x2.cells.toArray) := ⟨hc.mono (fun y _ q => .inr (.inr (.inr q))), fun _ q => .inl q⟩
  refine ⟨⟨h.ses.chg hc (fun y hy => ?_), h.vl.set _ h.ne, h.vk.put _, hk.own ho, h.rl.own ho, h.n4, h.n6, h.lo4, h.lo6⟩, hc⟩
  have hy2 : y = g6 := hy
  subst hy2
  exact ⟨h.n6.1, h.n6.2, h.lo6⟩
/-- The box of the reference's log is set. -/
theorem RunH.setL (h : RunH w0 w lb b g4 g6 R L c L' c' x rs N LA ln lc l) (hl : RL w (FC R lb g4 g6) L2 N2 LA2 ln2 l2) : RunH w0 (w.setRow g4 #[.int .i64 N2, .slice LA2 ln2 lc2]) lb b g4 g6 R L c L2 c' x rs N2 LA2 ln2 lc2 l2 ∧ Chg (fun y => y = g4) w (w.setRow g4 #[.int .i64 N2, .slice LA2 ln2 lc2]) := by
  have hc : Chg (fun y => y = g4) w (w.setRow g4 #[.int .i64 N2, .slice LA2 ln2 lc2]) := (Chg.refl _ _).setRow _ _ (fun _ => rfl)
  have ho : Own (FC R lb g4 g6) (FC R lb g4 g6) w (w.setRow g4 #[.int .i64 N2, .slice LA2 ln2 lc2]) := ⟨hc.mono (fun y _ q => .inr (.inr (.inl q))), fun _ q => .inl q⟩
  refine ⟨⟨h.ses.chg hc (fun y hy => ?_), h.vl.put _, h.vk.set _ (Ne.symm h.ne), h.rk.own ho, hl.own ho, h.n4, h.n6, h.lo4, h.lo6⟩, hc⟩
  have hy2 : y = g4 := hy
  subst hy2
  exact ⟨h.n4.1, h.n4.2, h.lo4⟩
/-- The program's call. -/
theorem RunH.prog (h : RunH w0 w lb b g4 g6 R L c L' c' x rs N LA ln lc l) (hs : Ses w0 w' lb b R' L c2) (k : Own R R' w w') : RunH w0 w' lb b g4 g6 R' L c2 L' c' x rs N LA ln lc l := by
  have l4 := lt_of_at h.vl
  have l6 := lt_of_at h.vk
  have ho : Own (FC R lb g4 g6) (FC R' lb g4 g6) w w' := ⟨k.chg.mono (fun y _ q => .inl q), fun y q => by
    rcases q with q | q
    · rcases k.new y q with q | q
      · exact .inl (.inl q)
      · exact .inr q
    · exact .inl (.inr q)⟩
  exact ⟨hs, k.chg.at_ h.vl h.n4.1, k.chg.at_ h.vk h.n6.1, h.rk.own ho, h.rl.own ho, ⟨k.not l4 h.n4.1, h.n4.2⟩, ⟨k.not l6 h.n6.1, h.n6.2⟩, h.lo4, h.lo6⟩
/-- The program's log is written. -/
theorem RunH.log (h : RunH w0 w lb b g4 g6 R L c L' c' x rs N LA ln lc l) (hs : Ses w0 w' lb b R L2 c) (k : Chg (fun y => y = lb) w w') : RunH w0 w' lb b g4 g6 R L2 c L' c' x rs N LA ln lc l := by
  have ho : Own (FC R lb g4 g6) (FC R lb g4 g6) w w' := ⟨k.mono (fun y _ q => .inr (.inl q)), fun _ q => .inl q⟩
  exact ⟨hs, k.at_ h.vl (fun q => h.n4.2 q), k.at_ h.vk (fun q => h.n6.2 q), h.rk.own ho, h.rl.own ho, h.n4, h.n6, h.lo4, h.lo6⟩
end
theorem rk_flows {w : World} {F : Nat → Prop} {c : CSt} {x : KC} {rs : List KFl} (h : RK w F c x rs) (fl : List CFlow) : RK w F { c with flows := fl } x rs := { h with }
theorem kreceive_any2 {w : World} {F : Nat → Prop} {c : CSt} {x : KC} {rs : List KFl} (client : Int) (g : ByteArray) (win : Int) (h : RK w F c x rs) (hF : ∀ y, F y → y < w.heap.size) (hpn : x.pn ≤ 80) :
    Calls Try.prog 29 #[.agg x.cells.toArray, .int .i64 client, .string g, .int .i64 win] w fun e w' => ∃ x' ix rs', e = .returned (.tuple #[.agg (KC.cells x').toArray, .int .i64 ix, .int .i64 (c.rcvE client g win)]) ∧ RK w' F c x' rs' ∧ x'.pn ≤ x.pn + 1 ∧ Same w w' := by
  refine (kreceive_any client g win h hF hpn).mono ?_
  rintro e w' ⟨x', ix, rs', rfl, hk, hp, hs⟩
  exact ⟨x', ix, rs', rfl, hk c.flows, hp, hs⟩
theorem RunH.flows {w0 w : World} {lb b g4 g6 : Nat} {R : Nat → Prop} {L L' : SLog} {c c' : CSt} {x : KC} {rs : List KFl} {N : Nat} {LA : Option Addr} {ln lc : Nat} {l : List Ent} (h : RunH w0 w lb b g4 g6 R L c L' c' x rs N LA ln lc l) (fl : List CFlow) : RunH w0 w lb b g4 g6 R L c L' { c' with flows := fl } x rs N LA ln lc l :=
  { h with rk := rk_flows h.rk fl }
theorem infoDv : (Try.prog.info? 44).map (fun i => i.size) = some 9 := by kernel_rfl
theorem run_load_dv {w : World} {g : Nat} {a b c d e f h i j : Value} (hv : VarAt w g 44 #[a, b, c, d, e, f, h, i, j]) : (loadVar 44 ⟨g, 0, none⟩).run Try.prog w = .ok (.agg #[a, b, c, d, e, f, h, i, j]) w :=
  run_loadMid (P := Try.prog) (C := [a, b, c, d, e, f, h, i, j]) 44 0 9 _ hv infoDv Try.underlying44 rfl (by simp)
theorem acc_off {w wr : World} {lb b : Nat} {R : Nat → Prop} {L : SLog} {c : CSt} {x : COp} (h : x.ok w) (hs : Ses w wr lb b R L c) : 0 < x.len → ∀ g o, x.A = some ⟨g, o, none⟩ → ¬ R g := by
  intro hn g o hA hr
  obtain ⟨b2, o2, hA2, hb2, _⟩ := h.2.2.2.2.1.2 hn
  rw [hA] at hA2
  cases hA2
  have := hs.fresh _ hr
  omega
theorem set_keep (c : CSt) (L : SLog) (cl : Int) (fs : List ByteArray) (a n : Int) : (c.set L cl fs a n).offers = c.offers ∧ (c.set L cl fs a n).flows = c.flows := by unfold CSt.set; split <;> exact ⟨rfl, rfl⟩
theorem clear_keep (c : CSt) (L : SLog) (cl n : Int) : (c.clear L cl n).offers = c.offers ∧ (c.clear L cl n).flows = c.flows := by unfold CSt.clear; split <;> exact ⟨rfl, rfl⟩
theorem foc_keep (c : CSt) (cl : Int) : (c.foc cl).offers ≤ c.offers + 1 ∧ (c.foc cl).flows = c.flows := by unfold CSt.foc; refine ⟨?_, rfl⟩; dsimp only; split <;> omega
theorem gone_keep (c : CSt) (cl : Int) : (c.gone cl).offers = c.offers ∧ (c.gone cl).flows.length = c.flows.length := by unfold CSt.gone; split; exact ⟨rfl, rfl⟩; exact ⟨rfl, by simp⟩
theorem infoCOp : (Try.prog.info? 49).map (fun i => i.size) = some 5 := by kernel_rfl
theorem run_load_cop {w : World} {g : Nat} {a b c d e : Value} (h : VarAt w g 49 #[a, b, c, d, e]) : (loadVar 49 ⟨g, 0, none⟩).run Try.prog w = .ok (.agg #[a, b, c, d, e]) w :=
  run_loadMid (P := Try.prog) (C := [a, b, c, d, e]) 49 0 5 _ h infoCOp Try.underlying49 rfl (by simp)
/-- The reference's result in a box of its own. -/
def BoxR (R : Nat → Prop) (lb g4 g6 : Nat) (wA wx : World) (c' : CSt) (x' : KC) (rs : List KFl) (g : Nat) : Prop :=
  VarAt wx g 63 x'.cells.toArray ∧ RK wx (FC R lb g4 g6) c' x' rs ∧ Same wA wx
theorem box_end {R : Nat → Prop} {lb g4 g6 g : Nat} {wA u : World} {c' : CSt} {x' : KC} {rs : List KFl} {old : Array Value} (hv : VarAt u g 63 old) (hr : RK u (fun y => FC R lb g4 g6 y ∨ y = g) c' x' rs) (hk : Same wA u) (hg : wA.heap.size ≤ g) : BoxR R lb g4 g6 wA (u.setRow g x'.cells.toArray) c' x' rs g := by
  have hc : Chg (fun y => y = g) u (u.setRow g x'.cells.toArray) := (Chg.refl _ _).setRow _ _ (fun _ => rfl)
  exact ⟨hv.put _, (hr.own ⟨hc.mono (fun y _ q => .inr q), fun _ q => .inl q⟩).weak (fun y q => .inl q), hk.then_ hc (fun i hi q => by have q2 : i = g := q; omega)⟩
theorem see_len {w : World} {F : Nat → Prop} {c : CSt} {x : KC} {rs : List KFl} {client : Int} {fs : List ByteArray} (h : RK w F c x rs) (hf : c.sees client = fs) : fs.length ≤ 1000000 := by
  subst hf
  unfold CSt.sees
  have := h.fm.1
  have := h.fmn
  split
  · simp
  · omega
theorem zeroKC (w : World) : (zeroValue 63).run Try.prog w = .ok (.agg #[.bool false, .int .i64 0, .int .i64 0, .slice none 0 0, .int .i64 0, .bool false, .int .u32 0, .int .i64 0, .slice none 0 0]) w := by kernel_rfl
theorem zeroRL (w : World) : (zeroValue 58).run Try.prog w = .ok (.agg #[.int .i64 0, .slice none 0 0]) w := by kernel_rfl
theorem infoKC2 : (Try.prog.info? 63).map (·.size) = some 9 := by kernel_rfl
theorem infoRL2 : (Try.prog.info? 58).map (·.size) = some 2 := by kernel_rfl
section
variable {ops : Array Oper} {Q : Exit → Act → World → Prop} {rest : List Oper} {a : Act} {w : World} {d : Option Tmp} {ty : TypeId} {ps : String} {ed : Array Edge}
/-- A box for a clipboard. -/
theorem wpl_newK (h : ∀ u g, Same w u → VarAt u g 63 #[.bool false, .int .i64 0, .int .i64 0, .slice none 0 0, .int .i64 0, .bool false, .int .u32 0, .int .i64 0, .slice none 0 0] → w.heap.size ≤ g → g < u.heap.size → wpList Try.prog ops Q rest (a.put d (.pointer (some ⟨g, 0, none⟩))) u) :
    wpList Try.prog ops Q (⟨d, .alloc 63, ty, ps, ed, none⟩ :: rest) a w :=
  wpl_alloc _ _ (zeroKC w) rfl (h _ w.heap.size ((Chg.refl _ _).alloc _) (VarAt.new _ _ _) (Nat.le_refl _) (by simp))
end
end Go.Proofs.Ytndldjopgbhphaa
