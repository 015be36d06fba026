/- Parts of the walk, packed: Run43, MG43. -/
import Derived.Test.YteolilggeaffaaaWany43
import Derived.Test.YteolilggeaffaaaInv3
import Derived.Test.YteolilggeaffaaaMC43
import Derived.Test.YteolilggeaffaaaPk09
import Derived.Deep.MidRow
set_option linter.unusedVariables false
set_option linter.unusedSimpArgs false
set_option maxRecDepth 100000
namespace Go.Proofs.Yteolilggeaffaaa
open Go.RowKit

section
variable {w0 w w' u v : World} {F F' : Nat → Prop} {sb lb b g5 g6 : Nat} {L : SLog} {d : DSt} {last : Int} {x : MD} {rs : List RPp} {N : Nat} {LA : Option Addr} {ln lc : Nat} {l : List Ent}
theorem LQ.chgO {S : Nat → Prop} (h : LQ w0 w F sb lb b L d last) (k : Chg S w w') (hS : ∀ y, S y → ¬ F y ∧ w0.heap.size ≤ y) : LQ w0 w' F sb lb b L d last := by
  obtain ⟨R, PA, pn, pc, h⟩ := h
  refine ⟨R, PA, pn, pc, h.ls.chg k (fun y hy => ⟨fun q => (hS y hy).1 (h.cov y (.inl q)), fun q => (hS y hy).1 (h.cov y (.inr (.inr (.inl q)))), fun q => (hS y hy).1 (h.cov y (.inr (.inl q))), (hS y hy).2⟩), row_chg h.row k (fun y hy q => (hS y q).1 (h.cov y (.inr (.inr (.inr hy))))), h.far, h.cov, fun y hy => ⟨(h.lo y hy).1, Nat.lt_of_lt_of_le (h.lo y hy).2 k.size⟩⟩
/-- The session's blocks and the two boxes of the loop. -/
def FG (F : Nat → Prop) (g5 g6 : Nat) : Nat → Prop := fun y => F y ∨ y = g5 ∨ y = g6
structure RunI (w0 w : World) (F : Nat → Prop) (sb lb b g5 g6 : Nat) (L : SLog) (d : DSt) (last : Int) (x : MD) (rs : List RPp) (N : Nat) (LA : Option Addr) (ln lc : Nat) (l : List Ent) : Prop where
  lq : LQ w0 w F sb lb b L d last
  vd : VarAt w g5 56 x.cells.toArray
  vl : VarAt w g6 60 #[.int .i64 N, .slice LA ln lc]
  rd : RD w (FG F g5 g6) d x rs
  rl : RL w (FG F g5 g6) L N LA ln l
  n5 : ¬ F g5
  n6 : ¬ F g6
  lo5 : w0.heap.size ≤ g5
  lo6 : w0.heap.size ≤ g6
theorem RunI.same (h : RunI w0 w F sb lb b g5 g6 L d last x rs N LA ln lc l) (k : Same w w') : RunI w0 w' F sb lb b g5 g6 L d last x rs N LA ln lc l :=
  ⟨h.lq.keep k, h.vd.same k, h.vl.same k, h.rd.same k, h.rl.same k, h.n5, h.n6, h.lo5, h.lo6⟩
theorem RunI.ne (h : RunI w0 w F sb lb b g5 g6 L d last x rs N LA ln lc l) : g5 ≠ g6 := fun e => by
  have h1 := h.vd
  rw [e] at h1
  exact absurd (h1.typ h.vl) (by decide)
theorem RunI.lt (h : RunI w0 w F sb lb b g5 g6 L d last x rs N LA ln lc l) : ∀ y, FG F g5 g6 y → y < w.heap.size := fun y hy => by
  rcases hy with hy | rfl | rfl
  · exact (h.lq.lo y hy).2
  · exact lt_of_at h.vd
  · exact lt_of_at h.vl
theorem RunI.win {op : DOp} (h : RunI w0 w F sb lb b g5 g6 L d last x rs N LA ln lc l) {X : Nat → Prop} (hX : ∀ y, X y → w.heap.size ≤ y ∧ y < w'.heap.size) (k : Same w w') (hop : op.ok w') (hl : LightOp op) (ho : d.offers ≤ 40) (hf : d.flows.length ≤ 40) (hN : N ≤ 40) :
    WIn w' (fun y => FG F g5 g6 y ∨ X y) d L x rs N LA ln l op := by
  have ko : Own (FG F g5 g6) (fun y => FG F g5 g6 y ∨ X y) w w' := Own.of_same k (fun y q => by rcases q with q | q; exact .inl q; exact .inr (hX y q).1)
  refine ⟨h.rd.own ko, h.rl.own ko, fun y q => ?_, hop, hl, ho, hf, hN⟩
  rcases q with q | q
  · have := h.lt y q; have := k.size; omega
  · exact (hX y q).2
/-- What want returns. -/
structure WRes where
  x : MD
  N : Nat
  LA : Option Addr
  ln : Nat
  lc : Nat
  VA : Option Addr
  vn : Nat
  vc : Nat
  ok : Bool
  er : Int
def WRes.u1 (r : WRes) : Array Value := r.x.cells.toArray
def WRes.u2 (r : WRes) : Array Value := #[.int .i64 r.N, .slice r.LA r.ln r.lc]
def WRes.u3 (r : WRes) : Array Value := #[.slice r.VA r.vn r.vc, .bool r.ok, .int .i64 r.er]
def WRes.tup (r : WRes) : Value := .tuple #[.agg r.u1, .agg r.u2, .agg r.u3]
def runFr (af : Act) : Option WRes → Act
  | none => af
  | some r => ((((af.put (some 41) r.tup).put (some 30) r.tup).put (some 42) (.agg r.u1)).put (some 43) (.agg r.u2)).put (some 44) (.agg r.u3)
def runM (af : Act) (op : DOp) (d : DSt) (L : SLog) (last : Int) (F : Nat → Prop) (N : Nat) : Three WRes where
  t1 := 8
  t2 := 9
  t3 := 10
  u1 := 42
  u2 := 43
  u3 := 44
  T1 := 56
  T2 := 60
  T3 := 63
  Z1 := MD.zero.cells.toArray
  Z2 := #[.int .i64 0, .slice none 0 0]
  Z3 := #[.slice none 0 0, .bool false, .int .i64 0]
  U1 := WRes.u1
  U2 := WRes.u2
  U3 := WRes.u3
  fr := runFr af
  Rel := fun X r w => WantR op d L last (fun y => F y ∨ X y) N r.x r.N r.LA r.ln r.VA r.vn r.ok r.er w
theorem WantR.own {op : DOp} {x' : MD} {N' : Nat} {LA' : Option Addr} {ln' : Nat} {VA : Option Addr} {vn : Nat} {ok : Bool} {er : Int} (h : WantR op d L last F N x' N' LA' ln' VA vn ok er u) (k : Own F F' u v) : WantR op d L last F' N x' N' LA' ln' VA vn ok er v := fun d' L' last' ds ok' er' hst => by
  obtain ⟨h1, h2, h3, h4, h5, rs', l', h6, h7⟩ := h d' L' last' ds ok' er' hst
  exact ⟨h1, h2, h3, h4, h5.own (k := k), rs', l', h6.own k, h7.own k⟩
theorem runM_ok {af : Act} {op : DOp} (haf : 94 ≤ af.tmps.size) : (runM af op d L last F N).Ok where
  n12 := by show (8 : Nat) ≠ 9; decide
  n13 := by show (8 : Nat) ≠ 10; decide
  n23 := by show (9 : Nat) ≠ 10; decide
  T12 := by show (56 : Nat) ≠ 60; decide
  T13 := by show (56 : Nat) ≠ 63; decide
  T23 := by show (60 : Nat) ≠ 63; decide
  us := fun t ht => by
    rcases ht with rfl | rfl | rfl
    · show (8 : Nat) ≠ 42 ∧ (8 : Nat) ≠ 43 ∧ (8 : Nat) ≠ 44; decide
    · show (9 : Nat) ≠ 42 ∧ (9 : Nat) ≠ 43 ∧ (9 : Nat) ≠ 44; decide
    · show (10 : Nat) ≠ 42 ∧ (10 : Nat) ≠ 43 ∧ (10 : Nat) ≠ 44; decide
  e1 := fun r => by
    show (runFr af (some r)).eval (.tmp 42) = _
    unfold runFr
    rw [eval_put_ne (by decide), eval_put_ne (by decide), eval_put (by rw [put_size, put_size]; exact Nat.lt_of_lt_of_le (by decide) haf)]
    rfl
  e2 := fun r => by
    show (runFr af (some r)).eval (.tmp 43) = _
    unfold runFr
    rw [eval_put_ne (by decide), eval_put (by rw [put_size, put_size, put_size]; exact Nat.lt_of_lt_of_le (by decide) haf)]
    rfl
  e3 := fun r => by
    show (runFr af (some r)).eval (.tmp 44) = _
    unfold runFr
    rw [eval_put (by rw [put_size, put_size, put_size, put_size]; exact Nat.lt_of_lt_of_le (by decide) haf)]
    rfl
  sz := fun r => by
    have e : (runFr af r).tmps.size = af.tmps.size := by
      cases r with
      | none => rfl
      | some r => unfold runFr; rw [put_size, put_size, put_size, put_size, put_size]
    show 8 < (runFr af r).tmps.size ∧ 9 < (runFr af r).tmps.size ∧ 10 < (runFr af r).tmps.size
    rw [e]
    omega
  own := fun X X' r u v h k hX => WantR.own h (Own.of_same k (fun y q => by
    rcases q with q | q
    · exact .inl (.inl q)
    · rcases hX y q with q | q
      · exact .inl (.inr q)
      · exact .inr q))
  chg := fun X r u v g h hX k => WantR.chg h k (fun y hy => .inr (hy ▸ hX))
/-- Behind a round: the boxes hold what want has returned. -/
theorem run_next {X : Nat → Prop} {w2 w3 w4 : World} {L' : SLog} {d' : DSt} {last' : Int} {x' : MD} {rs' : List RPp} {N' : Nat} {LA' : Option Addr} {ln' : Nat} {l' : List Ent} (lc' : Nat) (hI : RunI w0 w2 F sb lb b g5 g6 L d last x rs N LA ln lc l) (hown : Own F F' w2 w3) (hl3 : LQ w0 w3 F' sb lb b L' d' last')
    (hrd : RD w2 (fun y => FG F g5 g6 y ∨ X y) d' x' rs') (hrl : RL w2 (fun y => FG F g5 g6 y ∨ X y) L' N' LA' ln' l') (k : Same w3 w4) :
    RunI w0 ((w4.setRow g5 x'.cells.toArray).setRow g6 #[.int .i64 N', .slice LA' ln' lc']) F' sb lb b g5 g6 L' d' last' x' rs' N' LA' ln' lc' l' ∧ Chg (fun y => y = g5 ∨ y = g6) w4 ((w4.setRow g5 x'.cells.toArray).setRow g6 #[.int .i64 N', .slice LA' ln' lc']) := by
  have f5 : ¬ F' g5 := hown.not (lt_of_at hI.vd) hI.n5
  have f6 : ¬ F' g6 := hown.not (lt_of_at hI.vl) hI.n6
  have c45 : Chg (fun y => y = g5 ∨ y = g6) w4 ((w4.setRow g5 x'.cells.toArray).setRow g6 #[.int .i64 N', .slice LA' ln' lc']) := ((Chg.refl _ _).setRow g5 _ (fun _ => .inl rfl)).setRow g6 _ (fun _ => .inr rfl)
  have ko : Own (fun y => FG F g5 g6 y ∨ X y) (FG F' g5 g6) w2 w3 := ⟨hown.chg.mono (fun y _ q => .inl (.inl q)), fun y q => by
    rcases q with q | q
    · rcases hown.new y q with q | q
      · exact .inl (.inl (.inl q))
      · exact .inr q
    · exact .inl (.inl (.inr q))⟩
  have ko2 : Own (FG F' g5 g6) (FG F' g5 g6) w4 ((w4.setRow g5 x'.cells.toArray).setRow g6 #[.int .i64 N', .slice LA' ln' lc']) := ⟨c45.mono (fun y _ q => .inr q), fun _ q => .inl q⟩
  have v5 : VarAt w4 g5 56 x.cells.toArray := VarAt.same (hown.chg.at_ hI.vd hI.n5) k
  have v6 : VarAt w4 g6 60 #[.int .i64 N, .slice LA ln lc] := VarAt.same (hown.chg.at_ hI.vl hI.n6) k
  refine ⟨⟨(hl3.keep k).chgO c45 (fun y hy => ?_), (v5.put _).set _ hI.ne, (v6.set _ (Ne.symm hI.ne)).put _, ((hrd.own ko).same k).own ko2, ((hrl.own ko).same k).own ko2, f5, f6, hI.lo5, hI.lo6⟩, c45⟩
  rcases hy with rfl | rfl
  · exact ⟨f5, hI.lo5⟩
  · exact ⟨f6, hI.lo6⟩
theorem run_dvs {X : Nat → Prop} {w2 w3 w4 w5 : World} {VA : Option Addr} {ds : List Dv} (hc : Chg (fun y => y = g5 ∨ y = g6) w4 w5) (hown : Own F F' w2 w3) (h : DvsF w2 (fun y => FG F g5 g6 y ∨ X y) VA ds) (k : Same w3 w4) : DvsF w5 (FG F' g5 g6) VA ds := by
  have ko : Own (fun y => FG F g5 g6 y ∨ X y) (FG F' g5 g6) w2 w3 := ⟨hown.chg.mono (fun y _ q => .inl (.inl q)), fun y q => by
    rcases q with q | q
    · rcases hown.new y q with q | q
      · exact .inl (.inl (.inl q))
      · exact .inr q
    · exact .inl (.inl (.inr q))⟩
  exact DvsF.chg (DvsF.own (k := ko.same k) h) hc (fun y hy => .inr hy)
theorem run_dvs2 {w2 w3 w4 w5 : World} {A : Option Addr} {ds : List Dv} (hc : Chg (fun y => y = g5 ∨ y = g6) w4 w5) (h : 0 < ds.length → ∃ g, A = some ⟨g, 0, none⟩ ∧ w2.heap.size ≤ g ∧ g < w3.heap.size ∧ ∀ (i : Nat) x, ds[i]? = some x → ∀ j u, x.cells[j]? = some u → w3.cell? ⟨g, i * 9 + j, none⟩ = some u)
    (h5 : g5 < w2.heap.size) (h6 : g6 < w2.heap.size) (k : Same w3 w4) : DvsAt w5 A ds := fun hn => by
  obtain ⟨g, e, hlo, hlt, hcl⟩ := h hn
  exact ⟨g, e, Nat.lt_of_lt_of_le (Nat.lt_of_lt_of_le hlt k.size) hc.size, fun i x hx j u hu => hc.cell (k.cell (hcl i x hx j u hu) (fun q => q)) (fun q => by omega)⟩
theorem left_len (d : DSt) : d.leftD.length ≤ 1 := by unfold DSt.leftD; split <;> simp
theorem step_outs {x : DOp} {d d' : DSt} {L L' : SLog} {last last' : Int} {ds : List Dv} {ok : Bool} {er : Int} (h : StepR x d L last d' L' last' ds ok er) : ds.length ≤ 2 := by
  have hl := left_len d
  rcases h with h | h | h | h | h | h | h | h | h | h
  · rw [h.2.2.2.2.1]; simp
  · rw [h.2.2.2.2.1]; simp
  · rw [h.2.2.2.2.1]
    unfold DSt.mvD DSt.outD
    split
    · split
      · split <;> simp
      · split
        · omega
        · simp; omega
    · simp
  · rw [h.2.2.2.2.1]; simp
  · rw [h.2.2.2.2.1]; simp
  · rw [h.2.2.2.2.1]
    unfold DSt.dropD DSt.cancD
    split
    · split
      · simp
      · first | omega | (split; omega; simp)
    · simp
  · rw [h.2.2.2.1]; simp
  · rw [h.2.2.2.2.1]; simp
  · rw [h.2.2.2.2.1]
    unfold DSt.cancD
    split
    · omega
    · simp
  · rw [h.2.2.2.1]; simp
theorem exec_loadg {P : Program} {a : Act} {d : Option Tmp} {ty t : TypeId} {ps : String} {ed : Array Edge} {gd} {y : Operand} {A : Addr} {V : Value} (hx : a.eval y = .pointer (some A)) (hr : (loadVar t A).run P w = .ok V w) : (execOp a.eval ⟨d, .load t y, ty, ps, ed, gd⟩).run P w = .ok (.value V) w := by
  unfold execOp Instr.loadAt Instr.sureAddr; simp only [hx, Sem.run_bind, Sem.run_pure, hr, Result.andThen_ok]
theorem zeroMD (w : World) : (zeroValue 56).run Try.prog w = .ok (.agg MD.zero.cells.toArray) w := by kernel_rfl
theorem zeroRL (w : World) : (zeroValue 60).run Try.prog w = .ok (.agg #[.int .i64 0, .slice none 0 0]) w := by kernel_rfl
theorem zeroRes (w : World) : (zeroValue 63).run Try.prog w = .ok (.agg #[.slice none 0 0, .bool false, .int .i64 0]) w := by kernel_rfl
theorem infoMD2 : (Try.prog.info? 56).map (·.size) = some 14 := by kernel_rfl
theorem infoRL2 : (Try.prog.info? 60).map (·.size) = some 2 := by kernel_rfl
theorem infoRes2 : (Try.prog.info? 63).map (·.size) = some 3 := by kernel_rfl
end
end Go.Proofs.Yteolilggeaffaaa

namespace Go.Proofs.Yteolilggeaffaaa
open Go.RowKit

theorem getElem?_splice (C vs : List Value) (o i : Nat) (h : o + vs.length ≤ C.length) : (C.take o ++ vs ++ C.drop (o + vs.length))[i]? = if i < o then C[i]? else if i < o + vs.length then vs[i - o]? else C[i]? := by
  have ht : (C.take o).length = o := by rw [List.length_take]; omega
  rw [List.append_assoc]
  by_cases h1 : i < o
  · rw [if_pos h1, List.getElem?_append_left (by omega), List.getElem?_take_of_lt h1]
  · rw [if_neg h1, List.getElem?_append_right (by omega), ht]
    by_cases h2 : i < o + vs.length
    · rw [if_pos h2, List.getElem?_append_left (by omega)]
    · rw [if_neg h2, List.getElem?_append_right (by omega), List.getElem?_drop]
      congr 1
      omega
theorem PRow.set5 {w : World} {F : Nat → Prop} {g n : Nat} {rs : List RPp} {C : List Value} {T : TypeId} {fr : Nat × Nat} (h : PRow w F (some ⟨g, 0, none⟩) n rs) (ht : w.heap[g]? = some (.cells C.toArray T fr)) {k : Nat} (hk : k < n) {z' : RPp} (hz : z'.ok) :
    PRow (w.setCells g (k * 5) z'.cells) F (some ⟨g, 0, none⟩) n (rs.set k z') := by
  obtain ⟨g', e, hF, hg, hc⟩ := h.2.2 (by omega)
  cases e
  have hkl : k < rs.length := by rw [h.1]; exact hk
  have hx := List.getElem?_eq_getElem hkl
  have hlast := hc k _ hx 4 _ rfl
  rw [cell_at ht] at hlast
  have hC : k * 5 + 4 < C.length := (List.getElem?_eq_some_iff.1 hlast).1
  have hle : k * 5 + z'.cells.length ≤ C.length := by rw [RPp.len]; omega
  have hh := at_setCells z'.cells (k * 5) w C ht hle
  refine ⟨by rw [List.length_set]; exact h.1, fun y hy => ?_, fun _ => ⟨g, rfl, hF, lt_of_at hh, fun i y hy j u hu => ?_⟩⟩
  · rcases List.mem_or_eq_of_mem_set hy with q | q
    · exact h.2.1 y q
    · rw [q]; exact hz
  · have hj : j < 5 := by have := (List.getElem?_eq_some_iff.1 hu).1; rw [RPp.len] at this; exact this
    rw [cell_at hh, getElem?_splice _ _ _ _ hle]
    rw [List.getElem?_set] at hy
    rw [RPp.len]
    by_cases hik : k = i
    · subst hik
      rw [if_pos rfl, if_pos hkl] at hy
      cases hy
      rw [if_neg (by omega), if_pos (by omega), show k * 5 + j - k * 5 = j by omega]
      exact hu
    · rw [if_neg hik] at hy
      have := hc i y hy j u hu
      rw [cell_at ht] at this
      by_cases hlt : i * 5 + j < k * 5
      · rw [if_pos hlt]; exact this
      · rw [if_neg hlt, if_neg (by omega)]; exact this
end Go.Proofs.Yteolilggeaffaaa
