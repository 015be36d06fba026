/- compositorref43: Move (printed by mmove.py). -/
import Derived.Test.YteolilggeaffaaaMP43
import Derived.WalkMore
import Derived.Great.BuildSlice
set_option linter.unusedVariables false
set_option linter.unusedSimpArgs false
set_option maxRecDepth 100000
namespace Go.Proofs.Yteolilggeaffaaa
open Go.RowKit

theorem exec_build {P : Program} {a : Act} {w : World} {d : Option Tmp} {ty t : TypeId} {ps : String} {ed : Array Edge} {parts : Array (Nat × Operand)} {cells : Array Value} (hc : P.built t (parts.map fun (i, x) => (i, a.eval x)).toList = some cells) :
    (execOp a.eval ⟨d, .build t parts, ty, ps, ed, none⟩).run P w = .ok (.value (.agg cells)) w := by
  unfold execOp
  simp only [Sem.run_bind, run_build w t _ cells hc, Result.andThen_ok]
  rfl
theorem built_move (c s la px py : Int) : Try.prog.built 72 [(0, .int .i64 c), (1, .int .i64 s), (2, .int .i64 15), (3, .int .i64 la), (4, .int .i64 px), (5, .int .i64 py)] = some #[.int .i64 c, .int .i64 s, .int .i64 15, .int .i64 la, .int .i64 px, .int .i64 py, .int .i64 0, .int .i64 0, .int .u32 0] := by kernel_rfl
theorem built_enter (c s n px py nm : Int) : Try.prog.built 72 [(0, .int .i64 c), (1, .int .i64 s), (2, .int .i64 14), (8, .int .u32 n), (4, .int .i64 px), (5, .int .i64 py), (6, .int .i64 nm)] = some #[.int .i64 c, .int .i64 s, .int .i64 14, .int .i64 0, .int .i64 px, .int .i64 py, .int .i64 nm, .int .i64 0, .int .u32 n] := by kernel_rfl
theorem fill_dv (a1 a2 a3 a4 a5 a6 a7 a8 a9 : Int) : Instr.fill (fun i => some (i * 9, 9)) ((Array.range (1 * 9)).map ((Value.agg #[.int .i64 0, .int .i64 0, .int .i64 0, .int .i64 0, .int .i64 0, .int .i64 0, .int .i64 0, .int .i64 0, .int .u32 0]).cells[· % (Value.agg #[.int .i64 0, .int .i64 0, .int .i64 0, .int .i64 0, .int .i64 0, .int .i64 0, .int .i64 0, .int .i64 0, .int .u32 0]).cells.size]!)) [(0, .agg #[.int .i64 a1, .int .i64 a2, .int .i64 a3, .int .i64 a4, .int .i64 a5, .int .i64 a6, .int .i64 a7, .int .i64 a8, .int .u32 a9])] = some #[.int .i64 a1, .int .i64 a2, .int .i64 a3, .int .i64 a4, .int .i64 a5, .int .i64 a6, .int .i64 a7, .int .i64 a8, .int .u32 a9] := by kernel_rfl
theorem wpl_dv {ops : Array Oper} {Q : Exit → Act → World → Prop} {rest : List Oper} {a : Act} {w : World} {d : Option Tmp} {ty : TypeId} {ps : String} {ed : Array Edge} {x : Operand} (a1 a2 a3 a4 a5 a6 a7 a8 a9 : Int)
    (hx : a.eval x = .agg #[.int .i64 a1, .int .i64 a2, .int .i64 a3, .int .i64 a4, .int .i64 a5, .int .i64 a6, .int .i64 a7, .int .i64 a8, .int .u32 a9])
    (h : wpList Try.prog ops Q rest (a.put d (.slice (some ⟨w.heap.size, 0, none⟩) 1 1)) (w.alloc (.cells #[.int .i64 a1, .int .i64 a2, .int .i64 a3, .int .i64 a4, .int .i64 a5, .int .i64 a6, .int .i64 a7, .int .i64 a8, .int .u32 a9] 72))) :
    wpList Try.prog ops Q (⟨d, .buildSlice 40 1 #[(0, x)], ty, ps, ed, none⟩ :: rest) a w := by
  obtain ⟨i, hi0, hz0, hz1, hz2⟩ := info_parts infoDeliv
  refine wpList_buildSlice rfl 40 72 1 #[(0, x)] rfl _ i _ Try.underlying40 hi0 hz0 (by rw [hz1]; decide) (by rw [hz1]; decide) ?_ h
  rw [hz1]
  have e : ((#[(0, x)] : Array (Nat × Operand)).map fun (i, x) => (i, a.eval x)).toList = [(0, a.eval x)] := by simp
  rw [e, hx]
  exact fill_dv a1 a2 a3 a4 a5 a6 a7 a8 a9
/-- The four blocks that Move makes first. -/
structure Mv4 (w u : World) (x : MD) (N : Nat) (LA : Option Addr) (ln lc : Nat) : Prop where
  d : VarAt u w.heap.size 56 x.cells.toArray
  l : VarAt u (w.heap.size + 1) 60 #[.int .i64 N, .slice LA ln lc]
  zd : VarAt u (w.heap.size + 1 + 1) 56 #[.int .i64 0, .int .i64 0, .int .i64 0, .int .i64 0, .slice none 0 0, .int .i64 0, .string ⟨#[]⟩, .int .i64 0, .int .i64 0, .int .i64 0, .bool false, .int .i64 0, .slice none 0 0, .int .i64 0]
  zl : VarAt u (w.heap.size + 1 + 1 + 1) 60 #[.int .i64 0, .slice none 0 0]
  s : Same w u
  z : w.heap.size + 4 ≤ u.heap.size
section
variable {w u v : World} {x : MD} {N : Nat} {LA : Option Addr} {ln lc : Nat}
theorem Mv4.same (h : Mv4 w u x N LA ln lc) (k : Same u v) : Mv4 w v x N LA ln lc := ⟨h.d.same k, h.l.same k, h.zd.same k, h.zl.same k, h.s.trans k, Nat.le_trans h.z k.size⟩
theorem Mv4.new (w : World) (x : MD) (N : Nat) (LA : Option Addr) (ln lc : Nat) : Mv4 w ((((w.alloc (.cells x.cells.toArray 56)).alloc (.cells #[.int .i64 N, .slice LA ln lc] 60)).alloc (.cells #[.int .i64 0, .int .i64 0, .int .i64 0, .int .i64 0, .slice none 0 0, .int .i64 0, .string ⟨#[]⟩, .int .i64 0, .int .i64 0, .int .i64 0, .bool false, .int .i64 0, .slice none 0 0, .int .i64 0] 56)).alloc (.cells #[.int .i64 0, .slice none 0 0] 60)) x N LA ln lc :=
  ⟨(((VarAt.new _ _ _).alloc _).alloc _).alloc _, ((VarAt.newk (by simp)).alloc _).alloc _, (VarAt.newk (by simp)).alloc _, VarAt.newk (by simp), ((((Chg.refl _ _).alloc _).alloc _).alloc _).alloc _, by simp⟩
theorem Mv4.tick {src cl tg : Int} {A : Option Addr} {n cap : Nat} {acts : Int} {f : ByteArray} {a p nm : Int} {tm : Bool} {la : Int} {PA : Option Addr} {pn pc : Nat} {fst : Int} (h : Mv4 w u ⟨1, src, cl, tg, A, n, cap, acts, f, a, p, nm, tm, la, PA, pn, pc, fst⟩ N LA ln lc) (time : Int) :
    Mv4 w ((u.setCell ⟨w.heap.size, 10, none⟩ (.bool true)).setCell ⟨w.heap.size, 11, none⟩ (.int .i64 time)) ⟨1, src, cl, tg, A, n, cap, acts, f, a, p, nm, true, time, PA, pn, pc, fst⟩ N LA ln lc :=
  ⟨at_setCell (i := 11) _ (at_setCell (i := 10) _ h.d), at_setCell_other _ (by omega) (at_setCell_other _ (by omega) h.l), at_setCell_other _ (by omega) (at_setCell_other _ (by omega) h.zd), at_setCell_other _ (by omega) (at_setCell_other _ (by omega) h.zl),
    (h.s.setCell _ _ (fun q => by have q2 : w.heap.size < w.heap.size := q; omega)).setCell _ _ (fun q => by have q2 : w.heap.size < w.heap.size := q; omega), by have := h.z; simpa using this⟩
theorem Mv4.set {cs : Array Value} (h : Mv4 w u x N LA ln lc) (g : Nat) (hg : w.heap.size + 4 ≤ g) : Mv4 w (u.setRow g cs) x N LA ln lc :=
  ⟨h.d.set _ (by omega), h.l.set _ (by omega), h.zd.set _ (by omega), h.zl.set _ (by omega), h.s.setRow _ _ (fun q => by omega), by rw [setRow_size]; exact h.z⟩
/-- The same while the two results are being set, in whatever order with a new row. -/
structure Mv6 (w u : World) (x : MD) (N : Nat) (LA : Option Addr) (ln lc : Nat) (Z1 Z2 : Array Value) : Prop where
  d : VarAt u w.heap.size 56 x.cells.toArray
  l : VarAt u (w.heap.size + 1) 60 #[.int .i64 N, .slice LA ln lc]
  zd : VarAt u (w.heap.size + 1 + 1) 56 Z1
  zl : VarAt u (w.heap.size + 1 + 1 + 1) 60 Z2
  s : Same w u
  z : w.heap.size + 4 ≤ u.heap.size
theorem Mv6.put1 {Z1 Z2 : Array Value} (h : Mv6 w u x N LA ln lc Z1 Z2) (cs : Array Value) : Mv6 w (u.setRow (w.heap.size + 1 + 1) cs) x N LA ln lc cs Z2 :=
  ⟨h.d.set _ (by omega), h.l.set _ (by omega), h.zd.put _, h.zl.set _ (by omega), h.s.setRow _ _ (fun q => by omega), by rw [setRow_size]; exact h.z⟩
theorem Mv6.put2 {Z1 Z2 : Array Value} (h : Mv6 w u x N LA ln lc Z1 Z2) (cs : Array Value) : Mv6 w (u.setRow (w.heap.size + 1 + 1 + 1) cs) x N LA ln lc Z1 cs :=
  ⟨h.d.set _ (by omega), h.l.set _ (by omega), h.zd.set _ (by omega), h.zl.put _, h.s.setRow _ _ (fun q => by omega), by rw [setRow_size]; exact h.z⟩
theorem Mv6.alloc {Z1 Z2 : Array Value} (h : Mv6 w u x N LA ln lc Z1 Z2) (o : Obj) : Mv6 w (u.alloc o) x N LA ln lc Z1 Z2 :=
  ⟨h.d.alloc _, h.l.alloc _, h.zd.alloc _, h.zl.alloc _, h.s.alloc _, by have := h.z; simp; omega⟩
theorem Mv6.same {Z1 Z2 : Array Value} (h : Mv6 w u x N LA ln lc Z1 Z2) (k : Same u v) : Mv6 w v x N LA ln lc Z1 Z2 := ⟨h.d.same k, h.l.same k, h.zd.same k, h.zl.same k, h.s.trans k, Nat.le_trans h.z k.size⟩
theorem VarAt.chg {S : Nat → Prop} {g : Nat} {T : TypeId} {cs : Array Value} (h : VarAt u g T cs) (k : Chg S u v) (hs : ¬ S g) : VarAt v g T cs := k.at_ h hs
theorem Mv6.chg {S : Nat → Prop} {Z1 Z2 : Array Value} (h : Mv6 w u x N LA ln lc Z1 Z2) (k : Chg S u v) (hs : ∀ y, y < w.heap.size + 4 → ¬ S y) : Mv6 w v x N LA ln lc Z1 Z2 :=
  ⟨h.d.chg k (hs _ (by omega)), h.l.chg k (hs _ (by omega)), h.zd.chg k (hs _ (by omega)), h.zl.chg k (hs _ (by omega)), h.s.then_ k (fun i hi q => hs i (by omega) q), Nat.le_trans h.z k.size⟩
theorem out_newk {B : Nat} {u : World} (hz : B ≤ u.heap.size) (a1 a2 a3 a4 a5 a6 a7 a8 a9 : Int) : OutAt B (u.alloc (.cells #[.int .i64 a1, .int .i64 a2, .int .i64 a3, .int .i64 a4, .int .i64 a5, .int .i64 a6, .int .i64 a7, .int .i64 a8, .int .u32 a9] 72)) (.slice (some ⟨u.heap.size, 0, none⟩) 1 1) [delivC a1 a2 a3 a4 a5 a6 a7 a8 a9] :=
  World.ownsRow.mono (out_one u a1 a2 a3 a4 a5 a6 a7 a8 a9) hz
theorem out_setk {B g : Nat} {u : World} {v : Value} {l : List (List Value)} (cs : Array Value) (h : OutAt B u v l) (hg : g < B) : OutAt B (u.setRow g cs) v l :=
  row_chg h ((Chg.refl (fun x => x = g) u).setRow g cs (fun _ => rfl)) (fun x hx q => by have := (h.lt x hx).1; omega)
theorem mv_two (h : Mv4 w u x N LA ln lc) (d1 l1 : Array Value) : VarAt ((u.setRow (w.heap.size + 1 + 1) d1).setRow (w.heap.size + 1 + 1 + 1) l1) (w.heap.size + 1 + 1) 56 d1 ∧ VarAt ((u.setRow (w.heap.size + 1 + 1) d1).setRow (w.heap.size + 1 + 1 + 1) l1) (w.heap.size + 1 + 1 + 1) 60 l1 ∧ Same w ((u.setRow (w.heap.size + 1 + 1) d1).setRow (w.heap.size + 1 + 1 + 1) l1) :=
  ⟨(h.zd.put d1).set l1 (by omega), (h.zl.set d1 (by omega)).put l1, (h.s.setRow _ _ (fun q => by omega)).setRow _ _ (fun q => by omega)⟩
theorem Mv4.six (h : Mv4 w u x N LA ln lc) : Mv6 w u x N LA ln lc #[.int .i64 0, .int .i64 0, .int .i64 0, .int .i64 0, .slice none 0 0, .int .i64 0, .string ⟨#[]⟩, .int .i64 0, .int .i64 0, .int .i64 0, .bool false, .int .i64 0, .slice none 0 0, .int .i64 0] #[.int .i64 0, .slice none 0 0] := ⟨h.d, h.l, h.zd, h.zl, h.s, h.z⟩
end

set_option maxHeartbeats 4000000 in
theorem mmove_no (ph : Int) (src cl tg : Int) (A : Option Addr) (n cap : Nat) (acts : Int) (f : ByteArray) (a p nm : Int) (tm : Bool) (la : Int) (PA : Option Addr) (pn pc : Nat) (fst : Int) (N : Nat) (LA : Option Addr) (ln lc : Nat) (client surface px py time : Int) (w : World) (h : ph ≠ 1) :
    Calls Try.prog 50 #[.agg #[.int .i64 ph, .int .i64 src, .int .i64 cl, .int .i64 tg, .slice A n cap, .int .i64 acts, .string f, .int .i64 a, .int .i64 p, .int .i64 nm, .bool tm, .int .i64 la, .slice PA pn pc, .int .i64 fst], .agg #[.int .i64 N, .slice LA ln lc], .int .i64 client, .int .i64 surface, .int .i64 px, .int .i64 py, .int .i64 time] w fun e w' => e = .returned (.tuple #[.agg (MD.cells ⟨ph, src, cl, tg, A, n, cap, acts, f, a, p, nm, tm, la, PA, pn, pc, fst⟩).toArray, .agg #[.int .i64 N, .slice LA ln lc], .slice none 0 0]) ∧ Same w w' := by
  have b1 : (ph != 1) = true := by simp [h]
  have b2 : (ph == 1) = false := by simp [h]
  have HM := Lib.hid (Mv4.new w ⟨ph, src, cl, tg, A, n, cap, acts, f, a, p, nm, tm, la, PA, pn, pc, fst⟩ N LA ln lc)
  clear h
  go_enter Try.func50, Try.ntmps50
  go_wp2_with fail
  obtain ⟨w1, hw1⟩ : ∃ w1, ((((w.alloc (.cells #[.int .i64 ph, .int .i64 src, .int .i64 cl, .int .i64 tg, .slice A n cap, .int .i64 acts, .string f, .int .i64 a, .int .i64 p, .int .i64 nm, .bool tm, .int .i64 la, .slice PA pn pc, .int .i64 fst] 56)).alloc (.cells #[.int .i64 N, .slice LA ln lc] 60)).alloc (.cells #[.int .i64 0, .int .i64 0, .int .i64 0, .int .i64 0, .slice none 0 0, .int .i64 0, .string ⟨#[]⟩, .int .i64 0, .int .i64 0, .int .i64 0, .bool false, .int .i64 0, .slice none 0 0, .int .i64 0] 56)).alloc (.cells #[.int .i64 0, .slice none 0 0] 60)) = w1 := ⟨_, rfl⟩
  dsimp only [MD.cells] at HM
  rw [hw1] at HM ⊢
  have HD : Hid (Mv4 w w1.drew ⟨ph, src, cl, tg, A, n, cap, acts, f, a, p, nm, tm, la, PA, pn, pc, fst⟩ N LA ln lc) := Lib.hid (HM.out.same ((Chg.refl _ _).drew))
  refine region_path (S := (fun w' => VarAt w' w.heap.size 56 #[.int .i64 ph, .int .i64 src, .int .i64 cl, .int .i64 tg, .slice A n cap, .int .i64 acts, .string f, .int .i64 a, .int .i64 p, .int .i64 nm, .bool tm, .int .i64 la, .slice PA pn pc, .int .i64 fst] ∧ VarAt w' (w.heap.size + 1) 60 #[.int .i64 N, .slice LA ln lc])) 99 [(0, true), (1, true), (2, false), (3, false), (4, true)] (by kernel_rfl) (by kernel_rfl) (by kernel_rfl) (⟨HM.out.d.drew, HM.out.l.drew⟩) ?_
  refine path_read (i := 0) (v := (.agg #[.int .i64 ph, .int .i64 src, .int .i64 cl, .int .i64 tg, .slice A n cap, .int .i64 acts, .string f, .int .i64 a, .int .i64 p, .int .i64 nm, .bool tm, .int .i64 la, .slice PA pn pc, .int .i64 fst]) ) rfl (by rfl) (fun _ _ _ h => h) ?hy9_0 ?_
  case hy9_0 => (intro w hSw;  exact exec_loadv rfl (VarAt.ldD (x := ⟨ph, src, cl, tg, A, n, cap, acts, f, a, p, nm, tm, la, PA, pn, pc, fst⟩) hSw.1))
  try simp only [Act.put, List.setIfInBounds_toArray, List.set_cons_zero, List.set_cons_succ]
  refine path_read (i := 1) (v := (.agg #[.int .i64 N, .slice LA ln lc]) ) rfl (by rfl) (fun _ _ _ h => h) ?hy9_1 ?_
  case hy9_1 => (intro w hSw;  exact exec_loadv rfl (VarAt.ldL (N := N) hSw.2))
  try simp only [Act.put, List.setIfInBounds_toArray, List.set_cons_zero, List.set_cons_succ]
  refine path_do (i := 2) rfl ?_
  (refine wpl_storeRow #[.int .i64 0, .int .i64 0, .int .i64 0, .int .i64 0, .slice none 0 0, .int .i64 0, .string ⟨#[]⟩, .int .i64 0, .int .i64 0, .int .i64 0, .bool false, .int .i64 0, .slice none 0 0, .int .i64 0] rfl rfl HM.out.zd.drew (by kernel_rfl) rfl (by simp [Value.oneCell']) ?_)
  refine path_next (.inr ?keep9_2) ?_
  case keep9_2 => (exact ⟨HM.out.d.drew.set _ (by omega), HM.out.l.drew.set _ (by omega)⟩)
  try simp only [Act.put, List.setIfInBounds_toArray, List.set_cons_zero, List.set_cons_succ]
  refine path_do (i := 3) rfl ?_
  (refine wpl_storeRow #[.int .i64 0, .slice none 0 0] rfl rfl (HM.out.zl.drew.set _ (by omega)) (by kernel_rfl) rfl (by simp [Value.oneCell']) ?_)
  refine path_next (.inr ?keep9_3) ?_
  case keep9_3 => (exact ⟨(HM.out.d.drew.set _ (by omega)).set _ (by omega), (HM.out.l.drew.set _ (by omega)).set _ (by omega)⟩)
  try simp only [Act.put, List.setIfInBounds_toArray, List.set_cons_zero, List.set_cons_succ]
  refine path_read (i := 4) (v := ?v9_4) rfl (by rfl) (fun _ _ _ h => h) ?hy9_4 ?_
  case hy9_4 => ((intro w hSw; (try dsimp only at hSw); go_simp) <;> (try with_reducible rfl))
  try simp only [Act.put, List.setIfInBounds_toArray, List.set_cons_zero, List.set_cons_succ]
  refine path_end ?_
  have H2 := mv_two HD.out (MD.cells ⟨ph, src, cl, tg, A, n, cap, acts, f, a, p, nm, tm, la, PA, pn, pc, fst⟩).toArray #[.int .i64 N, .slice LA ln lc]
  go_wp2
  refine bodyPost_ret (results_cell2_tmp Try.results50 rfl rfl (VarAt.ldD (x := ⟨ph, src, cl, tg, A, n, cap, acts, f, a, p, nm, tm, la, PA, pn, pc, fst⟩) H2.1) (VarAt.ldL (N := N) H2.2.1)) rfl ⟨rfl, H2.2.2⟩

set_option maxHeartbeats 8000000 in
theorem mmove_on (src cl tg : Int) (A : Option Addr) (n cap : Nat) (acts : Int) (f : ByteArray) (a p nm : Int) (tm : Bool) (la : Int) (PA : Option Addr) (pn pc : Nat) (fst : Int) (N : Nat) (LA : Option Addr) (ln lc : Nat) (l : List Ent) (c s client surface px py time : Int) (w : World) (hl : SlotsAt w 0 LA ln l) (hln : ln ≤ 1000) (hN : N + 1 ≤ 4294967294) (hc : posC client surface = c) (hs : posS client surface = s) (hnm : nm ≤ 1000000) (hnm0 : 0 ≤ nm) :
    Calls Try.prog 50 #[.agg #[.int .i64 1, .int .i64 src, .int .i64 cl, .int .i64 tg, .slice A n cap, .int .i64 acts, .string f, .int .i64 a, .int .i64 p, .int .i64 nm, .bool tm, .int .i64 la, .slice PA pn pc, .int .i64 fst], .agg #[.int .i64 N, .slice LA ln lc], .int .i64 client, .int .i64 surface, .int .i64 px, .int .i64 py, .int .i64 time] w fun e w' => ∃ (N' : Nat) (LA' : Option Addr) (ln' lc' : Nat) (VA : Option Addr) (vc : Nat), e = .returned (.tuple #[.agg (MD.mvCS ⟨1, src, cl, tg, A, n, cap, acts, f, a, p, nm, tm, la, PA, pn, pc, fst⟩ c s time).cells.toArray, .agg #[.int .i64 N', .slice LA' ln' lc'], .slice VA (MD.outCS ⟨1, src, cl, tg, A, n, cap, acts, f, a, p, nm, tm, la, PA, pn, pc, fst⟩ N c s px py time).length vc]) ∧
      ((N' = N ∧ LA' = LA ∧ ln' = ln ∧ MD.iss ⟨1, src, cl, tg, A, n, cap, acts, f, a, p, nm, tm, la, PA, pn, pc, fst⟩ c s = false) ∨ (N' = N + 1 ∧ SlotsAt w' (w.heap.size + 4) LA' ln' (rIssued N l c s 14) ∧ MD.iss ⟨1, src, cl, tg, A, n, cap, acts, f, a, p, nm, tm, la, PA, pn, pc, fst⟩ c s = true)) ∧ OutAt (w.heap.size + 4) w' (.slice VA (MD.outCS ⟨1, src, cl, tg, A, n, cap, acts, f, a, p, nm, tm, la, PA, pn, pc, fst⟩ N c s px py time).length vc) ((MD.outCS ⟨1, src, cl, tg, A, n, cap, acts, f, a, p, nm, tm, la, PA, pn, pc, fst⟩ N c s px py time).map Dv.cells) ∧ Same w w' := by
  have HM0 := Lib.hid (Mv4.new w ⟨1, src, cl, tg, A, n, cap, acts, f, a, p, nm, tm, la, PA, pn, pc, fst⟩ N LA ln lc)
  have HCS : Hid ((c = 0 ∧ s = 0) ∨ (1 ≤ c ∧ 1 ≤ s ∧ c = client ∧ s = surface)) := Lib.hid (by have := posCS client surface; rw [hc, hs] at this; omega)
  have HCL : Hid ((client < 1 ∨ surface < 1) → c = 0 ∧ s = 0) := Lib.hid (fun q => by unfold posC at hc; unfold posS at hs; rw [if_pos (by omega)] at hc hs; omega)
  have HCN : Hid (¬ (client < 1 ∨ surface < 1) → c = client ∧ s = surface) := Lib.hid (fun q => by unfold posC at hc; unfold posS at hs; rw [if_neg (by omega)] at hc hs; omega)
  clear hc hs
  dsimp only [MD.cells] at HM0
  go_enter Try.func50, Try.ntmps50
  go_upto_region 3 with (fail)
  obtain ⟨w1, hw1⟩ : ∃ w1, ((((w.alloc (.cells #[.int .i64 1, .int .i64 src, .int .i64 cl, .int .i64 tg, .slice A n cap, .int .i64 acts, .string f, .int .i64 a, .int .i64 p, .int .i64 nm, .bool tm, .int .i64 la, .slice PA pn pc, .int .i64 fst] 56)).alloc (.cells #[.int .i64 N, .slice LA ln lc] 60)).alloc (.cells #[.int .i64 0, .int .i64 0, .int .i64 0, .int .i64 0, .slice none 0 0, .int .i64 0, .string ⟨#[]⟩, .int .i64 0, .int .i64 0, .int .i64 0, .bool false, .int .i64 0, .slice none 0 0, .int .i64 0] 56)).alloc (.cells #[.int .i64 0, .slice none 0 0] 60)) = w1 := ⟨_, rfl⟩
  rw [hw1] at HM0 ⊢
  clear hw1
  go_cut [31] from 26 to 32 (fun v31 wx => v31 = .bool (decide (client < 1 ∨ surface < 1)) ∧ wx = w1)
  case first =>
    by_cases h1 : client < 1
    · go_wp2_with fail
      go_meet
      case rel => exact ⟨by rw [decide_eq_true (Or.inl h1)], rfl⟩
    · by_cases h2 : surface < 1
      · go_wp2_with fail
        go_meet
        case rel => exact ⟨by rw [decide_eq_true (Or.inr h2)], rfl⟩
      · go_wp2_with fail
        go_meet
        case rel => exact ⟨by rw [decide_eq_false (show ¬ (client < 1 ∨ surface < 1) by omega)], rfl⟩
  case rest =>
    obtain ⟨rfl, e⟩ := hcut
    have e := e.symm
    subst e
    go_upto_if 31 with (fail)
    go_cut [2, 3, 31] from 32 to 32 (fun v2 v3 v31 wx => v2 = .int .i64 c ∧ v3 = .int .i64 s ∧ wx = w1)
    case first =>
      by_cases h1 : client < 1 ∨ surface < 1
      · have HE := Lib.hid (HCL.out h1)
        rw [decide_eq_true h1]
        clear h1
        go_wp2_with fail
        go_meet
        case rel => rw [HE.out.1, HE.out.2]; exact ⟨rfl, rfl, rfl⟩
      · have HE := Lib.hid (HCN.out h1)
        rw [decide_eq_false h1]
        clear h1
        go_wp2_with fail
        go_meet
        case rel => rw [HE.out.1, HE.out.2]; exact ⟨rfl, rfl, rfl⟩
    case rest =>
      obtain ⟨rfl, rfl, e⟩ := hcut
      have e := e.symm
      subst e
      have p10 : w1.cell? ⟨w.heap.size, 10, none⟩ = some (.bool tm) := cell_at (C := [.int .i64 1, .int .i64 src, .int .i64 cl, .int .i64 tg, .slice A n cap, .int .i64 acts, .string f, .int .i64 a, .int .i64 p, .int .i64 nm, .bool tm, .int .i64 la, .slice PA pn pc, .int .i64 fst]) HM0.out.d 10
      have p11 : w1.cell? ⟨w.heap.size, 11, none⟩ = some (.int .i64 la) := cell_at (C := [.int .i64 1, .int .i64 src, .int .i64 cl, .int .i64 tg, .slice A n cap, .int .i64 acts, .string f, .int .i64 a, .int .i64 p, .int .i64 nm, .bool tm, .int .i64 la, .slice PA pn pc, .int .i64 fst]) HM0.out.d 11
      have f10 := frozen_at HM0.out.d 10
      have f11 := frozen_at HM0.out.d 11
      have hlt : w.heap.size < w1.heap.size := by have := HM0.out.z; omega
      go_upto_region 5 with (fail)
      go_cut [40] from 32 to 41 (fun v40 wx => v40 = .bool (decide (tm = false ∨ la < time)) ∧ wx = w1)
      case first =>
        cases tm
        · go_wp2_with fail
          go_meet
          case rel => exact ⟨congrArg Value.bool (by simp), rfl⟩
        · by_cases h2 : la < time
          · go_wp2_with fail
            go_meet
            case rel => exact ⟨congrArg Value.bool (by simp [h2]), rfl⟩
          · go_wp2_with fail
            go_meet
            case rel => exact ⟨congrArg Value.bool (by simp; omega), rfl⟩
      case rest =>
        obtain ⟨rfl, e⟩ := hcut
        have e := e.symm
        subst e
        go_upto_if 40 with (fail)
        go_cut [40] from 41 to 44 (fun v40 wx => ∃ tm' la', MD.tick ⟨1, src, cl, tg, A, n, cap, acts, f, a, p, nm, tm, la, PA, pn, pc, fst⟩ time = ⟨1, src, cl, tg, A, n, cap, acts, f, a, p, nm, tm', la', PA, pn, pc, fst⟩ ∧ Mv4 w wx ⟨1, src, cl, tg, A, n, cap, acts, f, a, p, nm, tm', la', PA, pn, pc, fst⟩ N LA ln lc)
        case first =>
          by_cases h1 : tm = false ∨ la < time
          · have HT : Hid (MD.tick ⟨1, src, cl, tg, A, n, cap, acts, f, a, p, nm, tm, la, PA, pn, pc, fst⟩ time = ⟨1, src, cl, tg, A, n, cap, acts, f, a, p, nm, true, time, PA, pn, pc, fst⟩) := Lib.hid (if_pos h1)
            rw [decide_eq_true h1]
            clear h1
            go_wp2_with fail
            go_meet
            case rel => exact ⟨true, time, HT.out, HM0.out.tick time⟩
          · have HT : Hid (MD.tick ⟨1, src, cl, tg, A, n, cap, acts, f, a, p, nm, tm, la, PA, pn, pc, fst⟩ time = ⟨1, src, cl, tg, A, n, cap, acts, f, a, p, nm, tm, la, PA, pn, pc, fst⟩) := Lib.hid (if_neg h1)
            rw [decide_eq_false h1]
            clear h1
            go_wp2_with fail
            go_meet
            case rel => exact ⟨tm, la, HT.out, HM0.out⟩
        case rest =>
          obtain ⟨tm', la', htk, hm⟩ := hcut
          rename World => w2
          have HM := Lib.hid hm
          have HTK := Lib.hid htk
          clear p10 p11 f10 f11 hlt htk hm
          have p2 : w2.cell? ⟨w.heap.size, 2, none⟩ = some (.int .i64 cl) := cell_at (C := [.int .i64 1, .int .i64 src, .int .i64 cl, .int .i64 tg, .slice A n cap, .int .i64 acts, .string f, .int .i64 a, .int .i64 p, .int .i64 nm, .bool tm', .int .i64 la', .slice PA pn pc, .int .i64 fst]) HM.out.d 2
          have p3 : w2.cell? ⟨w.heap.size, 3, none⟩ = some (.int .i64 tg) := cell_at (C := [.int .i64 1, .int .i64 src, .int .i64 cl, .int .i64 tg, .slice A n cap, .int .i64 acts, .string f, .int .i64 a, .int .i64 p, .int .i64 nm, .bool tm', .int .i64 la', .slice PA pn pc, .int .i64 fst]) HM.out.d 3
          have hlt : w.heap.size < w2.heap.size := by have := HM.out.z; omega
          go_upto_region 8 with (fail)
          go_cut [53] from 44 to 54 (fun v53 wx => v53 = .bool (decide (c = cl ∧ s = tg)) ∧ wx = w2)
          case first =>
            by_cases h1 : c = cl
            · have b1 : (c == cl) = true := by simp [h1]
              have HC := Lib.hid h1
              clear h1
              by_cases h2 : s = tg
              · have b2 : (s == tg) = true := by simp [h2]
                have HS := Lib.hid h2
                clear h2
                go_wp2_with fail
                go_meet
                case rel => exact ⟨by rw [decide_eq_true (And.intro HC.out HS.out)], rfl⟩
              · have b2 : (s == tg) = false := by simp [h2]
                have HS := Lib.hid h2
                clear h2
                go_wp2_with fail
                go_meet
                case rel => exact ⟨by rw [decide_eq_false (fun q => HS.out q.2)], rfl⟩
            · have b1 : (c == cl) = false := by simp [h1]
              have HC := Lib.hid h1
              clear h1
              go_wp2_with fail
              go_meet
              case rel => exact ⟨by rw [decide_eq_false (fun q => HC.out q.1)], rfl⟩
          case rest =>
            obtain ⟨rfl, e⟩ := hcut
            have e := e.symm
            subst e
            clear p2 p3 hlt
            by_cases h1 : c = cl ∧ s = tg
            · rw [decide_eq_true h1]
              by_cases h2 : s = 0
              · as_aux_lemma =>
                  have HEQ : Hid (MD.mvCS ⟨1, src, cl, tg, A, n, cap, acts, f, a, p, nm, tm, la, PA, pn, pc, fst⟩ c s time = ⟨1, src, cl, tg, A, n, cap, acts, f, a, p, nm, tm', la', PA, pn, pc, fst⟩ ∧ MD.outCS ⟨1, src, cl, tg, A, n, cap, acts, f, a, p, nm, tm, la, PA, pn, pc, fst⟩ N c s px py time = [] ∧ MD.iss ⟨1, src, cl, tg, A, n, cap, acts, f, a, p, nm, tm, la, PA, pn, pc, fst⟩ c s = false) := Lib.hid ⟨by unfold MD.mvCS; rw [if_pos h1, HTK.out], by unfold MD.outCS; rw [if_pos h1, if_pos h2], by unfold MD.iss; rw [decide_eq_true h1]; rfl⟩
                  have b2 : (s == 0) = true := by simp [h2]
                  clear h1 h2
                  go_wp2_with fail
                  refine region_path (S := (fun w' => VarAt w' w.heap.size 56 #[.int .i64 1, .int .i64 src, .int .i64 cl, .int .i64 tg, .slice A n cap, .int .i64 acts, .string f, .int .i64 a, .int .i64 p, .int .i64 nm, .bool tm', .int .i64 la', .slice PA pn pc, .int .i64 fst] ∧ VarAt w' (w.heap.size + 1) 60 #[.int .i64 N, .slice LA ln lc])) 99 [(0, true), (1, true), (2, false), (3, false), (4, true)] (by kernel_rfl) (by kernel_rfl) (by kernel_rfl) (⟨HM.out.d.drew, HM.out.l.drew⟩) ?_
                  refine path_read (i := 0) (v := (.agg #[.int .i64 1, .int .i64 src, .int .i64 cl, .int .i64 tg, .slice A n cap, .int .i64 acts, .string f, .int .i64 a, .int .i64 p, .int .i64 nm, .bool tm', .int .i64 la', .slice PA pn pc, .int .i64 fst]) ) rfl (by rfl) (fun _ _ _ h => h) ?hy10_0 ?_
                  case hy10_0 => (intro w hSw;  exact exec_loadv rfl (VarAt.ldD (x := ⟨1, src, cl, tg, A, n, cap, acts, f, a, p, nm, tm', la', PA, pn, pc, fst⟩) hSw.1))
                  try simp only [Act.put, List.setIfInBounds_toArray, List.set_cons_zero, List.set_cons_succ]
                  refine path_read (i := 1) (v := (.agg #[.int .i64 N, .slice LA ln lc]) ) rfl (by rfl) (fun _ _ _ h => h) ?hy10_1 ?_
                  case hy10_1 => (intro w hSw;  exact exec_loadv rfl (VarAt.ldL (N := N) hSw.2))
                  try simp only [Act.put, List.setIfInBounds_toArray, List.set_cons_zero, List.set_cons_succ]
                  refine path_do (i := 2) rfl ?_
                  (refine wpl_storeRow #[.int .i64 0, .int .i64 0, .int .i64 0, .int .i64 0, .slice none 0 0, .int .i64 0, .string ⟨#[]⟩, .int .i64 0, .int .i64 0, .int .i64 0, .bool false, .int .i64 0, .slice none 0 0, .int .i64 0] rfl rfl HM.out.zd.drew (by kernel_rfl) rfl (by simp [Value.oneCell']) ?_)
                  refine path_next (.inr ?keep10_2) ?_
                  case keep10_2 => (exact ⟨HM.out.d.drew.set _ (by omega), HM.out.l.drew.set _ (by omega)⟩)
                  try simp only [Act.put, List.setIfInBounds_toArray, List.set_cons_zero, List.set_cons_succ]
                  refine path_do (i := 3) rfl ?_
                  (refine wpl_storeRow #[.int .i64 0, .slice none 0 0] rfl rfl (HM.out.zl.drew.set _ (by omega)) (by kernel_rfl) rfl (by simp [Value.oneCell']) ?_)
                  refine path_next (.inr ?keep10_3) ?_
                  case keep10_3 => (exact ⟨(HM.out.d.drew.set _ (by omega)).set _ (by omega), (HM.out.l.drew.set _ (by omega)).set _ (by omega)⟩)
                  try simp only [Act.put, List.setIfInBounds_toArray, List.set_cons_zero, List.set_cons_succ]
                  refine path_read (i := 4) (v := ?v10_4) rfl (by rfl) (fun _ _ _ h => h) ?hy10_4 ?_
                  case hy10_4 => ((intro w hSw; (try dsimp only at hSw); go_simp) <;> (try with_reducible rfl))
                  try simp only [Act.put, List.setIfInBounds_toArray, List.set_cons_zero, List.set_cons_succ]
                  refine path_end ?_
                  have HD : Hid (Mv4 w w2.drew ⟨1, src, cl, tg, A, n, cap, acts, f, a, p, nm, tm', la', PA, pn, pc, fst⟩ N LA ln lc) := Lib.hid (HM.out.same ((Chg.refl _ _).drew))
                  have H2 := mv_two HD.out (MD.cells ⟨1, src, cl, tg, A, n, cap, acts, f, a, p, nm, tm', la', PA, pn, pc, fst⟩).toArray #[.int .i64 N, .slice LA ln lc]
                  go_wp2
                  refine bodyPost_ret (results_cell2_tmp Try.results50 rfl rfl (VarAt.ldD (x := ⟨1, src, cl, tg, A, n, cap, acts, f, a, p, nm, tm', la', PA, pn, pc, fst⟩) H2.1) (VarAt.ldL (N := N) H2.2.1)) rfl ⟨N, LA, ln, lc, none, 0, ?_, .inl ⟨rfl, rfl, rfl, HEQ.out.2.2⟩, ?_, H2.2.2⟩
                  · rw [HEQ.out.1, HEQ.out.2.1]; rfl
                  · rw [HEQ.out.2.1]; exact World.ownsRow_nil _ _ _ _
              · as_aux_lemma =>
                have HEQ : Hid (MD.mvCS ⟨1, src, cl, tg, A, n, cap, acts, f, a, p, nm, tm, la, PA, pn, pc, fst⟩ c s time = ⟨1, src, cl, tg, A, n, cap, acts, f, a, p, nm, tm', la', PA, pn, pc, fst⟩ ∧ MD.outCS ⟨1, src, cl, tg, A, n, cap, acts, f, a, p, nm, tm, la, PA, pn, pc, fst⟩ N c s px py time = [⟨c, s, 15, la', px, py, 0, 0, 0⟩] ∧ MD.iss ⟨1, src, cl, tg, A, n, cap, acts, f, a, p, nm, tm, la, PA, pn, pc, fst⟩ c s = false) := Lib.hid ⟨by unfold MD.mvCS; rw [if_pos h1, HTK.out], by unfold MD.outCS; rw [if_pos h1, if_neg h2, HTK.out], by unfold MD.iss; rw [decide_eq_true h1]; rfl⟩
                have b2 : (s == 0) = false := by simp [h2]
                clear h1 h2
                go_wp2_with fail
                have HM := Lib.hid (HM.out.six.same ((Chg.refl _ _).drew))
                have HO : Hid True := Lib.hid trivial
                refine region_tree (S := (fun w' => VarAt w' w.heap.size 56 #[.int .i64 1, .int .i64 src, .int .i64 cl, .int .i64 tg, .slice A n cap, .int .i64 acts, .string f, .int .i64 a, .int .i64 p, .int .i64 nm, .bool tm', .int .i64 la', .slice PA pn pc, .int .i64 fst] ∧ VarAt w' (w.heap.size + 1) 60 #[.int .i64 N, .slice LA ln lc] ∧ w'.cell? ⟨w.heap.size, 11, none⟩ = some (.int .i64 la'))) 99 (.rd 0 (.rd 1 (.rd 2 (.rd 3 (.rd 4 (.rd 5 (.rd 6 (.rd 7 (.rd 8 (.fork 9 10 (.one 10 (.one 11 (.rd 12 .nil))) (.fork 9 11 (.one 11 (.rd 12 .nil)) (.one 9 (.rd 12 .nil))))))))))))) (by kernel_rfl) (by kernel_rfl) (by kernel_rfl) ⟨HM.out.d, HM.out.l, cell_at (C := [.int .i64 1, .int .i64 src, .int .i64 cl, .int .i64 tg, .slice A n cap, .int .i64 acts, .string f, .int .i64 a, .int .i64 p, .int .i64 nm, .bool tm', .int .i64 la', .slice PA pn pc, .int .i64 fst]) HM.out.d 11⟩ ?_
                generalize w2.drew = wd at *
                refine tree_read (i := 0) (v := (.agg #[.int .i64 1, .int .i64 src, .int .i64 cl, .int .i64 tg, .slice A n cap, .int .i64 acts, .string f, .int .i64 a, .int .i64 p, .int .i64 nm, .bool tm', .int .i64 la', .slice PA pn pc, .int .i64 fst]) ) rfl (by rfl) (fun _ _ _ h => h) ?hy11 ?_
                case hy11 => (intro w hSw;  exact exec_loadv rfl (VarAt.ldD (x := ⟨1, src, cl, tg, A, n, cap, acts, f, a, p, nm, tm', la', PA, pn, pc, fst⟩) hSw.1))
                try simp only [Act.put, List.setIfInBounds_toArray, List.set_cons_zero, List.set_cons_succ]
                refine tree_read (i := 1) (v := (.agg #[.int .i64 N, .slice LA ln lc]) ) rfl (by rfl) (fun _ _ _ h => h) ?hy12 ?_
                case hy12 => (intro w hSw;  exact exec_loadv rfl (VarAt.ldL (N := N) hSw.2.1))
                try simp only [Act.put, List.setIfInBounds_toArray, List.set_cons_zero, List.set_cons_succ]
                refine tree_read (i := 2) (v := ?v13) rfl (by rfl) (fun _ _ _ h => h) ?hy13 ?_
                case hy13 => ((intro w hSw; (try dsimp only at hSw); go_simp) <;> (try with_reducible rfl))
                try simp only [Act.put, List.setIfInBounds_toArray, List.set_cons_zero, List.set_cons_succ]
                refine tree_read (i := 3) (v := ?v14) rfl (by rfl) (fun _ _ _ h => h) ?hy14 ?_
                case hy14 => ((intro w hSw; (try dsimp only at hSw); go_simp) <;> (try with_reducible rfl))
                try simp only [Act.put, List.setIfInBounds_toArray, List.set_cons_zero, List.set_cons_succ]
                refine tree_read (i := 4) (v := ?v15) rfl (by rfl) (fun _ _ _ h => h) ?hy15 ?_
                case hy15 => ((intro w hSw; (try dsimp only at hSw); go_simp) <;> (try with_reducible rfl))
                try simp only [Act.put, List.setIfInBounds_toArray, List.set_cons_zero, List.set_cons_succ]
                refine tree_read (i := 5) (v := ?v16) rfl (by rfl) (fun _ _ _ h => h) ?hy16 ?_
                case hy16 => ((intro w hSw; (try dsimp only at hSw); go_simp) <;> (try with_reducible rfl))
                try simp only [Act.put, List.setIfInBounds_toArray, List.set_cons_zero, List.set_cons_succ]
                refine tree_read (i := 6) (v := ?v17) rfl (by rfl) (fun _ _ _ h => h) ?hy17 ?_
                case hy17 => ((intro w hSw; (try dsimp only at hSw); go_simp) <;> (try with_reducible rfl))
                try simp only [Act.put, List.setIfInBounds_toArray, List.set_cons_zero, List.set_cons_succ]
                refine tree_read (i := 7) (v := ?v18) rfl (by rfl) (fun _ _ _ h => h) ?hy18 ?_
                case hy18 => ((intro w hSw; (try dsimp only at hSw); go_simp) <;> (try with_reducible rfl))
                try simp only [Act.put, List.setIfInBounds_toArray, List.set_cons_zero, List.set_cons_succ]
                refine tree_read (i := 8) (v := (.agg #[.int .i64 c, .int .i64 s, .int .i64 15, .int .i64 la', .int .i64 px, .int .i64 py, .int .i64 0, .int .i64 0, .int .u32 0]) ) rfl (by rfl) (fun _ _ _ h => h) ?hy19 ?_
                case hy19 => (intro w hSw;  exact exec_build (by simp [Act.eval]; exact built_move c s la' px py))
                try simp only [Act.put, List.setIfInBounds_toArray, List.set_cons_zero, List.set_cons_succ]
                refine tree_fork (i := 9) (j := 10) rfl rfl ?_ ?_
                · go_wp2_with ((refine wpl_dv c s 15 la' px py 0 0 0 rfl ?_))
                  have HO := Lib.hid (out_newk HM.out.z c s 15 la' px py 0 0 0)
                  (try simp only [setRow_size] at HO)
                  have HM := Lib.hid (HM.out.alloc (.cells #[.int .i64 c, .int .i64 s, .int .i64 15, .int .i64 la', .int .i64 px, .int .i64 py, .int .i64 0, .int .i64 0, .int .u32 0] 72))
                  (first | refine ⟨.inr ?keep27, ?_⟩ | refine ⟨?keep27, ?_⟩)
                  case keep27 => ((exact ⟨HM.out.d, HM.out.l, cell_at (C := [.int .i64 1, .int .i64 src, .int .i64 cl, .int .i64 tg, .slice A n cap, .int .i64 acts, .string f, .int .i64 a, .int .i64 p, .int .i64 nm, .bool tm', .int .i64 la', .slice PA pn pc, .int .i64 fst]) HM.out.d 11⟩))
                  try simp only [Act.put, List.setIfInBounds_toArray, List.set_cons_zero, List.set_cons_succ]
                  refine tree_one (i := 10) rfl ?_
                  go_wp2_with ((refine wpl_storeRow _ rfl rfl HM.out.zd (by kernel_rfl) rfl (by simp [Value.oneCell']) ?_))
                  have HM := Lib.hid (HM.out.put1 #[.int .i64 1, .int .i64 src, .int .i64 cl, .int .i64 tg, .slice A n cap, .int .i64 acts, .string f, .int .i64 a, .int .i64 p, .int .i64 nm, .bool tm', .int .i64 la', .slice PA pn pc, .int .i64 fst])
                  (first | have HO := Lib.hid (out_setk (g := w.heap.size + 1 + 1) #[.int .i64 1, .int .i64 src, .int .i64 cl, .int .i64 tg, .slice A n cap, .int .i64 acts, .string f, .int .i64 a, .int .i64 p, .int .i64 nm, .bool tm', .int .i64 la', .slice PA pn pc, .int .i64 fst] HO.out (by omega)) | skip)
                  (first | refine ⟨.inr ?keep28, ?_⟩ | refine ⟨?keep28, ?_⟩)
                  case keep28 => ((exact ⟨HM.out.d, HM.out.l, cell_at (C := [.int .i64 1, .int .i64 src, .int .i64 cl, .int .i64 tg, .slice A n cap, .int .i64 acts, .string f, .int .i64 a, .int .i64 p, .int .i64 nm, .bool tm', .int .i64 la', .slice PA pn pc, .int .i64 fst]) HM.out.d 11⟩))
                  try simp only [Act.put, List.setIfInBounds_toArray, List.set_cons_zero, List.set_cons_succ]
                  refine tree_one (i := 11) rfl ?_
                  go_wp2_with ((refine wpl_storeRow _ rfl rfl HM.out.zl (by kernel_rfl) rfl (by simp [Value.oneCell']) ?_))
                  have HM := Lib.hid (HM.out.put2 #[.int .i64 N, .slice LA ln lc])
                  (first | have HO := Lib.hid (out_setk (g := w.heap.size + 1 + 1 + 1) #[.int .i64 N, .slice LA ln lc] HO.out (by omega)) | skip)
                  (first | refine ⟨.inr ?keep29, ?_⟩ | refine ⟨?keep29, ?_⟩)
                  case keep29 => ((exact ⟨HM.out.d, HM.out.l, cell_at (C := [.int .i64 1, .int .i64 src, .int .i64 cl, .int .i64 tg, .slice A n cap, .int .i64 acts, .string f, .int .i64 a, .int .i64 p, .int .i64 nm, .bool tm', .int .i64 la', .slice PA pn pc, .int .i64 fst]) HM.out.d 11⟩))
                  try simp only [Act.put, List.setIfInBounds_toArray, List.set_cons_zero, List.set_cons_succ]
                  refine tree_read (i := 12) (v := ?v30) rfl (by rfl) (fun _ _ _ h => h) ?hy30 ?_
                  case hy30 => ((intro w hSw; (try dsimp only at hSw); go_simp) <;> (try with_reducible rfl))
                  try simp only [Act.put, List.setIfInBounds_toArray, List.set_cons_zero, List.set_cons_succ]
                  refine tree_end ?_
                  go_wp2
                  refine bodyPost_ret (results_cell2_tmp Try.results50 rfl rfl (VarAt.ldD (x := ⟨1, src, cl, tg, A, n, cap, acts, f, a, p, nm, tm', la', PA, pn, pc, fst⟩) HM.out.zd) (VarAt.ldL (N := N) HM.out.zl)) rfl ⟨N, LA, ln, lc, some ⟨wd.heap.size, 0, none⟩, 1, ?_, .inl ⟨rfl, rfl, rfl, HEQ.out.2.2⟩, ?_, HM.out.s⟩
                  · rw [HEQ.out.1, HEQ.out.2.1]; rfl
                  · rw [HEQ.out.2.1]; exact HO.out
                · go_wp2_with ((refine wpl_storeRow _ rfl rfl HM.out.zd (by kernel_rfl) rfl (by simp [Value.oneCell']) ?_))
                  have HM := Lib.hid (HM.out.put1 #[.int .i64 1, .int .i64 src, .int .i64 cl, .int .i64 tg, .slice A n cap, .int .i64 acts, .string f, .int .i64 a, .int .i64 p, .int .i64 nm, .bool tm', .int .i64 la', .slice PA pn pc, .int .i64 fst])
                  (first | have HO := Lib.hid (out_setk (g := w.heap.size + 1 + 1) #[.int .i64 1, .int .i64 src, .int .i64 cl, .int .i64 tg, .slice A n cap, .int .i64 acts, .string f, .int .i64 a, .int .i64 p, .int .i64 nm, .bool tm', .int .i64 la', .slice PA pn pc, .int .i64 fst] HO.out (by omega)) | skip)
                  (first | refine ⟨.inr ?keep20, ?_⟩ | refine ⟨?keep20, ?_⟩)
                  case keep20 => ((exact ⟨HM.out.d, HM.out.l, cell_at (C := [.int .i64 1, .int .i64 src, .int .i64 cl, .int .i64 tg, .slice A n cap, .int .i64 acts, .string f, .int .i64 a, .int .i64 p, .int .i64 nm, .bool tm', .int .i64 la', .slice PA pn pc, .int .i64 fst]) HM.out.d 11⟩))
                  try simp only [Act.put, List.setIfInBounds_toArray, List.set_cons_zero, List.set_cons_succ]
                  refine tree_fork (i := 9) (j := 11) rfl rfl ?_ ?_
                  · go_wp2_with ((refine wpl_dv c s 15 la' px py 0 0 0 rfl ?_))
                    have HO := Lib.hid (out_newk HM.out.z c s 15 la' px py 0 0 0)
                    (try simp only [setRow_size] at HO)
                    have HM := Lib.hid (HM.out.alloc (.cells #[.int .i64 c, .int .i64 s, .int .i64 15, .int .i64 la', .int .i64 px, .int .i64 py, .int .i64 0, .int .i64 0, .int .u32 0] 72))
                    (first | refine ⟨.inr ?keep25, ?_⟩ | refine ⟨?keep25, ?_⟩)
                    case keep25 => ((exact ⟨HM.out.d, HM.out.l, cell_at (C := [.int .i64 1, .int .i64 src, .int .i64 cl, .int .i64 tg, .slice A n cap, .int .i64 acts, .string f, .int .i64 a, .int .i64 p, .int .i64 nm, .bool tm', .int .i64 la', .slice PA pn pc, .int .i64 fst]) HM.out.d 11⟩))
                    try simp only [Act.put, List.setIfInBounds_toArray, List.set_cons_zero, List.set_cons_succ]
                    refine tree_one (i := 11) rfl ?_
                    go_wp2_with ((refine wpl_storeRow _ rfl rfl HM.out.zl (by kernel_rfl) rfl (by simp [Value.oneCell']) ?_))
                    have HM := Lib.hid (HM.out.put2 #[.int .i64 N, .slice LA ln lc])
                    (first | have HO := Lib.hid (out_setk (g := w.heap.size + 1 + 1 + 1) #[.int .i64 N, .slice LA ln lc] HO.out (by omega)) | skip)
                    (first | refine ⟨.inr ?keep26, ?_⟩ | refine ⟨?keep26, ?_⟩)
                    case keep26 => ((exact ⟨HM.out.d, HM.out.l, cell_at (C := [.int .i64 1, .int .i64 src, .int .i64 cl, .int .i64 tg, .slice A n cap, .int .i64 acts, .string f, .int .i64 a, .int .i64 p, .int .i64 nm, .bool tm', .int .i64 la', .slice PA pn pc, .int .i64 fst]) HM.out.d 11⟩))
                    try simp only [Act.put, List.setIfInBounds_toArray, List.set_cons_zero, List.set_cons_succ]
                    refine tree_read (i := 12) (v := ?v27) rfl (by rfl) (fun _ _ _ h => h) ?hy27 ?_
                    case hy27 => ((intro w hSw; (try dsimp only at hSw); go_simp) <;> (try with_reducible rfl))
                    try simp only [Act.put, List.setIfInBounds_toArray, List.set_cons_zero, List.set_cons_succ]
                    refine tree_end ?_
                    go_wp2
                    refine bodyPost_ret (results_cell2_tmp Try.results50 rfl rfl (VarAt.ldD (x := ⟨1, src, cl, tg, A, n, cap, acts, f, a, p, nm, tm', la', PA, pn, pc, fst⟩) HM.out.zd) (VarAt.ldL (N := N) HM.out.zl)) rfl ⟨N, LA, ln, lc, some ⟨wd.heap.size, 0, none⟩, 1, ?_, .inl ⟨rfl, rfl, rfl, HEQ.out.2.2⟩, ?_, HM.out.s⟩
                    · rw [HEQ.out.1, HEQ.out.2.1]; rfl
                    · rw [HEQ.out.2.1]; exact HO.out
                  · go_wp2_with ((refine wpl_storeRow _ rfl rfl HM.out.zl (by kernel_rfl) rfl (by simp [Value.oneCell']) ?_))
                    have HM := Lib.hid (HM.out.put2 #[.int .i64 N, .slice LA ln lc])
                    (first | have HO := Lib.hid (out_setk (g := w.heap.size + 1 + 1 + 1) #[.int .i64 N, .slice LA ln lc] HO.out (by omega)) | skip)
                    (first | refine ⟨.inr ?keep22, ?_⟩ | refine ⟨?keep22, ?_⟩)
                    case keep22 => ((exact ⟨HM.out.d, HM.out.l, cell_at (C := [.int .i64 1, .int .i64 src, .int .i64 cl, .int .i64 tg, .slice A n cap, .int .i64 acts, .string f, .int .i64 a, .int .i64 p, .int .i64 nm, .bool tm', .int .i64 la', .slice PA pn pc, .int .i64 fst]) HM.out.d 11⟩))
                    try simp only [Act.put, List.setIfInBounds_toArray, List.set_cons_zero, List.set_cons_succ]
                    refine tree_one (i := 9) rfl ?_
                    go_wp2_with ((refine wpl_dv c s 15 la' px py 0 0 0 rfl ?_))
                    have HO := Lib.hid (out_newk HM.out.z c s 15 la' px py 0 0 0)
                    (try simp only [setRow_size] at HO)
                    have HM := Lib.hid (HM.out.alloc (.cells #[.int .i64 c, .int .i64 s, .int .i64 15, .int .i64 la', .int .i64 px, .int .i64 py, .int .i64 0, .int .i64 0, .int .u32 0] 72))
                    (first | refine ⟨.inr ?keep24, ?_⟩ | refine ⟨?keep24, ?_⟩)
                    case keep24 => ((exact ⟨HM.out.d, HM.out.l, cell_at (C := [.int .i64 1, .int .i64 src, .int .i64 cl, .int .i64 tg, .slice A n cap, .int .i64 acts, .string f, .int .i64 a, .int .i64 p, .int .i64 nm, .bool tm', .int .i64 la', .slice PA pn pc, .int .i64 fst]) HM.out.d 11⟩))
                    try simp only [Act.put, List.setIfInBounds_toArray, List.set_cons_zero, List.set_cons_succ]
                    refine tree_read (i := 12) (v := ?v25) rfl (by rfl) (fun _ _ _ h => h) ?hy25 ?_
                    case hy25 => ((intro w hSw; (try dsimp only at hSw); go_simp) <;> (try with_reducible rfl))
                    try simp only [Act.put, List.setIfInBounds_toArray, List.set_cons_zero, List.set_cons_succ]
                    refine tree_end ?_
                    go_wp2
                    refine bodyPost_ret (results_cell2_tmp Try.results50 rfl rfl (VarAt.ldD (x := ⟨1, src, cl, tg, A, n, cap, acts, f, a, p, nm, tm', la', PA, pn, pc, fst⟩) HM.out.zd) (VarAt.ldL (N := N) HM.out.zl)) rfl ⟨N, LA, ln, lc, some ⟨wd.heap.size, 0, none⟩, 1, ?_, .inl ⟨rfl, rfl, rfl, HEQ.out.2.2⟩, ?_, HM.out.s⟩
                    · rw [HEQ.out.1, HEQ.out.2.1]; rfl
                    · rw [HEQ.out.2.1]; exact HO.out
            · rw [decide_eq_false h1]
              have HLF : Hid (MD.left ⟨1, src, cl, tg, A, n, cap, acts, f, a, p, nm, tm, la, PA, pn, pc, fst⟩ = MD.left ⟨1, src, cl, tg, A, n, cap, acts, f, a, p, nm, tm', la', PA, pn, pc, fst⟩) := Lib.hid rfl
              by_cases h2 : s = 0
              · as_aux_lemma =>
                have HEQ : Hid (MD.mvCS ⟨1, src, cl, tg, A, n, cap, acts, f, a, p, nm, tm, la, PA, pn, pc, fst⟩ c s time = ⟨1, src, c, s, A, n, cap, acts, ⟨#[]⟩, 0, 0, nm, tm', la', PA, pn, pc, fst⟩ ∧ MD.outCS ⟨1, src, cl, tg, A, n, cap, acts, f, a, p, nm, tm, la, PA, pn, pc, fst⟩ N c s px py time = MD.left ⟨1, src, cl, tg, A, n, cap, acts, f, a, p, nm, tm', la', PA, pn, pc, fst⟩ ∧ MD.iss ⟨1, src, cl, tg, A, n, cap, acts, f, a, p, nm, tm, la, PA, pn, pc, fst⟩ c s = false) := Lib.hid ⟨by unfold MD.mvCS; rw [if_neg h1, HTK.out, if_pos h2]; rfl, by unfold MD.outCS; rw [if_neg h1, if_pos h2]; rfl, by unfold MD.iss; rw [decide_eq_true h2]; cases decide (c = cl ∧ s = tg) <;> rfl⟩
                have b2 : (s == 0) = true := by simp [h2]
                have hld := VarAt.ldD (x := ⟨1, src, cl, tg, A, n, cap, acts, f, a, p, nm, tm', la', PA, pn, pc, fst⟩) HM.out.d
                clear h1 h2
                go_wp2_with (refine wpl_loadv _ _ _ rfl hld ?_)
                refine (mleave_ok (MD.left ⟨1, src, cl, tg, A, n, cap, acts, f, a, p, nm, tm', la', PA, pn, pc, fst⟩) ⟨1, src, cl, tg, A, n, cap, acts, f, a, p, nm, tm', la', PA, pn, pc, fst⟩ _ rfl).mono ?_
                rintro e w3 ⟨v3, rfl, hout, hs3⟩
                obtain ⟨VA, vc, rfl, _, hmax, _⟩ := out_rows hout
                have HO : Hid (OutAt (w.heap.size + 4) w3 (.slice VA (MD.left ⟨1, src, cl, tg, A, n, cap, acts, f, a, p, nm, tm', la', PA, pn, pc, fst⟩).length vc) ((MD.left ⟨1, src, cl, tg, A, n, cap, acts, f, a, p, nm, tm', la', PA, pn, pc, fst⟩).map Dv.cells)) := Lib.hid (World.ownsRow.mono hout HM.out.z)
                have HM := Lib.hid (HM.out.six.same hs3)
                have hz3 : w.heap.size + 4 ≤ w3.heap.size := HM.out.z
                have hld := VarAt.ldD (x := ⟨1, src, cl, tg, A, n, cap, acts, f, a, p, nm, tm', la', PA, pn, pc, fst⟩) HM.out.d
                clear hout hs3 hmax
                go_wp2_with (refine wpl_loadv _ _ _ rfl hld ?_)
                refine (muntargeted_ok ⟨1, src, cl, tg, A, n, cap, acts, f, a, p, nm, tm', la', PA, pn, pc, fst⟩ c s _).mono ?_
                rintro e w4 ⟨rfl, rfl⟩
                dsimp only [MD.aim, MD.cells]
                clear hld
                go_wp2_with fail
                have HM := Lib.hid (((HM.out.alloc (.cells #[.int .i64 1, .int .i64 src, .int .i64 c, .int .i64 s, .slice A n cap, .int .i64 acts, .string ⟨#[]⟩, .int .i64 0, .int .i64 0, .int .i64 nm, .bool tm', .int .i64 la', .slice PA pn pc, .int .i64 fst] 56)).alloc (.cells #[.int .i64 1, .int .i64 src, .int .i64 c, .int .i64 s, .slice A n cap, .int .i64 acts, .string ⟨#[]⟩, .int .i64 0, .int .i64 0, .int .i64 nm, .bool tm', .int .i64 la', .slice PA pn pc, .int .i64 fst] 56)).alloc (.cells #[.int .i64 1, .int .i64 src, .int .i64 c, .int .i64 s, .slice A n cap, .int .i64 acts, .string ⟨#[]⟩, .int .i64 0, .int .i64 0, .int .i64 nm, .bool tm', .int .i64 la', .slice PA pn pc, .int .i64 fst] 56))
                have H18 : Hid (VarAt (((w3.alloc (.cells #[.int .i64 1, .int .i64 src, .int .i64 c, .int .i64 s, .slice A n cap, .int .i64 acts, .string ⟨#[]⟩, .int .i64 0, .int .i64 0, .int .i64 nm, .bool tm', .int .i64 la', .slice PA pn pc, .int .i64 fst] 56)).alloc (.cells #[.int .i64 1, .int .i64 src, .int .i64 c, .int .i64 s, .slice A n cap, .int .i64 acts, .string ⟨#[]⟩, .int .i64 0, .int .i64 0, .int .i64 nm, .bool tm', .int .i64 la', .slice PA pn pc, .int .i64 fst] 56)).alloc (.cells #[.int .i64 1, .int .i64 src, .int .i64 c, .int .i64 s, .slice A n cap, .int .i64 acts, .string ⟨#[]⟩, .int .i64 0, .int .i64 0, .int .i64 nm, .bool tm', .int .i64 la', .slice PA pn pc, .int .i64 fst] 56)) (w3.heap.size + 1 + 1) 56 #[.int .i64 1, .int .i64 src, .int .i64 c, .int .i64 s, .slice A n cap, .int .i64 acts, .string ⟨#[]⟩, .int .i64 0, .int .i64 0, .int .i64 nm, .bool tm', .int .i64 la', .slice PA pn pc, .int .i64 fst]) := Lib.hid (VarAt.newk (by simp))
                have HO := Lib.hid (row_chg HO.out ((((Chg.refl (fun _ => False) w3).alloc (.cells #[.int .i64 1, .int .i64 src, .int .i64 c, .int .i64 s, .slice A n cap, .int .i64 acts, .string ⟨#[]⟩, .int .i64 0, .int .i64 0, .int .i64 nm, .bool tm', .int .i64 la', .slice PA pn pc, .int .i64 fst] 56)).alloc (.cells #[.int .i64 1, .int .i64 src, .int .i64 c, .int .i64 s, .slice A n cap, .int .i64 acts, .string ⟨#[]⟩, .int .i64 0, .int .i64 0, .int .i64 nm, .bool tm', .int .i64 la', .slice PA pn pc, .int .i64 fst] 56)).alloc (.cells #[.int .i64 1, .int .i64 src, .int .i64 c, .int .i64 s, .slice A n cap, .int .i64 acts, .string ⟨#[]⟩, .int .i64 0, .int .i64 0, .int .i64 nm, .bool tm', .int .i64 la', .slice PA pn pc, .int .i64 fst] 56)) (fun _ _ q => q))
                generalize ((w3.alloc (.cells #[.int .i64 1, .int .i64 src, .int .i64 c, .int .i64 s, .slice A n cap, .int .i64 acts, .string ⟨#[]⟩, .int .i64 0, .int .i64 0, .int .i64 nm, .bool tm', .int .i64 la', .slice PA pn pc, .int .i64 fst] 56)).alloc (.cells #[.int .i64 1, .int .i64 src, .int .i64 c, .int .i64 s, .slice A n cap, .int .i64 acts, .string ⟨#[]⟩, .int .i64 0, .int .i64 0, .int .i64 nm, .bool tm', .int .i64 la', .slice PA pn pc, .int .i64 fst] 56)).alloc (.cells #[.int .i64 1, .int .i64 src, .int .i64 c, .int .i64 s, .slice A n cap, .int .i64 acts, .string ⟨#[]⟩, .int .i64 0, .int .i64 0, .int .i64 nm, .bool tm', .int .i64 la', .slice PA pn pc, .int .i64 fst] 56) = w5 at *
                refine region_path (S := (fun w' => VarAt w' (w3.heap.size + 1 + 1) 56 #[.int .i64 1, .int .i64 src, .int .i64 c, .int .i64 s, .slice A n cap, .int .i64 acts, .string ⟨#[]⟩, .int .i64 0, .int .i64 0, .int .i64 nm, .bool tm', .int .i64 la', .slice PA pn pc, .int .i64 fst] ∧ VarAt w' (w.heap.size + 1) 60 #[.int .i64 N, .slice LA ln lc])) 99 [(0, true), (1, true), (2, true), (3, false), (4, false), (5, true)] (by kernel_rfl) (by kernel_rfl) (by kernel_rfl) (⟨H18.out.drew, HM.out.l.drew⟩) ?_
                refine path_read (i := 0) (v := (.agg #[.int .i64 1, .int .i64 src, .int .i64 c, .int .i64 s, .slice A n cap, .int .i64 acts, .string ⟨#[]⟩, .int .i64 0, .int .i64 0, .int .i64 nm, .bool tm', .int .i64 la', .slice PA pn pc, .int .i64 fst]) ) rfl (by rfl) (fun _ _ _ h => h) ?hy31_0 ?_
                case hy31_0 => (intro w hSw;  exact exec_loadv rfl (VarAt.ldD (x := ⟨1, src, c, s, A, n, cap, acts, ⟨#[]⟩, 0, 0, nm, tm', la', PA, pn, pc, fst⟩) hSw.1))
                try simp only [Act.put, List.setIfInBounds_toArray, List.set_cons_zero, List.set_cons_succ]
                refine path_read (i := 1) (v := (.agg #[.int .i64 N, .slice LA ln lc]) ) rfl (by rfl) (fun _ _ _ h => h) ?hy31_1 ?_
                case hy31_1 => (intro w hSw;  exact exec_loadv rfl (VarAt.ldL (N := N) hSw.2))
                try simp only [Act.put, List.setIfInBounds_toArray, List.set_cons_zero, List.set_cons_succ]
                refine path_read (i := 2) (v := ?v31_2) rfl (by rfl) (fun _ _ _ h => h) ?hy31_2 ?_
                case hy31_2 => ((intro w hSw; (try dsimp only at hSw); go_simp) <;> (try with_reducible rfl))
                try simp only [Act.put, List.setIfInBounds_toArray, List.set_cons_zero, List.set_cons_succ]
                refine path_do (i := 3) rfl ?_
                (refine wpl_storeRow #[.int .i64 0, .int .i64 0, .int .i64 0, .int .i64 0, .slice none 0 0, .int .i64 0, .string ⟨#[]⟩, .int .i64 0, .int .i64 0, .int .i64 0, .bool false, .int .i64 0, .slice none 0 0, .int .i64 0] rfl rfl HM.out.zd.drew (by kernel_rfl) rfl (by simp [Value.oneCell']) ?_)
                refine path_next (.inr ?keep31_3) ?_
                case keep31_3 => (exact ⟨H18.out.drew.set _ (by omega), HM.out.l.drew.set _ (by omega)⟩)
                try simp only [Act.put, List.setIfInBounds_toArray, List.set_cons_zero, List.set_cons_succ]
                refine path_do (i := 4) rfl ?_
                (refine wpl_storeRow #[.int .i64 0, .slice none 0 0] rfl rfl (HM.out.zl.drew.set _ (by omega)) (by kernel_rfl) rfl (by simp [Value.oneCell']) ?_)
                refine path_next (.inr ?keep31_4) ?_
                case keep31_4 => (exact ⟨(H18.out.drew.set _ (by omega)).set _ (by omega), (HM.out.l.drew.set _ (by omega)).set _ (by omega)⟩)
                try simp only [Act.put, List.setIfInBounds_toArray, List.set_cons_zero, List.set_cons_succ]
                refine path_read (i := 5) (v := ?v31_5) rfl (by rfl) (fun _ _ _ h => h) ?hy31_5 ?_
                case hy31_5 => ((intro w hSw; (try dsimp only at hSw); go_simp) <;> (try with_reducible rfl))
                try simp only [Act.put, List.setIfInBounds_toArray, List.set_cons_zero, List.set_cons_succ]
                refine path_end ?_
                have H2 := ((HM.out.same ((Chg.refl _ _).drew)).put1 #[.int .i64 1, .int .i64 src, .int .i64 c, .int .i64 s, .slice A n cap, .int .i64 acts, .string ⟨#[]⟩, .int .i64 0, .int .i64 0, .int .i64 nm, .bool tm', .int .i64 la', .slice PA pn pc, .int .i64 fst]).put2 #[.int .i64 N, .slice LA ln lc]
                have HO2 := out_setk (g := w.heap.size + 1 + 1 + 1) #[.int .i64 N, .slice LA ln lc] (out_setk (g := w.heap.size + 1 + 1) #[.int .i64 1, .int .i64 src, .int .i64 c, .int .i64 s, .slice A n cap, .int .i64 acts, .string ⟨#[]⟩, .int .i64 0, .int .i64 0, .int .i64 nm, .bool tm', .int .i64 la', .slice PA pn pc, .int .i64 fst] (row_chg HO.out ((Chg.refl (fun _ => False) w5).drew) (fun _ _ q => q)) (by omega)) (by omega)
                go_wp2
                refine bodyPost_ret (results_cell2_tmp Try.results50 rfl rfl (VarAt.ldD (x := ⟨1, src, c, s, A, n, cap, acts, ⟨#[]⟩, 0, 0, nm, tm', la', PA, pn, pc, fst⟩) H2.zd) (VarAt.ldL (N := N) H2.zl)) rfl ⟨N, LA, ln, lc, VA, vc, ?_, .inl ⟨rfl, rfl, rfl, HEQ.out.2.2⟩, ?_, H2.s⟩
                · rw [HEQ.out.1, HEQ.out.2.1]; rfl
                · rw [HEQ.out.2.1]; exact HO2
              · as_aux_lemma =>
                have hcs : 1 ≤ c ∧ 1 ≤ s := by have := HCS.out; omega
                have HEQ : Hid (MD.mvCS ⟨1, src, cl, tg, A, n, cap, acts, f, a, p, nm, tm, la, PA, pn, pc, fst⟩ c s time = ⟨1, src, c, s, A, n, cap, acts, ⟨#[]⟩, 0, 0, (nm + 1), tm', la', PA, pn, pc, fst⟩ ∧ MD.outCS ⟨1, src, cl, tg, A, n, cap, acts, f, a, p, nm, tm, la, PA, pn, pc, fst⟩ N c s px py time = MD.left ⟨1, src, cl, tg, A, n, cap, acts, f, a, p, nm, tm', la', PA, pn, pc, fst⟩ ++ [⟨c, s, 14, 0, px, py, nm + 1, 0, (N : Int) + 1⟩] ∧ MD.iss ⟨1, src, cl, tg, A, n, cap, acts, f, a, p, nm, tm, la, PA, pn, pc, fst⟩ c s = true) := Lib.hid ⟨by unfold MD.mvCS; rw [if_neg h1, HTK.out, if_neg h2]; rfl, by unfold MD.outCS; rw [if_neg h1, if_neg h2]; rfl, by unfold MD.iss; rw [decide_eq_false h1, decide_eq_false h2]; rfl⟩
                have HG : Hid (good c s 14 = true) := Lib.hid (by simp [good]; omega)
                have b2 : (s == 0) = false := by simp [h2]
                have s1 : IntKind.i64.wrap (nm + 1) = nm + 1 := IntWalk.i64_in _ (by omega)
                have hld := VarAt.ldD (x := ⟨1, src, cl, tg, A, n, cap, acts, f, a, p, nm, tm', la', PA, pn, pc, fst⟩) HM.out.d
                clear h1 h2 hcs
                go_wp2_with (refine wpl_loadv _ _ _ rfl hld ?_)
                refine (mleave_ok (MD.left ⟨1, src, cl, tg, A, n, cap, acts, f, a, p, nm, tm', la', PA, pn, pc, fst⟩) ⟨1, src, cl, tg, A, n, cap, acts, f, a, p, nm, tm', la', PA, pn, pc, fst⟩ _ rfl).mono ?_
                rintro e w3 ⟨v3, rfl, hout, hs3⟩
                have hle : (MD.left ⟨1, src, cl, tg, A, n, cap, acts, f, a, p, nm, tm', la', PA, pn, pc, fst⟩).length ≤ 1 := by unfold MD.left; split <;> simp
                obtain ⟨VA, vc, rfl, _, hmax, _⟩ := out_rows hout
                have HO : Hid (OutAt (w.heap.size + 4) w3 (.slice VA (MD.left ⟨1, src, cl, tg, A, n, cap, acts, f, a, p, nm, tm', la', PA, pn, pc, fst⟩).length vc) ((MD.left ⟨1, src, cl, tg, A, n, cap, acts, f, a, p, nm, tm', la', PA, pn, pc, fst⟩).map Dv.cells)) := Lib.hid (World.ownsRow.mono hout HM.out.z)
                have HM := Lib.hid (HM.out.six.same hs3)
                have hz3 : w.heap.size + 4 ≤ w3.heap.size := HM.out.z
                have hld := VarAt.ldD (x := ⟨1, src, cl, tg, A, n, cap, acts, f, a, p, nm, tm', la', PA, pn, pc, fst⟩) HM.out.d
                clear hout hs3 hmax
                generalize MD.left ⟨1, src, cl, tg, A, n, cap, acts, f, a, p, nm, tm', la', PA, pn, pc, fst⟩ = ls at *
                have HOL : Hid (∀ k, (Value.slice VA ls.length vc).ownBlock = some k → w.heap.size + 4 ≤ k ∧ k < w3.heap.size) := Lib.hid (fun k hk => by have := HO.out.lt k hk; omega)
                go_wp2_with (refine wpl_loadv _ _ _ rfl hld ?_)
                refine (muntargeted_ok ⟨1, src, cl, tg, A, n, cap, acts, f, a, p, nm, tm', la', PA, pn, pc, fst⟩ c s _).mono ?_
                rintro e w4 ⟨rfl, rfl⟩
                dsimp only [MD.aim, MD.cells]
                clear hld
                have HM := Lib.hid (((HM.out.alloc (.cells #[.int .i64 1, .int .i64 src, .int .i64 c, .int .i64 s, .slice A n cap, .int .i64 acts, .string ⟨#[]⟩, .int .i64 0, .int .i64 0, .int .i64 nm, .bool tm', .int .i64 la', .slice PA pn pc, .int .i64 fst] 56)).alloc (.cells #[.int .i64 1, .int .i64 src, .int .i64 c, .int .i64 s, .slice A n cap, .int .i64 acts, .string ⟨#[]⟩, .int .i64 0, .int .i64 0, .int .i64 nm, .bool tm', .int .i64 la', .slice PA pn pc, .int .i64 fst] 56)).alloc (.cells #[.int .i64 1, .int .i64 src, .int .i64 c, .int .i64 s, .slice A n cap, .int .i64 acts, .string ⟨#[]⟩, .int .i64 0, .int .i64 0, .int .i64 (nm + 1), .bool tm', .int .i64 la', .slice PA pn pc, .int .i64 fst] 56))
                have H18 : Hid (VarAt (((w3.alloc (.cells #[.int .i64 1, .int .i64 src, .int .i64 c, .int .i64 s, .slice A n cap, .int .i64 acts, .string ⟨#[]⟩, .int .i64 0, .int .i64 0, .int .i64 nm, .bool tm', .int .i64 la', .slice PA pn pc, .int .i64 fst] 56)).alloc (.cells #[.int .i64 1, .int .i64 src, .int .i64 c, .int .i64 s, .slice A n cap, .int .i64 acts, .string ⟨#[]⟩, .int .i64 0, .int .i64 0, .int .i64 nm, .bool tm', .int .i64 la', .slice PA pn pc, .int .i64 fst] 56)).alloc (.cells #[.int .i64 1, .int .i64 src, .int .i64 c, .int .i64 s, .slice A n cap, .int .i64 acts, .string ⟨#[]⟩, .int .i64 0, .int .i64 0, .int .i64 (nm + 1), .bool tm', .int .i64 la', .slice PA pn pc, .int .i64 fst] 56)) (w3.heap.size + 1 + 1) 56 #[.int .i64 1, .int .i64 src, .int .i64 c, .int .i64 s, .slice A n cap, .int .i64 acts, .string ⟨#[]⟩, .int .i64 0, .int .i64 0, .int .i64 (nm + 1), .bool tm', .int .i64 la', .slice PA pn pc, .int .i64 fst]) := Lib.hid (VarAt.newk (by simp))
                have HO := Lib.hid (row_chg HO.out ((((Chg.refl (fun _ => False) w3).alloc (.cells #[.int .i64 1, .int .i64 src, .int .i64 c, .int .i64 s, .slice A n cap, .int .i64 acts, .string ⟨#[]⟩, .int .i64 0, .int .i64 0, .int .i64 nm, .bool tm', .int .i64 la', .slice PA pn pc, .int .i64 fst] 56)).alloc (.cells #[.int .i64 1, .int .i64 src, .int .i64 c, .int .i64 s, .slice A n cap, .int .i64 acts, .string ⟨#[]⟩, .int .i64 0, .int .i64 0, .int .i64 nm, .bool tm', .int .i64 la', .slice PA pn pc, .int .i64 fst] 56)).alloc (.cells #[.int .i64 1, .int .i64 src, .int .i64 c, .int .i64 s, .slice A n cap, .int .i64 acts, .string ⟨#[]⟩, .int .i64 0, .int .i64 0, .int .i64 (nm + 1), .bool tm', .int .i64 la', .slice PA pn pc, .int .i64 fst] 56)) (fun _ _ q => q))
                have hld := run_load_rlog HM.out.l
                go_wp2_with (refine wpl_loadv _ _ _ rfl hld ?_)
                refine (rIssue_good LA N ln lc 0 l c s 14 _ (hl.same HM.out.s) hln (by omega) HG.out).mono ?_
                rintro e w5 ⟨LA', ln', lc', rfl, hsl, hs5⟩
                clear hld
                have HSL := Lib.hid (hsl.lower (base' := w3.heap.size) (by simp; omega))
                have HM := Lib.hid ((HM.out.same hs5).alloc (.cells #[.int .i64 ((N : Int) + 1), .slice LA' ln' lc'] 60))
                have H18 := Lib.hid ((H18.out.same hs5).alloc (.cells #[.int .i64 ((N : Int) + 1), .slice LA' ln' lc'] 60))
                have H19 := Lib.hid (VarAt.new w5 60 #[.int .i64 ((N : Int) + 1), .slice LA' ln' lc'])
                have HO := Lib.hid (row_chg HO.out (hs5.alloc (.cells #[.int .i64 ((N : Int) + 1), .slice LA' ln' lc'] 60)) (fun _ _ q => q))
                have HSL := Lib.hid (HSL.out.same ((Chg.refl _ _).alloc (.cells #[.int .i64 ((N : Int) + 1), .slice LA' ln' lc'] 60)))
                have hz5 : w3.heap.size + 3 ≤ w5.heap.size := by have := hs5.size; simp at this; omega
                clear hsl hs5
                go_wp2_with fail
                generalize w5.alloc (.cells #[.int .i64 ((N : Int) + 1), .slice LA' ln' lc'] 60) = w6 at *
                have HM := Lib.hid (HM.out.same ((Chg.refl _ _).drew))
                have H18 := Lib.hid H18.out.drew
                have H19 := Lib.hid H19.out.drew
                have HO := Lib.hid (row_chg HO.out ((Chg.refl (fun _ => False) w6).drew) (fun _ _ q => q))
                have HSL := Lib.hid (HSL.out.same ((Chg.refl _ _).drew))
                refine region_path (S := (fun w' => VarAt w' (w3.heap.size + 1 + 1) 56 #[.int .i64 1, .int .i64 src, .int .i64 c, .int .i64 s, .slice A n cap, .int .i64 acts, .string ⟨#[]⟩, .int .i64 0, .int .i64 0, .int .i64 (nm + 1), .bool tm', .int .i64 la', .slice PA pn pc, .int .i64 fst] ∧ VarAt w' w5.heap.size 60 #[.int .i64 ((N : Int) + 1), .slice LA' ln' lc'] ∧ w'.cell? ⟨w3.heap.size + 1 + 1, 9, none⟩ = some (.int .i64 (nm + 1)))) 99 [(0, true), (1, true), (2, true), (3, true), (4, true), (5, true), (6, true), (7, true), (8, true), (9, true), (10, true), (11, false), (12, false), (13, false), (14, false), (15, true)] (by kernel_rfl) (by kernel_rfl) (by kernel_rfl) (⟨H18.out, H19.out, cell_at (C := [.int .i64 1, .int .i64 src, .int .i64 c, .int .i64 s, .slice A n cap, .int .i64 acts, .string ⟨#[]⟩, .int .i64 0, .int .i64 0, .int .i64 (nm + 1), .bool tm', .int .i64 la', .slice PA pn pc, .int .i64 fst]) H18.out 9⟩) ?_
                generalize w6.drew = wd at *
                refine path_read (i := 0) (v := (.agg #[.int .i64 1, .int .i64 src, .int .i64 c, .int .i64 s, .slice A n cap, .int .i64 acts, .string ⟨#[]⟩, .int .i64 0, .int .i64 0, .int .i64 (nm + 1), .bool tm', .int .i64 la', .slice PA pn pc, .int .i64 fst]) ) rfl (by rfl) (fun _ _ _ h => h) ?hy32_0 ?_
                case hy32_0 => (intro w hSw;  exact exec_loadv rfl (VarAt.ldD (x := ⟨1, src, c, s, A, n, cap, acts, ⟨#[]⟩, 0, 0, (nm + 1), tm', la', PA, pn, pc, fst⟩) hSw.1))
                try simp only [Act.put, List.setIfInBounds_toArray, List.set_cons_zero, List.set_cons_succ]
                refine path_read (i := 1) (v := (.agg #[.int .i64 ((N : Int) + 1), .slice LA' ln' lc']) ) rfl (by rfl) (fun _ _ _ h => h) ?hy32_1 ?_
                case hy32_1 => (intro w hSw;  exact exec_loadv rfl (run_load_rlog hSw.2.1))
                try simp only [Act.put, List.setIfInBounds_toArray, List.set_cons_zero, List.set_cons_succ]
                refine path_read (i := 2) (v := ?v32_2) rfl (by rfl) (fun _ _ _ h => h) ?hy32_2 ?_
                case hy32_2 => ((intro w hSw; (try dsimp only at hSw); go_simp) <;> (try with_reducible rfl))
                try simp only [Act.put, List.setIfInBounds_toArray, List.set_cons_zero, List.set_cons_succ]
                refine path_read (i := 3) (v := ?v32_3) rfl (by rfl) (fun _ _ _ h => h) ?hy32_3 ?_
                case hy32_3 => ((intro w hSw; (try dsimp only at hSw); go_simp) <;> (try with_reducible rfl))
                try simp only [Act.put, List.setIfInBounds_toArray, List.set_cons_zero, List.set_cons_succ]
                refine path_read (i := 4) (v := ?v32_4) rfl (by rfl) (fun _ _ _ h => h) ?hy32_4 ?_
                case hy32_4 => ((intro w hSw; (try dsimp only at hSw); go_simp) <;> (try with_reducible rfl))
                try simp only [Act.put, List.setIfInBounds_toArray, List.set_cons_zero, List.set_cons_succ]
                refine path_read (i := 5) (v := ?v32_5) rfl (by rfl) (fun _ _ _ h => h) ?hy32_5 ?_
                case hy32_5 => ((intro w hSw; (try dsimp only at hSw); go_simp) <;> (try with_reducible rfl))
                try simp only [Act.put, List.setIfInBounds_toArray, List.set_cons_zero, List.set_cons_succ]
                refine path_read (i := 6) (v := ?v32_6) rfl (by rfl) (fun _ _ _ h => h) ?hy32_6 ?_
                case hy32_6 => ((intro w hSw; (try dsimp only at hSw); go_simp) <;> (try with_reducible rfl))
                try simp only [Act.put, List.setIfInBounds_toArray, List.set_cons_zero, List.set_cons_succ]
                refine path_read (i := 7) (v := ?v32_7) rfl (by rfl) (fun _ _ _ h => h) ?hy32_7 ?_
                case hy32_7 => ((intro w hSw; (try dsimp only at hSw); go_simp) <;> (try with_reducible rfl))
                try simp only [Act.put, List.setIfInBounds_toArray, List.set_cons_zero, List.set_cons_succ]
                refine path_read (i := 8) (v := ?v32_8) rfl (by rfl) (fun _ _ _ h => h) ?hy32_8 ?_
                case hy32_8 => ((intro w hSw; (try dsimp only at hSw); go_simp) <;> (try with_reducible rfl))
                try simp only [Act.put, List.setIfInBounds_toArray, List.set_cons_zero, List.set_cons_succ]
                refine path_read (i := 9) (v := ?v32_9) rfl (by rfl) (fun _ _ _ h => h) ?hy32_9 ?_
                case hy32_9 => ((intro w hSw; (try dsimp only at hSw); go_simp) <;> (try with_reducible rfl))
                try simp only [Act.put, List.setIfInBounds_toArray, List.set_cons_zero, List.set_cons_succ]
                refine path_read (i := 10) (v := (.agg #[.int .i64 c, .int .i64 s, .int .i64 14, .int .i64 0, .int .i64 px, .int .i64 py, .int .i64 (nm + 1), .int .i64 0, .int .u32 ((N : Int) + 1)]) ) rfl (by rfl) (fun _ _ _ h => h) ?hy32_10 ?_
                case hy32_10 => (intro w hSw;  exact exec_build (by simp [Act.eval]; exact built_enter c s _ px py _))
                try simp only [Act.put, List.setIfInBounds_toArray, List.set_cons_zero, List.set_cons_succ]
                refine path_do (i := 11) rfl ?_
                go_wp2_with ((refine wpl_dv c s 14 0 px py (nm + 1) 0 ((N : Int) + 1) rfl ?_))
                (first | refine ⟨.inr ?keep32_11, ?_⟩ | refine ⟨?keep32_11, ?_⟩)
                case keep32_11 => ((exact ⟨H18.out.alloc _, H19.out.alloc _, cell_at (C := [.int .i64 1, .int .i64 src, .int .i64 c, .int .i64 s, .slice A n cap, .int .i64 acts, .string ⟨#[]⟩, .int .i64 0, .int .i64 0, .int .i64 (nm + 1), .bool tm', .int .i64 la', .slice PA pn pc, .int .i64 fst]) (H18.out.alloc _) 9⟩))
                try simp only [Act.put, List.setIfInBounds_toArray, List.set_cons_zero, List.set_cons_succ]
                refine path_do (i := 12) rfl ?_
                refine wpl_append1 (w.heap.size + 4) 72 _ 9 72 Try.underlying40 infoDeliv rfl (by omega) _ ls.length (ls.map Dv.cells).flatten (by have := HO.out; unfold OutAt at this; rw [List.length_map] at this; exact this.alloc _) rfl wd.heap.size 1 [.int .i64 c, .int .i64 s, .int .i64 14, .int .i64 0, .int .i64 px, .int .i64 py, .int .i64 (nm + 1), .int .i64 0, .int .u32 ((N : Int) + 1)] rfl (VarAt.new _ _ _) rfl (by simp [Value.oneCell']) (by omega) (by omega) (by have := HM.out.z; simp; omega) ?_; intro g7 cap7 w7 hown7 hgrow7 _ _; have HC7 : Hid (Chg (fun x => (Value.slice VA ls.length vc).ownBlock = some x) wd w7) := Lib.hid (Chg.then_ (S := fun x => (Value.slice VA ls.length vc).ownBlock = some x) ((Chg.refl _ _).alloc _) (Chg.grownO (Chg.refl _ _) hgrow7) (fun j hj e => e.symm)); have HO7 : Hid (OutAt (w.heap.size + 4) w7 (.slice (some ⟨g7, 0, none⟩) (ls.length + 1) cap7) ((ls ++ ([⟨c, s, 14, 0, px, py, nm + 1, 0, (N : Int) + 1⟩] : List Dv)).map Dv.cells)) := Lib.hid (by rw [List.map_append]; exact OutAt.push (by rw [List.length_map]; exact hown7)); have HM := Lib.hid (HM.out.chg HC7.out (fun y hy q => by have := HOL.out y q; omega)); have H18 := Lib.hid (H18.out.chg HC7.out (fun q => by have := HOL.out _ q; omega)); have H19 := Lib.hid (H19.out.chg HC7.out (fun q => by have := HOL.out _ q; omega)); have HSL := Lib.hid (HSL.out.chg HC7.out (fun b hb _ _ q => by have := HOL.out _ q; omega)); clear hown7 hgrow7
                refine path_next (.inr ?keep32_12) ?_
                case keep32_12 => (exact ⟨H18.out, H19.out, cell_at (C := [.int .i64 1, .int .i64 src, .int .i64 c, .int .i64 s, .slice A n cap, .int .i64 acts, .string ⟨#[]⟩, .int .i64 0, .int .i64 0, .int .i64 (nm + 1), .bool tm', .int .i64 la', .slice PA pn pc, .int .i64 fst]) H18.out 9⟩)
                try simp only [Act.put, List.setIfInBounds_toArray, List.set_cons_zero, List.set_cons_succ]
                refine path_do (i := 13) rfl ?_
                (refine wpl_storeRow #[.int .i64 0, .int .i64 0, .int .i64 0, .int .i64 0, .slice none 0 0, .int .i64 0, .string ⟨#[]⟩, .int .i64 0, .int .i64 0, .int .i64 0, .bool false, .int .i64 0, .slice none 0 0, .int .i64 0] rfl rfl HM.out.zd (by kernel_rfl) rfl (by simp [Value.oneCell']) ?_)
                refine path_next (.inr ?keep32_13) ?_
                case keep32_13 => (exact ⟨H18.out.set _ (by omega), H19.out.set _ (by omega), cell_at (C := [.int .i64 1, .int .i64 src, .int .i64 c, .int .i64 s, .slice A n cap, .int .i64 acts, .string ⟨#[]⟩, .int .i64 0, .int .i64 0, .int .i64 (nm + 1), .bool tm', .int .i64 la', .slice PA pn pc, .int .i64 fst]) (H18.out.set (k := w.heap.size + 1 + 1) #[.int .i64 1, .int .i64 src, .int .i64 c, .int .i64 s, .slice A n cap, .int .i64 acts, .string ⟨#[]⟩, .int .i64 0, .int .i64 0, .int .i64 (nm + 1), .bool tm', .int .i64 la', .slice PA pn pc, .int .i64 fst] (by omega)) 9⟩)
                try simp only [Act.put, List.setIfInBounds_toArray, List.set_cons_zero, List.set_cons_succ]
                refine path_do (i := 14) rfl ?_
                (refine wpl_storeRow #[.int .i64 0, .slice none 0 0] rfl rfl (HM.out.put1 #[.int .i64 1, .int .i64 src, .int .i64 c, .int .i64 s, .slice A n cap, .int .i64 acts, .string ⟨#[]⟩, .int .i64 0, .int .i64 0, .int .i64 (nm + 1), .bool tm', .int .i64 la', .slice PA pn pc, .int .i64 fst]).zl (by kernel_rfl) rfl (by simp [Value.oneCell']) ?_)
                refine path_next (.inr ?keep32_14) ?_
                case keep32_14 => (exact ⟨(H18.out.set _ (by omega)).set _ (by omega), (H19.out.set _ (by omega)).set _ (by omega), cell_at (C := [.int .i64 1, .int .i64 src, .int .i64 c, .int .i64 s, .slice A n cap, .int .i64 acts, .string ⟨#[]⟩, .int .i64 0, .int .i64 0, .int .i64 (nm + 1), .bool tm', .int .i64 la', .slice PA pn pc, .int .i64 fst]) ((H18.out.set (k := w.heap.size + 1 + 1) #[.int .i64 1, .int .i64 src, .int .i64 c, .int .i64 s, .slice A n cap, .int .i64 acts, .string ⟨#[]⟩, .int .i64 0, .int .i64 0, .int .i64 (nm + 1), .bool tm', .int .i64 la', .slice PA pn pc, .int .i64 fst] (by omega)).set (k := w.heap.size + 1 + 1 + 1) #[.int .i64 ((N : Int) + 1), .slice LA' ln' lc'] (by omega)) 9⟩)
                try simp only [Act.put, List.setIfInBounds_toArray, List.set_cons_zero, List.set_cons_succ]
                refine path_read (i := 15) (v := ?v32_15) rfl (by rfl) (fun _ _ _ h => h) ?hy32_15 ?_
                case hy32_15 => ((intro w hSw; (try dsimp only at hSw); go_simp) <;> (try with_reducible rfl))
                try simp only [Act.put, List.setIfInBounds_toArray, List.set_cons_zero, List.set_cons_succ]
                refine path_end ?_
                have H2 := (HM.out.put1 #[.int .i64 1, .int .i64 src, .int .i64 c, .int .i64 s, .slice A n cap, .int .i64 acts, .string ⟨#[]⟩, .int .i64 0, .int .i64 0, .int .i64 (nm + 1), .bool tm', .int .i64 la', .slice PA pn pc, .int .i64 fst]).put2 #[.int .i64 ((N : Int) + 1), .slice LA' ln' lc']
                have HO2 := out_setk (g := w.heap.size + 1 + 1 + 1) #[.int .i64 ((N : Int) + 1), .slice LA' ln' lc'] (out_setk (g := w.heap.size + 1 + 1) #[.int .i64 1, .int .i64 src, .int .i64 c, .int .i64 s, .slice A n cap, .int .i64 acts, .string ⟨#[]⟩, .int .i64 0, .int .i64 0, .int .i64 (nm + 1), .bool tm', .int .i64 la', .slice PA pn pc, .int .i64 fst] HO7.out (by omega)) (by omega)
                have HSZ : SlotsAt ((w7.setRow (w.heap.size + 1 + 1) #[.int .i64 1, .int .i64 src, .int .i64 c, .int .i64 s, .slice A n cap, .int .i64 acts, .string ⟨#[]⟩, .int .i64 0, .int .i64 0, .int .i64 (nm + 1), .bool tm', .int .i64 la', .slice PA pn pc, .int .i64 fst]).setRow (w.heap.size + 1 + 1 + 1) #[.int .i64 ((N : Int) + 1), .slice LA' ln' lc']) (w.heap.size + 4) LA' ln' (rIssued N l c s 14) := (HSL.out.chg (((Chg.refl (fun x => x < w.heap.size + 4) w7).setRow (w.heap.size + 1 + 1) #[.int .i64 1, .int .i64 src, .int .i64 c, .int .i64 s, .slice A n cap, .int .i64 acts, .string ⟨#[]⟩, .int .i64 0, .int .i64 0, .int .i64 (nm + 1), .bool tm', .int .i64 la', .slice PA pn pc, .int .i64 fst] (fun _ => by show _ < _; omega)).setRow (w.heap.size + 1 + 1 + 1) #[.int .i64 ((N : Int) + 1), .slice LA' ln' lc'] (fun _ => by show _ < _; omega)) (fun b hb _ _ q => by have q2 : b < w.heap.size + 4 := q; omega)).lower (by omega)
                go_wp2
                refine bodyPost_ret (results_cell2_tmp Try.results50 rfl rfl (VarAt.ldD (x := ⟨1, src, c, s, A, n, cap, acts, ⟨#[]⟩, 0, 0, (nm + 1), tm', la', PA, pn, pc, fst⟩) H2.zd) (run_load_rlog H2.zl)) rfl ⟨N + 1, LA', ln', lc', some ⟨g7, 0, none⟩, cap7, ?_, .inr ⟨rfl, HSZ, HEQ.out.2.2⟩, ?_, H2.s⟩
                · rw [HEQ.out.1, HEQ.out.2.1, List.length_append]; rfl
                · rw [HEQ.out.2.1, List.length_append]; exact HO2

end Go.Proofs.Yteolilggeaffaaa
