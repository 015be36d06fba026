/- session.call of compositorlaw43, whole: what each kind of call leaves and returns; the protocol of deliveries. -/
import Derived.Test.YteolilggeaffaaaLaws43
import Derived.Test.YteolilggeaffaaaCallU43
import Derived.WalkMore
import Derived.Deep.LoopGhost
set_option linter.unusedVariables false
set_option linter.unusedSimpArgs false
set_option maxRecDepth 100000
namespace Go.Proofs.Yteolilggeaffaaa
open Go.RowKit

theorem opc {w : World} {g : Nat} {a0 a1 a2 a3 a4 a5 a6 a7 a8 a9 a10 a11 : Value} {T : TypeId} (h : w.heap[g]? = some (.cells #[a0, a1, a2, a3, a4, a5, a6, a7, a8, a9, a10, a11] T (0, 0))) :
    w.cell? ⟨g, 0, none⟩ = some a0 ∧ w.cell? ⟨g, 1, none⟩ = some a1 ∧ w.cell? ⟨g, 2, none⟩ = some a2 ∧ w.cell? ⟨g, 3, none⟩ = some a3 ∧ w.cell? ⟨g, 4, none⟩ = some a4 ∧ w.cell? ⟨g, 5, none⟩ = some a5 ∧ w.cell? ⟨g, 6, none⟩ = some a6 ∧ w.cell? ⟨g, 7, none⟩ = some a7 ∧ w.cell? ⟨g, 8, none⟩ = some a8 ∧ w.cell? ⟨g, 9, none⟩ = some a9 ∧ w.cell? ⟨g, 10, none⟩ = some a10 ∧ w.cell? ⟨g, 11, none⟩ = some a11 := by
  have e := fun i => cell_at (C := [a0, a1, a2, a3, a4, a5, a6, a7, a8, a9, a10, a11]) h i
  exact ⟨e 0, e 1, e 2, e 3, e 4, e 5, e 6, e 7, e 8, e 9, e 10, e 11⟩
theorem OutAt.form {base : Nat} {w : World} {v : Value} {l : List (List Value)} (h : OutAt base w v l) : ∃ A n cap, v = .slice A n cap := by
  rcases h.2 with ⟨rfl, _⟩ | ⟨g, cap, cur, rfl, _⟩
  · exact ⟨_, _, _, rfl⟩
  · exact ⟨_, _, _, rfl⟩
/-! ### The pipes' pointers stay. -/
theorem ptr_canc (x : DFlow) : x.canc.ptr = x.ptr := rfl
theorem ptrs_canc (d : DSt) (k : Nat) : (d.canc k).flows.map DFlow.ptr = d.flows.map DFlow.ptr := by
  apply List.ext_getElem?
  intro i
  show ((d.flows.mapIdx fun i x => if d.old ≤ i ∧ i < d.old + k then x.canc else x).map DFlow.ptr)[i]? = _
  rw [List.getElem?_map, List.getElem?_map, List.getElem?_mapIdx]
  cases d.flows[i]? with
  | none => rfl
  | some x =>
    simp only [Option.map_some]
    split <;> rfl
theorem ptrs_cancS (d : DSt) : d.cancS.flows.map DFlow.ptr = d.flows.map DFlow.ptr := by
  unfold DSt.cancS
  split
  · exact ptrs_canc d _
  · rfl
theorem ptrs_dropS (d : DSt) : d.dropS.flows.map DFlow.ptr = d.flows.map DFlow.ptr := by
  unfold DSt.dropS
  split
  · split
    · rfl
    · exact ptrs_cancS d
  · rfl
theorem flows_accept (d : DSt) (c : Int) (f : ByteArray) : (d.accept c f).flows = d.flows := by unfold DSt.accept; split <;> rfl
theorem flows_setAct (d : DSt) (c a p : Int) : (d.setAct c a p).flows = d.flows := by unfold DSt.setAct; split <;> rfl
theorem flows_fin (d : DSt) (c : Int) : (d.fin c).flows = d.flows := by unfold DSt.fin; split <;> rfl
theorem flows_start (d : DSt) (L : SLog) (c s i : Int) (fs : List ByteArray) (a n : Int) : (d.start L c s i fs a n).flows = d.flows := by unfold DSt.start; split <;> rfl
theorem flows_mv (d : DSt) (c s t : Int) : (d.mv c s t).flows = d.flows := by
  unfold DSt.mv DSt.moveCS DSt.tick DSt.aim
  split
  · split
    · split <;> rfl
    · split <;> rfl
  · rfl
/-- The session of the law in block sb: all that it is made of lies in F. -/
structure LP (w0 w : World) (F : Nat → Prop) (sb lb b : Nat) (R : Nat → Prop) (L : SLog) (d : DSt) (last : Int) (PA : Option Addr) (pn pc : Nat) : Prop where
  ls : LS w0 w sb lb b R L d last PA pn pc
  row : w.ownsRow w0.heap.size 43 1 (.slice PA pn pc) pn (d.flows.map DFlow.ptr)
  far : ∀ g, (Value.slice PA pn pc).ownBlock = some g → ¬ R g ∧ g ≠ sb ∧ g ≠ lb
  cov : ∀ x, R x ∨ x = sb ∨ x = lb ∨ (Value.slice PA pn pc).ownBlock = some x → F x
  lo : ∀ x, F x → w0.heap.size ≤ x ∧ x < w.heap.size
section
variable {w0 w w2 w' : World} {F : Nat → Prop} {sb lb b : Nat} {R R' : Nat → Prop} {L L' : SLog} {d d' : DSt} {last last' : Int} {PA PA' : Option Addr} {pn pc pn' pc' : Nat}
theorem LP.keep (h : LP w0 w F sb lb b R L d last PA pn pc) (k : Same w w') : LP w0 w' F sb lb b R L d last PA pn pc :=
  ⟨h.ls.keep k, row_chg h.row k (fun _ _ q => q), h.far, h.cov, fun x hx => ⟨(h.lo x hx).1, Nat.lt_of_lt_of_le (h.lo x hx).2 k.size⟩⟩
def LQ (w0 w : World) (F : Nat → Prop) (sb lb b : Nat) (L : SLog) (d : DSt) (last : Int) : Prop := ∃ R PA pn pc, LP w0 w F sb lb b R L d last PA pn pc
theorem LQ.keep (h : LQ w0 w F sb lb b L d last) (k : Same w w') : LQ w0 w' F sb lb b L d last := by
  obtain ⟨R, PA, pn, pc, h⟩ := h
  exact ⟨R, PA, pn, pc, h.keep k⟩
theorem LQ.same (h : LQ w0 w F sb lb b L d last) : Same w0 w := by
  obtain ⟨R, PA, pn, pc, h⟩ := h
  exact h.ls.same
def CallOut (w0 : World) (F : Nat → Prop) (sb lb b : Nat) (L' : SLog) (d' : DSt) (last' : Int) (l : List (List Value)) (ok : Bool) (er : Int) (w : World) (e : Ending) (w' : World) : Prop :=
  ∃ v F', e = .returned (.agg #[v, .bool ok, .int .i64 er]) ∧ OutAt w.heap.size w' v l ∧ LQ w0 w' F' sb lb b L' d' last' ∧ Own F F' w w'
/-- Blocks that are none of the session's are written. -/
theorem LS.chg {S : Nat → Prop} (h : LS w0 w sb lb b R L d last PA pn pc) (k : Chg S w w') (h1 : ∀ x, S x → ¬ R x ∧ x ≠ lb ∧ x ≠ sb ∧ w0.heap.size ≤ x) : LS w0 w' sb lb b R L d last PA pn pc :=
  ⟨h.ses.chg k (fun x hx => ⟨(h1 x hx).1, (h1 x hx).2.1, (h1 x hx).2.2.2⟩), h.at_.chg k (fun q => (h1 sb q).2.2.1 rfl), h.new, h.nR, h.nl⟩
theorem call_done {B base : Nat} {va vb vc v : Value} {l : List (List Value)} (ok : Bool) (er : Int) (h : LP w0 w F sb lb b R L d last PA pn pc) (hl : LS w0 w2 sb lb b R' L' d' last' PA' pn' pc')
    (hrow : w2.ownsRow w0.heap.size 43 1 (.slice PA' pn' pc') pn' (d'.flows.map DFlow.ptr)) (hfar : ∀ g, (Value.slice PA' pn' pc').ownBlock = some g → ¬ R' g ∧ g ≠ sb ∧ g ≠ lb)
    (hR : ∀ x, R' x → F x ∨ w.heap.size ≤ x) (hP : ∀ g, (Value.slice PA' pn' pc').ownBlock = some g → F g ∨ w.heap.size ≤ g) (hk : Chg F w w2) (hb : w2.heap[B]? = some (.cells #[va, vb, vc] 63 (0, 0))) (hB : w.heap.size ≤ B) (hBR : ¬ R' B)
    (hBP : (Value.slice PA' pn' pc').ownBlock ≠ some B) (hout : OutAt base w2 v l) (hbase : B < base) :
    CallOut w0 F sb lb b L' d' last' l ok er w (.returned (.agg #[v, .bool ok, .int .i64 er])) (((w2.setCell ⟨B, 0, none⟩ v).setCell ⟨B, 1, none⟩ (.bool ok)).setCell ⟨B, 2, none⟩ (.int .i64 er)) := by
  have hsb := (h.lo sb (h.cov sb (.inr (.inl rfl)))).2
  have hlb := (h.lo lb (h.cov lb (.inr (.inr (.inl rfl))))).2
  have hw0 := h.ls.same.size
  have hc := res_chg w2 B v (.bool ok) (.int .i64 er)
  have hs2 := hk.size
  have hs3 := hc.size
  refine ⟨v, fun x => F x ∨ R' x ∨ (Value.slice PA' pn' pc').ownBlock = some x, rfl, ?_, ⟨R', PA', pn', pc', hl.chg hc (fun x e => ?_), row_chg hrow hc (fun x hx e => hBP (by rw [hx, e])), hfar, fun x hx => ?_, fun x hx => ?_⟩, ⟨?_, ?_⟩⟩
  · refine World.ownsRow.mono (base := base) (hout.chg hc (fun x e => by rw [e]; exact hbase)) (by omega)
  · subst e
    exact ⟨hBR, by omega, by omega, by omega⟩
  · rcases hx with hx | hx | hx | hx
    · exact .inr (.inl hx)
    · exact .inl (h.cov x (.inr (.inl hx)))
    · exact .inl (h.cov x (.inr (.inr (.inl hx))))
    · exact .inr (.inr hx)
  · rcases hx with hx | hx | hx
    · have := h.lo x hx; omega
    · have := hl.ses.fresh x hx; have := hl.ses.lt x hx; omega
    · have := World.ownsRow.lt hrow x hx; omega
  · refine Chg.then_ hk hc (fun i hi e => by omega)
  · intro x hx
    rcases hx with hx | hx | hx
    · exact .inl hx
    · exact hR x hx
    · exact hP x hx
end
end Go.Proofs.Yteolilggeaffaaa

namespace Go.Proofs.Yteolilggeaffaaa
open Go.RowKit

section
variable {w0 w : World} {F : Nat → Prop} {sb lb b : Nat} {L : SLog} {d : DSt} {last : Int}
set_option maxHeartbeats 8000000 in
theorem call3 (client surface nn other px py tm back acts : Int) (fo : ByteArray) (A : Option Addr) (len cap : Nat) (h : LQ w0 w F sb lb b L d last) :
    Calls Try.prog 27 #[.pointer (some ⟨sb, 0, none⟩), .agg #[.int .i64 3, .int .i64 client, .int .i64 surface, .int .i64 nn, .int .i64 other, .int .i64 px, .int .i64 py, .int .i64 tm, .int .u32 back, .string fo, .slice A len cap, .int .i64 acts]] w (CallOut w0 F sb lb b L (d.accept client fo) last [] false (d.acceptE client fo) w) := by
  obtain ⟨R, PA, pn, pc, h⟩ := h
  have HP := Lib.hid h
  have HNR : Hid (∀ x, F x → x < w.heap.size) := Lib.hid (fun x hx => (h.lo x hx).2)
  have HRF : Hid (∀ x, R x → F x) := Lib.hid (fun x hx => h.cov x (.inl hx))
  have HNE : Hid (F sb ∧ F lb) := Lib.hid ⟨h.cov sb (.inr (.inl rfl)), h.cov lb (.inr (.inr (.inl rfl)))⟩
  have hsl := h.ls.at_.lt
  obtain ⟨q0, q1, q2, q3⟩ := h.ls.at_.cells
  have hb0 := (Chg.refl (fun _ => False) _).alloc (.cells #[.slice none 0 0, .bool false, .int .i64 0] 63) |>.at_ (at_new w (.cells #[.int .i64 3, .int .i64 client, .int .i64 surface, .int .i64 nn, .int .i64 other, .int .i64 px, .int .i64 py, .int .i64 tm, .int .u32 back, .string fo, .slice A len cap, .int .i64 acts] 67)) (fun q => q)
  have hb1 := at_new2 w (.cells #[.int .i64 3, .int .i64 client, .int .i64 surface, .int .i64 nn, .int .i64 other, .int .i64 px, .int .i64 py, .int .i64 tm, .int .u32 back, .string fo, .slice A len cap, .int .i64 acts] 67) (.cells #[.slice none 0 0, .bool false, .int .i64 0] 63)
  have HS := Lib.hid (((Chg.refl (fun _ => False) w).alloc (.cells #[.int .i64 3, .int .i64 client, .int .i64 surface, .int .i64 nn, .int .i64 other, .int .i64 px, .int .i64 py, .int .i64 tm, .int .u32 back, .string fo, .slice A len cap, .int .i64 acts] 67)).alloc (.cells #[.slice none 0 0, .bool false, .int .i64 0] 63))
  have HL := Lib.hid (h.ls.keep HS.out)
  have HK := Lib.hid (Chg.of_same (S := F) HS.out)
  have HB0 := Lib.hid hb0
  have HB1 := Lib.hid hb1
  have HSZ := Lib.hid (lt_of_at hb1)
  have HROW := Lib.hid (row_chg h.row HS.out (fun _ _ q => q))
  have KEEP : Hid (∀ w' : World, SessAt w' sb lb b last PA pn pc → w'.heap[w.heap.size]? = some (.cells #[.int .i64 3, .int .i64 client, .int .i64 surface, .int .i64 nn, .int .i64 other, .int .i64 px, .int .i64 py, .int .i64 tm, .int .u32 back, .string fo, .slice A len cap, .int .i64 acts] 67 (0, 0)) → w'.cell? ⟨sb, 0, none⟩ = some (.pointer (some ⟨lb, 0, none⟩)) ∧ w'.cell? ⟨sb, 1, none⟩ = some (.pointer (some ⟨b, 0, none⟩)) ∧ w'.cell? ⟨sb, 2, none⟩ = some (.int .u32 last) ∧ w'.cell? ⟨sb, 3, none⟩ = some (.slice PA pn pc) ∧ w'.cell? ⟨w.heap.size, 1, none⟩ = some (.int .i64 client) ∧ w'.cell? ⟨w.heap.size, 2, none⟩ = some (.int .i64 surface) ∧ w'.cell? ⟨w.heap.size, 3, none⟩ = some (.int .i64 nn) ∧ w'.cell? ⟨w.heap.size, 4, none⟩ = some (.int .i64 other) ∧ w'.cell? ⟨w.heap.size, 5, none⟩ = some (.int .i64 px) ∧ w'.cell? ⟨w.heap.size, 6, none⟩ = some (.int .i64 py) ∧ w'.cell? ⟨w.heap.size, 7, none⟩ = some (.int .i64 tm) ∧ w'.cell? ⟨w.heap.size, 8, none⟩ = some (.int .u32 back) ∧ w'.cell? ⟨w.heap.size, 9, none⟩ = some (.string fo) ∧ w'.cell? ⟨w.heap.size, 10, none⟩ = some (.slice A len cap) ∧ w'.cell? ⟨w.heap.size, 11, none⟩ = some (.int .i64 acts)) := Lib.hid (fun w' h1 h2 => ⟨h1.cells.1, h1.cells.2.1, h1.cells.2.2.1, h1.cells.2.2.2, (opc h2).2⟩)
  clear h hb0 hb1
  go_enter Try.func27, Try.ntmps27
  go_wp2_with fail
  have HL := Lib.hid (HL.out.keep ((Chg.refl (fun _ => False) _).drew))
  have HK := Lib.hid (HK.out.drew)
  have HB0 := Lib.hid ((Chg.refl (fun _ => False) _).drew.at_ HB0.out (fun q => q))
  have HB1 := Lib.hid ((Chg.refl (fun _ => False) _).drew.at_ HB1.out (fun q => q))
  have HSZ := Lib.hid (lt_of_at HB1.out)
  have HROW := Lib.hid (row_chg HROW.out ((Chg.refl (fun _ => False) _).drew) (fun _ _ q => q))
  have hcel := KEEP.out _ HL.out.at_ HB0.out
  refine region_path (S := (fun w' => w'.cell? ⟨sb, 0, none⟩ = some (.pointer (some ⟨lb, 0, none⟩)) ∧ w'.cell? ⟨sb, 1, none⟩ = some (.pointer (some ⟨b, 0, none⟩)) ∧ w'.cell? ⟨sb, 2, none⟩ = some (.int .u32 last) ∧ w'.cell? ⟨sb, 3, none⟩ = some (.slice PA pn pc) ∧ w'.cell? ⟨w.heap.size, 1, none⟩ = some (.int .i64 client) ∧ w'.cell? ⟨w.heap.size, 2, none⟩ = some (.int .i64 surface) ∧ w'.cell? ⟨w.heap.size, 3, none⟩ = some (.int .i64 nn) ∧ w'.cell? ⟨w.heap.size, 4, none⟩ = some (.int .i64 other) ∧ w'.cell? ⟨w.heap.size, 5, none⟩ = some (.int .i64 px) ∧ w'.cell? ⟨w.heap.size, 6, none⟩ = some (.int .i64 py) ∧ w'.cell? ⟨w.heap.size, 7, none⟩ = some (.int .i64 tm) ∧ w'.cell? ⟨w.heap.size, 8, none⟩ = some (.int .u32 back) ∧ w'.cell? ⟨w.heap.size, 9, none⟩ = some (.string fo) ∧ w'.cell? ⟨w.heap.size, 10, none⟩ = some (.slice A len cap) ∧ w'.cell? ⟨w.heap.size, 11, none⟩ = some (.int .i64 acts))) 99 [(0, true), (1, true), (2, true), (3, true), (4, true), (5, true), (6, true), (7, true), (8, false), (9, true), (10, false)] (by kernel_rfl) (by kernel_rfl) (by kernel_rfl) hcel ?_
  refine path_read (i := 0) (v := ?v70_0) rfl (by rfl) (fun _ _ _ h => h) ?hy70_0 ?_
  case hy70_0 => ((intro w hSw; (try dsimp only at hSw); go_simp) <;> (try with_reducible rfl))
  try simp only [Act.put, List.setIfInBounds_toArray, List.set_cons_zero, List.set_cons_succ]
  refine path_read (i := 1) (v := ?v70_1) rfl (by rfl) (fun _ _ _ h => h) ?hy70_1 ?_
  case hy70_1 => ((intro w hSw; (try dsimp only at hSw); go_simp) <;> (try with_reducible rfl))
  try simp only [Act.put, List.setIfInBounds_toArray, List.set_cons_zero, List.set_cons_succ]
  refine path_read (i := 2) (v := ?v70_2) rfl (by rfl) (fun _ _ _ h => h) ?hy70_2 ?_
  case hy70_2 => ((intro w hSw; (try dsimp only at hSw); go_simp) <;> (try with_reducible rfl))
  try simp only [Act.put, List.setIfInBounds_toArray, List.set_cons_zero, List.set_cons_succ]
  refine path_read (i := 3) (v := ?v70_3) rfl (by rfl) (fun _ _ _ h => h) ?hy70_3 ?_
  case hy70_3 => ((intro w hSw; (try dsimp only at hSw); go_simp) <;> (try with_reducible rfl))
  try simp only [Act.put, List.setIfInBounds_toArray, List.set_cons_zero, List.set_cons_succ]
  refine path_read (i := 4) (v := ?v70_4) rfl (by rfl) (fun _ _ _ h => h) ?hy70_4 ?_
  case hy70_4 => ((intro w hSw; (try dsimp only at hSw); go_simp) <;> (try with_reducible rfl))
  try simp only [Act.put, List.setIfInBounds_toArray, List.set_cons_zero, List.set_cons_succ]
  refine path_read (i := 5) (v := ?v70_5) rfl (by rfl) (fun _ _ _ h => h) ?hy70_5 ?_
  case hy70_5 => ((intro w hSw; (try dsimp only at hSw); go_simp) <;> (try with_reducible rfl))
  try simp only [Act.put, List.setIfInBounds_toArray, List.set_cons_zero, List.set_cons_succ]
  refine path_read (i := 6) (v := ?v70_6) rfl (by rfl) (fun _ _ _ h => h) ?hy70_6 ?_
  case hy70_6 => ((intro w hSw; (try dsimp only at hSw); go_simp) <;> (try with_reducible rfl))
  try simp only [Act.put, List.setIfInBounds_toArray, List.set_cons_zero, List.set_cons_succ]
  refine path_read (i := 7) (v := ?v70_7) rfl (by rfl) (fun _ _ _ h => h) ?hy70_7 ?_
  case hy70_7 => ((intro w hSw; (try dsimp only at hSw); go_simp) <;> (try with_reducible rfl))
  try simp only [Act.put, List.setIfInBounds_toArray, List.set_cons_zero, List.set_cons_succ]
  refine path_do (i := 8) rfl ?_
  go_wp2_with ((first | (go_at_call 13; go_loud (refine (ls_accept (d.accept client fo) (d.acceptE client fo) client fo HL.out rfl rfl).mono ?_; rintro e w2 ⟨rfl, hl, hk⟩; have HL := Lib.hid hl; clear hl; have HROW := Lib.hid (row_chg HROW.out hk (fun x hx q => (HP.out.far x hx).1 q)); have HB0 := Lib.hid (hk.at_ HB0.out (fun q => by have := HNR.out _ (HRF.out _ q); omega)); have HB1 := Lib.hid (hk.at_ HB1.out (fun q => by have := HNR.out _ (HRF.out _ q); omega)); have HSZ := Lib.hid (Nat.lt_of_lt_of_le HSZ.out hk.size); have HK := Lib.hid (HK.out.trans (hk.mono (fun x _ q => HRF.out _ q))); have r0 := (res_cells HB1.out).1; have r1 := (res_cells HB1.out).2.1; have r2 := (res_cells HB1.out).2.2; have rf := frozen_at HB1.out; have rl := lt_of_at HB1.out; have g0 := HL.out.at_.cells.1; have g1 := HL.out.at_.cells.2.1; have g2 := HL.out.at_.cells.2.2.1; have g3 := HL.out.at_.cells.2.2.2; have gf := frozen_at HL.out.at_; have gl := HL.out.at_.lt; clear hk))))
  (first | refine ⟨.inr ?keep70_8, ?_⟩ | refine ⟨?keep70_8, ?_⟩)
  case keep70_8 => ((first | exact KEEP.out _ (HL.out.at_.chg (res_chg _ (w.heap.size + 1) _ _ _) (fun q => by have := HNR.out _ HNE.out.1; omega)) ((res_chg _ (w.heap.size + 1) _ _ _).at_ HB0.out (fun q => by omega)) | exact KEEP.out _ HL.out.at_ HB0.out))
  try simp only [Act.put, List.setIfInBounds_toArray, List.set_cons_zero, List.set_cons_succ]
  refine path_read (i := 9) (v := ?v70_9) rfl (by rfl) (fun _ _ _ h => h) ?hy70_9 ?_
  case hy70_9 => ((intro w hSw; (try dsimp only at hSw); go_simp) <;> (try with_reducible rfl))
  try simp only [Act.put, List.setIfInBounds_toArray, List.set_cons_zero, List.set_cons_succ]
  refine path_do (i := 10) rfl ?_
  go_wp2_with ((first | (go_at_call 13; go_loud (refine (ls_accept (d.accept client fo) (d.acceptE client fo) client fo HL.out rfl rfl).mono ?_; rintro e w2 ⟨rfl, hl, hk⟩; have HL := Lib.hid hl; clear hl; have HROW := Lib.hid (row_chg HROW.out hk (fun x hx q => (HP.out.far x hx).1 q)); have HB0 := Lib.hid (hk.at_ HB0.out (fun q => by have := HNR.out _ (HRF.out _ q); omega)); have HB1 := Lib.hid (hk.at_ HB1.out (fun q => by have := HNR.out _ (HRF.out _ q); omega)); have HSZ := Lib.hid (Nat.lt_of_lt_of_le HSZ.out hk.size); have HK := Lib.hid (HK.out.trans (hk.mono (fun x _ q => HRF.out _ q))); have r0 := (res_cells HB1.out).1; have r1 := (res_cells HB1.out).2.1; have r2 := (res_cells HB1.out).2.2; have rf := frozen_at HB1.out; have rl := lt_of_at HB1.out; have g0 := HL.out.at_.cells.1; have g1 := HL.out.at_.cells.2.1; have g2 := HL.out.at_.cells.2.2.1; have g3 := HL.out.at_.cells.2.2.2; have gf := frozen_at HL.out.at_; have gl := HL.out.at_.lt; clear hk))))
  (first | refine ⟨.inr ?keep70_10, ?_⟩ | refine ⟨?keep70_10, ?_⟩)
  case keep70_10 => ((first | exact KEEP.out _ (HL.out.at_.chg (res_chg _ (w.heap.size + 1) _ _ _) (fun q => by have := HNR.out _ HNE.out.1; omega)) ((res_chg _ (w.heap.size + 1) _ _ _).at_ HB0.out (fun q => by omega)) | exact KEEP.out _ HL.out.at_ HB0.out))
  try simp only [Act.put, List.setIfInBounds_toArray, List.set_cons_zero, List.set_cons_succ]
  refine path_end ?_
  clear hcel
  go_wp2
  exact bodyPost_ret (results_cell1 Try.results27 rfl (run_load_res (res_set _ _ _ HB1.out))) rfl (call_done false _ HP.out HL.out (by rw [flows_accept]; exact HROW.out) HP.out.far (fun x q => Or.inl (HRF.out x q)) (fun g q => Or.inl (HP.out.cov g (.inr (.inr (.inr q))))) HK.out HB1.out (by omega) (fun q => by have := HNR.out _ (HRF.out _ q); omega) (fun q => by have := HNR.out _ (HP.out.cov _ (.inr (.inr (.inr q)))); omega) (World.ownsRow_nil _ (w.heap.size + 2) _ _) (by omega))
set_option maxHeartbeats 8000000 in
theorem call4 (client surface nn other px py tm back acts : Int) (fo : ByteArray) (A : Option Addr) (len cap : Nat) (h : LQ w0 w F sb lb b L d last) :
    Calls Try.prog 27 #[.pointer (some ⟨sb, 0, none⟩), .agg #[.int .i64 4, .int .i64 client, .int .i64 surface, .int .i64 nn, .int .i64 other, .int .i64 px, .int .i64 py, .int .i64 tm, .int .u32 back, .string fo, .slice A len cap, .int .i64 acts]] w (CallOut w0 F sb lb b L (d.setAct client nn other) last [] false (d.setActE client nn other) w) := by
  obtain ⟨R, PA, pn, pc, h⟩ := h
  have HP := Lib.hid h
  have HNR : Hid (∀ x, F x → x < w.heap.size) := Lib.hid (fun x hx => (h.lo x hx).2)
  have HRF : Hid (∀ x, R x → F x) := Lib.hid (fun x hx => h.cov x (.inl hx))
  have HNE : Hid (F sb ∧ F lb) := Lib.hid ⟨h.cov sb (.inr (.inl rfl)), h.cov lb (.inr (.inr (.inl rfl)))⟩
  have hsl := h.ls.at_.lt
  obtain ⟨q0, q1, q2, q3⟩ := h.ls.at_.cells
  have hb0 := (Chg.refl (fun _ => False) _).alloc (.cells #[.slice none 0 0, .bool false, .int .i64 0] 63) |>.at_ (at_new w (.cells #[.int .i64 4, .int .i64 client, .int .i64 surface, .int .i64 nn, .int .i64 other, .int .i64 px, .int .i64 py, .int .i64 tm, .int .u32 back, .string fo, .slice A len cap, .int .i64 acts] 67)) (fun q => q)
  have hb1 := at_new2 w (.cells #[.int .i64 4, .int .i64 client, .int .i64 surface, .int .i64 nn, .int .i64 other, .int .i64 px, .int .i64 py, .int .i64 tm, .int .u32 back, .string fo, .slice A len cap, .int .i64 acts] 67) (.cells #[.slice none 0 0, .bool false, .int .i64 0] 63)
  have HS := Lib.hid (((Chg.refl (fun _ => False) w).alloc (.cells #[.int .i64 4, .int .i64 client, .int .i64 surface, .int .i64 nn, .int .i64 other, .int .i64 px, .int .i64 py, .int .i64 tm, .int .u32 back, .string fo, .slice A len cap, .int .i64 acts] 67)).alloc (.cells #[.slice none 0 0, .bool false, .int .i64 0] 63))
  have HL := Lib.hid (h.ls.keep HS.out)
  have HK := Lib.hid (Chg.of_same (S := F) HS.out)
  have HB0 := Lib.hid hb0
  have HB1 := Lib.hid hb1
  have HSZ := Lib.hid (lt_of_at hb1)
  have HROW := Lib.hid (row_chg h.row HS.out (fun _ _ q => q))
  have KEEP : Hid (∀ w' : World, SessAt w' sb lb b last PA pn pc → w'.heap[w.heap.size]? = some (.cells #[.int .i64 4, .int .i64 client, .int .i64 surface, .int .i64 nn, .int .i64 other, .int .i64 px, .int .i64 py, .int .i64 tm, .int .u32 back, .string fo, .slice A len cap, .int .i64 acts] 67 (0, 0)) → w'.cell? ⟨sb, 0, none⟩ = some (.pointer (some ⟨lb, 0, none⟩)) ∧ w'.cell? ⟨sb, 1, none⟩ = some (.pointer (some ⟨b, 0, none⟩)) ∧ w'.cell? ⟨sb, 2, none⟩ = some (.int .u32 last) ∧ w'.cell? ⟨sb, 3, none⟩ = some (.slice PA pn pc) ∧ w'.cell? ⟨w.heap.size, 1, none⟩ = some (.int .i64 client) ∧ w'.cell? ⟨w.heap.size, 2, none⟩ = some (.int .i64 surface) ∧ w'.cell? ⟨w.heap.size, 3, none⟩ = some (.int .i64 nn) ∧ w'.cell? ⟨w.heap.size, 4, none⟩ = some (.int .i64 other) ∧ w'.cell? ⟨w.heap.size, 5, none⟩ = some (.int .i64 px) ∧ w'.cell? ⟨w.heap.size, 6, none⟩ = some (.int .i64 py) ∧ w'.cell? ⟨w.heap.size, 7, none⟩ = some (.int .i64 tm) ∧ w'.cell? ⟨w.heap.size, 8, none⟩ = some (.int .u32 back) ∧ w'.cell? ⟨w.heap.size, 9, none⟩ = some (.string fo) ∧ w'.cell? ⟨w.heap.size, 10, none⟩ = some (.slice A len cap) ∧ w'.cell? ⟨w.heap.size, 11, none⟩ = some (.int .i64 acts)) := Lib.hid (fun w' h1 h2 => ⟨h1.cells.1, h1.cells.2.1, h1.cells.2.2.1, h1.cells.2.2.2, (opc h2).2⟩)
  clear h hb0 hb1
  go_enter Try.func27, Try.ntmps27
  go_wp2_with fail
  have HL := Lib.hid (HL.out.keep ((Chg.refl (fun _ => False) _).drew))
  have HK := Lib.hid (HK.out.drew)
  have HB0 := Lib.hid ((Chg.refl (fun _ => False) _).drew.at_ HB0.out (fun q => q))
  have HB1 := Lib.hid ((Chg.refl (fun _ => False) _).drew.at_ HB1.out (fun q => q))
  have HSZ := Lib.hid (lt_of_at HB1.out)
  have HROW := Lib.hid (row_chg HROW.out ((Chg.refl (fun _ => False) _).drew) (fun _ _ q => q))
  have hcel := KEEP.out _ HL.out.at_ HB0.out
  refine region_path (S := (fun w' => w'.cell? ⟨sb, 0, none⟩ = some (.pointer (some ⟨lb, 0, none⟩)) ∧ w'.cell? ⟨sb, 1, none⟩ = some (.pointer (some ⟨b, 0, none⟩)) ∧ w'.cell? ⟨sb, 2, none⟩ = some (.int .u32 last) ∧ w'.cell? ⟨sb, 3, none⟩ = some (.slice PA pn pc) ∧ w'.cell? ⟨w.heap.size, 1, none⟩ = some (.int .i64 client) ∧ w'.cell? ⟨w.heap.size, 2, none⟩ = some (.int .i64 surface) ∧ w'.cell? ⟨w.heap.size, 3, none⟩ = some (.int .i64 nn) ∧ w'.cell? ⟨w.heap.size, 4, none⟩ = some (.int .i64 other) ∧ w'.cell? ⟨w.heap.size, 5, none⟩ = some (.int .i64 px) ∧ w'.cell? ⟨w.heap.size, 6, none⟩ = some (.int .i64 py) ∧ w'.cell? ⟨w.heap.size, 7, none⟩ = some (.int .i64 tm) ∧ w'.cell? ⟨w.heap.size, 8, none⟩ = some (.int .u32 back) ∧ w'.cell? ⟨w.heap.size, 9, none⟩ = some (.string fo) ∧ w'.cell? ⟨w.heap.size, 10, none⟩ = some (.slice A len cap) ∧ w'.cell? ⟨w.heap.size, 11, none⟩ = some (.int .i64 acts))) 99 [(0, true), (1, true), (2, true), (3, true), (4, true), (5, true), (6, true), (7, true), (8, true), (9, true), (10, false), (11, true), (12, false)] (by kernel_rfl) (by kernel_rfl) (by kernel_rfl) hcel ?_
  refine path_read (i := 0) (v := ?v71_0) rfl (by rfl) (fun _ _ _ h => h) ?hy71_0 ?_
  case hy71_0 => ((intro w hSw; (try dsimp only at hSw); go_simp) <;> (try with_reducible rfl))
  try simp only [Act.put, List.setIfInBounds_toArray, List.set_cons_zero, List.set_cons_succ]
  refine path_read (i := 1) (v := ?v71_1) rfl (by rfl) (fun _ _ _ h => h) ?hy71_1 ?_
  case hy71_1 => ((intro w hSw; (try dsimp only at hSw); go_simp) <;> (try with_reducible rfl))
  try simp only [Act.put, List.setIfInBounds_toArray, List.set_cons_zero, List.set_cons_succ]
  refine path_read (i := 2) (v := ?v71_2) rfl (by rfl) (fun _ _ _ h => h) ?hy71_2 ?_
  case hy71_2 => ((intro w hSw; (try dsimp only at hSw); go_simp) <;> (try with_reducible rfl))
  try simp only [Act.put, List.setIfInBounds_toArray, List.set_cons_zero, List.set_cons_succ]
  refine path_read (i := 3) (v := ?v71_3) rfl (by rfl) (fun _ _ _ h => h) ?hy71_3 ?_
  case hy71_3 => ((intro w hSw; (try dsimp only at hSw); go_simp) <;> (try with_reducible rfl))
  try simp only [Act.put, List.setIfInBounds_toArray, List.set_cons_zero, List.set_cons_succ]
  refine path_read (i := 4) (v := ?v71_4) rfl (by rfl) (fun _ _ _ h => h) ?hy71_4 ?_
  case hy71_4 => ((intro w hSw; (try dsimp only at hSw); go_simp) <;> (try with_reducible rfl))
  try simp only [Act.put, List.setIfInBounds_toArray, List.set_cons_zero, List.set_cons_succ]
  refine path_read (i := 5) (v := ?v71_5) rfl (by rfl) (fun _ _ _ h => h) ?hy71_5 ?_
  case hy71_5 => ((intro w hSw; (try dsimp only at hSw); go_simp) <;> (try with_reducible rfl))
  try simp only [Act.put, List.setIfInBounds_toArray, List.set_cons_zero, List.set_cons_succ]
  refine path_read (i := 6) (v := ?v71_6) rfl (by rfl) (fun _ _ _ h => h) ?hy71_6 ?_
  case hy71_6 => ((intro w hSw; (try dsimp only at hSw); go_simp) <;> (try with_reducible rfl))
  try simp only [Act.put, List.setIfInBounds_toArray, List.set_cons_zero, List.set_cons_succ]
  refine path_read (i := 7) (v := ?v71_7) rfl (by rfl) (fun _ _ _ h => h) ?hy71_7 ?_
  case hy71_7 => ((intro w hSw; (try dsimp only at hSw); go_simp) <;> (try with_reducible rfl))
  try simp only [Act.put, List.setIfInBounds_toArray, List.set_cons_zero, List.set_cons_succ]
  refine path_read (i := 8) (v := ?v71_8) rfl (by rfl) (fun _ _ _ h => h) ?hy71_8 ?_
  case hy71_8 => ((intro w hSw; (try dsimp only at hSw); go_simp) <;> (try with_reducible rfl))
  try simp only [Act.put, List.setIfInBounds_toArray, List.set_cons_zero, List.set_cons_succ]
  refine path_read (i := 9) (v := ?v71_9) rfl (by rfl) (fun _ _ _ h => h) ?hy71_9 ?_
  case hy71_9 => ((intro w hSw; (try dsimp only at hSw); go_simp) <;> (try with_reducible rfl))
  try simp only [Act.put, List.setIfInBounds_toArray, List.set_cons_zero, List.set_cons_succ]
  refine path_do (i := 10) rfl ?_
  go_wp2_with ((first | (go_at_call 14; go_loud (refine (ls_setact (d.setAct client nn other) (d.setActE client nn other) client nn other HL.out rfl rfl).mono ?_; rintro e w2 ⟨rfl, hl, hk⟩; have HL := Lib.hid hl; clear hl; have HROW := Lib.hid (row_chg HROW.out hk (fun x hx q => (HP.out.far x hx).1 q)); have HB0 := Lib.hid (hk.at_ HB0.out (fun q => by have := HNR.out _ (HRF.out _ q); omega)); have HB1 := Lib.hid (hk.at_ HB1.out (fun q => by have := HNR.out _ (HRF.out _ q); omega)); have HSZ := Lib.hid (Nat.lt_of_lt_of_le HSZ.out hk.size); have HK := Lib.hid (HK.out.trans (hk.mono (fun x _ q => HRF.out _ q))); have r0 := (res_cells HB1.out).1; have r1 := (res_cells HB1.out).2.1; have r2 := (res_cells HB1.out).2.2; have rf := frozen_at HB1.out; have rl := lt_of_at HB1.out; have g0 := HL.out.at_.cells.1; have g1 := HL.out.at_.cells.2.1; have g2 := HL.out.at_.cells.2.2.1; have g3 := HL.out.at_.cells.2.2.2; have gf := frozen_at HL.out.at_; have gl := HL.out.at_.lt; clear hk))))
  (first | refine ⟨.inr ?keep71_10, ?_⟩ | refine ⟨?keep71_10, ?_⟩)
  case keep71_10 => ((first | exact KEEP.out _ (HL.out.at_.chg (res_chg _ (w.heap.size + 1) _ _ _) (fun q => by have := HNR.out _ HNE.out.1; omega)) ((res_chg _ (w.heap.size + 1) _ _ _).at_ HB0.out (fun q => by omega)) | exact KEEP.out _ HL.out.at_ HB0.out))
  try simp only [Act.put, List.setIfInBounds_toArray, List.set_cons_zero, List.set_cons_succ]
  refine path_read (i := 11) (v := ?v71_11) rfl (by rfl) (fun _ _ _ h => h) ?hy71_11 ?_
  case hy71_11 => ((intro w hSw; (try dsimp only at hSw); go_simp) <;> (try with_reducible rfl))
  try simp only [Act.put, List.setIfInBounds_toArray, List.set_cons_zero, List.set_cons_succ]
  refine path_do (i := 12) rfl ?_
  go_wp2_with ((first | (go_at_call 14; go_loud (refine (ls_setact (d.setAct client nn other) (d.setActE client nn other) client nn other HL.out rfl rfl).mono ?_; rintro e w2 ⟨rfl, hl, hk⟩; have HL := Lib.hid hl; clear hl; have HROW := Lib.hid (row_chg HROW.out hk (fun x hx q => (HP.out.far x hx).1 q)); have HB0 := Lib.hid (hk.at_ HB0.out (fun q => by have := HNR.out _ (HRF.out _ q); omega)); have HB1 := Lib.hid (hk.at_ HB1.out (fun q => by have := HNR.out _ (HRF.out _ q); omega)); have HSZ := Lib.hid (Nat.lt_of_lt_of_le HSZ.out hk.size); have HK := Lib.hid (HK.out.trans (hk.mono (fun x _ q => HRF.out _ q))); have r0 := (res_cells HB1.out).1; have r1 := (res_cells HB1.out).2.1; have r2 := (res_cells HB1.out).2.2; have rf := frozen_at HB1.out; have rl := lt_of_at HB1.out; have g0 := HL.out.at_.cells.1; have g1 := HL.out.at_.cells.2.1; have g2 := HL.out.at_.cells.2.2.1; have g3 := HL.out.at_.cells.2.2.2; have gf := frozen_at HL.out.at_; have gl := HL.out.at_.lt; clear hk))))
  (first | refine ⟨.inr ?keep71_12, ?_⟩ | refine ⟨?keep71_12, ?_⟩)
  case keep71_12 => ((first | exact KEEP.out _ (HL.out.at_.chg (res_chg _ (w.heap.size + 1) _ _ _) (fun q => by have := HNR.out _ HNE.out.1; omega)) ((res_chg _ (w.heap.size + 1) _ _ _).at_ HB0.out (fun q => by omega)) | exact KEEP.out _ HL.out.at_ HB0.out))
  try simp only [Act.put, List.setIfInBounds_toArray, List.set_cons_zero, List.set_cons_succ]
  refine path_end ?_
  clear hcel
  go_wp2
  exact bodyPost_ret (results_cell1 Try.results27 rfl (run_load_res (res_set _ _ _ HB1.out))) rfl (call_done false _ HP.out HL.out (by rw [flows_setAct]; exact HROW.out) HP.out.far (fun x q => Or.inl (HRF.out x q)) (fun g q => Or.inl (HP.out.cov g (.inr (.inr (.inr q))))) HK.out HB1.out (by omega) (fun q => by have := HNR.out _ (HRF.out _ q); omega) (fun q => by have := HNR.out _ (HP.out.cov _ (.inr (.inr (.inr q)))); omega) (World.ownsRow_nil _ (w.heap.size + 2) _ _) (by omega))
set_option maxHeartbeats 8000000 in
theorem call7 (client surface nn other px py tm back acts : Int) (fo : ByteArray) (A : Option Addr) (len cap : Nat) (h : LQ w0 w F sb lb b L d last) :
    Calls Try.prog 27 #[.pointer (some ⟨sb, 0, none⟩), .agg #[.int .i64 7, .int .i64 client, .int .i64 surface, .int .i64 nn, .int .i64 other, .int .i64 px, .int .i64 py, .int .i64 tm, .int .u32 back, .string fo, .slice A len cap, .int .i64 acts]] w (CallOut w0 F sb lb b L (d.fin client) last [] false (d.finE client) w) := by
  obtain ⟨R, PA, pn, pc, h⟩ := h
  have HP := Lib.hid h
  have HNR : Hid (∀ x, F x → x < w.heap.size) := Lib.hid (fun x hx => (h.lo x hx).2)
  have HRF : Hid (∀ x, R x → F x) := Lib.hid (fun x hx => h.cov x (.inl hx))
  have HNE : Hid (F sb ∧ F lb) := Lib.hid ⟨h.cov sb (.inr (.inl rfl)), h.cov lb (.inr (.inr (.inl rfl)))⟩
  have hsl := h.ls.at_.lt
  obtain ⟨q0, q1, q2, q3⟩ := h.ls.at_.cells
  have hb0 := (Chg.refl (fun _ => False) _).alloc (.cells #[.slice none 0 0, .bool false, .int .i64 0] 63) |>.at_ (at_new w (.cells #[.int .i64 7, .int .i64 client, .int .i64 surface, .int .i64 nn, .int .i64 other, .int .i64 px, .int .i64 py, .int .i64 tm, .int .u32 back, .string fo, .slice A len cap, .int .i64 acts] 67)) (fun q => q)
  have hb1 := at_new2 w (.cells #[.int .i64 7, .int .i64 client, .int .i64 surface, .int .i64 nn, .int .i64 other, .int .i64 px, .int .i64 py, .int .i64 tm, .int .u32 back, .string fo, .slice A len cap, .int .i64 acts] 67) (.cells #[.slice none 0 0, .bool false, .int .i64 0] 63)
  have HS := Lib.hid (((Chg.refl (fun _ => False) w).alloc (.cells #[.int .i64 7, .int .i64 client, .int .i64 surface, .int .i64 nn, .int .i64 other, .int .i64 px, .int .i64 py, .int .i64 tm, .int .u32 back, .string fo, .slice A len cap, .int .i64 acts] 67)).alloc (.cells #[.slice none 0 0, .bool false, .int .i64 0] 63))
  have HL := Lib.hid (h.ls.keep HS.out)
  have HK := Lib.hid (Chg.of_same (S := F) HS.out)
  have HB0 := Lib.hid hb0
  have HB1 := Lib.hid hb1
  have HSZ := Lib.hid (lt_of_at hb1)
  have HROW := Lib.hid (row_chg h.row HS.out (fun _ _ q => q))
  have KEEP : Hid (∀ w' : World, SessAt w' sb lb b last PA pn pc → w'.heap[w.heap.size]? = some (.cells #[.int .i64 7, .int .i64 client, .int .i64 surface, .int .i64 nn, .int .i64 other, .int .i64 px, .int .i64 py, .int .i64 tm, .int .u32 back, .string fo, .slice A len cap, .int .i64 acts] 67 (0, 0)) → w'.cell? ⟨sb, 0, none⟩ = some (.pointer (some ⟨lb, 0, none⟩)) ∧ w'.cell? ⟨sb, 1, none⟩ = some (.pointer (some ⟨b, 0, none⟩)) ∧ w'.cell? ⟨sb, 2, none⟩ = some (.int .u32 last) ∧ w'.cell? ⟨sb, 3, none⟩ = some (.slice PA pn pc) ∧ w'.cell? ⟨w.heap.size, 1, none⟩ = some (.int .i64 client) ∧ w'.cell? ⟨w.heap.size, 2, none⟩ = some (.int .i64 surface) ∧ w'.cell? ⟨w.heap.size, 3, none⟩ = some (.int .i64 nn) ∧ w'.cell? ⟨w.heap.size, 4, none⟩ = some (.int .i64 other) ∧ w'.cell? ⟨w.heap.size, 5, none⟩ = some (.int .i64 px) ∧ w'.cell? ⟨w.heap.size, 6, none⟩ = some (.int .i64 py) ∧ w'.cell? ⟨w.heap.size, 7, none⟩ = some (.int .i64 tm) ∧ w'.cell? ⟨w.heap.size, 8, none⟩ = some (.int .u32 back) ∧ w'.cell? ⟨w.heap.size, 9, none⟩ = some (.string fo) ∧ w'.cell? ⟨w.heap.size, 10, none⟩ = some (.slice A len cap) ∧ w'.cell? ⟨w.heap.size, 11, none⟩ = some (.int .i64 acts)) := Lib.hid (fun w' h1 h2 => ⟨h1.cells.1, h1.cells.2.1, h1.cells.2.2.1, h1.cells.2.2.2, (opc h2).2⟩)
  clear h hb0 hb1
  go_enter Try.func27, Try.ntmps27
  go_wp2_with fail
  have HL := Lib.hid (HL.out.keep ((Chg.refl (fun _ => False) _).drew))
  have HK := Lib.hid (HK.out.drew)
  have HB0 := Lib.hid ((Chg.refl (fun _ => False) _).drew.at_ HB0.out (fun q => q))
  have HB1 := Lib.hid ((Chg.refl (fun _ => False) _).drew.at_ HB1.out (fun q => q))
  have HSZ := Lib.hid (lt_of_at HB1.out)
  have HROW := Lib.hid (row_chg HROW.out ((Chg.refl (fun _ => False) _).drew) (fun _ _ q => q))
  have hcel := KEEP.out _ HL.out.at_ HB0.out
  refine region_path (S := (fun w' => w'.cell? ⟨sb, 0, none⟩ = some (.pointer (some ⟨lb, 0, none⟩)) ∧ w'.cell? ⟨sb, 1, none⟩ = some (.pointer (some ⟨b, 0, none⟩)) ∧ w'.cell? ⟨sb, 2, none⟩ = some (.int .u32 last) ∧ w'.cell? ⟨sb, 3, none⟩ = some (.slice PA pn pc) ∧ w'.cell? ⟨w.heap.size, 1, none⟩ = some (.int .i64 client) ∧ w'.cell? ⟨w.heap.size, 2, none⟩ = some (.int .i64 surface) ∧ w'.cell? ⟨w.heap.size, 3, none⟩ = some (.int .i64 nn) ∧ w'.cell? ⟨w.heap.size, 4, none⟩ = some (.int .i64 other) ∧ w'.cell? ⟨w.heap.size, 5, none⟩ = some (.int .i64 px) ∧ w'.cell? ⟨w.heap.size, 6, none⟩ = some (.int .i64 py) ∧ w'.cell? ⟨w.heap.size, 7, none⟩ = some (.int .i64 tm) ∧ w'.cell? ⟨w.heap.size, 8, none⟩ = some (.int .u32 back) ∧ w'.cell? ⟨w.heap.size, 9, none⟩ = some (.string fo) ∧ w'.cell? ⟨w.heap.size, 10, none⟩ = some (.slice A len cap) ∧ w'.cell? ⟨w.heap.size, 11, none⟩ = some (.int .i64 acts))) 99 [(0, true), (1, true), (2, true), (3, true), (4, true), (5, true), (6, false), (7, true), (8, false)] (by kernel_rfl) (by kernel_rfl) (by kernel_rfl) hcel ?_
  refine path_read (i := 0) (v := ?v72_0) rfl (by rfl) (fun _ _ _ h => h) ?hy72_0 ?_
  case hy72_0 => ((intro w hSw; (try dsimp only at hSw); go_simp) <;> (try with_reducible rfl))
  try simp only [Act.put, List.setIfInBounds_toArray, List.set_cons_zero, List.set_cons_succ]
  refine path_read (i := 1) (v := ?v72_1) rfl (by rfl) (fun _ _ _ h => h) ?hy72_1 ?_
  case hy72_1 => ((intro w hSw; (try dsimp only at hSw); go_simp) <;> (try with_reducible rfl))
  try simp only [Act.put, List.setIfInBounds_toArray, List.set_cons_zero, List.set_cons_succ]
  refine path_read (i := 2) (v := ?v72_2) rfl (by rfl) (fun _ _ _ h => h) ?hy72_2 ?_
  case hy72_2 => ((intro w hSw; (try dsimp only at hSw); go_simp) <;> (try with_reducible rfl))
  try simp only [Act.put, List.setIfInBounds_toArray, List.set_cons_zero, List.set_cons_succ]
  refine path_read (i := 3) (v := ?v72_3) rfl (by rfl) (fun _ _ _ h => h) ?hy72_3 ?_
  case hy72_3 => ((intro w hSw; (try dsimp only at hSw); go_simp) <;> (try with_reducible rfl))
  try simp only [Act.put, List.setIfInBounds_toArray, List.set_cons_zero, List.set_cons_succ]
  refine path_read (i := 4) (v := ?v72_4) rfl (by rfl) (fun _ _ _ h => h) ?hy72_4 ?_
  case hy72_4 => ((intro w hSw; (try dsimp only at hSw); go_simp) <;> (try with_reducible rfl))
  try simp only [Act.put, List.setIfInBounds_toArray, List.set_cons_zero, List.set_cons_succ]
  refine path_read (i := 5) (v := ?v72_5) rfl (by rfl) (fun _ _ _ h => h) ?hy72_5 ?_
  case hy72_5 => ((intro w hSw; (try dsimp only at hSw); go_simp) <;> (try with_reducible rfl))
  try simp only [Act.put, List.setIfInBounds_toArray, List.set_cons_zero, List.set_cons_succ]
  refine path_do (i := 6) rfl ?_
  go_wp2_with ((first | (go_at_call 18; go_loud (refine (ls_finish (d.fin client) (d.finE client) client HL.out rfl rfl).mono ?_; rintro e w2 ⟨rfl, hl, hk⟩; have HL := Lib.hid hl; clear hl; have HROW := Lib.hid (row_chg HROW.out hk (fun x hx q => (HP.out.far x hx).1 q)); have HB0 := Lib.hid (hk.at_ HB0.out (fun q => by have := HNR.out _ (HRF.out _ q); omega)); have HB1 := Lib.hid (hk.at_ HB1.out (fun q => by have := HNR.out _ (HRF.out _ q); omega)); have HSZ := Lib.hid (Nat.lt_of_lt_of_le HSZ.out hk.size); have HK := Lib.hid (HK.out.trans (hk.mono (fun x _ q => HRF.out _ q))); have r0 := (res_cells HB1.out).1; have r1 := (res_cells HB1.out).2.1; have r2 := (res_cells HB1.out).2.2; have rf := frozen_at HB1.out; have rl := lt_of_at HB1.out; have g0 := HL.out.at_.cells.1; have g1 := HL.out.at_.cells.2.1; have g2 := HL.out.at_.cells.2.2.1; have g3 := HL.out.at_.cells.2.2.2; have gf := frozen_at HL.out.at_; have gl := HL.out.at_.lt; clear hk))))
  (first | refine ⟨.inr ?keep72_6, ?_⟩ | refine ⟨?keep72_6, ?_⟩)
  case keep72_6 => ((first | exact KEEP.out _ (HL.out.at_.chg (res_chg _ (w.heap.size + 1) _ _ _) (fun q => by have := HNR.out _ HNE.out.1; omega)) ((res_chg _ (w.heap.size + 1) _ _ _).at_ HB0.out (fun q => by omega)) | exact KEEP.out _ HL.out.at_ HB0.out))
  try simp only [Act.put, List.setIfInBounds_toArray, List.set_cons_zero, List.set_cons_succ]
  refine path_read (i := 7) (v := ?v72_7) rfl (by rfl) (fun _ _ _ h => h) ?hy72_7 ?_
  case hy72_7 => ((intro w hSw; (try dsimp only at hSw); go_simp) <;> (try with_reducible rfl))
  try simp only [Act.put, List.setIfInBounds_toArray, List.set_cons_zero, List.set_cons_succ]
  refine path_do (i := 8) rfl ?_
  go_wp2_with ((first | (go_at_call 18; go_loud (refine (ls_finish (d.fin client) (d.finE client) client HL.out rfl rfl).mono ?_; rintro e w2 ⟨rfl, hl, hk⟩; have HL := Lib.hid hl; clear hl; have HROW := Lib.hid (row_chg HROW.out hk (fun x hx q => (HP.out.far x hx).1 q)); have HB0 := Lib.hid (hk.at_ HB0.out (fun q => by have := HNR.out _ (HRF.out _ q); omega)); have HB1 := Lib.hid (hk.at_ HB1.out (fun q => by have := HNR.out _ (HRF.out _ q); omega)); have HSZ := Lib.hid (Nat.lt_of_lt_of_le HSZ.out hk.size); have HK := Lib.hid (HK.out.trans (hk.mono (fun x _ q => HRF.out _ q))); have r0 := (res_cells HB1.out).1; have r1 := (res_cells HB1.out).2.1; have r2 := (res_cells HB1.out).2.2; have rf := frozen_at HB1.out; have rl := lt_of_at HB1.out; have g0 := HL.out.at_.cells.1; have g1 := HL.out.at_.cells.2.1; have g2 := HL.out.at_.cells.2.2.1; have g3 := HL.out.at_.cells.2.2.2; have gf := frozen_at HL.out.at_; have gl := HL.out.at_.lt; clear hk))))
  (first | refine ⟨.inr ?keep72_8, ?_⟩ | refine ⟨?keep72_8, ?_⟩)
  case keep72_8 => ((first | exact KEEP.out _ (HL.out.at_.chg (res_chg _ (w.heap.size + 1) _ _ _) (fun q => by have := HNR.out _ HNE.out.1; omega)) ((res_chg _ (w.heap.size + 1) _ _ _).at_ HB0.out (fun q => by omega)) | exact KEEP.out _ HL.out.at_ HB0.out))
  try simp only [Act.put, List.setIfInBounds_toArray, List.set_cons_zero, List.set_cons_succ]
  refine path_end ?_
  clear hcel
  go_wp2
  exact bodyPost_ret (results_cell1 Try.results27 rfl (run_load_res (res_set _ _ _ HB1.out))) rfl (call_done false _ HP.out HL.out (by rw [flows_fin]; exact HROW.out) HP.out.far (fun x q => Or.inl (HRF.out x q)) (fun g q => Or.inl (HP.out.cov g (.inr (.inr (.inr q))))) HK.out HB1.out (by omega) (fun q => by have := HNR.out _ (HRF.out _ q); omega) (fun q => by have := HNR.out _ (HP.out.cov _ (.inr (.inr (.inr q)))); omega) (World.ownsRow_nil _ (w.heap.size + 2) _ _) (by omega))
set_option maxHeartbeats 8000000 in
theorem call5 (client surface nn other px py tm back acts : Int) (fo : ByteArray) (A : Option Addr) (len cap : Nat) (h : LQ w0 w F sb lb b L d last) :
    Calls Try.prog 27 #[.pointer (some ⟨sb, 0, none⟩), .agg #[.int .i64 5, .int .i64 client, .int .i64 surface, .int .i64 nn, .int .i64 other, .int .i64 px, .int .i64 py, .int .i64 tm, .int .u32 back, .string fo, .slice A len cap, .int .i64 acts]] w (CallOut w0 F sb lb b L d.dropS last d.dropO d.dropB 0 w) := by
  obtain ⟨R, PA, pn, pc, h⟩ := h
  have HP := Lib.hid h
  have HNR : Hid (∀ x, F x → x < w.heap.size) := Lib.hid (fun x hx => (h.lo x hx).2)
  have HRF : Hid (∀ x, R x → F x) := Lib.hid (fun x hx => h.cov x (.inl hx))
  have HNE : Hid (F sb ∧ F lb) := Lib.hid ⟨h.cov sb (.inr (.inl rfl)), h.cov lb (.inr (.inr (.inl rfl)))⟩
  have hsl := h.ls.at_.lt
  obtain ⟨q0, q1, q2, q3⟩ := h.ls.at_.cells
  have hb0 := (Chg.refl (fun _ => False) _).alloc (.cells #[.slice none 0 0, .bool false, .int .i64 0] 63) |>.at_ (at_new w (.cells #[.int .i64 5, .int .i64 client, .int .i64 surface, .int .i64 nn, .int .i64 other, .int .i64 px, .int .i64 py, .int .i64 tm, .int .u32 back, .string fo, .slice A len cap, .int .i64 acts] 67)) (fun q => q)
  have hb1 := at_new2 w (.cells #[.int .i64 5, .int .i64 client, .int .i64 surface, .int .i64 nn, .int .i64 other, .int .i64 px, .int .i64 py, .int .i64 tm, .int .u32 back, .string fo, .slice A len cap, .int .i64 acts] 67) (.cells #[.slice none 0 0, .bool false, .int .i64 0] 63)
  have HS := Lib.hid (((Chg.refl (fun _ => False) w).alloc (.cells #[.int .i64 5, .int .i64 client, .int .i64 surface, .int .i64 nn, .int .i64 other, .int .i64 px, .int .i64 py, .int .i64 tm, .int .u32 back, .string fo, .slice A len cap, .int .i64 acts] 67)).alloc (.cells #[.slice none 0 0, .bool false, .int .i64 0] 63))
  have HL := Lib.hid (h.ls.keep HS.out)
  have HK := Lib.hid (Chg.of_same (S := F) HS.out)
  have HB0 := Lib.hid hb0
  have HB1 := Lib.hid hb1
  have HSZ := Lib.hid (lt_of_at hb1)
  have HROW := Lib.hid (row_chg h.row HS.out (fun _ _ q => q))
  have KEEP : Hid (∀ w' : World, SessAt w' sb lb b last PA pn pc → w'.heap[w.heap.size]? = some (.cells #[.int .i64 5, .int .i64 client, .int .i64 surface, .int .i64 nn, .int .i64 other, .int .i64 px, .int .i64 py, .int .i64 tm, .int .u32 back, .string fo, .slice A len cap, .int .i64 acts] 67 (0, 0)) → w'.cell? ⟨sb, 0, none⟩ = some (.pointer (some ⟨lb, 0, none⟩)) ∧ w'.cell? ⟨sb, 1, none⟩ = some (.pointer (some ⟨b, 0, none⟩)) ∧ w'.cell? ⟨sb, 2, none⟩ = some (.int .u32 last) ∧ w'.cell? ⟨sb, 3, none⟩ = some (.slice PA pn pc) ∧ w'.cell? ⟨w.heap.size, 1, none⟩ = some (.int .i64 client) ∧ w'.cell? ⟨w.heap.size, 2, none⟩ = some (.int .i64 surface) ∧ w'.cell? ⟨w.heap.size, 3, none⟩ = some (.int .i64 nn) ∧ w'.cell? ⟨w.heap.size, 4, none⟩ = some (.int .i64 other) ∧ w'.cell? ⟨w.heap.size, 5, none⟩ = some (.int .i64 px) ∧ w'.cell? ⟨w.heap.size, 6, none⟩ = some (.int .i64 py) ∧ w'.cell? ⟨w.heap.size, 7, none⟩ = some (.int .i64 tm) ∧ w'.cell? ⟨w.heap.size, 8, none⟩ = some (.int .u32 back) ∧ w'.cell? ⟨w.heap.size, 9, none⟩ = some (.string fo) ∧ w'.cell? ⟨w.heap.size, 10, none⟩ = some (.slice A len cap) ∧ w'.cell? ⟨w.heap.size, 11, none⟩ = some (.int .i64 acts)) := Lib.hid (fun w' h1 h2 => ⟨h1.cells.1, h1.cells.2.1, h1.cells.2.2.1, h1.cells.2.2.2, (opc h2).2⟩)
  clear h hb0 hb1
  go_enter Try.func27, Try.ntmps27
  go_wp2_with fail
  refine (ls_drop d.dropS d.dropO d.dropB HL.out rfl rfl rfl).mono ?_
  rintro e w2 ⟨v, rfl, hout, hl, hk⟩
  obtain ⟨A2, n2, cap2, rfl⟩ := hout.form
  have HL := Lib.hid hl
  have HOUT := Lib.hid hout
  have HSZ0 := Lib.hid HSZ.out
  clear hl hout
  have HROW := Lib.hid (row_chg HROW.out hk (fun x hx q => (HP.out.far x hx).1 q))
  have HB0 := Lib.hid (hk.at_ HB0.out (fun q => by have := HNR.out _ (HRF.out _ q); omega))
  have HB1 := Lib.hid (hk.at_ HB1.out (fun q => by have := HNR.out _ (HRF.out _ q); omega))
  have HSZ := Lib.hid (Nat.lt_of_lt_of_le HSZ.out hk.size)
  have HK := Lib.hid (HK.out.trans (hk.mono (fun x _ q => HRF.out _ q)))
  have r0 := (res_cells HB1.out).1
  have r1 := (res_cells HB1.out).2.1
  have r2 := (res_cells HB1.out).2.2
  have rf := frozen_at HB1.out
  have rl := lt_of_at HB1.out
  have g0 := HL.out.at_.cells.1
  have g1 := HL.out.at_.cells.2.1
  have g2 := HL.out.at_.cells.2.2.1
  have g3 := HL.out.at_.cells.2.2.2
  have gf := frozen_at HL.out.at_
  have gl := HL.out.at_.lt
  clear hk
  go_wp2
  exact bodyPost_ret (results_cell1 Try.results27 rfl (run_load_res (res_set _ _ _ HB1.out))) rfl (call_done _ 0 HP.out HL.out (by rw [ptrs_dropS]; exact HROW.out) HP.out.far (fun x q => Or.inl (HRF.out x q)) (fun g q => Or.inl (HP.out.cov g (.inr (.inr (.inr q))))) HK.out HB1.out (by omega) (fun q => by have := HNR.out _ (HRF.out _ q); omega) (fun q => by have := HNR.out _ (HP.out.cov _ (.inr (.inr (.inr q)))); omega) HOUT.out HSZ0.out)
set_option maxHeartbeats 8000000 in
theorem call8 (client surface nn other px py tm back acts : Int) (fo : ByteArray) (A : Option Addr) (len cap : Nat) (h : LQ w0 w F sb lb b L d last) :
    Calls Try.prog 27 #[.pointer (some ⟨sb, 0, none⟩), .agg #[.int .i64 8, .int .i64 client, .int .i64 surface, .int .i64 nn, .int .i64 other, .int .i64 px, .int .i64 py, .int .i64 tm, .int .u32 back, .string fo, .slice A len cap, .int .i64 acts]] w (CallOut w0 F sb lb b L d.cancS last d.cancO false 0 w) := by
  obtain ⟨R, PA, pn, pc, h⟩ := h
  have HP := Lib.hid h
  have HNR : Hid (∀ x, F x → x < w.heap.size) := Lib.hid (fun x hx => (h.lo x hx).2)
  have HRF : Hid (∀ x, R x → F x) := Lib.hid (fun x hx => h.cov x (.inl hx))
  have HNE : Hid (F sb ∧ F lb) := Lib.hid ⟨h.cov sb (.inr (.inl rfl)), h.cov lb (.inr (.inr (.inl rfl)))⟩
  have hsl := h.ls.at_.lt
  obtain ⟨q0, q1, q2, q3⟩ := h.ls.at_.cells
  have hb0 := (Chg.refl (fun _ => False) _).alloc (.cells #[.slice none 0 0, .bool false, .int .i64 0] 63) |>.at_ (at_new w (.cells #[.int .i64 8, .int .i64 client, .int .i64 surface, .int .i64 nn, .int .i64 other, .int .i64 px, .int .i64 py, .int .i64 tm, .int .u32 back, .string fo, .slice A len cap, .int .i64 acts] 67)) (fun q => q)
  have hb1 := at_new2 w (.cells #[.int .i64 8, .int .i64 client, .int .i64 surface, .int .i64 nn, .int .i64 other, .int .i64 px, .int .i64 py, .int .i64 tm, .int .u32 back, .string fo, .slice A len cap, .int .i64 acts] 67) (.cells #[.slice none 0 0, .bool false, .int .i64 0] 63)
  have HS := Lib.hid (((Chg.refl (fun _ => False) w).alloc (.cells #[.int .i64 8, .int .i64 client, .int .i64 surface, .int .i64 nn, .int .i64 other, .int .i64 px, .int .i64 py, .int .i64 tm, .int .u32 back, .string fo, .slice A len cap, .int .i64 acts] 67)).alloc (.cells #[.slice none 0 0, .bool false, .int .i64 0] 63))
  have HL := Lib.hid (h.ls.keep HS.out)
  have HK := Lib.hid (Chg.of_same (S := F) HS.out)
  have HB0 := Lib.hid hb0
  have HB1 := Lib.hid hb1
  have HSZ := Lib.hid (lt_of_at hb1)
  have HROW := Lib.hid (row_chg h.row HS.out (fun _ _ q => q))
  have KEEP : Hid (∀ w' : World, SessAt w' sb lb b last PA pn pc → w'.heap[w.heap.size]? = some (.cells #[.int .i64 8, .int .i64 client, .int .i64 surface, .int .i64 nn, .int .i64 other, .int .i64 px, .int .i64 py, .int .i64 tm, .int .u32 back, .string fo, .slice A len cap, .int .i64 acts] 67 (0, 0)) → w'.cell? ⟨sb, 0, none⟩ = some (.pointer (some ⟨lb, 0, none⟩)) ∧ w'.cell? ⟨sb, 1, none⟩ = some (.pointer (some ⟨b, 0, none⟩)) ∧ w'.cell? ⟨sb, 2, none⟩ = some (.int .u32 last) ∧ w'.cell? ⟨sb, 3, none⟩ = some (.slice PA pn pc) ∧ w'.cell? ⟨w.heap.size, 1, none⟩ = some (.int .i64 client) ∧ w'.cell? ⟨w.heap.size, 2, none⟩ = some (.int .i64 surface) ∧ w'.cell? ⟨w.heap.size, 3, none⟩ = some (.int .i64 nn) ∧ w'.cell? ⟨w.heap.size, 4, none⟩ = some (.int .i64 other) ∧ w'.cell? ⟨w.heap.size, 5, none⟩ = some (.int .i64 px) ∧ w'.cell? ⟨w.heap.size, 6, none⟩ = some (.int .i64 py) ∧ w'.cell? ⟨w.heap.size, 7, none⟩ = some (.int .i64 tm) ∧ w'.cell? ⟨w.heap.size, 8, none⟩ = some (.int .u32 back) ∧ w'.cell? ⟨w.heap.size, 9, none⟩ = some (.string fo) ∧ w'.cell? ⟨w.heap.size, 10, none⟩ = some (.slice A len cap) ∧ w'.cell? ⟨w.heap.size, 11, none⟩ = some (.int .i64 acts)) := Lib.hid (fun w' h1 h2 => ⟨h1.cells.1, h1.cells.2.1, h1.cells.2.2.1, h1.cells.2.2.2, (opc h2).2⟩)
  clear h hb0 hb1
  go_enter Try.func27, Try.ntmps27
  go_wp2_with fail
  refine (ls_cancel d.cancS d.cancO HL.out rfl rfl).mono ?_
  rintro e w2 ⟨v, rfl, hout, hl, hk⟩
  obtain ⟨A2, n2, cap2, rfl⟩ := hout.form
  have HL := Lib.hid hl
  have HOUT := Lib.hid hout
  have HSZ0 := Lib.hid HSZ.out
  clear hl hout
  have HROW := Lib.hid (row_chg HROW.out hk (fun x hx q => (HP.out.far x hx).1 q))
  have HB0 := Lib.hid (hk.at_ HB0.out (fun q => by have := HNR.out _ (HRF.out _ q); omega))
  have HB1 := Lib.hid (hk.at_ HB1.out (fun q => by have := HNR.out _ (HRF.out _ q); omega))
  have HSZ := Lib.hid (Nat.lt_of_lt_of_le HSZ.out hk.size)
  have HK := Lib.hid (HK.out.trans (hk.mono (fun x _ q => HRF.out _ q)))
  have r0 := (res_cells HB1.out).1
  have r1 := (res_cells HB1.out).2.1
  have r2 := (res_cells HB1.out).2.2
  have rf := frozen_at HB1.out
  have rl := lt_of_at HB1.out
  have g0 := HL.out.at_.cells.1
  have g1 := HL.out.at_.cells.2.1
  have g2 := HL.out.at_.cells.2.2.1
  have g3 := HL.out.at_.cells.2.2.2
  have gf := frozen_at HL.out.at_
  have gl := HL.out.at_.lt
  clear hk
  go_wp2
  exact bodyPost_ret (results_cell1 Try.results27 rfl (run_load_res (res_set _ _ _ HB1.out))) rfl (call_done false 0 HP.out HL.out (by rw [ptrs_cancS]; exact HROW.out) HP.out.far (fun x q => Or.inl (HRF.out x q)) (fun g q => Or.inl (HP.out.cov g (.inr (.inr (.inr q))))) HK.out HB1.out (by omega) (fun q => by have := HNR.out _ (HRF.out _ q); omega) (fun q => by have := HNR.out _ (HP.out.cov _ (.inr (.inr (.inr q)))); omega) HOUT.out HSZ0.out)
end
end Go.Proofs.Yteolilggeaffaaa

namespace Go.Proofs.Yteolilggeaffaaa
open Go.RowKit

section
variable {w0 w : World} {F : Nat → Prop} {sb lb b : Nat} {L : SLog} {d : DSt} {last : Int}
theorem LS.setLast {R : Nat → Prop} {PA : Option Addr} {pn pc : Nat} (h : LS w0 w sb lb b R L d last PA pn pc) (v : Int) : LS w0 (w.setCell ⟨sb, 2, none⟩ (.int .u32 v)) sb lb b R L d v PA pn pc :=
  ⟨h.ses.chg (S := fun x => x = sb) (Chg.setCell (Chg.refl _ w) _ _ (fun _ => rfl)) (fun x e => by subst e; exact ⟨h.nR, h.nl, h.new⟩), at_setCell (i := 2) (.int .u32 v) h.at_, h.new, h.nR, h.nl⟩
def lastOf (last v : Int) : Int := if v = 0 then last else v
set_option maxHeartbeats 8000000 in
theorem call0 (client surface nn other px py tm back acts : Int) (fo : ByteArray) (A : Option Addr) (len cap : Nat) (h : LQ w0 w F sb lb b L d last) (hc : client ≤ 9223372036854775807) (hs : surface ≤ 9223372036854775807) :
    Calls Try.prog 27 #[.pointer (some ⟨sb, 0, none⟩), .agg #[.int .i64 0, .int .i64 client, .int .i64 surface, .int .i64 nn, .int .i64 other, .int .i64 px, .int .i64 py, .int .i64 tm, .int .u32 back, .string fo, .slice A len cap, .int .i64 acts]] w (CallOut w0 F sb lb b (L.issue client surface nn) d (lastOf last (L.issueN client surface nn)) [] false 0 w) := by
  obtain ⟨R, PA, pn, pc, h⟩ := h
  have HP := Lib.hid h
  have HNR : Hid (∀ x, F x → x < w.heap.size) := Lib.hid (fun x hx => (h.lo x hx).2)
  have HRF : Hid (∀ x, R x → F x) := Lib.hid (fun x hx => h.cov x (.inl hx))
  have HNE : Hid (F sb ∧ F lb) := Lib.hid ⟨h.cov sb (.inr (.inl rfl)), h.cov lb (.inr (.inr (.inl rfl)))⟩
  have hsl := h.ls.at_.lt
  obtain ⟨q0, q1, q2, q3⟩ := h.ls.at_.cells
  have hb0 := (Chg.refl (fun _ => False) _).alloc (.cells #[.slice none 0 0, .bool false, .int .i64 0] 63) |>.at_ (at_new w (.cells #[.int .i64 0, .int .i64 client, .int .i64 surface, .int .i64 nn, .int .i64 other, .int .i64 px, .int .i64 py, .int .i64 tm, .int .u32 back, .string fo, .slice A len cap, .int .i64 acts] 67)) (fun q => q)
  have hb1 := at_new2 w (.cells #[.int .i64 0, .int .i64 client, .int .i64 surface, .int .i64 nn, .int .i64 other, .int .i64 px, .int .i64 py, .int .i64 tm, .int .u32 back, .string fo, .slice A len cap, .int .i64 acts] 67) (.cells #[.slice none 0 0, .bool false, .int .i64 0] 63)
  have HS := Lib.hid (((Chg.refl (fun _ => False) w).alloc (.cells #[.int .i64 0, .int .i64 client, .int .i64 surface, .int .i64 nn, .int .i64 other, .int .i64 px, .int .i64 py, .int .i64 tm, .int .u32 back, .string fo, .slice A len cap, .int .i64 acts] 67)).alloc (.cells #[.slice none 0 0, .bool false, .int .i64 0] 63))
  have HL := Lib.hid (h.ls.keep HS.out)
  have HK := Lib.hid (Chg.of_same (S := F) HS.out)
  have HB0 := Lib.hid hb0
  have HB1 := Lib.hid hb1
  have HSZ := Lib.hid (lt_of_at hb1)
  have HROW := Lib.hid (row_chg h.row HS.out (fun _ _ q => q))
  have KEEP : Hid (∀ w' : World, SessAt w' sb lb b last PA pn pc → w'.heap[w.heap.size]? = some (.cells #[.int .i64 0, .int .i64 client, .int .i64 surface, .int .i64 nn, .int .i64 other, .int .i64 px, .int .i64 py, .int .i64 tm, .int .u32 back, .string fo, .slice A len cap, .int .i64 acts] 67 (0, 0)) → w'.cell? ⟨sb, 0, none⟩ = some (.pointer (some ⟨lb, 0, none⟩)) ∧ w'.cell? ⟨sb, 1, none⟩ = some (.pointer (some ⟨b, 0, none⟩)) ∧ w'.cell? ⟨sb, 2, none⟩ = some (.int .u32 last) ∧ w'.cell? ⟨sb, 3, none⟩ = some (.slice PA pn pc) ∧ w'.cell? ⟨w.heap.size, 1, none⟩ = some (.int .i64 client) ∧ w'.cell? ⟨w.heap.size, 2, none⟩ = some (.int .i64 surface) ∧ w'.cell? ⟨w.heap.size, 3, none⟩ = some (.int .i64 nn) ∧ w'.cell? ⟨w.heap.size, 4, none⟩ = some (.int .i64 other) ∧ w'.cell? ⟨w.heap.size, 5, none⟩ = some (.int .i64 px) ∧ w'.cell? ⟨w.heap.size, 6, none⟩ = some (.int .i64 py) ∧ w'.cell? ⟨w.heap.size, 7, none⟩ = some (.int .i64 tm) ∧ w'.cell? ⟨w.heap.size, 8, none⟩ = some (.int .u32 back) ∧ w'.cell? ⟨w.heap.size, 9, none⟩ = some (.string fo) ∧ w'.cell? ⟨w.heap.size, 10, none⟩ = some (.slice A len cap) ∧ w'.cell? ⟨w.heap.size, 11, none⟩ = some (.int .i64 acts)) := Lib.hid (fun w' h1 h2 => ⟨h1.cells.1, h1.cells.2.1, h1.cells.2.2.1, h1.cells.2.2.2, (opc h2).2⟩)
  have HC := Lib.hid (And.intro hc hs)
  obtain ⟨v, hv⟩ : ∃ v, L.issueN client surface nn = v := ⟨_, rfl⟩
  have HV := Lib.hid hv
  clear h hb0 hb1 hc hs hv
  go_enter Try.func27, Try.ntmps27
  go_wp2_with fail
  have HL := Lib.hid (HL.out.keep ((Chg.refl (fun _ => False) _).drew))
  have HK := Lib.hid (HK.out.drew)
  have HB0 := Lib.hid ((Chg.refl (fun _ => False) _).drew.at_ HB0.out (fun q => q))
  have HB1 := Lib.hid ((Chg.refl (fun _ => False) _).drew.at_ HB1.out (fun q => q))
  have HSZ := Lib.hid (lt_of_at HB1.out)
  have HROW := Lib.hid (row_chg HROW.out ((Chg.refl (fun _ => False) _).drew) (fun _ _ q => q))
  have hcel := KEEP.out _ HL.out.at_ HB0.out
  refine region_path (S := (fun w' => w'.cell? ⟨sb, 0, none⟩ = some (.pointer (some ⟨lb, 0, none⟩)) ∧ w'.cell? ⟨sb, 1, none⟩ = some (.pointer (some ⟨b, 0, none⟩)) ∧ w'.cell? ⟨sb, 2, none⟩ = some (.int .u32 last) ∧ w'.cell? ⟨sb, 3, none⟩ = some (.slice PA pn pc) ∧ w'.cell? ⟨w.heap.size, 1, none⟩ = some (.int .i64 client) ∧ w'.cell? ⟨w.heap.size, 2, none⟩ = some (.int .i64 surface) ∧ w'.cell? ⟨w.heap.size, 3, none⟩ = some (.int .i64 nn) ∧ w'.cell? ⟨w.heap.size, 4, none⟩ = some (.int .i64 other) ∧ w'.cell? ⟨w.heap.size, 5, none⟩ = some (.int .i64 px) ∧ w'.cell? ⟨w.heap.size, 6, none⟩ = some (.int .i64 py) ∧ w'.cell? ⟨w.heap.size, 7, none⟩ = some (.int .i64 tm) ∧ w'.cell? ⟨w.heap.size, 8, none⟩ = some (.int .u32 back) ∧ w'.cell? ⟨w.heap.size, 9, none⟩ = some (.string fo) ∧ w'.cell? ⟨w.heap.size, 10, none⟩ = some (.slice A len cap) ∧ w'.cell? ⟨w.heap.size, 11, none⟩ = some (.int .i64 acts))) 99 [(0, true), (1, true), (2, true), (3, true), (4, true), (5, true), (6, true), (7, true), (8, true), (9, true), (10, false), (11, true)] (by kernel_rfl) (by kernel_rfl) (by kernel_rfl) hcel ?_
  refine path_read (i := 0) (v := ?v73_0) rfl (by rfl) (fun _ _ _ h => h) ?hy73_0 ?_
  case hy73_0 => ((intro w hSw; (try dsimp only at hSw); go_simp) <;> (try with_reducible rfl))
  try simp only [Act.put, List.setIfInBounds_toArray, List.set_cons_zero, List.set_cons_succ]
  refine path_read (i := 1) (v := ?v73_1) rfl (by rfl) (fun _ _ _ h => h) ?hy73_1 ?_
  case hy73_1 => ((intro w hSw; (try dsimp only at hSw); go_simp) <;> (try with_reducible rfl))
  try simp only [Act.put, List.setIfInBounds_toArray, List.set_cons_zero, List.set_cons_succ]
  refine path_read (i := 2) (v := ?v73_2) rfl (by rfl) (fun _ _ _ h => h) ?hy73_2 ?_
  case hy73_2 => ((intro w hSw; (try dsimp only at hSw); go_simp) <;> (try with_reducible rfl))
  try simp only [Act.put, List.setIfInBounds_toArray, List.set_cons_zero, List.set_cons_succ]
  refine path_read (i := 3) (v := ?v73_3) rfl (by rfl) (fun _ _ _ h => h) ?hy73_3 ?_
  case hy73_3 => ((intro w hSw; (try dsimp only at hSw); go_simp) <;> (try with_reducible rfl))
  try simp only [Act.put, List.setIfInBounds_toArray, List.set_cons_zero, List.set_cons_succ]
  refine path_read (i := 4) (v := ?v73_4) rfl (by rfl) (fun _ _ _ h => h) ?hy73_4 ?_
  case hy73_4 => ((intro w hSw; (try dsimp only at hSw); go_simp) <;> (try with_reducible rfl))
  try simp only [Act.put, List.setIfInBounds_toArray, List.set_cons_zero, List.set_cons_succ]
  refine path_read (i := 5) (v := ?v73_5) rfl (by rfl) (fun _ _ _ h => h) ?hy73_5 ?_
  case hy73_5 => ((intro w hSw; (try dsimp only at hSw); go_simp) <;> (try with_reducible rfl))
  try simp only [Act.put, List.setIfInBounds_toArray, List.set_cons_zero, List.set_cons_succ]
  refine path_read (i := 6) (v := ?v73_6) rfl (by rfl) (fun _ _ _ h => h) ?hy73_6 ?_
  case hy73_6 => ((intro w hSw; (try dsimp only at hSw); go_simp) <;> (try with_reducible rfl))
  try simp only [Act.put, List.setIfInBounds_toArray, List.set_cons_zero, List.set_cons_succ]
  refine path_read (i := 7) (v := ?v73_7) rfl (by rfl) (fun _ _ _ h => h) ?hy73_7 ?_
  case hy73_7 => ((intro w hSw; (try dsimp only at hSw); go_simp) <;> (try with_reducible rfl))
  try simp only [Act.put, List.setIfInBounds_toArray, List.set_cons_zero, List.set_cons_succ]
  refine path_read (i := 8) (v := ?v73_8) rfl (by rfl) (fun _ _ _ h => h) ?hy73_8 ?_
  case hy73_8 => ((intro w hSw; (try dsimp only at hSw); go_simp) <;> (try with_reducible rfl))
  try simp only [Act.put, List.setIfInBounds_toArray, List.set_cons_zero, List.set_cons_succ]
  refine path_read (i := 9) (v := ?v73_9) rfl (by rfl) (fun _ _ _ h => h) ?hy73_9 ?_
  case hy73_9 => ((intro w hSw; (try dsimp only at hSw); go_simp) <;> (try with_reducible rfl))
  try simp only [Act.put, List.setIfInBounds_toArray, List.set_cons_zero, List.set_cons_succ]
  refine path_do (i := 10) rfl ?_
  go_wp2_with ((first | (go_at_call 38; go_loud (refine (ls_issue (L.issue client surface nn) v client surface nn HL.out HC.out.1 HC.out.2 HV.out rfl).mono ?_; rintro e w2 ⟨rfl, hl, hk⟩; have HL := Lib.hid hl; clear hl; have HROW := Lib.hid (row_chg HROW.out hk (fun x hx q => (HP.out.far x hx).2.2 q)); have HB0 := Lib.hid (hk.at_ HB0.out (fun q => by have := HNR.out _ HNE.out.2; omega)); have HB1 := Lib.hid (hk.at_ HB1.out (fun q => by have := HNR.out _ HNE.out.2; omega)); have HK := Lib.hid (HK.out.trans (hk.mono (fun x _ q => by rw [q]; exact HNE.out.2))); have HSZ0 := Lib.hid HSZ.out; have HSZ := Lib.hid (Nat.lt_of_lt_of_le HSZ.out hk.size); have r0 := (res_cells HB1.out).1; have r1 := (res_cells HB1.out).2.1; have r2 := (res_cells HB1.out).2.2; have rf := frozen_at HB1.out; have rl := lt_of_at HB1.out; have g0 := HL.out.at_.cells.1; have g1 := HL.out.at_.cells.2.1; have g2 := HL.out.at_.cells.2.2.1; have g3 := HL.out.at_.cells.2.2.2; have gf := frozen_at HL.out.at_; have gl := HL.out.at_.lt; clear hk))))
  (first | refine ⟨.inr ?keep73_10, ?_⟩ | refine ⟨?keep73_10, ?_⟩)
  case keep73_10 => ((first | exact KEEP.out _ (HL.out.at_.chg (res_chg _ (w.heap.size + 1) _ _ _) (fun q => by have := HNR.out _ HNE.out.1; omega)) ((res_chg _ (w.heap.size + 1) _ _ _).at_ HB0.out (fun q => by omega)) | exact KEEP.out _ HL.out.at_ HB0.out))
  try simp only [Act.put, List.setIfInBounds_toArray, List.set_cons_zero, List.set_cons_succ]
  refine path_read (i := 11) (v := ?v73_11) rfl (by rfl) (fun _ _ _ h => h) ?hy73_11 ?_
  case hy73_11 => ((intro w hSw; (try dsimp only at hSw); go_simp) <;> (try with_reducible rfl))
  try simp only [Act.put, List.setIfInBounds_toArray, List.set_cons_zero, List.set_cons_succ]
  refine path_end ?_
  clear hcel
  by_cases h0 : v = 0
  · have h0b : (v == 0) = true := by simp [h0]
    have h0c : (v != 0) = false := by simp [h0]
    have HV0 := Lib.hid h0
    clear h0
    go_wp2
    have e : lastOf last (L.issueN client surface nn) = last := by unfold lastOf; rw [if_pos (HV.out.trans HV0.out)]
    rw [e]
    exact bodyPost_ret (results_cell1 Try.results27 rfl (run_load_res (res_set _ _ _ HB1.out))) rfl (call_done false 0 HP.out HL.out (HROW.out) HP.out.far (fun x q => Or.inl (HRF.out x q)) (fun g q => Or.inl (HP.out.cov g (.inr (.inr (.inr q))))) HK.out HB1.out (by omega) (fun q => by have := HNR.out _ (HRF.out _ q); omega) (fun q => by have := HNR.out _ (HP.out.cov _ (.inr (.inr (.inr q)))); omega) (World.ownsRow_nil _ (w.heap.size + 2) _ _) (by omega))
  · have h0b : (v == 0) = false := by simp [h0]
    have h0c : (v != 0) = true := by simp [h0]
    have HV0 := Lib.hid h0
    clear h0
    have hk := Chg.setCell (Chg.refl (fun x => x = sb) w2) ⟨sb, 2, none⟩ (.int .u32 v) (fun _ => rfl)
    have HL2 := Lib.hid (HL.out.setLast v)
    have HROW := Lib.hid (row_chg HROW.out hk (fun x hx q => (HP.out.far x hx).2.1 q))
    have HB1 := Lib.hid (hk.at_ HB1.out (fun q => by have := HNR.out _ HNE.out.1; omega))
    have HK := Lib.hid (HK.out.trans (hk.mono (fun x _ q => by rw [q]; exact HNE.out.1)))
    have hne : ¬ sb = w.heap.size + 1 := by have := HNR.out _ HNE.out.1; omega
    clear hk
    go_wp2
    have e : lastOf last (L.issueN client surface nn) = v := by unfold lastOf; rw [HV.out, if_neg HV0.out]
    rw [e]
    exact bodyPost_ret (results_cell1 Try.results27 rfl (run_load_res (res_set _ _ _ HB1.out))) rfl (call_done false 0 HP.out HL2.out (HROW.out) HP.out.far (fun x q => Or.inl (HRF.out x q)) (fun g q => Or.inl (HP.out.cov g (.inr (.inr (.inr q))))) HK.out HB1.out (by omega) (fun q => by have := HNR.out _ (HRF.out _ q); omega) (fun q => by have := HNR.out _ (HP.out.cov _ (.inr (.inr (.inr q)))); omega) (World.ownsRow_nil _ (w.heap.size + 2) _ _) (by omega))
set_option maxHeartbeats 8000000 in
theorem call1 (client surface nn other px py tm back acts : Int) (fo : ByteArray) (A : Option Addr) (len cap : Nat) (h : LQ w0 w F sb lb b L d last) (fs : List ByteArray) (ha : SArg w0 A len cap fs) :
    Calls Try.prog 27 #[.pointer (some ⟨sb, 0, none⟩), .agg #[.int .i64 1, .int .i64 client, .int .i64 surface, .int .i64 nn, .int .i64 other, .int .i64 px, .int .i64 py, .int .i64 tm, .int .u32 back, .string fo, .slice A len cap, .int .i64 acts]] w (CallOut w0 F sb lb b L (d.start L client surface other fs acts (IntKind.u32.wrap (last - back))) last [] false (d.startE L client surface other fs acts (IntKind.u32.wrap (last - back))) w) := by
  obtain ⟨R, PA, pn, pc, h⟩ := h
  have HP := Lib.hid h
  have HNR : Hid (∀ x, F x → x < w.heap.size) := Lib.hid (fun x hx => (h.lo x hx).2)
  have HRF : Hid (∀ x, R x → F x) := Lib.hid (fun x hx => h.cov x (.inl hx))
  have HNE : Hid (F sb ∧ F lb) := Lib.hid ⟨h.cov sb (.inr (.inl rfl)), h.cov lb (.inr (.inr (.inl rfl)))⟩
  have hsl := h.ls.at_.lt
  obtain ⟨q0, q1, q2, q3⟩ := h.ls.at_.cells
  have hb0 := (Chg.refl (fun _ => False) _).alloc (.cells #[.slice none 0 0, .bool false, .int .i64 0] 63) |>.at_ (at_new w (.cells #[.int .i64 1, .int .i64 client, .int .i64 surface, .int .i64 nn, .int .i64 other, .int .i64 px, .int .i64 py, .int .i64 tm, .int .u32 back, .string fo, .slice A len cap, .int .i64 acts] 67)) (fun q => q)
  have hb1 := at_new2 w (.cells #[.int .i64 1, .int .i64 client, .int .i64 surface, .int .i64 nn, .int .i64 other, .int .i64 px, .int .i64 py, .int .i64 tm, .int .u32 back, .string fo, .slice A len cap, .int .i64 acts] 67) (.cells #[.slice none 0 0, .bool false, .int .i64 0] 63)
  have HS := Lib.hid (((Chg.refl (fun _ => False) w).alloc (.cells #[.int .i64 1, .int .i64 client, .int .i64 surface, .int .i64 nn, .int .i64 other, .int .i64 px, .int .i64 py, .int .i64 tm, .int .u32 back, .string fo, .slice A len cap, .int .i64 acts] 67)).alloc (.cells #[.slice none 0 0, .bool false, .int .i64 0] 63))
  have HL := Lib.hid (h.ls.keep HS.out)
  have HK := Lib.hid (Chg.of_same (S := F) HS.out)
  have HB0 := Lib.hid hb0
  have HB1 := Lib.hid hb1
  have HSZ := Lib.hid (lt_of_at hb1)
  have HROW := Lib.hid (row_chg h.row HS.out (fun _ _ q => q))
  have KEEP : Hid (∀ w' : World, SessAt w' sb lb b last PA pn pc → w'.heap[w.heap.size]? = some (.cells #[.int .i64 1, .int .i64 client, .int .i64 surface, .int .i64 nn, .int .i64 other, .int .i64 px, .int .i64 py, .int .i64 tm, .int .u32 back, .string fo, .slice A len cap, .int .i64 acts] 67 (0, 0)) → w'.cell? ⟨sb, 0, none⟩ = some (.pointer (some ⟨lb, 0, none⟩)) ∧ w'.cell? ⟨sb, 1, none⟩ = some (.pointer (some ⟨b, 0, none⟩)) ∧ w'.cell? ⟨sb, 2, none⟩ = some (.int .u32 last) ∧ w'.cell? ⟨sb, 3, none⟩ = some (.slice PA pn pc) ∧ w'.cell? ⟨w.heap.size, 1, none⟩ = some (.int .i64 client) ∧ w'.cell? ⟨w.heap.size, 2, none⟩ = some (.int .i64 surface) ∧ w'.cell? ⟨w.heap.size, 3, none⟩ = some (.int .i64 nn) ∧ w'.cell? ⟨w.heap.size, 4, none⟩ = some (.int .i64 other) ∧ w'.cell? ⟨w.heap.size, 5, none⟩ = some (.int .i64 px) ∧ w'.cell? ⟨w.heap.size, 6, none⟩ = some (.int .i64 py) ∧ w'.cell? ⟨w.heap.size, 7, none⟩ = some (.int .i64 tm) ∧ w'.cell? ⟨w.heap.size, 8, none⟩ = some (.int .u32 back) ∧ w'.cell? ⟨w.heap.size, 9, none⟩ = some (.string fo) ∧ w'.cell? ⟨w.heap.size, 10, none⟩ = some (.slice A len cap) ∧ w'.cell? ⟨w.heap.size, 11, none⟩ = some (.int .i64 acts)) := Lib.hid (fun w' h1 h2 => ⟨h1.cells.1, h1.cells.2.1, h1.cells.2.2.1, h1.cells.2.2.2, (opc h2).2⟩)
  have HA := Lib.hid ha
  clear h hb0 hb1 ha
  go_enter Try.func27, Try.ntmps27
  go_wp2_with fail
  have HL := Lib.hid (HL.out.keep ((Chg.refl (fun _ => False) _).drew))
  have HK := Lib.hid (HK.out.drew)
  have HB0 := Lib.hid ((Chg.refl (fun _ => False) _).drew.at_ HB0.out (fun q => q))
  have HB1 := Lib.hid ((Chg.refl (fun _ => False) _).drew.at_ HB1.out (fun q => q))
  have HSZ := Lib.hid (lt_of_at HB1.out)
  have HROW := Lib.hid (row_chg HROW.out ((Chg.refl (fun _ => False) _).drew) (fun _ _ q => q))
  have hcel := KEEP.out _ HL.out.at_ HB0.out
  refine region_path (S := (fun w' => w'.cell? ⟨sb, 0, none⟩ = some (.pointer (some ⟨lb, 0, none⟩)) ∧ w'.cell? ⟨sb, 1, none⟩ = some (.pointer (some ⟨b, 0, none⟩)) ∧ w'.cell? ⟨sb, 2, none⟩ = some (.int .u32 last) ∧ w'.cell? ⟨sb, 3, none⟩ = some (.slice PA pn pc) ∧ w'.cell? ⟨w.heap.size, 1, none⟩ = some (.int .i64 client) ∧ w'.cell? ⟨w.heap.size, 2, none⟩ = some (.int .i64 surface) ∧ w'.cell? ⟨w.heap.size, 3, none⟩ = some (.int .i64 nn) ∧ w'.cell? ⟨w.heap.size, 4, none⟩ = some (.int .i64 other) ∧ w'.cell? ⟨w.heap.size, 5, none⟩ = some (.int .i64 px) ∧ w'.cell? ⟨w.heap.size, 6, none⟩ = some (.int .i64 py) ∧ w'.cell? ⟨w.heap.size, 7, none⟩ = some (.int .i64 tm) ∧ w'.cell? ⟨w.heap.size, 8, none⟩ = some (.int .u32 back) ∧ w'.cell? ⟨w.heap.size, 9, none⟩ = some (.string fo) ∧ w'.cell? ⟨w.heap.size, 10, none⟩ = some (.slice A len cap) ∧ w'.cell? ⟨w.heap.size, 11, none⟩ = some (.int .i64 acts))) 99 [(0, true), (1, true), (2, true), (3, true), (4, true), (5, true), (6, true), (7, true), (8, true), (9, true), (10, true), (11, true), (13, true), (14, true), (15, true), (16, true), (17, true), (18, true), (19, true), (12, false), (20, false), (21, true), (22, false)] (by kernel_rfl) (by kernel_rfl) (by kernel_rfl) hcel ?_
  refine path_read (i := 0) (v := ?v74_0) rfl (by rfl) (fun _ _ _ h => h) ?hy74_0 ?_
  case hy74_0 => ((intro w hSw; (try dsimp only at hSw); go_simp) <;> (try with_reducible rfl))
  try simp only [Act.put, List.setIfInBounds_toArray, List.set_cons_zero, List.set_cons_succ]
  refine path_read (i := 1) (v := ?v74_1) rfl (by rfl) (fun _ _ _ h => h) ?hy74_1 ?_
  case hy74_1 => ((intro w hSw; (try dsimp only at hSw); go_simp) <;> (try with_reducible rfl))
  try simp only [Act.put, List.setIfInBounds_toArray, List.set_cons_zero, List.set_cons_succ]
  refine path_read (i := 2) (v := ?v74_2) rfl (by rfl) (fun _ _ _ h => h) ?hy74_2 ?_
  case hy74_2 => ((intro w hSw; (try dsimp only at hSw); go_simp) <;> (try with_reducible rfl))
  try simp only [Act.put, List.setIfInBounds_toArray, List.set_cons_zero, List.set_cons_succ]
  refine path_read (i := 3) (v := ?v74_3) rfl (by rfl) (fun _ _ _ h => h) ?hy74_3 ?_
  case hy74_3 => ((intro w hSw; (try dsimp only at hSw); go_simp) <;> (try with_reducible rfl))
  try simp only [Act.put, List.setIfInBounds_toArray, List.set_cons_zero, List.set_cons_succ]
  refine path_read (i := 4) (v := ?v74_4) rfl (by rfl) (fun _ _ _ h => h) ?hy74_4 ?_
  case hy74_4 => ((intro w hSw; (try dsimp only at hSw); go_simp) <;> (try with_reducible rfl))
  try simp only [Act.put, List.setIfInBounds_toArray, List.set_cons_zero, List.set_cons_succ]
  refine path_read (i := 5) (v := ?v74_5) rfl (by rfl) (fun _ _ _ h => h) ?hy74_5 ?_
  case hy74_5 => ((intro w hSw; (try dsimp only at hSw); go_simp) <;> (try with_reducible rfl))
  try simp only [Act.put, List.setIfInBounds_toArray, List.set_cons_zero, List.set_cons_succ]
  refine path_read (i := 6) (v := ?v74_6) rfl (by rfl) (fun _ _ _ h => h) ?hy74_6 ?_
  case hy74_6 => ((intro w hSw; (try dsimp only at hSw); go_simp) <;> (try with_reducible rfl))
  try simp only [Act.put, List.setIfInBounds_toArray, List.set_cons_zero, List.set_cons_succ]
  refine path_read (i := 7) (v := ?v74_7) rfl (by rfl) (fun _ _ _ h => h) ?hy74_7 ?_
  case hy74_7 => ((intro w hSw; (try dsimp only at hSw); go_simp) <;> (try with_reducible rfl))
  try simp only [Act.put, List.setIfInBounds_toArray, List.set_cons_zero, List.set_cons_succ]
  refine path_read (i := 8) (v := ?v74_8) rfl (by rfl) (fun _ _ _ h => h) ?hy74_8 ?_
  case hy74_8 => ((intro w hSw; (try dsimp only at hSw); go_simp) <;> (try with_reducible rfl))
  try simp only [Act.put, List.setIfInBounds_toArray, List.set_cons_zero, List.set_cons_succ]
  refine path_read (i := 9) (v := ?v74_9) rfl (by rfl) (fun _ _ _ h => h) ?hy74_9 ?_
  case hy74_9 => ((intro w hSw; (try dsimp only at hSw); go_simp) <;> (try with_reducible rfl))
  try simp only [Act.put, List.setIfInBounds_toArray, List.set_cons_zero, List.set_cons_succ]
  refine path_read (i := 10) (v := ?v74_10) rfl (by rfl) (fun _ _ _ h => h) ?hy74_10 ?_
  case hy74_10 => ((intro w hSw; (try dsimp only at hSw); go_simp) <;> (try with_reducible rfl))
  try simp only [Act.put, List.setIfInBounds_toArray, List.set_cons_zero, List.set_cons_succ]
  refine path_read (i := 11) (v := ?v74_11) rfl (by rfl) (fun _ _ _ h => h) ?hy74_11 ?_
  case hy74_11 => ((intro w hSw; (try dsimp only at hSw); go_simp) <;> (try with_reducible rfl))
  try simp only [Act.put, List.setIfInBounds_toArray, List.set_cons_zero, List.set_cons_succ]
  refine path_read (i := 13) (v := ?v74_13) rfl (by rfl) (fun _ _ _ h => h) ?hy74_13 ?_
  case hy74_13 => ((intro w hSw; (try dsimp only at hSw); go_simp) <;> (try with_reducible rfl))
  try simp only [Act.put, List.setIfInBounds_toArray, List.set_cons_zero, List.set_cons_succ]
  refine path_read (i := 14) (v := ?v74_14) rfl (by rfl) (fun _ _ _ h => h) ?hy74_14 ?_
  case hy74_14 => ((intro w hSw; (try dsimp only at hSw); go_simp) <;> (try with_reducible rfl))
  try simp only [Act.put, List.setIfInBounds_toArray, List.set_cons_zero, List.set_cons_succ]
  refine path_read (i := 15) (v := ?v74_15) rfl (by rfl) (fun _ _ _ h => h) ?hy74_15 ?_
  case hy74_15 => ((intro w hSw; (try dsimp only at hSw); go_simp) <;> (try with_reducible rfl))
  try simp only [Act.put, List.setIfInBounds_toArray, List.set_cons_zero, List.set_cons_succ]
  refine path_read (i := 16) (v := ?v74_16) rfl (by rfl) (fun _ _ _ h => h) ?hy74_16 ?_
  case hy74_16 => ((intro w hSw; (try dsimp only at hSw); go_simp) <;> (try with_reducible rfl))
  try simp only [Act.put, List.setIfInBounds_toArray, List.set_cons_zero, List.set_cons_succ]
  refine path_read (i := 17) (v := ?v74_17) rfl (by rfl) (fun _ _ _ h => h) ?hy74_17 ?_
  case hy74_17 => ((intro w hSw; (try dsimp only at hSw); go_simp) <;> (try with_reducible rfl))
  try simp only [Act.put, List.setIfInBounds_toArray, List.set_cons_zero, List.set_cons_succ]
  refine path_read (i := 18) (v := ?v74_18) rfl (by rfl) (fun _ _ _ h => h) ?hy74_18 ?_
  case hy74_18 => ((intro w hSw; (try dsimp only at hSw); go_simp) <;> (try with_reducible rfl))
  try simp only [Act.put, List.setIfInBounds_toArray, List.set_cons_zero, List.set_cons_succ]
  refine path_read (i := 19) (v := ?v74_19) rfl (by rfl) (fun _ _ _ h => h) ?hy74_19 ?_
  case hy74_19 => ((intro w hSw; (try dsimp only at hSw); go_simp) <;> (try with_reducible rfl))
  try simp only [Act.put, List.setIfInBounds_toArray, List.set_cons_zero, List.set_cons_succ]
  refine path_do (i := 12) rfl ?_
  go_wp2_with ((first | (go_at_call 32; go_loud (refine (prog_ok A len cap acts _).mono ?_; rintro e w2 ⟨rfl, hk⟩; have HL := Lib.hid (HL.out.keep hk); have HROW := Lib.hid (row_chg HROW.out hk (fun _ _ q => q)); have HB0 := Lib.hid (hk.at_ HB0.out (fun q => q)); have HB1 := Lib.hid (hk.at_ HB1.out (fun q => q)); have HK := Lib.hid (HK.out.trans (Chg.of_same hk)); have HSZ0 := Lib.hid HSZ.out; have HSZ := Lib.hid (Nat.lt_of_lt_of_le HSZ.out hk.size); have r0 := (res_cells HB1.out).1; have r1 := (res_cells HB1.out).2.1; have r2 := (res_cells HB1.out).2.2; have rf := frozen_at HB1.out; have rl := lt_of_at HB1.out; have g0 := HL.out.at_.cells.1; have g1 := HL.out.at_.cells.2.1; have g2 := HL.out.at_.cells.2.2.1; have g3 := HL.out.at_.cells.2.2.2; have gf := frozen_at HL.out.at_; have gl := HL.out.at_.lt; clear hk)) | (go_at_call 31; go_loud (refine (ls_start (d.start L client surface other fs acts (IntKind.u32.wrap (last - back))) (d.startE L client surface other fs acts (IntKind.u32.wrap (last - back))) client surface other acts (IntKind.u32.wrap (last - back)) A len cap fs HL.out (HA.out.same HL.out.same) (HL.out.ses.far HA.out) rfl rfl).mono ?_; rintro e w2 ⟨R2, rfl, hl, hk⟩; have HL := Lib.hid hl; clear hl; have HROW := Lib.hid (row_chg HROW.out hk.chg (fun x hx q => (HP.out.far x hx).1 q)); have HRN : Hid (∀ x, R2 x → R x ∨ w.heap.size + 1 < x) := Lib.hid (fun x q => by rcases hk.new x q with q | q; exact .inl q; exact .inr (Nat.lt_of_lt_of_le HSZ.out q)); have hk := hk.chg; have HB0 := Lib.hid (hk.at_ HB0.out (fun q => by have := HNR.out _ (HRF.out _ q); omega)); have HB1 := Lib.hid (hk.at_ HB1.out (fun q => by have := HNR.out _ (HRF.out _ q); omega)); have HK := Lib.hid (HK.out.trans (hk.mono (fun x _ q => HRF.out _ q))); have HSZ0 := Lib.hid HSZ.out; have HSZ := Lib.hid (Nat.lt_of_lt_of_le HSZ.out hk.size); have r0 := (res_cells HB1.out).1; have r1 := (res_cells HB1.out).2.1; have r2 := (res_cells HB1.out).2.2; have rf := frozen_at HB1.out; have rl := lt_of_at HB1.out; have g0 := HL.out.at_.cells.1; have g1 := HL.out.at_.cells.2.1; have g2 := HL.out.at_.cells.2.2.1; have g3 := HL.out.at_.cells.2.2.2; have gf := frozen_at HL.out.at_; have gl := HL.out.at_.lt; clear hk))))
  (first | refine ⟨.inr ?keep74_12, ?_⟩ | refine ⟨?keep74_12, ?_⟩)
  case keep74_12 => ((first | exact KEEP.out _ (HL.out.at_.chg (res_chg _ (w.heap.size + 1) _ _ _) (fun q => by have := HNR.out _ HNE.out.1; omega)) ((res_chg _ (w.heap.size + 1) _ _ _).at_ HB0.out (fun q => by omega)) | exact KEEP.out _ HL.out.at_ HB0.out))
  try simp only [Act.put, List.setIfInBounds_toArray, List.set_cons_zero, List.set_cons_succ]
  refine path_do (i := 20) rfl ?_
  go_wp2_with ((first | (go_at_call 32; go_loud (refine (prog_ok A len cap acts _).mono ?_; rintro e w2 ⟨rfl, hk⟩; have HL := Lib.hid (HL.out.keep hk); have HROW := Lib.hid (row_chg HROW.out hk (fun _ _ q => q)); have HB0 := Lib.hid (hk.at_ HB0.out (fun q => q)); have HB1 := Lib.hid (hk.at_ HB1.out (fun q => q)); have HK := Lib.hid (HK.out.trans (Chg.of_same hk)); have HSZ0 := Lib.hid HSZ.out; have HSZ := Lib.hid (Nat.lt_of_lt_of_le HSZ.out hk.size); have r0 := (res_cells HB1.out).1; have r1 := (res_cells HB1.out).2.1; have r2 := (res_cells HB1.out).2.2; have rf := frozen_at HB1.out; have rl := lt_of_at HB1.out; have g0 := HL.out.at_.cells.1; have g1 := HL.out.at_.cells.2.1; have g2 := HL.out.at_.cells.2.2.1; have g3 := HL.out.at_.cells.2.2.2; have gf := frozen_at HL.out.at_; have gl := HL.out.at_.lt; clear hk)) | (go_at_call 31; go_loud (refine (ls_start (d.start L client surface other fs acts (IntKind.u32.wrap (last - back))) (d.startE L client surface other fs acts (IntKind.u32.wrap (last - back))) client surface other acts (IntKind.u32.wrap (last - back)) A len cap fs HL.out (HA.out.same HL.out.same) (HL.out.ses.far HA.out) rfl rfl).mono ?_; rintro e w2 ⟨R2, rfl, hl, hk⟩; have HL := Lib.hid hl; clear hl; have HROW := Lib.hid (row_chg HROW.out hk.chg (fun x hx q => (HP.out.far x hx).1 q)); have HRN : Hid (∀ x, R2 x → R x ∨ w.heap.size + 1 < x) := Lib.hid (fun x q => by rcases hk.new x q with q | q; exact .inl q; exact .inr (Nat.lt_of_lt_of_le HSZ.out q)); have hk := hk.chg; have HB0 := Lib.hid (hk.at_ HB0.out (fun q => by have := HNR.out _ (HRF.out _ q); omega)); have HB1 := Lib.hid (hk.at_ HB1.out (fun q => by have := HNR.out _ (HRF.out _ q); omega)); have HK := Lib.hid (HK.out.trans (hk.mono (fun x _ q => HRF.out _ q))); have HSZ0 := Lib.hid HSZ.out; have HSZ := Lib.hid (Nat.lt_of_lt_of_le HSZ.out hk.size); have r0 := (res_cells HB1.out).1; have r1 := (res_cells HB1.out).2.1; have r2 := (res_cells HB1.out).2.2; have rf := frozen_at HB1.out; have rl := lt_of_at HB1.out; have g0 := HL.out.at_.cells.1; have g1 := HL.out.at_.cells.2.1; have g2 := HL.out.at_.cells.2.2.1; have g3 := HL.out.at_.cells.2.2.2; have gf := frozen_at HL.out.at_; have gl := HL.out.at_.lt; clear hk))))
  (first | refine ⟨.inr ?keep74_20, ?_⟩ | refine ⟨?keep74_20, ?_⟩)
  case keep74_20 => ((first | exact KEEP.out _ (HL.out.at_.chg (res_chg _ (w.heap.size + 1) _ _ _) (fun q => by have := HNR.out _ HNE.out.1; omega)) ((res_chg _ (w.heap.size + 1) _ _ _).at_ HB0.out (fun q => by omega)) | exact KEEP.out _ HL.out.at_ HB0.out))
  try simp only [Act.put, List.setIfInBounds_toArray, List.set_cons_zero, List.set_cons_succ]
  refine path_read (i := 21) (v := ?v74_21) rfl (by rfl) (fun _ _ _ h => h) ?hy74_21 ?_
  case hy74_21 => ((intro w hSw; (try dsimp only at hSw); go_simp) <;> (try with_reducible rfl))
  try simp only [Act.put, List.setIfInBounds_toArray, List.set_cons_zero, List.set_cons_succ]
  refine path_do (i := 22) rfl ?_
  go_wp2_with ((first | (go_at_call 32; go_loud (refine (prog_ok A len cap acts _).mono ?_; rintro e w2 ⟨rfl, hk⟩; have HL := Lib.hid (HL.out.keep hk); have HROW := Lib.hid (row_chg HROW.out hk (fun _ _ q => q)); have HB0 := Lib.hid (hk.at_ HB0.out (fun q => q)); have HB1 := Lib.hid (hk.at_ HB1.out (fun q => q)); have HK := Lib.hid (HK.out.trans (Chg.of_same hk)); have HSZ0 := Lib.hid HSZ.out; have HSZ := Lib.hid (Nat.lt_of_lt_of_le HSZ.out hk.size); have r0 := (res_cells HB1.out).1; have r1 := (res_cells HB1.out).2.1; have r2 := (res_cells HB1.out).2.2; have rf := frozen_at HB1.out; have rl := lt_of_at HB1.out; have g0 := HL.out.at_.cells.1; have g1 := HL.out.at_.cells.2.1; have g2 := HL.out.at_.cells.2.2.1; have g3 := HL.out.at_.cells.2.2.2; have gf := frozen_at HL.out.at_; have gl := HL.out.at_.lt; clear hk)) | (go_at_call 31; go_loud (refine (ls_start (d.start L client surface other fs acts (IntKind.u32.wrap (last - back))) (d.startE L client surface other fs acts (IntKind.u32.wrap (last - back))) client surface other acts (IntKind.u32.wrap (last - back)) A len cap fs HL.out (HA.out.same HL.out.same) (HL.out.ses.far HA.out) rfl rfl).mono ?_; rintro e w2 ⟨R2, rfl, hl, hk⟩; have HL := Lib.hid hl; clear hl; have HROW := Lib.hid (row_chg HROW.out hk.chg (fun x hx q => (HP.out.far x hx).1 q)); have HRN : Hid (∀ x, R2 x → R x ∨ w.heap.size + 1 < x) := Lib.hid (fun x q => by rcases hk.new x q with q | q; exact .inl q; exact .inr (Nat.lt_of_lt_of_le HSZ.out q)); have hk := hk.chg; have HB0 := Lib.hid (hk.at_ HB0.out (fun q => by have := HNR.out _ (HRF.out _ q); omega)); have HB1 := Lib.hid (hk.at_ HB1.out (fun q => by have := HNR.out _ (HRF.out _ q); omega)); have HK := Lib.hid (HK.out.trans (hk.mono (fun x _ q => HRF.out _ q))); have HSZ0 := Lib.hid HSZ.out; have HSZ := Lib.hid (Nat.lt_of_lt_of_le HSZ.out hk.size); have r0 := (res_cells HB1.out).1; have r1 := (res_cells HB1.out).2.1; have r2 := (res_cells HB1.out).2.2; have rf := frozen_at HB1.out; have rl := lt_of_at HB1.out; have g0 := HL.out.at_.cells.1; have g1 := HL.out.at_.cells.2.1; have g2 := HL.out.at_.cells.2.2.1; have g3 := HL.out.at_.cells.2.2.2; have gf := frozen_at HL.out.at_; have gl := HL.out.at_.lt; clear hk))))
  (first | refine ⟨.inr ?keep74_22, ?_⟩ | refine ⟨?keep74_22, ?_⟩)
  case keep74_22 => ((first | exact KEEP.out _ (HL.out.at_.chg (res_chg _ (w.heap.size + 1) _ _ _) (fun q => by have := HNR.out _ HNE.out.1; omega)) ((res_chg _ (w.heap.size + 1) _ _ _).at_ HB0.out (fun q => by omega)) | exact KEEP.out _ HL.out.at_ HB0.out))
  try simp only [Act.put, List.setIfInBounds_toArray, List.set_cons_zero, List.set_cons_succ]
  refine path_end ?_
  clear hcel
  go_wp2
  exact bodyPost_ret (results_cell1 Try.results27 rfl (run_load_res (res_set _ _ _ HB1.out))) rfl (call_done false _ HP.out HL.out (by rw [flows_start]; exact HROW.out) (fun g q => ⟨fun q2 => by rcases HRN.out g q2 with q3 | q3; exact (HP.out.far g q).1 q3; have := HNR.out _ (HP.out.cov g (.inr (.inr (.inr q)))); omega, (HP.out.far g q).2⟩) (fun x q => by rcases HRN.out x q with q3 | q3; exact Or.inl (HRF.out x q3); exact Or.inr (by omega)) (fun g q => Or.inl (HP.out.cov g (.inr (.inr (.inr q))))) HK.out HB1.out (by omega) (fun q => by rcases HRN.out _ q with q3 | q3; (have := HNR.out _ (HRF.out _ q3); omega); omega) (fun q => by have := HNR.out _ (HP.out.cov _ (.inr (.inr (.inr q)))); omega) (World.ownsRow_nil _ (w.heap.size + 2) _ _) (by omega))
end
end Go.Proofs.Yteolilggeaffaaa

namespace Go.Proofs.Yteolilggeaffaaa
open Go.RowKit

/-- A delivery. -/
structure Dv where
  c : Int
  s : Int
  k : Int
  t : Int
  x : Int
  y : Int
  code : Int
  val : Int
  ser : Int
def Dv.cells (x : Dv) : List Value := delivC x.c x.s x.k x.t x.x x.y x.code x.val x.ser
theorem Dv.len (x : Dv) : x.cells.length = 9 := rfl
def DSt.leftD (d : DSt) : List Dv := if d.ts = 0 then [] else [⟨d.tc, d.ts, 16, 0, 0, 0, 0, 0, 0⟩]
theorem left_eq (d : DSt) : d.left = d.leftD.map Dv.cells := by unfold DSt.left DSt.leftD; split <;> rfl
def DSt.outD (d : DSt) (L : SLog) (c s x y time : Int) : List Dv :=
  if c = d.tc ∧ s = d.ts then (if s = 0 then [] else [⟨c, s, 15, (d.tick time).latest, x, y, 0, 0, 0⟩]) else if s = 0 then d.leftD else d.leftD ++ [⟨c, s, 14, 0, x, y, ((d.offers + 1 : Nat) : Int), 0, L.issueN c s 14⟩]
def DSt.mvD (d : DSt) (L : SLog) (client surface x y time : Int) : List Dv := if d.state = 1 then d.outD L (posC client surface) (posS client surface) x y time else []
theorem mv_eq (d : DSt) (L : SLog) (client surface x y time : Int) : d.mvO L client surface x y time = (d.mvD L client surface x y time).map Dv.cells := by
  unfold DSt.mvO DSt.mvD DSt.outCS DSt.outD
  split
  · split
    · split <;> rfl
    · split
      · exact left_eq d
      · rw [List.map_append, ← left_eq]; rfl
  · rfl
def DSt.cancD (d : DSt) : List Dv := if d.state = 1 then d.leftD else []
theorem canc_eq (d : DSt) : d.cancO = d.cancD.map Dv.cells := by
  unfold DSt.cancO DSt.cancD
  split
  · exact left_eq d
  · rfl
def DSt.dropD (d : DSt) : List Dv := if d.state = 1 then (if d.dropB then [⟨d.tc, d.ts, 17, 0, 0, 0, 0, 0, 0⟩] else d.cancD) else []
theorem drop_eq (d : DSt) : d.dropO = d.dropD.map Dv.cells := by
  unfold DSt.dropO DSt.dropD
  split
  · split
    · rfl
    · exact canc_eq d
  · rfl
def lastFold (last : Int) (ds : List Dv) : Int := ds.foldl (fun a x => lastOf a x.ser) last
theorem out_rows {base : Nat} {w : World} {v : Value} {ds : List Dv} (h : OutAt base w v (ds.map Dv.cells)) : ∃ A cap, v = .slice A ds.length cap ∧ ds.length ≤ cap ∧ cap ≤ maxLen ∧
    (0 < ds.length → ∃ g, A = some ⟨g, 0, none⟩ ∧ base ≤ g ∧ g < w.heap.size ∧ ∀ (i : Nat) x, ds[i]? = some x → ∀ j u, x.cells[j]? = some u → w.cell? ⟨g, i * 9 + j, none⟩ = some u) := by
  have hl : (ds.map Dv.cells).length = ds.length := List.length_map _
  have h2 := h
  unfold OutAt at h
  rw [hl] at h
  rcases h.2 with ⟨rfl, hn⟩ | ⟨g, cap, cur, rfl, hb, hg, hc, hm, hs, ht⟩
  · exact ⟨none, 0, by rw [hn], by omega, by unfold maxLen; omega, fun q => by omega⟩
  · refine ⟨_, cap, rfl, hc, hm, fun _ => ⟨g, rfl, hb, (Array.getElem?_eq_some_iff.1 hg).1, fun i x hx j u hu => ?_⟩⟩
    have hj : j < 9 := by
      have := (List.getElem?_eq_some_iff.1 hu).1
      rwa [Dv.len] at this
    have e := flat_get Dv.cells 9 Dv.len ds i j x hx hj
    rw [List.flatMap_def] at e
    have hil := (List.getElem?_eq_some_iff.1 hx).1
    have e2 := World.ownsRow.cells h (g := g) rfl (i * 9 + j) u (by rw [e]; exact hu)
    rw [add_plain] at e2
    simpa using e2
theorem lastFold_succ (last : Int) (ds : List Dv) (i : Nat) (x : Dv) (h : ds[i]? = some x) : lastFold last (ds.take (i + 1)) = lastOf (lastFold last (ds.take i)) x.ser := by
  unfold lastFold
  rw [List.take_add_one, h, List.foldl_append]
  rfl
section
variable {w0 w : World} {F : Nat → Prop} {sb lb b : Nat} {L : SLog} {d : DSt} {last : Int}
set_option maxHeartbeats 8000000 in
theorem call2 (client surface nn other px py tm back acts : Int) (fo : ByteArray) (A : Option Addr) (len cap : Nat) (h : LQ w0 w F sb lb b L d last) (hc : client ≤ 9223372036854775807) (hs : surface ≤ 9223372036854775807) (ho : d.offers < 1000000) :
    Calls Try.prog 27 #[.pointer (some ⟨sb, 0, none⟩), .agg #[.int .i64 2, .int .i64 client, .int .i64 surface, .int .i64 nn, .int .i64 other, .int .i64 px, .int .i64 py, .int .i64 tm, .int .u32 back, .string fo, .slice A len cap, .int .i64 acts]] w (CallOut w0 F sb lb b (d.mvL L client surface) (d.mv client surface tm) (lastFold last (d.mvD L client surface px py tm)) ((d.mvD L client surface px py tm).map Dv.cells) false 0 w) := by
  obtain ⟨R, PA, pn, pc, h⟩ := h
  have HP := Lib.hid h
  have HNR : Hid (∀ x, F x → x < w.heap.size) := Lib.hid (fun x hx => (h.lo x hx).2)
  have HRF : Hid (∀ x, R x → F x) := Lib.hid (fun x hx => h.cov x (.inl hx))
  have HNE : Hid (F sb ∧ F lb) := Lib.hid ⟨h.cov sb (.inr (.inl rfl)), h.cov lb (.inr (.inr (.inl rfl)))⟩
  have hsl := h.ls.at_.lt
  obtain ⟨q0, q1, q2, q3⟩ := h.ls.at_.cells
  have hb0 := (Chg.refl (fun _ => False) _).alloc (.cells #[.slice none 0 0, .bool false, .int .i64 0] 63) |>.at_ (at_new w (.cells #[.int .i64 2, .int .i64 client, .int .i64 surface, .int .i64 nn, .int .i64 other, .int .i64 px, .int .i64 py, .int .i64 tm, .int .u32 back, .string fo, .slice A len cap, .int .i64 acts] 67)) (fun q => q)
  have hb1 := at_new2 w (.cells #[.int .i64 2, .int .i64 client, .int .i64 surface, .int .i64 nn, .int .i64 other, .int .i64 px, .int .i64 py, .int .i64 tm, .int .u32 back, .string fo, .slice A len cap, .int .i64 acts] 67) (.cells #[.slice none 0 0, .bool false, .int .i64 0] 63)
  have HS := Lib.hid (((Chg.refl (fun _ => False) w).alloc (.cells #[.int .i64 2, .int .i64 client, .int .i64 surface, .int .i64 nn, .int .i64 other, .int .i64 px, .int .i64 py, .int .i64 tm, .int .u32 back, .string fo, .slice A len cap, .int .i64 acts] 67)).alloc (.cells #[.slice none 0 0, .bool false, .int .i64 0] 63))
  have HL := Lib.hid (h.ls.keep HS.out)
  have HK := Lib.hid (Chg.of_same (S := F) HS.out)
  have HB0 := Lib.hid hb0
  have HB1 := Lib.hid hb1
  have HSZ := Lib.hid (lt_of_at hb1)
  have HROW := Lib.hid (row_chg h.row HS.out (fun _ _ q => q))
  have KEEP : Hid (∀ w' : World, SessAt w' sb lb b last PA pn pc → w'.heap[w.heap.size]? = some (.cells #[.int .i64 2, .int .i64 client, .int .i64 surface, .int .i64 nn, .int .i64 other, .int .i64 px, .int .i64 py, .int .i64 tm, .int .u32 back, .string fo, .slice A len cap, .int .i64 acts] 67 (0, 0)) → w'.cell? ⟨sb, 0, none⟩ = some (.pointer (some ⟨lb, 0, none⟩)) ∧ w'.cell? ⟨sb, 1, none⟩ = some (.pointer (some ⟨b, 0, none⟩)) ∧ w'.cell? ⟨sb, 2, none⟩ = some (.int .u32 last) ∧ w'.cell? ⟨sb, 3, none⟩ = some (.slice PA pn pc) ∧ w'.cell? ⟨w.heap.size, 1, none⟩ = some (.int .i64 client) ∧ w'.cell? ⟨w.heap.size, 2, none⟩ = some (.int .i64 surface) ∧ w'.cell? ⟨w.heap.size, 3, none⟩ = some (.int .i64 nn) ∧ w'.cell? ⟨w.heap.size, 4, none⟩ = some (.int .i64 other) ∧ w'.cell? ⟨w.heap.size, 5, none⟩ = some (.int .i64 px) ∧ w'.cell? ⟨w.heap.size, 6, none⟩ = some (.int .i64 py) ∧ w'.cell? ⟨w.heap.size, 7, none⟩ = some (.int .i64 tm) ∧ w'.cell? ⟨w.heap.size, 8, none⟩ = some (.int .u32 back) ∧ w'.cell? ⟨w.heap.size, 9, none⟩ = some (.string fo) ∧ w'.cell? ⟨w.heap.size, 10, none⟩ = some (.slice A len cap) ∧ w'.cell? ⟨w.heap.size, 11, none⟩ = some (.int .i64 acts)) := Lib.hid (fun w' h1 h2 => ⟨h1.cells.1, h1.cells.2.1, h1.cells.2.2.1, h1.cells.2.2.2, (opc h2).2⟩)
  have HC := Lib.hid (And.intro hc (And.intro hs ho))
  obtain ⟨ds, hds⟩ : ∃ ds, d.mvD L client surface px py tm = ds := ⟨_, rfl⟩
  have HDS := Lib.hid hds
  rw [hds]
  clear h hb0 hb1 hc hs ho hds
  go_enter Try.func27, Try.ntmps27
  go_wp2_with fail
  have HL := Lib.hid (HL.out.keep ((Chg.refl (fun _ => False) _).drew))
  have HK := Lib.hid (HK.out.drew)
  have HB0 := Lib.hid ((Chg.refl (fun _ => False) _).drew.at_ HB0.out (fun q => q))
  have HB1 := Lib.hid ((Chg.refl (fun _ => False) _).drew.at_ HB1.out (fun q => q))
  have HSZ := Lib.hid (lt_of_at HB1.out)
  have HROW := Lib.hid (row_chg HROW.out ((Chg.refl (fun _ => False) _).drew) (fun _ _ q => q))
  have hcel := KEEP.out _ HL.out.at_ HB0.out
  refine region_path (S := (fun w' => w'.cell? ⟨sb, 0, none⟩ = some (.pointer (some ⟨lb, 0, none⟩)) ∧ w'.cell? ⟨sb, 1, none⟩ = some (.pointer (some ⟨b, 0, none⟩)) ∧ w'.cell? ⟨sb, 2, none⟩ = some (.int .u32 last) ∧ w'.cell? ⟨sb, 3, none⟩ = some (.slice PA pn pc) ∧ w'.cell? ⟨w.heap.size, 1, none⟩ = some (.int .i64 client) ∧ w'.cell? ⟨w.heap.size, 2, none⟩ = some (.int .i64 surface) ∧ w'.cell? ⟨w.heap.size, 3, none⟩ = some (.int .i64 nn) ∧ w'.cell? ⟨w.heap.size, 4, none⟩ = some (.int .i64 other) ∧ w'.cell? ⟨w.heap.size, 5, none⟩ = some (.int .i64 px) ∧ w'.cell? ⟨w.heap.size, 6, none⟩ = some (.int .i64 py) ∧ w'.cell? ⟨w.heap.size, 7, none⟩ = some (.int .i64 tm) ∧ w'.cell? ⟨w.heap.size, 8, none⟩ = some (.int .u32 back) ∧ w'.cell? ⟨w.heap.size, 9, none⟩ = some (.string fo) ∧ w'.cell? ⟨w.heap.size, 10, none⟩ = some (.slice A len cap) ∧ w'.cell? ⟨w.heap.size, 11, none⟩ = some (.int .i64 acts))) 99 [(0, true), (1, true), (2, true), (3, true), (4, true), (5, true), (6, true), (7, true), (8, true), (9, true), (10, true), (11, true), (12, true), (13, true), (14, false), (15, true)] (by kernel_rfl) (by kernel_rfl) (by kernel_rfl) hcel ?_
  refine path_read (i := 0) (v := ?v75_0) rfl (by rfl) (fun _ _ _ h => h) ?hy75_0 ?_
  case hy75_0 => ((intro w hSw; (try dsimp only at hSw); go_simp) <;> (try with_reducible rfl))
  try simp only [Act.put, List.setIfInBounds_toArray, List.set_cons_zero, List.set_cons_succ]
  refine path_read (i := 1) (v := ?v75_1) rfl (by rfl) (fun _ _ _ h => h) ?hy75_1 ?_
  case hy75_1 => ((intro w hSw; (try dsimp only at hSw); go_simp) <;> (try with_reducible rfl))
  try simp only [Act.put, List.setIfInBounds_toArray, List.set_cons_zero, List.set_cons_succ]
  refine path_read (i := 2) (v := ?v75_2) rfl (by rfl) (fun _ _ _ h => h) ?hy75_2 ?_
  case hy75_2 => ((intro w hSw; (try dsimp only at hSw); go_simp) <;> (try with_reducible rfl))
  try simp only [Act.put, List.setIfInBounds_toArray, List.set_cons_zero, List.set_cons_succ]
  refine path_read (i := 3) (v := ?v75_3) rfl (by rfl) (fun _ _ _ h => h) ?hy75_3 ?_
  case hy75_3 => ((intro w hSw; (try dsimp only at hSw); go_simp) <;> (try with_reducible rfl))
  try simp only [Act.put, List.setIfInBounds_toArray, List.set_cons_zero, List.set_cons_succ]
  refine path_read (i := 4) (v := ?v75_4) rfl (by rfl) (fun _ _ _ h => h) ?hy75_4 ?_
  case hy75_4 => ((intro w hSw; (try dsimp only at hSw); go_simp) <;> (try with_reducible rfl))
  try simp only [Act.put, List.setIfInBounds_toArray, List.set_cons_zero, List.set_cons_succ]
  refine path_read (i := 5) (v := ?v75_5) rfl (by rfl) (fun _ _ _ h => h) ?hy75_5 ?_
  case hy75_5 => ((intro w hSw; (try dsimp only at hSw); go_simp) <;> (try with_reducible rfl))
  try simp only [Act.put, List.setIfInBounds_toArray, List.set_cons_zero, List.set_cons_succ]
  refine path_read (i := 6) (v := ?v75_6) rfl (by rfl) (fun _ _ _ h => h) ?hy75_6 ?_
  case hy75_6 => ((intro w hSw; (try dsimp only at hSw); go_simp) <;> (try with_reducible rfl))
  try simp only [Act.put, List.setIfInBounds_toArray, List.set_cons_zero, List.set_cons_succ]
  refine path_read (i := 7) (v := ?v75_7) rfl (by rfl) (fun _ _ _ h => h) ?hy75_7 ?_
  case hy75_7 => ((intro w hSw; (try dsimp only at hSw); go_simp) <;> (try with_reducible rfl))
  try simp only [Act.put, List.setIfInBounds_toArray, List.set_cons_zero, List.set_cons_succ]
  refine path_read (i := 8) (v := ?v75_8) rfl (by rfl) (fun _ _ _ h => h) ?hy75_8 ?_
  case hy75_8 => ((intro w hSw; (try dsimp only at hSw); go_simp) <;> (try with_reducible rfl))
  try simp only [Act.put, List.setIfInBounds_toArray, List.set_cons_zero, List.set_cons_succ]
  refine path_read (i := 9) (v := ?v75_9) rfl (by rfl) (fun _ _ _ h => h) ?hy75_9 ?_
  case hy75_9 => ((intro w hSw; (try dsimp only at hSw); go_simp) <;> (try with_reducible rfl))
  try simp only [Act.put, List.setIfInBounds_toArray, List.set_cons_zero, List.set_cons_succ]
  refine path_read (i := 10) (v := ?v75_10) rfl (by rfl) (fun _ _ _ h => h) ?hy75_10 ?_
  case hy75_10 => ((intro w hSw; (try dsimp only at hSw); go_simp) <;> (try with_reducible rfl))
  try simp only [Act.put, List.setIfInBounds_toArray, List.set_cons_zero, List.set_cons_succ]
  refine path_read (i := 11) (v := ?v75_11) rfl (by rfl) (fun _ _ _ h => h) ?hy75_11 ?_
  case hy75_11 => ((intro w hSw; (try dsimp only at hSw); go_simp) <;> (try with_reducible rfl))
  try simp only [Act.put, List.setIfInBounds_toArray, List.set_cons_zero, List.set_cons_succ]
  refine path_read (i := 12) (v := ?v75_12) rfl (by rfl) (fun _ _ _ h => h) ?hy75_12 ?_
  case hy75_12 => ((intro w hSw; (try dsimp only at hSw); go_simp) <;> (try with_reducible rfl))
  try simp only [Act.put, List.setIfInBounds_toArray, List.set_cons_zero, List.set_cons_succ]
  refine path_read (i := 13) (v := ?v75_13) rfl (by rfl) (fun _ _ _ h => h) ?hy75_13 ?_
  case hy75_13 => ((intro w hSw; (try dsimp only at hSw); go_simp) <;> (try with_reducible rfl))
  try simp only [Act.put, List.setIfInBounds_toArray, List.set_cons_zero, List.set_cons_succ]
  refine path_do (i := 14) rfl ?_
  go_wp2_with ((first | (go_at_call 20; go_loud (refine (ls_move (d.mv client surface tm) (d.mvL L client surface) _ client surface px py tm HL.out HC.out.2.2 HC.out.1 HC.out.2.1 rfl rfl rfl).mono ?_; rintro e w2 ⟨v, rfl, hout, hl, hk⟩; rw [mv_eq, HDS.out] at hout; obtain ⟨A2, cap2, rfl, hcap, hmax, hrows⟩ := out_rows hout; have HL := Lib.hid hl; have HOUT := Lib.hid hout; have HROWS := Lib.hid (And.intro hrows hmax); have HROW := Lib.hid (row_chg HROW.out hk (fun x hx q => by rcases q with q | q; exact (HP.out.far x hx).1 (by rw [q]; exact HL.out.ses.drag.rb); exact (HP.out.far x hx).2.2 q)); have HBF : Hid (∀ x, x = b ∨ x = lb → F x) := Lib.hid (fun x q => by rcases q with q | q; (rw [q]; exact HRF.out _ HL.out.ses.drag.rb); (rw [q]; exact HNE.out.2)); have HB0 := Lib.hid (hk.at_ HB0.out (fun q => by have := HNR.out _ (HBF.out _ q); omega)); have HB1 := Lib.hid (hk.at_ HB1.out (fun q => by have := HNR.out _ (HBF.out _ q); omega)); have HK := Lib.hid (HK.out.trans (hk.mono (fun x _ q => HBF.out _ q))); clear hl hout hrows hmax; have HSZ0 := Lib.hid HSZ.out; have HSZ := Lib.hid (Nat.lt_of_lt_of_le HSZ.out hk.size); have r0 := (res_cells HB1.out).1; have r1 := (res_cells HB1.out).2.1; have r2 := (res_cells HB1.out).2.2; have rf := frozen_at HB1.out; have rl := lt_of_at HB1.out; have g0 := HL.out.at_.cells.1; have g1 := HL.out.at_.cells.2.1; have g2 := HL.out.at_.cells.2.2.1; have g3 := HL.out.at_.cells.2.2.2; have gf := frozen_at HL.out.at_; have gl := HL.out.at_.lt; clear hk))))
  (first | refine ⟨.inr ?keep75_14, ?_⟩ | refine ⟨?keep75_14, ?_⟩)
  case keep75_14 => ((first | exact KEEP.out _ (HL.out.at_.chg (res_chg _ (w.heap.size + 1) _ _ _) (fun q => by have := HNR.out _ HNE.out.1; omega)) ((res_chg _ (w.heap.size + 1) _ _ _).at_ HB0.out (fun q => by omega)) | exact KEEP.out _ HL.out.at_ HB0.out))
  try simp only [Act.put, List.setIfInBounds_toArray, List.set_cons_zero, List.set_cons_succ]
  refine path_read (i := 15) (v := ?v75_15) rfl (by rfl) (fun _ _ _ h => h) ?hy75_15 ?_
  case hy75_15 => ((intro w hSw; (try dsimp only at hSw); go_simp) <;> (try with_reducible rfl))
  try simp only [Act.put, List.setIfInBounds_toArray, List.set_cons_zero, List.set_cons_succ]
  refine path_end ?_
  clear hcel
  clear r0 r1 r2 rf rl g0 g1 g2 g3 gf gl
  have hdl : ds.length ≤ 9223372036854775807 := by have h1 := HROWS.out.2; unfold maxLen at h1; omega
  go_wp2
  go_loopw [7] (fun v7 wr => ∃ (i : Nat) (la : Int), i ≤ ds.length ∧ v7 = .int .i64 i ∧ la = lastFold last (ds.take i) ∧ LS w0 wr sb lb b R (d.mvL L client surface) (d.mv client surface tm) la PA pn pc ∧ Chg (fun x => x = sb) w2 wr) (fun v7 _ => ds.length - (intOf v7).toNat)
  case atStart => exact ⟨0, last, by omega, rfl, rfl, HL.out, Chg.refl _ _⟩
  case round =>
    obtain ⟨i, la, hi, rfl, hla, hls, hkr⟩ := hrel
    have HLA := Lib.hid hla
    have HLR := Lib.hid hls
    have HKR := Lib.hid hkr
    have gl := hls.at_.lt
    have gf := frozen_at hls.at_
    have g2 := hls.at_.cells.2.2.1
    clear hla hls hkr
    by_cases hlt : i < ds.length
    · have hii : (i : Int) < ds.length := by omega
      obtain ⟨g, hA2, hgb, hgl, hcell⟩ := HROWS.out.1 (by omega)
      obtain ⟨x, hx⟩ : ∃ x, ds[i]? = some x := ⟨_, List.getElem?_eq_getElem hlt⟩
      have HX := Lib.hid hx
      subst hA2
      have c8 := HKR.out.cell (hcell i x hx 8 _ rfl) (by have := HNR.out _ HNE.out.1; have := HSZ0.out; show ¬ g = sb; omega)
      have hgl2 := Nat.lt_of_lt_of_le hgl HKR.out.size
      clear hx hcell hgb hgl
      by_cases h0 : x.ser = 0
      · have HX0 := Lib.hid h0
        rw [h0] at c8
        clear h0
        go_wp2
        go_roundw
        case rel => exact ⟨i + 1, la, by omega, by go_num, by rw [lastFold_succ _ _ _ _ HX.out]; unfold lastOf; rw [if_pos HX0.out]; exact HLA.out, HLR.out, HKR.out⟩
        case measure => simp [intOf]; omega
      · have HX0 := Lib.hid h0
        have h0b : (x.ser == 0) = false := by simp [h0]
        have h0c : (x.ser != 0) = true := by simp [h0]
        clear h0
        go_wp2
        go_roundw
        case rel => exact ⟨i + 1, x.ser, by omega, by go_num, by rw [lastFold_succ _ _ _ _ HX.out]; unfold lastOf; rw [if_neg HX0.out], HLR.out.setLast x.ser, Chg.setCell HKR.out _ _ (fun _ => rfl)⟩
        case measure => simp [intOf]; omega
    · have hii : ¬ (i : Int) < ds.length := by omega
      have hie : i = ds.length := by omega
      have e : la = lastFold last ds := by rw [HLA.out, hie, List.take_length]
      have HE := Lib.hid e
      have HROW := Lib.hid (row_chg HROW.out HKR.out (fun x hx q => (HP.out.far x hx).2.1 q))
      have HB1 := Lib.hid (HKR.out.at_ HB1.out (fun q => by have := HNR.out _ HNE.out.1; omega))
      have HK := Lib.hid (HK.out.trans (HKR.out.mono (fun x _ q => by rw [q]; exact HNE.out.1)))
      have HOUT := Lib.hid (HOUT.out.chg HKR.out (fun x q => by have := HNR.out _ HNE.out.1; have := HSZ0.out; omega))
      have r0 := (res_cells HB1.out).1
      have r1 := (res_cells HB1.out).2.1
      have r2 := (res_cells HB1.out).2.2
      have rf := frozen_at HB1.out
      have rl := lt_of_at HB1.out
      clear hie e g2 gf gl
      go_wp2
      rw [← HE.out]
      exact bodyPost_ret (results_cell1 Try.results27 rfl (run_load_res (res_set _ _ _ HB1.out))) rfl (call_done false 0 HP.out HLR.out (by rw [flows_mv]; exact HROW.out) HP.out.far (fun x q => Or.inl (HRF.out x q)) (fun g q => Or.inl (HP.out.cov g (.inr (.inr (.inr q))))) HK.out HB1.out (by omega) (fun q => by have := HNR.out _ (HRF.out _ q); omega) (fun q => by have := HNR.out _ (HP.out.cov _ (.inr (.inr (.inr q)))); omega) HOUT.out HSZ0.out)
end
end Go.Proofs.Yteolilggeaffaaa

namespace Go.Proofs.Yteolilggeaffaaa
open Go.RowKit

section
variable {w0 w : World} {F : Nat → Prop} {sb lb b : Nat} {L : SLog} {d : DSt} {last : Int}
theorem LS.setPipes {R : Nat → Prop} {PA : Option Addr} {pn pc : Nat} (h : LS w0 w sb lb b R L d last PA pn pc) (PA' : Option Addr) (pn' pc' : Nat) : LS w0 (w.setCell ⟨sb, 3, none⟩ (.slice PA' pn' pc')) sb lb b R L d last PA' pn' pc' :=
  ⟨h.ses.chg (S := fun x => x = sb) (Chg.setCell (Chg.refl _ w) _ _ (fun _ => rfl)) (fun x e => by subst e; exact ⟨h.nR, h.nl, h.new⟩), at_setCell (i := 3) (.slice PA' pn' pc') h.at_, h.new, h.nR, h.nl⟩
theorem ls_rcv_no2 {R : Nat → Prop} {PA : Option Addr} {pn pc : Nat} (v client win : Int) (f : ByteArray) (h : LS w0 w sb lb b R L d last PA pn pc) (hv : d.rcvE client f win = v) (h0 : v ≠ 0) :
    Calls Try.prog 17 #[.pointer (some ⟨b, 0, none⟩), .int .i64 client, .string f, .int .i64 win] w fun e w' => e = .returned (.tuple #[.pointer none, .int .i64 v]) ∧ LS w0 w' sb lb b R L d last PA pn pc ∧ Same w w' := by
  refine (ls_rcv_no v client win f h hv h0).mono ?_
  rintro e w' ⟨rfl, rfl⟩
  exact ⟨rfl, h, Chg.refl _ _⟩
set_option maxHeartbeats 8000000 in
theorem call6_no (client surface nn other px py tm back acts : Int) (fo : ByteArray) (A : Option Addr) (len cap : Nat) (h : LQ w0 w F sb lb b L d last) (h0 : d.rcvE client fo nn ≠ 0) :
    Calls Try.prog 27 #[.pointer (some ⟨sb, 0, none⟩), .agg #[.int .i64 6, .int .i64 client, .int .i64 surface, .int .i64 nn, .int .i64 other, .int .i64 px, .int .i64 py, .int .i64 tm, .int .u32 back, .string fo, .slice A len cap, .int .i64 acts]] w (CallOut w0 F sb lb b L d last [] false (d.rcvE client fo nn) w) := by
  obtain ⟨R, PA, pn, pc, h⟩ := h
  have HP := Lib.hid h
  have HNR : Hid (∀ x, F x → x < w.heap.size) := Lib.hid (fun x hx => (h.lo x hx).2)
  have HRF : Hid (∀ x, R x → F x) := Lib.hid (fun x hx => h.cov x (.inl hx))
  have HNE : Hid (F sb ∧ F lb) := Lib.hid ⟨h.cov sb (.inr (.inl rfl)), h.cov lb (.inr (.inr (.inl rfl)))⟩
  have hsl := h.ls.at_.lt
  obtain ⟨q0, q1, q2, q3⟩ := h.ls.at_.cells
  have hb0 := (Chg.refl (fun _ => False) _).alloc (.cells #[.slice none 0 0, .bool false, .int .i64 0] 63) |>.at_ (at_new w (.cells #[.int .i64 6, .int .i64 client, .int .i64 surface, .int .i64 nn, .int .i64 other, .int .i64 px, .int .i64 py, .int .i64 tm, .int .u32 back, .string fo, .slice A len cap, .int .i64 acts] 67)) (fun q => q)
  have hb1 := at_new2 w (.cells #[.int .i64 6, .int .i64 client, .int .i64 surface, .int .i64 nn, .int .i64 other, .int .i64 px, .int .i64 py, .int .i64 tm, .int .u32 back, .string fo, .slice A len cap, .int .i64 acts] 67) (.cells #[.slice none 0 0, .bool false, .int .i64 0] 63)
  have HS := Lib.hid (((Chg.refl (fun _ => False) w).alloc (.cells #[.int .i64 6, .int .i64 client, .int .i64 surface, .int .i64 nn, .int .i64 other, .int .i64 px, .int .i64 py, .int .i64 tm, .int .u32 back, .string fo, .slice A len cap, .int .i64 acts] 67)).alloc (.cells #[.slice none 0 0, .bool false, .int .i64 0] 63))
  have HL := Lib.hid (h.ls.keep HS.out)
  have HK := Lib.hid (Chg.of_same (S := F) HS.out)
  have HB0 := Lib.hid hb0
  have HB1 := Lib.hid hb1
  have HSZ := Lib.hid (lt_of_at hb1)
  have HROW := Lib.hid (row_chg h.row HS.out (fun _ _ q => q))
  have KEEP : Hid (∀ w' : World, SessAt w' sb lb b last PA pn pc → w'.heap[w.heap.size]? = some (.cells #[.int .i64 6, .int .i64 client, .int .i64 surface, .int .i64 nn, .int .i64 other, .int .i64 px, .int .i64 py, .int .i64 tm, .int .u32 back, .string fo, .slice A len cap, .int .i64 acts] 67 (0, 0)) → w'.cell? ⟨sb, 0, none⟩ = some (.pointer (some ⟨lb, 0, none⟩)) ∧ w'.cell? ⟨sb, 1, none⟩ = some (.pointer (some ⟨b, 0, none⟩)) ∧ w'.cell? ⟨sb, 2, none⟩ = some (.int .u32 last) ∧ w'.cell? ⟨sb, 3, none⟩ = some (.slice PA pn pc) ∧ w'.cell? ⟨w.heap.size, 1, none⟩ = some (.int .i64 client) ∧ w'.cell? ⟨w.heap.size, 2, none⟩ = some (.int .i64 surface) ∧ w'.cell? ⟨w.heap.size, 3, none⟩ = some (.int .i64 nn) ∧ w'.cell? ⟨w.heap.size, 4, none⟩ = some (.int .i64 other) ∧ w'.cell? ⟨w.heap.size, 5, none⟩ = some (.int .i64 px) ∧ w'.cell? ⟨w.heap.size, 6, none⟩ = some (.int .i64 py) ∧ w'.cell? ⟨w.heap.size, 7, none⟩ = some (.int .i64 tm) ∧ w'.cell? ⟨w.heap.size, 8, none⟩ = some (.int .u32 back) ∧ w'.cell? ⟨w.heap.size, 9, none⟩ = some (.string fo) ∧ w'.cell? ⟨w.heap.size, 10, none⟩ = some (.slice A len cap) ∧ w'.cell? ⟨w.heap.size, 11, none⟩ = some (.int .i64 acts)) := Lib.hid (fun w' h1 h2 => ⟨h1.cells.1, h1.cells.2.1, h1.cells.2.2.1, h1.cells.2.2.2, (opc h2).2⟩)
  obtain ⟨v, hv⟩ : ∃ v, d.rcvE client fo nn = v := ⟨_, rfl⟩
  have HV := Lib.hid hv
  rw [hv] at h0
  rw [hv]
  have H0 := Lib.hid h0
  clear h hb0 hb1 h0 hv
  go_enter Try.func27, Try.ntmps27
  go_wp2_with fail
  have HL := Lib.hid (HL.out.keep ((Chg.refl (fun _ => False) _).drew))
  have HK := Lib.hid (HK.out.drew)
  have HB0 := Lib.hid ((Chg.refl (fun _ => False) _).drew.at_ HB0.out (fun q => q))
  have HB1 := Lib.hid ((Chg.refl (fun _ => False) _).drew.at_ HB1.out (fun q => q))
  have HSZ := Lib.hid (lt_of_at HB1.out)
  have HROW := Lib.hid (row_chg HROW.out ((Chg.refl (fun _ => False) _).drew) (fun _ _ q => q))
  have hcel := KEEP.out _ HL.out.at_ HB0.out
  refine region_path (S := (fun w' => w'.cell? ⟨sb, 0, none⟩ = some (.pointer (some ⟨lb, 0, none⟩)) ∧ w'.cell? ⟨sb, 1, none⟩ = some (.pointer (some ⟨b, 0, none⟩)) ∧ w'.cell? ⟨sb, 2, none⟩ = some (.int .u32 last) ∧ w'.cell? ⟨sb, 3, none⟩ = some (.slice PA pn pc) ∧ w'.cell? ⟨w.heap.size, 1, none⟩ = some (.int .i64 client) ∧ w'.cell? ⟨w.heap.size, 2, none⟩ = some (.int .i64 surface) ∧ w'.cell? ⟨w.heap.size, 3, none⟩ = some (.int .i64 nn) ∧ w'.cell? ⟨w.heap.size, 4, none⟩ = some (.int .i64 other) ∧ w'.cell? ⟨w.heap.size, 5, none⟩ = some (.int .i64 px) ∧ w'.cell? ⟨w.heap.size, 6, none⟩ = some (.int .i64 py) ∧ w'.cell? ⟨w.heap.size, 7, none⟩ = some (.int .i64 tm) ∧ w'.cell? ⟨w.heap.size, 8, none⟩ = some (.int .u32 back) ∧ w'.cell? ⟨w.heap.size, 9, none⟩ = some (.string fo) ∧ w'.cell? ⟨w.heap.size, 10, none⟩ = some (.slice A len cap) ∧ w'.cell? ⟨w.heap.size, 11, none⟩ = some (.int .i64 acts))) 99 [(0, true), (1, true), (2, true), (3, true), (4, true), (5, true), (6, true), (7, true), (8, true), (9, true), (10, false), (11, true), (12, true), (13, true), (14, true), (15, true)] (by kernel_rfl) (by kernel_rfl) (by kernel_rfl) hcel ?_
  refine path_read (i := 0) (v := ?v76_0) rfl (by rfl) (fun _ _ _ h => h) ?hy76_0 ?_
  case hy76_0 => ((intro w hSw; (try dsimp only at hSw); go_simp) <;> (try with_reducible rfl))
  try simp only [Act.put, List.setIfInBounds_toArray, List.set_cons_zero, List.set_cons_succ]
  refine path_read (i := 1) (v := ?v76_1) rfl (by rfl) (fun _ _ _ h => h) ?hy76_1 ?_
  case hy76_1 => ((intro w hSw; (try dsimp only at hSw); go_simp) <;> (try with_reducible rfl))
  try simp only [Act.put, List.setIfInBounds_toArray, List.set_cons_zero, List.set_cons_succ]
  refine path_read (i := 2) (v := ?v76_2) rfl (by rfl) (fun _ _ _ h => h) ?hy76_2 ?_
  case hy76_2 => ((intro w hSw; (try dsimp only at hSw); go_simp) <;> (try with_reducible rfl))
  try simp only [Act.put, List.setIfInBounds_toArray, List.set_cons_zero, List.set_cons_succ]
  refine path_read (i := 3) (v := ?v76_3) rfl (by rfl) (fun _ _ _ h => h) ?hy76_3 ?_
  case hy76_3 => ((intro w hSw; (try dsimp only at hSw); go_simp) <;> (try with_reducible rfl))
  try simp only [Act.put, List.setIfInBounds_toArray, List.set_cons_zero, List.set_cons_succ]
  refine path_read (i := 4) (v := ?v76_4) rfl (by rfl) (fun _ _ _ h => h) ?hy76_4 ?_
  case hy76_4 => ((intro w hSw; (try dsimp only at hSw); go_simp) <;> (try with_reducible rfl))
  try simp only [Act.put, List.setIfInBounds_toArray, List.set_cons_zero, List.set_cons_succ]
  refine path_read (i := 5) (v := ?v76_5) rfl (by rfl) (fun _ _ _ h => h) ?hy76_5 ?_
  case hy76_5 => ((intro w hSw; (try dsimp only at hSw); go_simp) <;> (try with_reducible rfl))
  try simp only [Act.put, List.setIfInBounds_toArray, List.set_cons_zero, List.set_cons_succ]
  refine path_read (i := 6) (v := ?v76_6) rfl (by rfl) (fun _ _ _ h => h) ?hy76_6 ?_
  case hy76_6 => ((intro w hSw; (try dsimp only at hSw); go_simp) <;> (try with_reducible rfl))
  try simp only [Act.put, List.setIfInBounds_toArray, List.set_cons_zero, List.set_cons_succ]
  refine path_read (i := 7) (v := ?v76_7) rfl (by rfl) (fun _ _ _ h => h) ?hy76_7 ?_
  case hy76_7 => ((intro w hSw; (try dsimp only at hSw); go_simp) <;> (try with_reducible rfl))
  try simp only [Act.put, List.setIfInBounds_toArray, List.set_cons_zero, List.set_cons_succ]
  refine path_read (i := 8) (v := ?v76_8) rfl (by rfl) (fun _ _ _ h => h) ?hy76_8 ?_
  case hy76_8 => ((intro w hSw; (try dsimp only at hSw); go_simp) <;> (try with_reducible rfl))
  try simp only [Act.put, List.setIfInBounds_toArray, List.set_cons_zero, List.set_cons_succ]
  refine path_read (i := 9) (v := ?v76_9) rfl (by rfl) (fun _ _ _ h => h) ?hy76_9 ?_
  case hy76_9 => ((intro w hSw; (try dsimp only at hSw); go_simp) <;> (try with_reducible rfl))
  try simp only [Act.put, List.setIfInBounds_toArray, List.set_cons_zero, List.set_cons_succ]
  refine path_do (i := 10) rfl ?_
  go_wp2_with ((first | (go_at_call 17; go_loud (refine (ls_rcv_no2 v client nn fo HL.out HV.out H0.out).mono ?_; rintro e w2 ⟨rfl, hl, hk⟩; have HL := Lib.hid hl; clear hl; have HROW := Lib.hid (row_chg HROW.out hk (fun _ _ q => q)); have HB0 := Lib.hid (hk.at_ HB0.out (fun q => q)); have HB1 := Lib.hid (hk.at_ HB1.out (fun q => q)); have HK := Lib.hid (HK.out.trans (Chg.of_same hk)); have HSZ0 := Lib.hid HSZ.out; have HSZ := Lib.hid (Nat.lt_of_lt_of_le HSZ.out hk.size); have r0 := (res_cells HB1.out).1; have r1 := (res_cells HB1.out).2.1; have r2 := (res_cells HB1.out).2.2; have rf := frozen_at HB1.out; have rl := lt_of_at HB1.out; have g0 := HL.out.at_.cells.1; have g1 := HL.out.at_.cells.2.1; have g2 := HL.out.at_.cells.2.2.1; have g3 := HL.out.at_.cells.2.2.2; have gf := frozen_at HL.out.at_; have gl := HL.out.at_.lt; clear hk))))
  (first | refine ⟨.inr ?keep76_10, ?_⟩ | refine ⟨?keep76_10, ?_⟩)
  case keep76_10 => ((first | exact KEEP.out _ (HL.out.at_.chg (res_chg _ (w.heap.size + 1) _ _ _) (fun q => by have := HNR.out _ HNE.out.1; omega)) ((res_chg _ (w.heap.size + 1) _ _ _).at_ HB0.out (fun q => by omega)) | exact KEEP.out _ HL.out.at_ HB0.out))
  try simp only [Act.put, List.setIfInBounds_toArray, List.set_cons_zero, List.set_cons_succ]
  refine path_read (i := 11) (v := ?v76_11) rfl (by rfl) (fun _ _ _ h => h) ?hy76_11 ?_
  case hy76_11 => ((intro w hSw; (try dsimp only at hSw); go_simp) <;> (try with_reducible rfl))
  try simp only [Act.put, List.setIfInBounds_toArray, List.set_cons_zero, List.set_cons_succ]
  refine path_read (i := 12) (v := ?v76_12) rfl (by rfl) (fun _ _ _ h => h) ?hy76_12 ?_
  case hy76_12 => ((intro w hSw; (try dsimp only at hSw); go_simp) <;> (try with_reducible rfl))
  try simp only [Act.put, List.setIfInBounds_toArray, List.set_cons_zero, List.set_cons_succ]
  refine path_read (i := 13) (v := ?v76_13) rfl (by rfl) (fun _ _ _ h => h) ?hy76_13 ?_
  case hy76_13 => ((intro w hSw; (try dsimp only at hSw); go_simp) <;> (try with_reducible rfl))
  try simp only [Act.put, List.setIfInBounds_toArray, List.set_cons_zero, List.set_cons_succ]
  refine path_read (i := 14) (v := ?v76_14) rfl (by rfl) (fun _ _ _ h => h) ?hy76_14 ?_
  case hy76_14 => ((intro w hSw; (try dsimp only at hSw); go_simp) <;> (try with_reducible rfl))
  try simp only [Act.put, List.setIfInBounds_toArray, List.set_cons_zero, List.set_cons_succ]
  refine path_read (i := 15) (v := ?v76_15) rfl (by rfl) (fun _ _ _ h => h) ?hy76_15 ?_
  case hy76_15 => ((intro w hSw; (try dsimp only at hSw); go_simp) <;> (try with_reducible rfl))
  try simp only [Act.put, List.setIfInBounds_toArray, List.set_cons_zero, List.set_cons_succ]
  refine path_end ?_
  clear hcel
  go_wp2
  exact bodyPost_ret (results_cell1 Try.results27 rfl (run_load_res (res_set _ _ _ HB1.out))) rfl (call_done false v HP.out HL.out (HROW.out) HP.out.far (fun x q => Or.inl (HRF.out x q)) (fun g q => Or.inl (HP.out.cov g (.inr (.inr (.inr q))))) HK.out HB1.out (by omega) (fun q => by have := HNR.out _ (HRF.out _ q); omega) (fun q => by have := HNR.out _ (HP.out.cov _ (.inr (.inr (.inr q)))); omega) (World.ownsRow_nil _ (w.heap.size + 2) _ _) (by omega))
def CallRcv (w0 : World) (F : Nat → Prop) (sb lb b : Nat) (L : SLog) (d : DSt) (last : Int) (win : Int) (w : World) (e : Ending) (w' : World) : Prop :=
  ∃ pb Rp, CallOut w0 F sb lb b L { d with flows := d.flows ++ [⟨pb, Rp, PSt.new win⟩] } last [] true 0 w e w'
set_option maxHeartbeats 8000000 in
theorem call6 (client surface nn other px py tm back acts : Int) (fo : ByteArray) (A : Option Addr) (len cap : Nat) (h : LQ w0 w F sb lb b L d last) (h0 : d.rcvE client fo nn = 0) (hf : d.flows.length < 1000) :
    Calls Try.prog 27 #[.pointer (some ⟨sb, 0, none⟩), .agg #[.int .i64 6, .int .i64 client, .int .i64 surface, .int .i64 nn, .int .i64 other, .int .i64 px, .int .i64 py, .int .i64 tm, .int .u32 back, .string fo, .slice A len cap, .int .i64 acts]] w (CallRcv w0 F sb lb b L d last nn w) := by
  obtain ⟨R, PA, pn, pc, h⟩ := h
  have HP := Lib.hid h
  have HNR : Hid (∀ x, F x → x < w.heap.size) := Lib.hid (fun x hx => (h.lo x hx).2)
  have HRF : Hid (∀ x, R x → F x) := Lib.hid (fun x hx => h.cov x (.inl hx))
  have HNE : Hid (F sb ∧ F lb) := Lib.hid ⟨h.cov sb (.inr (.inl rfl)), h.cov lb (.inr (.inr (.inl rfl)))⟩
  have hsl := h.ls.at_.lt
  obtain ⟨q0, q1, q2, q3⟩ := h.ls.at_.cells
  have hb0 := (Chg.refl (fun _ => False) _).alloc (.cells #[.slice none 0 0, .bool false, .int .i64 0] 63) |>.at_ (at_new w (.cells #[.int .i64 6, .int .i64 client, .int .i64 surface, .int .i64 nn, .int .i64 other, .int .i64 px, .int .i64 py, .int .i64 tm, .int .u32 back, .string fo, .slice A len cap, .int .i64 acts] 67)) (fun q => q)
  have hb1 := at_new2 w (.cells #[.int .i64 6, .int .i64 client, .int .i64 surface, .int .i64 nn, .int .i64 other, .int .i64 px, .int .i64 py, .int .i64 tm, .int .u32 back, .string fo, .slice A len cap, .int .i64 acts] 67) (.cells #[.slice none 0 0, .bool false, .int .i64 0] 63)
  have HS := Lib.hid (((Chg.refl (fun _ => False) w).alloc (.cells #[.int .i64 6, .int .i64 client, .int .i64 surface, .int .i64 nn, .int .i64 other, .int .i64 px, .int .i64 py, .int .i64 tm, .int .u32 back, .string fo, .slice A len cap, .int .i64 acts] 67)).alloc (.cells #[.slice none 0 0, .bool false, .int .i64 0] 63))
  have HL := Lib.hid (h.ls.keep HS.out)
  have HK := Lib.hid (Chg.of_same (S := F) HS.out)
  have HB0 := Lib.hid hb0
  have HB1 := Lib.hid hb1
  have HSZ := Lib.hid (lt_of_at hb1)
  have HROW := Lib.hid (row_chg h.row HS.out (fun _ _ q => q))
  have KEEP : Hid (∀ w' : World, SessAt w' sb lb b last PA pn pc → w'.heap[w.heap.size]? = some (.cells #[.int .i64 6, .int .i64 client, .int .i64 surface, .int .i64 nn, .int .i64 other, .int .i64 px, .int .i64 py, .int .i64 tm, .int .u32 back, .string fo, .slice A len cap, .int .i64 acts] 67 (0, 0)) → w'.cell? ⟨sb, 0, none⟩ = some (.pointer (some ⟨lb, 0, none⟩)) ∧ w'.cell? ⟨sb, 1, none⟩ = some (.pointer (some ⟨b, 0, none⟩)) ∧ w'.cell? ⟨sb, 2, none⟩ = some (.int .u32 last) ∧ w'.cell? ⟨sb, 3, none⟩ = some (.slice PA pn pc) ∧ w'.cell? ⟨w.heap.size, 1, none⟩ = some (.int .i64 client) ∧ w'.cell? ⟨w.heap.size, 2, none⟩ = some (.int .i64 surface) ∧ w'.cell? ⟨w.heap.size, 3, none⟩ = some (.int .i64 nn) ∧ w'.cell? ⟨w.heap.size, 4, none⟩ = some (.int .i64 other) ∧ w'.cell? ⟨w.heap.size, 5, none⟩ = some (.int .i64 px) ∧ w'.cell? ⟨w.heap.size, 6, none⟩ = some (.int .i64 py) ∧ w'.cell? ⟨w.heap.size, 7, none⟩ = some (.int .i64 tm) ∧ w'.cell? ⟨w.heap.size, 8, none⟩ = some (.int .u32 back) ∧ w'.cell? ⟨w.heap.size, 9, none⟩ = some (.string fo) ∧ w'.cell? ⟨w.heap.size, 10, none⟩ = some (.slice A len cap) ∧ w'.cell? ⟨w.heap.size, 11, none⟩ = some (.int .i64 acts)) := Lib.hid (fun w' h1 h2 => ⟨h1.cells.1, h1.cells.2.1, h1.cells.2.2.1, h1.cells.2.2.2, (opc h2).2⟩)
  have H0 := Lib.hid (And.intro h0 hf)
  have hpn : pn = d.flows.length := by have h1 := h.row.1; rw [List.length_map] at h1; omega
  have HFEW : Hid (pn < 1000) := Lib.hid (by omega)
  clear h hb0 hb1 h0 hf hpn
  go_enter Try.func27, Try.ntmps27
  go_wp2_with fail
  have HL := Lib.hid (HL.out.keep ((Chg.refl (fun _ => False) _).drew))
  have HK := Lib.hid (HK.out.drew)
  have HB0 := Lib.hid ((Chg.refl (fun _ => False) _).drew.at_ HB0.out (fun q => q))
  have HB1 := Lib.hid ((Chg.refl (fun _ => False) _).drew.at_ HB1.out (fun q => q))
  have HSZ := Lib.hid (lt_of_at HB1.out)
  have HROW := Lib.hid (row_chg HROW.out ((Chg.refl (fun _ => False) _).drew) (fun _ _ q => q))
  have hcel := KEEP.out _ HL.out.at_ HB0.out
  refine region_path (S := (fun w' => w'.cell? ⟨sb, 0, none⟩ = some (.pointer (some ⟨lb, 0, none⟩)) ∧ w'.cell? ⟨sb, 1, none⟩ = some (.pointer (some ⟨b, 0, none⟩)) ∧ w'.cell? ⟨sb, 2, none⟩ = some (.int .u32 last) ∧ w'.cell? ⟨sb, 3, none⟩ = some (.slice PA pn pc) ∧ w'.cell? ⟨w.heap.size, 1, none⟩ = some (.int .i64 client) ∧ w'.cell? ⟨w.heap.size, 2, none⟩ = some (.int .i64 surface) ∧ w'.cell? ⟨w.heap.size, 3, none⟩ = some (.int .i64 nn) ∧ w'.cell? ⟨w.heap.size, 4, none⟩ = some (.int .i64 other) ∧ w'.cell? ⟨w.heap.size, 5, none⟩ = some (.int .i64 px) ∧ w'.cell? ⟨w.heap.size, 6, none⟩ = some (.int .i64 py) ∧ w'.cell? ⟨w.heap.size, 7, none⟩ = some (.int .i64 tm) ∧ w'.cell? ⟨w.heap.size, 8, none⟩ = some (.int .u32 back) ∧ w'.cell? ⟨w.heap.size, 9, none⟩ = some (.string fo) ∧ w'.cell? ⟨w.heap.size, 10, none⟩ = some (.slice A len cap) ∧ w'.cell? ⟨w.heap.size, 11, none⟩ = some (.int .i64 acts))) 99 [(0, true), (1, true), (2, true), (3, true), (4, true), (5, true), (6, true), (7, true), (8, true), (9, true), (10, false), (11, true), (12, true), (13, true), (14, true), (15, true)] (by kernel_rfl) (by kernel_rfl) (by kernel_rfl) hcel ?_
  refine path_read (i := 0) (v := ?v77_0) rfl (by rfl) (fun _ _ _ h => h) ?hy77_0 ?_
  case hy77_0 => ((intro w hSw; (try dsimp only at hSw); go_simp) <;> (try with_reducible rfl))
  try simp only [Act.put, List.setIfInBounds_toArray, List.set_cons_zero, List.set_cons_succ]
  refine path_read (i := 1) (v := ?v77_1) rfl (by rfl) (fun _ _ _ h => h) ?hy77_1 ?_
  case hy77_1 => ((intro w hSw; (try dsimp only at hSw); go_simp) <;> (try with_reducible rfl))
  try simp only [Act.put, List.setIfInBounds_toArray, List.set_cons_zero, List.set_cons_succ]
  refine path_read (i := 2) (v := ?v77_2) rfl (by rfl) (fun _ _ _ h => h) ?hy77_2 ?_
  case hy77_2 => ((intro w hSw; (try dsimp only at hSw); go_simp) <;> (try with_reducible rfl))
  try simp only [Act.put, List.setIfInBounds_toArray, List.set_cons_zero, List.set_cons_succ]
  refine path_read (i := 3) (v := ?v77_3) rfl (by rfl) (fun _ _ _ h => h) ?hy77_3 ?_
  case hy77_3 => ((intro w hSw; (try dsimp only at hSw); go_simp) <;> (try with_reducible rfl))
  try simp only [Act.put, List.setIfInBounds_toArray, List.set_cons_zero, List.set_cons_succ]
  refine path_read (i := 4) (v := ?v77_4) rfl (by rfl) (fun _ _ _ h => h) ?hy77_4 ?_
  case hy77_4 => ((intro w hSw; (try dsimp only at hSw); go_simp) <;> (try with_reducible rfl))
  try simp only [Act.put, List.setIfInBounds_toArray, List.set_cons_zero, List.set_cons_succ]
  refine path_read (i := 5) (v := ?v77_5) rfl (by rfl) (fun _ _ _ h => h) ?hy77_5 ?_
  case hy77_5 => ((intro w hSw; (try dsimp only at hSw); go_simp) <;> (try with_reducible rfl))
  try simp only [Act.put, List.setIfInBounds_toArray, List.set_cons_zero, List.set_cons_succ]
  refine path_read (i := 6) (v := ?v77_6) rfl (by rfl) (fun _ _ _ h => h) ?hy77_6 ?_
  case hy77_6 => ((intro w hSw; (try dsimp only at hSw); go_simp) <;> (try with_reducible rfl))
  try simp only [Act.put, List.setIfInBounds_toArray, List.set_cons_zero, List.set_cons_succ]
  refine path_read (i := 7) (v := ?v77_7) rfl (by rfl) (fun _ _ _ h => h) ?hy77_7 ?_
  case hy77_7 => ((intro w hSw; (try dsimp only at hSw); go_simp) <;> (try with_reducible rfl))
  try simp only [Act.put, List.setIfInBounds_toArray, List.set_cons_zero, List.set_cons_succ]
  refine path_read (i := 8) (v := ?v77_8) rfl (by rfl) (fun _ _ _ h => h) ?hy77_8 ?_
  case hy77_8 => ((intro w hSw; (try dsimp only at hSw); go_simp) <;> (try with_reducible rfl))
  try simp only [Act.put, List.setIfInBounds_toArray, List.set_cons_zero, List.set_cons_succ]
  refine path_read (i := 9) (v := ?v77_9) rfl (by rfl) (fun _ _ _ h => h) ?hy77_9 ?_
  case hy77_9 => ((intro w hSw; (try dsimp only at hSw); go_simp) <;> (try with_reducible rfl))
  try simp only [Act.put, List.setIfInBounds_toArray, List.set_cons_zero, List.set_cons_succ]
  refine path_do (i := 10) rfl ?_
  go_wp2_with ((first | (go_at_call 17; go_loud (refine (ls_rcv client nn fo HL.out H0.out.1 H0.out.2).mono ?_; rintro e w2 ⟨R2, pb, Rp, rfl, hl, hk⟩; have HL := Lib.hid hl; clear hl; have HROW := Lib.hid (row_chg HROW.out hk.chg (fun x hx q => (HP.out.far x hx).1 q)); have HRN : Hid (∀ x, R2 x → R x ∨ w.heap.size + 1 < x) := Lib.hid (fun x q => by rcases hk.new x q with q | q; exact .inl q; exact .inr (Nat.lt_of_lt_of_le HSZ.out q)); have hk := hk.chg; have HB0 := Lib.hid (hk.at_ HB0.out (fun q => by have := HNR.out _ (HRF.out _ q); omega)); have HB1 := Lib.hid (hk.at_ HB1.out (fun q => by have := HNR.out _ (HRF.out _ q); omega)); have HK := Lib.hid (HK.out.trans (hk.mono (fun x _ q => HRF.out _ q))); have HSZ0 := Lib.hid HSZ.out; have HSZ := Lib.hid (Nat.lt_of_lt_of_le HSZ.out hk.size); have r0 := (res_cells HB1.out).1; have r1 := (res_cells HB1.out).2.1; have r2 := (res_cells HB1.out).2.2; have rf := frozen_at HB1.out; have rl := lt_of_at HB1.out; have g0 := HL.out.at_.cells.1; have g1 := HL.out.at_.cells.2.1; have g2 := HL.out.at_.cells.2.2.1; have g3 := HL.out.at_.cells.2.2.2; have gf := frozen_at HL.out.at_; have gl := HL.out.at_.lt; clear hk))))
  (first | refine ⟨.inr ?keep77_10, ?_⟩ | refine ⟨?keep77_10, ?_⟩)
  case keep77_10 => ((first | exact KEEP.out _ (HL.out.at_.chg (res_chg _ (w.heap.size + 1) _ _ _) (fun q => by have := HNR.out _ HNE.out.1; omega)) ((res_chg _ (w.heap.size + 1) _ _ _).at_ HB0.out (fun q => by omega)) | exact KEEP.out _ HL.out.at_ HB0.out))
  try simp only [Act.put, List.setIfInBounds_toArray, List.set_cons_zero, List.set_cons_succ]
  refine path_read (i := 11) (v := ?v77_11) rfl (by rfl) (fun _ _ _ h => h) ?hy77_11 ?_
  case hy77_11 => ((intro w hSw; (try dsimp only at hSw); go_simp) <;> (try with_reducible rfl))
  try simp only [Act.put, List.setIfInBounds_toArray, List.set_cons_zero, List.set_cons_succ]
  refine path_read (i := 12) (v := ?v77_12) rfl (by rfl) (fun _ _ _ h => h) ?hy77_12 ?_
  case hy77_12 => ((intro w hSw; (try dsimp only at hSw); go_simp) <;> (try with_reducible rfl))
  try simp only [Act.put, List.setIfInBounds_toArray, List.set_cons_zero, List.set_cons_succ]
  refine path_read (i := 13) (v := ?v77_13) rfl (by rfl) (fun _ _ _ h => h) ?hy77_13 ?_
  case hy77_13 => ((intro w hSw; (try dsimp only at hSw); go_simp) <;> (try with_reducible rfl))
  try simp only [Act.put, List.setIfInBounds_toArray, List.set_cons_zero, List.set_cons_succ]
  refine path_read (i := 14) (v := ?v77_14) rfl (by rfl) (fun _ _ _ h => h) ?hy77_14 ?_
  case hy77_14 => ((intro w hSw; (try dsimp only at hSw); go_simp) <;> (try with_reducible rfl))
  try simp only [Act.put, List.setIfInBounds_toArray, List.set_cons_zero, List.set_cons_succ]
  refine path_read (i := 15) (v := ?v77_15) rfl (by rfl) (fun _ _ _ h => h) ?hy77_15 ?_
  case hy77_15 => ((intro w hSw; (try dsimp only at hSw); go_simp) <;> (try with_reducible rfl))
  try simp only [Act.put, List.setIfInBounds_toArray, List.set_cons_zero, List.set_cons_succ]
  refine path_end ?_
  clear hcel
  clear r0 r1 r2 rf rl
  have HW2 : Hid (w.heap.size + 1 < w2.heap.size) := Lib.hid HSZ.out
  go_wp2_with (at_builtin; go_loud (refine wpl_append1 w0.heap.size 43 _ 1 8 Try.underlying34 infoPipeP rfl (by omega) (.slice PA pn pc) pn (d.flows.map DFlow.ptr) (HROW.out.alloc _) rfl w2.heap.size 1 [.pointer (some ⟨pb, 0, none⟩)] rfl (at_new w2 _) rfl (by simp [Value.oneCell']) (by have := HFEW.out; omega) (by omega) (by have := HL.out.same.size; simp; omega) ?_; intro gg gcap w4 hown hgr hor hgl; have hk4 : Chg (fun x => some x = (Value.slice PA pn pc).ownBlock) w2 w4 := Chg.grownO (by (repeat (first | (with_reducible refine Chg.drew ?_) | (with_reducible refine Chg.alloc ?_ _))); exact Chg.refl _ _) hgr; have HK4 := Lib.hid hk4; have hat4 := hk4.at_ HL.out.at_ (fun e => (HP.out.far sb e.symm).2.1 rfl); have g3 := (cell_at hat4 3); have gf := frozen_at hat4; have gl := lt_of_at hat4; have hb4 := hk4.at_ HB1.out (fun e => by have := HNR.out _ (HP.out.cov _ (.inr (.inr (.inr e.symm)))); omega); have HB4 := Lib.hid hb4; have r0 := (res_cells hb4).1; have r1 := (res_cells hb4).2.1; have r2 := (res_cells hb4).2.2; have rf := frozen_at hb4; have rl := lt_of_at hb4; have HOWN := Lib.hid (And.intro hown (And.intro hor hgl)); clear hk4 hat4 hb4 hown hgr hor hgl))
  have HL4 : Hid (LS w0 w4 sb lb b R2 L _ last PA pn pc) := Lib.hid (HL.out.step (HL.out.ses.chg HK4.out (fun x e => ⟨fun q => by rcases HRN.out x q with q3 | q3; exact (HP.out.far x e.symm).1 q3; have := HNR.out _ (HP.out.cov x (.inr (.inr (.inr e.symm)))); omega, (HP.out.far x e.symm).2.2, (World.ownsRow.lt HROW.out x e.symm).1⟩)) HK4.out (fun e => (HP.out.far sb e.symm).2.1 rfl) (fun _ q => .inl q))
  have hk5 := Chg.setCell (Chg.refl (fun x => x = sb) w4) ⟨sb, 3, none⟩ (.slice (some ⟨gg, 0, none⟩) (pn + 1) gcap) (fun _ => rfl)
  have hgs : gg ≠ sb ∧ gg ≠ lb ∧ ¬ R2 gg ∧ gg ≠ w.heap.size + 1 ∧ (F gg ∨ w.heap.size ≤ gg) := by
    rcases HOWN.out.2.1 with e | e
    · have h1 := HP.out.far gg e
      have h2 := HNR.out _ (HP.out.cov gg (.inr (.inr (.inr e))))
      exact ⟨h1.2.1, h1.2.2, fun q => by rcases HRN.out gg q with q3 | q3; exact h1.1 q3; omega, by omega, .inl (HP.out.cov gg (.inr (.inr (.inr e))))⟩
    · have h1 := HW2.out
      have h2 := HNR.out _ HNE.out.1
      have h3 := HNR.out _ HNE.out.2
      have e' : gg = (w2.alloc (.cells #[.pointer (some ⟨pb, 0, none⟩)] 43)).heap.size := e
      simp at e'
      refine ⟨by omega, by omega, fun q => by have := HL.out.ses.lt gg q; omega, by omega, .inr (by omega)⟩
  have hb5 := hk5.at_ HB4.out (fun q => by have := HNR.out _ HNE.out.1; omega)
  have hkk := HK.out.then_ ((HK4.out.mono (R := fun x => some x = (Value.slice PA pn pc).ownBlock ∨ x = sb) (fun x _ e => Or.inl e)).trans (hk5.mono (fun x _ e => Or.inr e))) (fun x hx e => by rcases e with e | e; exact HP.out.cov x (.inr (.inr (.inr e.symm))); rw [e]; exact HNE.out.1)
  have hrow5 : (w4.setCell ⟨sb, 3, none⟩ (.slice (some ⟨gg, 0, none⟩) (pn + 1) gcap)).ownsRow w0.heap.size 43 1 (.slice (some ⟨gg, 0, none⟩) (pn + 1) gcap) (pn + 1) ((d.flows ++ [(⟨pb, Rp, PSt.new nn⟩ : DFlow)]).map DFlow.ptr) := by
    rw [List.map_append]
    exact row_chg HOWN.out.1 hk5 (fun x hx e => by simp only [Value.ownBlock, Option.some.injEq] at hx; exact hgs.1 (by rw [hx, e]))
  have hq := call_done (v := .slice none 0 0) (l := []) (d' := { d with flows := d.flows ++ [⟨pb, Rp, PSt.new nn⟩] }) true 0 HP.out (HL4.out.setPipes (some ⟨gg, 0, none⟩) (pn + 1) gcap) hrow5 (fun g hg => by simp only [Value.ownBlock, Option.some.injEq] at hg; subst hg; exact ⟨hgs.2.2.1, hgs.1, hgs.2.1⟩) (fun x q => by rcases HRN.out x q with q3 | q3; exact Or.inl (HRF.out x q3); exact Or.inr (by omega)) (fun g hg => by simp only [Value.ownBlock, Option.some.injEq] at hg; subst hg; exact hgs.2.2.2.2) hkk hb5 (by omega) (fun q => by rcases HRN.out _ q with q3 | q3; (have := HNR.out _ (HRF.out _ q3); omega); omega) (fun hg => by simp only [Value.ownBlock, Option.some.injEq] at hg; exact hgs.2.2.2.1 hg) (World.ownsRow_nil _ (w.heap.size + 2) _ _) (by omega)
  exact bodyPost_ret (results_cell1 Try.results27 rfl (run_load_res (res_set _ _ _ hb5))) rfl ⟨pb, Rp, hq⟩
end
end Go.Proofs.Yteolilggeaffaaa

namespace Go.Proofs.Yteolilggeaffaaa
open Go.RowKit

theorem row_form {w : World} {base pn pc : Nat} {PA : Option Addr} {l : List DFlow} (h : w.ownsRow base 43 1 (.slice PA pn pc) pn (l.map DFlow.ptr)) {k : Nat} {x : DFlow} (hk : l[k]? = some x) : ∃ g, PA = some ⟨g, 0, none⟩ := by
  rcases h.2 with ⟨e, hn⟩ | ⟨g, cap, cur, e, _⟩
  · have h1 := h.1
    rw [List.length_map, hn] at h1
    have := (List.getElem?_eq_some_iff.1 hk).1
    omega
  · simp only [Value.slice.injEq] at e
    exact ⟨g, e.1⟩
theorem row_cell {w : World} {base pn pc g : Nat} {l : List DFlow} (h : w.ownsRow base 43 1 (.slice (some ⟨g, 0, none⟩) pn pc) pn (l.map DFlow.ptr)) {k : Nat} {x : DFlow} (hk : l[k]? = some x) : w.cell? ⟨g, k, none⟩ = some (.pointer (some ⟨x.pb, 0, none⟩)) := by
  have e := World.ownsRow.cells h (g := g) rfl k x.ptr (by rw [List.getElem?_map, hk]; rfl)
  rw [add_plain, Nat.zero_add] at e
  exact e
theorem drag_few {w : World} {b lb : Nat} {R : Nat → Prop} {d : DSt} (h : DragAt w b lb R d) : d.flows.length ≤ 1000 := by
  obtain ⟨A, n, cap, PA, pn, pcap, h⟩ := h
  exact h.few
section
variable {w0 w : World} {F : Nat → Prop} {sb lb b : Nat} {L : SLog} {d : DSt} {last : Int}
set_option maxHeartbeats 8000000 in
theorem callx_neg (kk client surface nn other px py tm back acts : Int) (fo : ByteArray) (A : Option Addr) (len cap : Nat) (h : LQ w0 w F sb lb b L d last) (hk9 : kk < 0 ∨ 8 < kk) (hn : nn < 0) :
    Calls Try.prog 27 #[.pointer (some ⟨sb, 0, none⟩), .agg #[.int .i64 kk, .int .i64 client, .int .i64 surface, .int .i64 nn, .int .i64 other, .int .i64 px, .int .i64 py, .int .i64 tm, .int .u32 back, .string fo, .slice A len cap, .int .i64 acts]] w (CallOut w0 F sb lb b L d last [] false 0 w) := by
  obtain ⟨R, PA, pn, pc, h⟩ := h
  have HP := Lib.hid h
  have HNR : Hid (∀ x, F x → x < w.heap.size) := Lib.hid (fun x hx => (h.lo x hx).2)
  have HRF : Hid (∀ x, R x → F x) := Lib.hid (fun x hx => h.cov x (.inl hx))
  have HNE : Hid (F sb ∧ F lb) := Lib.hid ⟨h.cov sb (.inr (.inl rfl)), h.cov lb (.inr (.inr (.inl rfl)))⟩
  have hsl := h.ls.at_.lt
  obtain ⟨q0, q1, q2, q3⟩ := h.ls.at_.cells
  have hb0 := (Chg.refl (fun _ => False) _).alloc (.cells #[.slice none 0 0, .bool false, .int .i64 0] 63) |>.at_ (at_new w (.cells #[.int .i64 kk, .int .i64 client, .int .i64 surface, .int .i64 nn, .int .i64 other, .int .i64 px, .int .i64 py, .int .i64 tm, .int .u32 back, .string fo, .slice A len cap, .int .i64 acts] 67)) (fun q => q)
  have hb1 := at_new2 w (.cells #[.int .i64 kk, .int .i64 client, .int .i64 surface, .int .i64 nn, .int .i64 other, .int .i64 px, .int .i64 py, .int .i64 tm, .int .u32 back, .string fo, .slice A len cap, .int .i64 acts] 67) (.cells #[.slice none 0 0, .bool false, .int .i64 0] 63)
  have HS := Lib.hid (((Chg.refl (fun _ => False) w).alloc (.cells #[.int .i64 kk, .int .i64 client, .int .i64 surface, .int .i64 nn, .int .i64 other, .int .i64 px, .int .i64 py, .int .i64 tm, .int .u32 back, .string fo, .slice A len cap, .int .i64 acts] 67)).alloc (.cells #[.slice none 0 0, .bool false, .int .i64 0] 63))
  have HL := Lib.hid (h.ls.keep HS.out)
  have HK := Lib.hid (Chg.of_same (S := F) HS.out)
  have HB0 := Lib.hid hb0
  have HB1 := Lib.hid hb1
  have HSZ := Lib.hid (lt_of_at hb1)
  have HROW := Lib.hid (row_chg h.row HS.out (fun _ _ q => q))
  have KEEP : Hid (∀ w' : World, SessAt w' sb lb b last PA pn pc → w'.heap[w.heap.size]? = some (.cells #[.int .i64 kk, .int .i64 client, .int .i64 surface, .int .i64 nn, .int .i64 other, .int .i64 px, .int .i64 py, .int .i64 tm, .int .u32 back, .string fo, .slice A len cap, .int .i64 acts] 67 (0, 0)) → w'.cell? ⟨sb, 0, none⟩ = some (.pointer (some ⟨lb, 0, none⟩)) ∧ w'.cell? ⟨sb, 1, none⟩ = some (.pointer (some ⟨b, 0, none⟩)) ∧ w'.cell? ⟨sb, 2, none⟩ = some (.int .u32 last) ∧ w'.cell? ⟨sb, 3, none⟩ = some (.slice PA pn pc) ∧ w'.cell? ⟨w.heap.size, 1, none⟩ = some (.int .i64 client) ∧ w'.cell? ⟨w.heap.size, 2, none⟩ = some (.int .i64 surface) ∧ w'.cell? ⟨w.heap.size, 3, none⟩ = some (.int .i64 nn) ∧ w'.cell? ⟨w.heap.size, 4, none⟩ = some (.int .i64 other) ∧ w'.cell? ⟨w.heap.size, 5, none⟩ = some (.int .i64 px) ∧ w'.cell? ⟨w.heap.size, 6, none⟩ = some (.int .i64 py) ∧ w'.cell? ⟨w.heap.size, 7, none⟩ = some (.int .i64 tm) ∧ w'.cell? ⟨w.heap.size, 8, none⟩ = some (.int .u32 back) ∧ w'.cell? ⟨w.heap.size, 9, none⟩ = some (.string fo) ∧ w'.cell? ⟨w.heap.size, 10, none⟩ = some (.slice A len cap) ∧ w'.cell? ⟨w.heap.size, 11, none⟩ = some (.int .i64 acts)) := Lib.hid (fun w' h1 h2 => ⟨h1.cells.1, h1.cells.2.1, h1.cells.2.2.1, h1.cells.2.2.2, (opc h2).2⟩)
  have hkk : (kk == 0) = false ∧ (kk == 1) = false ∧ (kk == 2) = false ∧ (kk == 3) = false ∧ (kk == 4) = false ∧ (kk == 5) = false ∧ (kk == 6) = false ∧ (kk == 7) = false ∧ (kk == 8) = false := by
    refine ⟨?_, ?_, ?_, ?_, ?_, ?_, ?_, ?_, ?_⟩ <;> (simp; omega)
  obtain ⟨k0, k1, k2, k3, k4, k5, k6, k7, k8⟩ := hkk
  have hpn : pn = d.flows.length := by have h1 := h.row.1; rw [List.length_map] at h1; omega
  have hfew := drag_few h.ls.ses.drag
  have hnn : nn < 0 := by omega
  have hnd : decide (0 ≤ nn) = false := decide_eq_false (by omega)
  have hne : decide (nn < 0) = true := decide_eq_true hnn
  clear h hb0 hb1 hk9 hn
  go_enter Try.func27, Try.ntmps27
  go_wp2_with fail
  have HL := Lib.hid (HL.out.keep ((Chg.refl (fun _ => False) _).drew))
  have HK := Lib.hid (HK.out.drew)
  have HB0 := Lib.hid ((Chg.refl (fun _ => False) _).drew.at_ HB0.out (fun q => q))
  have HB1 := Lib.hid ((Chg.refl (fun _ => False) _).drew.at_ HB1.out (fun q => q))
  have HSZ := Lib.hid (lt_of_at HB1.out)
  have HROW := Lib.hid (row_chg HROW.out ((Chg.refl (fun _ => False) _).drew) (fun _ _ q => q))
  have hcel := KEEP.out _ HL.out.at_ HB0.out
  refine region_path (S := (fun w' => w'.cell? ⟨sb, 0, none⟩ = some (.pointer (some ⟨lb, 0, none⟩)) ∧ w'.cell? ⟨sb, 1, none⟩ = some (.pointer (some ⟨b, 0, none⟩)) ∧ w'.cell? ⟨sb, 2, none⟩ = some (.int .u32 last) ∧ w'.cell? ⟨sb, 3, none⟩ = some (.slice PA pn pc) ∧ w'.cell? ⟨w.heap.size, 1, none⟩ = some (.int .i64 client) ∧ w'.cell? ⟨w.heap.size, 2, none⟩ = some (.int .i64 surface) ∧ w'.cell? ⟨w.heap.size, 3, none⟩ = some (.int .i64 nn) ∧ w'.cell? ⟨w.heap.size, 4, none⟩ = some (.int .i64 other) ∧ w'.cell? ⟨w.heap.size, 5, none⟩ = some (.int .i64 px) ∧ w'.cell? ⟨w.heap.size, 6, none⟩ = some (.int .i64 py) ∧ w'.cell? ⟨w.heap.size, 7, none⟩ = some (.int .i64 tm) ∧ w'.cell? ⟨w.heap.size, 8, none⟩ = some (.int .u32 back) ∧ w'.cell? ⟨w.heap.size, 9, none⟩ = some (.string fo) ∧ w'.cell? ⟨w.heap.size, 10, none⟩ = some (.slice A len cap) ∧ w'.cell? ⟨w.heap.size, 11, none⟩ = some (.int .i64 acts))) 99 [(0, true), (1, true), (2, true), (3, true), (4, true), (5, true), (6, true), (7, true), (8, true), (9, true), (10, true), (11, true), (12, true)] (by kernel_rfl) (by kernel_rfl) (by kernel_rfl) hcel ?_
  refine path_read (i := 0) (v := ?v78_0) rfl (by rfl) (fun _ _ _ h => h) ?hy78_0 ?_
  case hy78_0 => ((intro w hSw; (try dsimp only at hSw); go_simp) <;> (try with_reducible rfl))
  try simp only [Act.put, List.setIfInBounds_toArray, List.set_cons_zero, List.set_cons_succ]
  refine path_read (i := 1) (v := ?v78_1) rfl (by rfl) (fun _ _ _ h => h) ?hy78_1 ?_
  case hy78_1 => ((intro w hSw; (try dsimp only at hSw); go_simp) <;> (try with_reducible rfl))
  try simp only [Act.put, List.setIfInBounds_toArray, List.set_cons_zero, List.set_cons_succ]
  refine path_read (i := 2) (v := ?v78_2) rfl (by rfl) (fun _ _ _ h => h) ?hy78_2 ?_
  case hy78_2 => ((intro w hSw; (try dsimp only at hSw); go_simp) <;> (try with_reducible rfl))
  try simp only [Act.put, List.setIfInBounds_toArray, List.set_cons_zero, List.set_cons_succ]
  refine path_read (i := 3) (v := ?v78_3) rfl (by rfl) (fun _ _ _ h => h) ?hy78_3 ?_
  case hy78_3 => ((intro w hSw; (try dsimp only at hSw); go_simp) <;> (try with_reducible rfl))
  try simp only [Act.put, List.setIfInBounds_toArray, List.set_cons_zero, List.set_cons_succ]
  refine path_pass (i := 4) rfl (by rfl) (fun _ _ _ h => h) ?_
  try simp only [Act.put, List.setIfInBounds_toArray, List.set_cons_zero, List.set_cons_succ]
  refine path_pass (i := 5) rfl (by rfl) (fun _ _ _ h => h) ?_
  try simp only [Act.put, List.setIfInBounds_toArray, List.set_cons_zero, List.set_cons_succ]
  refine path_pass (i := 6) rfl (by rfl) (fun _ _ _ h => h) ?_
  try simp only [Act.put, List.setIfInBounds_toArray, List.set_cons_zero, List.set_cons_succ]
  refine path_pass (i := 7) rfl (by rfl) (fun _ _ _ h => h) ?_
  try simp only [Act.put, List.setIfInBounds_toArray, List.set_cons_zero, List.set_cons_succ]
  refine path_pass (i := 8) rfl (by rfl) (fun _ _ _ h => h) ?_
  try simp only [Act.put, List.setIfInBounds_toArray, List.set_cons_zero, List.set_cons_succ]
  refine path_pass (i := 9) rfl (by rfl) (fun _ _ _ h => h) ?_
  try simp only [Act.put, List.setIfInBounds_toArray, List.set_cons_zero, List.set_cons_succ]
  refine path_pass (i := 10) rfl (by rfl) (fun _ _ _ h => h) ?_
  try simp only [Act.put, List.setIfInBounds_toArray, List.set_cons_zero, List.set_cons_succ]
  refine path_pass (i := 11) rfl (by rfl) (fun _ _ _ h => h) ?_
  try simp only [Act.put, List.setIfInBounds_toArray, List.set_cons_zero, List.set_cons_succ]
  refine path_read (i := 12) (v := ?v78_12) rfl (by rfl) (fun _ _ _ h => h) ?hy78_12 ?_
  case hy78_12 => ((intro w hSw; (try dsimp only at hSw); go_simp) <;> (try with_reducible rfl))
  try simp only [Act.put, List.setIfInBounds_toArray, List.set_cons_zero, List.set_cons_succ]
  refine path_end ?_
  clear hcel
  generalize hwd : World.drew _ = wd at *
  clear hwd
  have r0 := (res_cells HB1.out).1
  have r1 := (res_cells HB1.out).2.1
  have r2 := (res_cells HB1.out).2.2
  have rf := frozen_at HB1.out
  have rl := lt_of_at HB1.out
  go_wp2
  exact bodyPost_ret (results_cell1 Try.results27 rfl (run_load_res (res_set _ _ _ HB1.out))) rfl (call_done false 0 HP.out HL.out (HROW.out) HP.out.far (fun x q => Or.inl (HRF.out x q)) (fun g q => Or.inl (HP.out.cov g (.inr (.inr (.inr q))))) HK.out HB1.out (by omega) (fun q => by have := HNR.out _ (HRF.out _ q); omega) (fun q => by have := HNR.out _ (HP.out.cov _ (.inr (.inr (.inr q)))); omega) (World.ownsRow_nil _ (w.heap.size + 2) _ _) (by omega))
set_option maxHeartbeats 8000000 in
theorem callx_far (kk client surface nn other px py tm back acts : Int) (fo : ByteArray) (A : Option Addr) (len cap : Nat) (h : LQ w0 w F sb lb b L d last) (hk9 : kk < 0 ∨ 8 < kk) (hn : (d.flows.length : Int) ≤ nn) :
    Calls Try.prog 27 #[.pointer (some ⟨sb, 0, none⟩), .agg #[.int .i64 kk, .int .i64 client, .int .i64 surface, .int .i64 nn, .int .i64 other, .int .i64 px, .int .i64 py, .int .i64 tm, .int .u32 back, .string fo, .slice A len cap, .int .i64 acts]] w (CallOut w0 F sb lb b L d last [] false 0 w) := by
  obtain ⟨R, PA, pn, pc, h⟩ := h
  have HP := Lib.hid h
  have HNR : Hid (∀ x, F x → x < w.heap.size) := Lib.hid (fun x hx => (h.lo x hx).2)
  have HRF : Hid (∀ x, R x → F x) := Lib.hid (fun x hx => h.cov x (.inl hx))
  have HNE : Hid (F sb ∧ F lb) := Lib.hid ⟨h.cov sb (.inr (.inl rfl)), h.cov lb (.inr (.inr (.inl rfl)))⟩
  have hsl := h.ls.at_.lt
  obtain ⟨q0, q1, q2, q3⟩ := h.ls.at_.cells
  have hb0 := (Chg.refl (fun _ => False) _).alloc (.cells #[.slice none 0 0, .bool false, .int .i64 0] 63) |>.at_ (at_new w (.cells #[.int .i64 kk, .int .i64 client, .int .i64 surface, .int .i64 nn, .int .i64 other, .int .i64 px, .int .i64 py, .int .i64 tm, .int .u32 back, .string fo, .slice A len cap, .int .i64 acts] 67)) (fun q => q)
  have hb1 := at_new2 w (.cells #[.int .i64 kk, .int .i64 client, .int .i64 surface, .int .i64 nn, .int .i64 other, .int .i64 px, .int .i64 py, .int .i64 tm, .int .u32 back, .string fo, .slice A len cap, .int .i64 acts] 67) (.cells #[.slice none 0 0, .bool false, .int .i64 0] 63)
  have HS := Lib.hid (((Chg.refl (fun _ => False) w).alloc (.cells #[.int .i64 kk, .int .i64 client, .int .i64 surface, .int .i64 nn, .int .i64 other, .int .i64 px, .int .i64 py, .int .i64 tm, .int .u32 back, .string fo, .slice A len cap, .int .i64 acts] 67)).alloc (.cells #[.slice none 0 0, .bool false, .int .i64 0] 63))
  have HL := Lib.hid (h.ls.keep HS.out)
  have HK := Lib.hid (Chg.of_same (S := F) HS.out)
  have HB0 := Lib.hid hb0
  have HB1 := Lib.hid hb1
  have HSZ := Lib.hid (lt_of_at hb1)
  have HROW := Lib.hid (row_chg h.row HS.out (fun _ _ q => q))
  have KEEP : Hid (∀ w' : World, SessAt w' sb lb b last PA pn pc → w'.heap[w.heap.size]? = some (.cells #[.int .i64 kk, .int .i64 client, .int .i64 surface, .int .i64 nn, .int .i64 other, .int .i64 px, .int .i64 py, .int .i64 tm, .int .u32 back, .string fo, .slice A len cap, .int .i64 acts] 67 (0, 0)) → w'.cell? ⟨sb, 0, none⟩ = some (.pointer (some ⟨lb, 0, none⟩)) ∧ w'.cell? ⟨sb, 1, none⟩ = some (.pointer (some ⟨b, 0, none⟩)) ∧ w'.cell? ⟨sb, 2, none⟩ = some (.int .u32 last) ∧ w'.cell? ⟨sb, 3, none⟩ = some (.slice PA pn pc) ∧ w'.cell? ⟨w.heap.size, 1, none⟩ = some (.int .i64 client) ∧ w'.cell? ⟨w.heap.size, 2, none⟩ = some (.int .i64 surface) ∧ w'.cell? ⟨w.heap.size, 3, none⟩ = some (.int .i64 nn) ∧ w'.cell? ⟨w.heap.size, 4, none⟩ = some (.int .i64 other) ∧ w'.cell? ⟨w.heap.size, 5, none⟩ = some (.int .i64 px) ∧ w'.cell? ⟨w.heap.size, 6, none⟩ = some (.int .i64 py) ∧ w'.cell? ⟨w.heap.size, 7, none⟩ = some (.int .i64 tm) ∧ w'.cell? ⟨w.heap.size, 8, none⟩ = some (.int .u32 back) ∧ w'.cell? ⟨w.heap.size, 9, none⟩ = some (.string fo) ∧ w'.cell? ⟨w.heap.size, 10, none⟩ = some (.slice A len cap) ∧ w'.cell? ⟨w.heap.size, 11, none⟩ = some (.int .i64 acts)) := Lib.hid (fun w' h1 h2 => ⟨h1.cells.1, h1.cells.2.1, h1.cells.2.2.1, h1.cells.2.2.2, (opc h2).2⟩)
  have hkk : (kk == 0) = false ∧ (kk == 1) = false ∧ (kk == 2) = false ∧ (kk == 3) = false ∧ (kk == 4) = false ∧ (kk == 5) = false ∧ (kk == 6) = false ∧ (kk == 7) = false ∧ (kk == 8) = false := by
    refine ⟨?_, ?_, ?_, ?_, ?_, ?_, ?_, ?_, ?_⟩ <;> (simp; omega)
  obtain ⟨k0, k1, k2, k3, k4, k5, k6, k7, k8⟩ := hkk
  have hpn : pn = d.flows.length := by have h1 := h.row.1; rw [List.length_map] at h1; omega
  have hfew := drag_few h.ls.ses.drag
  have hnn : 0 ≤ nn := by omega
  have hnd : decide (0 ≤ nn) = true := decide_eq_true hnn
  have hne : decide (nn < 0) = false := decide_eq_false (by omega)
  have hnp : ¬ nn < (pn : Int) := by omega
  have hnq : decide (nn < (pn : Int)) = false := decide_eq_false hnp
  have hpm : (pn : Int) ≤ 1000 := by omega
  clear h hb0 hb1 hk9 hn
  go_enter Try.func27, Try.ntmps27
  go_wp2_with fail
  have HL := Lib.hid (HL.out.keep ((Chg.refl (fun _ => False) _).drew))
  have HK := Lib.hid (HK.out.drew)
  have HB0 := Lib.hid ((Chg.refl (fun _ => False) _).drew.at_ HB0.out (fun q => q))
  have HB1 := Lib.hid ((Chg.refl (fun _ => False) _).drew.at_ HB1.out (fun q => q))
  have HSZ := Lib.hid (lt_of_at HB1.out)
  have HROW := Lib.hid (row_chg HROW.out ((Chg.refl (fun _ => False) _).drew) (fun _ _ q => q))
  have hcel := KEEP.out _ HL.out.at_ HB0.out
  refine region_path (S := (fun w' => w'.cell? ⟨sb, 0, none⟩ = some (.pointer (some ⟨lb, 0, none⟩)) ∧ w'.cell? ⟨sb, 1, none⟩ = some (.pointer (some ⟨b, 0, none⟩)) ∧ w'.cell? ⟨sb, 2, none⟩ = some (.int .u32 last) ∧ w'.cell? ⟨sb, 3, none⟩ = some (.slice PA pn pc) ∧ w'.cell? ⟨w.heap.size, 1, none⟩ = some (.int .i64 client) ∧ w'.cell? ⟨w.heap.size, 2, none⟩ = some (.int .i64 surface) ∧ w'.cell? ⟨w.heap.size, 3, none⟩ = some (.int .i64 nn) ∧ w'.cell? ⟨w.heap.size, 4, none⟩ = some (.int .i64 other) ∧ w'.cell? ⟨w.heap.size, 5, none⟩ = some (.int .i64 px) ∧ w'.cell? ⟨w.heap.size, 6, none⟩ = some (.int .i64 py) ∧ w'.cell? ⟨w.heap.size, 7, none⟩ = some (.int .i64 tm) ∧ w'.cell? ⟨w.heap.size, 8, none⟩ = some (.int .u32 back) ∧ w'.cell? ⟨w.heap.size, 9, none⟩ = some (.string fo) ∧ w'.cell? ⟨w.heap.size, 10, none⟩ = some (.slice A len cap) ∧ w'.cell? ⟨w.heap.size, 11, none⟩ = some (.int .i64 acts))) 99 [(0, true), (1, true), (2, true), (3, true), (4, true), (5, true), (6, true), (7, true), (8, true), (9, true), (10, true), (11, true), (12, true)] (by kernel_rfl) (by kernel_rfl) (by kernel_rfl) hcel ?_
  refine path_read (i := 0) (v := ?v79_0) rfl (by rfl) (fun _ _ _ h => h) ?hy79_0 ?_
  case hy79_0 => ((intro w hSw; (try dsimp only at hSw); go_simp) <;> (try with_reducible rfl))
  try simp only [Act.put, List.setIfInBounds_toArray, List.set_cons_zero, List.set_cons_succ]
  refine path_read (i := 1) (v := ?v79_1) rfl (by rfl) (fun _ _ _ h => h) ?hy79_1 ?_
  case hy79_1 => ((intro w hSw; (try dsimp only at hSw); go_simp) <;> (try with_reducible rfl))
  try simp only [Act.put, List.setIfInBounds_toArray, List.set_cons_zero, List.set_cons_succ]
  refine path_read (i := 2) (v := ?v79_2) rfl (by rfl) (fun _ _ _ h => h) ?hy79_2 ?_
  case hy79_2 => ((intro w hSw; (try dsimp only at hSw); go_simp) <;> (try with_reducible rfl))
  try simp only [Act.put, List.setIfInBounds_toArray, List.set_cons_zero, List.set_cons_succ]
  refine path_read (i := 3) (v := ?v79_3) rfl (by rfl) (fun _ _ _ h => h) ?hy79_3 ?_
  case hy79_3 => ((intro w hSw; (try dsimp only at hSw); go_simp) <;> (try with_reducible rfl))
  try simp only [Act.put, List.setIfInBounds_toArray, List.set_cons_zero, List.set_cons_succ]
  refine path_read (i := 4) (v := ?v79_4) rfl (by rfl) (fun _ _ _ h => h) ?hy79_4 ?_
  case hy79_4 => ((intro w hSw; (try dsimp only at hSw); go_simp) <;> (try with_reducible rfl))
  try simp only [Act.put, List.setIfInBounds_toArray, List.set_cons_zero, List.set_cons_succ]
  refine path_read (i := 5) (v := ?v79_5) rfl (by rfl) (fun _ _ _ h => h) ?hy79_5 ?_
  case hy79_5 => ((intro w hSw; (try dsimp only at hSw); go_simp) <;> (try with_reducible rfl))
  try simp only [Act.put, List.setIfInBounds_toArray, List.set_cons_zero, List.set_cons_succ]
  refine path_read (i := 6) (v := ?v79_6) rfl (by rfl) (fun _ _ _ h => h) ?hy79_6 ?_
  case hy79_6 => ((intro w hSw; (try dsimp only at hSw); go_simp) <;> (try with_reducible rfl))
  try simp only [Act.put, List.setIfInBounds_toArray, List.set_cons_zero, List.set_cons_succ]
  refine path_read (i := 7) (v := ?v79_7) rfl (by rfl) (fun _ _ _ h => h) ?hy79_7 ?_
  case hy79_7 => ((intro w hSw; (try dsimp only at hSw); go_simp) <;> (try with_reducible rfl))
  try simp only [Act.put, List.setIfInBounds_toArray, List.set_cons_zero, List.set_cons_succ]
  refine path_read (i := 8) (v := ?v79_8) rfl (by rfl) (fun _ _ _ h => h) ?hy79_8 ?_
  case hy79_8 => ((intro w hSw; (try dsimp only at hSw); go_simp) <;> (try with_reducible rfl))
  try simp only [Act.put, List.setIfInBounds_toArray, List.set_cons_zero, List.set_cons_succ]
  refine path_read (i := 9) (v := ?v79_9) rfl (by rfl) (fun _ _ _ h => h) ?hy79_9 ?_
  case hy79_9 => ((intro w hSw; (try dsimp only at hSw); go_simp) <;> (try with_reducible rfl))
  try simp only [Act.put, List.setIfInBounds_toArray, List.set_cons_zero, List.set_cons_succ]
  refine path_read (i := 10) (v := ?v79_10) rfl (by rfl) (fun _ _ _ h => h) ?hy79_10 ?_
  case hy79_10 => ((intro w hSw; (try dsimp only at hSw); go_simp) <;> (try with_reducible rfl))
  try simp only [Act.put, List.setIfInBounds_toArray, List.set_cons_zero, List.set_cons_succ]
  refine path_read (i := 11) (v := ?v79_11) rfl (by rfl) (fun _ _ _ h => h) ?hy79_11 ?_
  case hy79_11 => ((intro w hSw; (try dsimp only at hSw); go_simp) <;> (try with_reducible rfl))
  try simp only [Act.put, List.setIfInBounds_toArray, List.set_cons_zero, List.set_cons_succ]
  refine path_read (i := 12) (v := ?v79_12) rfl (by rfl) (fun _ _ _ h => h) ?hy79_12 ?_
  case hy79_12 => ((intro w hSw; (try dsimp only at hSw); go_simp) <;> (try with_reducible rfl))
  try simp only [Act.put, List.setIfInBounds_toArray, List.set_cons_zero, List.set_cons_succ]
  refine path_end ?_
  clear hcel
  generalize hwd : World.drew _ = wd at *
  clear hwd
  have r0 := (res_cells HB1.out).1
  have r1 := (res_cells HB1.out).2.1
  have r2 := (res_cells HB1.out).2.2
  have rf := frozen_at HB1.out
  have rl := lt_of_at HB1.out
  go_wp2
  exact bodyPost_ret (results_cell1 Try.results27 rfl (run_load_res (res_set _ _ _ HB1.out))) rfl (call_done false 0 HP.out HL.out (HROW.out) HP.out.far (fun x q => Or.inl (HRF.out x q)) (fun g q => Or.inl (HP.out.cov g (.inr (.inr (.inr q))))) HK.out HB1.out (by omega) (fun q => by have := HNR.out _ (HRF.out _ q); omega) (fun q => by have := HNR.out _ (HP.out.cov _ (.inr (.inr (.inr q)))); omega) (World.ownsRow_nil _ (w.heap.size + 2) _ _) (by omega))
set_option maxHeartbeats 8000000 in
theorem callx_yes (kk client surface other px py tm back acts : Int) (fo : ByteArray) (A : Option Addr) (len cap : Nat) (h : LQ w0 w F sb lb b L d last) (hk9 : kk < 0 ∨ 8 < kk) (k : Nat) (x : DFlow) (hx : d.flows[k]? = some x) :
    Calls Try.prog 27 #[.pointer (some ⟨sb, 0, none⟩), .agg #[.int .i64 kk, .int .i64 client, .int .i64 surface, .int .i64 (k : Int), .int .i64 other, .int .i64 px, .int .i64 py, .int .i64 tm, .int .u32 back, .string fo, .slice A len cap, .int .i64 acts]] w (CallOut w0 F sb lb b L { d with flows := d.flows.set k { x with q := x.q.grant 1 } } last [] false (x.q.grE 1) w) := by
  obtain ⟨R, PA, pn, pc, h⟩ := h
  obtain ⟨g, rfl⟩ := row_form h.row hx
  have hgc := row_cell h.row hx
  have hgl := (World.ownsRow.lt h.row g rfl).2
  have HX := Lib.hid hx
  have HP := Lib.hid h
  have HNR : Hid (∀ x, F x → x < w.heap.size) := Lib.hid (fun x hx => (h.lo x hx).2)
  have HRF : Hid (∀ x, R x → F x) := Lib.hid (fun x hx => h.cov x (.inl hx))
  have HNE : Hid (F sb ∧ F lb) := Lib.hid ⟨h.cov sb (.inr (.inl rfl)), h.cov lb (.inr (.inr (.inl rfl)))⟩
  have hsl := h.ls.at_.lt
  obtain ⟨q0, q1, q2, q3⟩ := h.ls.at_.cells
  have hb0 := (Chg.refl (fun _ => False) _).alloc (.cells #[.slice none 0 0, .bool false, .int .i64 0] 63) |>.at_ (at_new w (.cells #[.int .i64 kk, .int .i64 client, .int .i64 surface, .int .i64 (k : Int), .int .i64 other, .int .i64 px, .int .i64 py, .int .i64 tm, .int .u32 back, .string fo, .slice A len cap, .int .i64 acts] 67)) (fun q => q)
  have hb1 := at_new2 w (.cells #[.int .i64 kk, .int .i64 client, .int .i64 surface, .int .i64 (k : Int), .int .i64 other, .int .i64 px, .int .i64 py, .int .i64 tm, .int .u32 back, .string fo, .slice A len cap, .int .i64 acts] 67) (.cells #[.slice none 0 0, .bool false, .int .i64 0] 63)
  have HS := Lib.hid (((Chg.refl (fun _ => False) w).alloc (.cells #[.int .i64 kk, .int .i64 client, .int .i64 surface, .int .i64 (k : Int), .int .i64 other, .int .i64 px, .int .i64 py, .int .i64 tm, .int .u32 back, .string fo, .slice A len cap, .int .i64 acts] 67)).alloc (.cells #[.slice none 0 0, .bool false, .int .i64 0] 63))
  have HL := Lib.hid (h.ls.keep HS.out)
  have HK := Lib.hid (Chg.of_same (S := F) HS.out)
  have HB0 := Lib.hid hb0
  have HB1 := Lib.hid hb1
  have HSZ := Lib.hid (lt_of_at hb1)
  have HROW := Lib.hid (row_chg h.row HS.out (fun _ _ q => q))
  have KEEP : Hid (∀ w' : World, SessAt w' sb lb b last (some ⟨g, 0, none⟩) pn pc → w'.heap[w.heap.size]? = some (.cells #[.int .i64 kk, .int .i64 client, .int .i64 surface, .int .i64 (k : Int), .int .i64 other, .int .i64 px, .int .i64 py, .int .i64 tm, .int .u32 back, .string fo, .slice A len cap, .int .i64 acts] 67 (0, 0)) → w'.cell? ⟨sb, 0, none⟩ = some (.pointer (some ⟨lb, 0, none⟩)) ∧ w'.cell? ⟨sb, 1, none⟩ = some (.pointer (some ⟨b, 0, none⟩)) ∧ w'.cell? ⟨sb, 2, none⟩ = some (.int .u32 last) ∧ w'.cell? ⟨sb, 3, none⟩ = some (.slice (some ⟨g, 0, none⟩) pn pc) ∧ w'.cell? ⟨w.heap.size, 1, none⟩ = some (.int .i64 client) ∧ w'.cell? ⟨w.heap.size, 2, none⟩ = some (.int .i64 surface) ∧ w'.cell? ⟨w.heap.size, 3, none⟩ = some (.int .i64 (k : Int)) ∧ w'.cell? ⟨w.heap.size, 4, none⟩ = some (.int .i64 other) ∧ w'.cell? ⟨w.heap.size, 5, none⟩ = some (.int .i64 px) ∧ w'.cell? ⟨w.heap.size, 6, none⟩ = some (.int .i64 py) ∧ w'.cell? ⟨w.heap.size, 7, none⟩ = some (.int .i64 tm) ∧ w'.cell? ⟨w.heap.size, 8, none⟩ = some (.int .u32 back) ∧ w'.cell? ⟨w.heap.size, 9, none⟩ = some (.string fo) ∧ w'.cell? ⟨w.heap.size, 10, none⟩ = some (.slice A len cap) ∧ w'.cell? ⟨w.heap.size, 11, none⟩ = some (.int .i64 acts)) := Lib.hid (fun w' h1 h2 => ⟨h1.cells.1, h1.cells.2.1, h1.cells.2.2.1, h1.cells.2.2.2, (opc h2).2⟩)
  have hkk : (kk == 0) = false ∧ (kk == 1) = false ∧ (kk == 2) = false ∧ (kk == 3) = false ∧ (kk == 4) = false ∧ (kk == 5) = false ∧ (kk == 6) = false ∧ (kk == 7) = false ∧ (kk == 8) = false := by
    refine ⟨?_, ?_, ?_, ?_, ?_, ?_, ?_, ?_, ?_⟩ <;> (simp; omega)
  obtain ⟨k0, k1, k2, k3, k4, k5, k6, k7, k8⟩ := hkk
  have hpn : pn = d.flows.length := by have h1 := h.row.1; rw [List.length_map] at h1; omega
  have hfew := drag_few h.ls.ses.drag
  have hkl := (List.getElem?_eq_some_iff.1 hx).1
  have hnn : (0 : Int) ≤ k := by omega
  have hnd : decide ((0 : Int) ≤ k) = true := decide_eq_true hnn
  have hne : decide ((k : Int) < 0) = false := decide_eq_false (by omega)
  have hnp : (k : Int) < (pn : Int) := by omega
  have hnq : decide ((k : Int) < (pn : Int)) = true := decide_eq_true hnp
  have hpm : (pn : Int) ≤ 1000 := by omega
  clear h hb0 hb1 hk9 hx
  have KEEP2 : Hid (∀ w' : World, SessAt w' sb lb b last (some ⟨g, 0, none⟩) pn pc → w'.heap[w.heap.size]? = some (.cells #[.int .i64 kk, .int .i64 client, .int .i64 surface, .int .i64 (k : Int), .int .i64 other, .int .i64 px, .int .i64 py, .int .i64 tm, .int .u32 back, .string fo, .slice A len cap, .int .i64 acts] 67 (0, 0)) → w'.cell? ⟨g, k, none⟩ = some (.pointer (some ⟨x.pb, 0, none⟩)) → w'.cell? ⟨sb, 0, none⟩ = some (.pointer (some ⟨lb, 0, none⟩)) ∧ w'.cell? ⟨sb, 1, none⟩ = some (.pointer (some ⟨b, 0, none⟩)) ∧ w'.cell? ⟨sb, 2, none⟩ = some (.int .u32 last) ∧ w'.cell? ⟨sb, 3, none⟩ = some (.slice (some ⟨g, 0, none⟩) pn pc) ∧ w'.cell? ⟨w.heap.size, 1, none⟩ = some (.int .i64 client) ∧ w'.cell? ⟨w.heap.size, 2, none⟩ = some (.int .i64 surface) ∧ w'.cell? ⟨w.heap.size, 3, none⟩ = some (.int .i64 (k : Int)) ∧ w'.cell? ⟨w.heap.size, 4, none⟩ = some (.int .i64 other) ∧ w'.cell? ⟨w.heap.size, 5, none⟩ = some (.int .i64 px) ∧ w'.cell? ⟨w.heap.size, 6, none⟩ = some (.int .i64 py) ∧ w'.cell? ⟨w.heap.size, 7, none⟩ = some (.int .i64 tm) ∧ w'.cell? ⟨w.heap.size, 8, none⟩ = some (.int .u32 back) ∧ w'.cell? ⟨w.heap.size, 9, none⟩ = some (.string fo) ∧ w'.cell? ⟨w.heap.size, 10, none⟩ = some (.slice A len cap) ∧ w'.cell? ⟨w.heap.size, 11, none⟩ = some (.int .i64 acts) ∧ w'.cell? ⟨g, k, none⟩ = some (.pointer (some ⟨x.pb, 0, none⟩))) := Lib.hid (fun w' h1 h2 h3 => ⟨h1.cells.1, h1.cells.2.1, h1.cells.2.2.1, h1.cells.2.2.2, (opc h2).2.1, (opc h2).2.2.1, (opc h2).2.2.2.1, (opc h2).2.2.2.2.1, (opc h2).2.2.2.2.2.1, (opc h2).2.2.2.2.2.2.1, (opc h2).2.2.2.2.2.2.2.1, (opc h2).2.2.2.2.2.2.2.2.1, (opc h2).2.2.2.2.2.2.2.2.2.1, (opc h2).2.2.2.2.2.2.2.2.2.2.1, (opc h2).2.2.2.2.2.2.2.2.2.2.2, h3⟩)
  go_enter Try.func27, Try.ntmps27
  go_wp2_with fail
  have HL := Lib.hid (HL.out.keep ((Chg.refl (fun _ => False) _).drew))
  have HK := Lib.hid (HK.out.drew)
  have HB0 := Lib.hid ((Chg.refl (fun _ => False) _).drew.at_ HB0.out (fun q => q))
  have HB1 := Lib.hid ((Chg.refl (fun _ => False) _).drew.at_ HB1.out (fun q => q))
  have HSZ := Lib.hid (lt_of_at HB1.out)
  have HROW := Lib.hid (row_chg HROW.out ((Chg.refl (fun _ => False) _).drew) (fun _ _ q => q))
  have hcel := KEEP.out _ HL.out.at_ HB0.out
  refine region_path (S := (fun w' => w'.cell? ⟨sb, 0, none⟩ = some (.pointer (some ⟨lb, 0, none⟩)) ∧ w'.cell? ⟨sb, 1, none⟩ = some (.pointer (some ⟨b, 0, none⟩)) ∧ w'.cell? ⟨sb, 2, none⟩ = some (.int .u32 last) ∧ w'.cell? ⟨sb, 3, none⟩ = some (.slice (some ⟨g, 0, none⟩) pn pc) ∧ w'.cell? ⟨w.heap.size, 1, none⟩ = some (.int .i64 client) ∧ w'.cell? ⟨w.heap.size, 2, none⟩ = some (.int .i64 surface) ∧ w'.cell? ⟨w.heap.size, 3, none⟩ = some (.int .i64 (k : Int)) ∧ w'.cell? ⟨w.heap.size, 4, none⟩ = some (.int .i64 other) ∧ w'.cell? ⟨w.heap.size, 5, none⟩ = some (.int .i64 px) ∧ w'.cell? ⟨w.heap.size, 6, none⟩ = some (.int .i64 py) ∧ w'.cell? ⟨w.heap.size, 7, none⟩ = some (.int .i64 tm) ∧ w'.cell? ⟨w.heap.size, 8, none⟩ = some (.int .u32 back) ∧ w'.cell? ⟨w.heap.size, 9, none⟩ = some (.string fo) ∧ w'.cell? ⟨w.heap.size, 10, none⟩ = some (.slice A len cap) ∧ w'.cell? ⟨w.heap.size, 11, none⟩ = some (.int .i64 acts))) 99 [(0, true), (1, true), (2, true), (3, true), (4, true), (5, true), (6, true), (7, true), (8, true), (9, true), (10, true), (11, true), (12, true)] (by kernel_rfl) (by kernel_rfl) (by kernel_rfl) hcel ?_
  refine path_read (i := 0) (v := ?v80_0) rfl (by rfl) (fun _ _ _ h => h) ?hy80_0 ?_
  case hy80_0 => ((intro w hSw; (try dsimp only at hSw); go_simp) <;> (try with_reducible rfl))
  try simp only [Act.put, List.setIfInBounds_toArray, List.set_cons_zero, List.set_cons_succ]
  refine path_read (i := 1) (v := ?v80_1) rfl (by rfl) (fun _ _ _ h => h) ?hy80_1 ?_
  case hy80_1 => ((intro w hSw; (try dsimp only at hSw); go_simp) <;> (try with_reducible rfl))
  try simp only [Act.put, List.setIfInBounds_toArray, List.set_cons_zero, List.set_cons_succ]
  refine path_read (i := 2) (v := ?v80_2) rfl (by rfl) (fun _ _ _ h => h) ?hy80_2 ?_
  case hy80_2 => ((intro w hSw; (try dsimp only at hSw); go_simp) <;> (try with_reducible rfl))
  try simp only [Act.put, List.setIfInBounds_toArray, List.set_cons_zero, List.set_cons_succ]
  refine path_read (i := 3) (v := ?v80_3) rfl (by rfl) (fun _ _ _ h => h) ?hy80_3 ?_
  case hy80_3 => ((intro w hSw; (try dsimp only at hSw); go_simp) <;> (try with_reducible rfl))
  try simp only [Act.put, List.setIfInBounds_toArray, List.set_cons_zero, List.set_cons_succ]
  refine path_read (i := 4) (v := ?v80_4) rfl (by rfl) (fun _ _ _ h => h) ?hy80_4 ?_
  case hy80_4 => ((intro w hSw; (try dsimp only at hSw); go_simp) <;> (try with_reducible rfl))
  try simp only [Act.put, List.setIfInBounds_toArray, List.set_cons_zero, List.set_cons_succ]
  refine path_read (i := 5) (v := ?v80_5) rfl (by rfl) (fun _ _ _ h => h) ?hy80_5 ?_
  case hy80_5 => ((intro w hSw; (try dsimp only at hSw); go_simp) <;> (try with_reducible rfl))
  try simp only [Act.put, List.setIfInBounds_toArray, List.set_cons_zero, List.set_cons_succ]
  refine path_read (i := 6) (v := ?v80_6) rfl (by rfl) (fun _ _ _ h => h) ?hy80_6 ?_
  case hy80_6 => ((intro w hSw; (try dsimp only at hSw); go_simp) <;> (try with_reducible rfl))
  try simp only [Act.put, List.setIfInBounds_toArray, List.set_cons_zero, List.set_cons_succ]
  refine path_read (i := 7) (v := ?v80_7) rfl (by rfl) (fun _ _ _ h => h) ?hy80_7 ?_
  case hy80_7 => ((intro w hSw; (try dsimp only at hSw); go_simp) <;> (try with_reducible rfl))
  try simp only [Act.put, List.setIfInBounds_toArray, List.set_cons_zero, List.set_cons_succ]
  refine path_read (i := 8) (v := ?v80_8) rfl (by rfl) (fun _ _ _ h => h) ?hy80_8 ?_
  case hy80_8 => ((intro w hSw; (try dsimp only at hSw); go_simp) <;> (try with_reducible rfl))
  try simp only [Act.put, List.setIfInBounds_toArray, List.set_cons_zero, List.set_cons_succ]
  refine path_read (i := 9) (v := ?v80_9) rfl (by rfl) (fun _ _ _ h => h) ?hy80_9 ?_
  case hy80_9 => ((intro w hSw; (try dsimp only at hSw); go_simp) <;> (try with_reducible rfl))
  try simp only [Act.put, List.setIfInBounds_toArray, List.set_cons_zero, List.set_cons_succ]
  refine path_read (i := 10) (v := ?v80_10) rfl (by rfl) (fun _ _ _ h => h) ?hy80_10 ?_
  case hy80_10 => ((intro w hSw; (try dsimp only at hSw); go_simp) <;> (try with_reducible rfl))
  try simp only [Act.put, List.setIfInBounds_toArray, List.set_cons_zero, List.set_cons_succ]
  refine path_read (i := 11) (v := ?v80_11) rfl (by rfl) (fun _ _ _ h => h) ?hy80_11 ?_
  case hy80_11 => ((intro w hSw; (try dsimp only at hSw); go_simp) <;> (try with_reducible rfl))
  try simp only [Act.put, List.setIfInBounds_toArray, List.set_cons_zero, List.set_cons_succ]
  refine path_read (i := 12) (v := ?v80_12) rfl (by rfl) (fun _ _ _ h => h) ?hy80_12 ?_
  case hy80_12 => ((intro w hSw; (try dsimp only at hSw); go_simp) <;> (try with_reducible rfl))
  try simp only [Act.put, List.setIfInBounds_toArray, List.set_cons_zero, List.set_cons_succ]
  refine path_end ?_
  clear hcel
  generalize hwd : World.drew _ = wd at *
  clear hwd
  have g0 := HL.out.at_.cells.1
  have g1 := HL.out.at_.cells.2.1
  have g3 := HL.out.at_.cells.2.2.2
  have gl := HL.out.at_.lt
  go_wp2_with fail
  have HL := Lib.hid (HL.out.keep ((Chg.refl (fun _ => False) _).drew))
  have HK := Lib.hid (HK.out.drew)
  have HB0 := Lib.hid ((Chg.refl (fun _ => False) _).drew.at_ HB0.out (fun q => q))
  have HB1 := Lib.hid ((Chg.refl (fun _ => False) _).drew.at_ HB1.out (fun q => q))
  have HSZ := Lib.hid (lt_of_at HB1.out)
  have HROW := Lib.hid (row_chg HROW.out ((Chg.refl (fun _ => False) _).drew) (fun _ _ q => q))
  have hcel := KEEP2.out _ HL.out.at_ HB0.out (row_cell HROW.out HX.out)
  refine region_path (S := (fun w' => w'.cell? ⟨sb, 0, none⟩ = some (.pointer (some ⟨lb, 0, none⟩)) ∧ w'.cell? ⟨sb, 1, none⟩ = some (.pointer (some ⟨b, 0, none⟩)) ∧ w'.cell? ⟨sb, 2, none⟩ = some (.int .u32 last) ∧ w'.cell? ⟨sb, 3, none⟩ = some (.slice (some ⟨g, 0, none⟩) pn pc) ∧ w'.cell? ⟨w.heap.size, 1, none⟩ = some (.int .i64 client) ∧ w'.cell? ⟨w.heap.size, 2, none⟩ = some (.int .i64 surface) ∧ w'.cell? ⟨w.heap.size, 3, none⟩ = some (.int .i64 (k : Int)) ∧ w'.cell? ⟨w.heap.size, 4, none⟩ = some (.int .i64 other) ∧ w'.cell? ⟨w.heap.size, 5, none⟩ = some (.int .i64 px) ∧ w'.cell? ⟨w.heap.size, 6, none⟩ = some (.int .i64 py) ∧ w'.cell? ⟨w.heap.size, 7, none⟩ = some (.int .i64 tm) ∧ w'.cell? ⟨w.heap.size, 8, none⟩ = some (.int .u32 back) ∧ w'.cell? ⟨w.heap.size, 9, none⟩ = some (.string fo) ∧ w'.cell? ⟨w.heap.size, 10, none⟩ = some (.slice A len cap) ∧ w'.cell? ⟨w.heap.size, 11, none⟩ = some (.int .i64 acts) ∧ w'.cell? ⟨g, k, none⟩ = some (.pointer (some ⟨x.pb, 0, none⟩)))) 99 [(0, true), (1, true), (2, true), (3, true), (4, true), (5, true), (6, true), (7, true), (8, false), (9, true), (10, false)] (by kernel_rfl) (by kernel_rfl) (by kernel_rfl) hcel ?_
  refine path_read (i := 0) (v := ?v81_0) rfl (by rfl) (fun _ _ _ h => h) ?hy81_0 ?_
  case hy81_0 => ((intro w hSw; (try dsimp only at hSw); go_simp) <;> (try with_reducible rfl))
  try simp only [Act.put, List.setIfInBounds_toArray, List.set_cons_zero, List.set_cons_succ]
  refine path_read (i := 1) (v := ?v81_1) rfl (by rfl) (fun _ _ _ h => h) ?hy81_1 ?_
  case hy81_1 => ((intro w hSw; (try dsimp only at hSw); go_simp) <;> (try with_reducible rfl))
  try simp only [Act.put, List.setIfInBounds_toArray, List.set_cons_zero, List.set_cons_succ]
  refine path_read (i := 2) (v := ?v81_2) rfl (by rfl) (fun _ _ _ h => h) ?hy81_2 ?_
  case hy81_2 => ((intro w hSw; (try dsimp only at hSw); go_simp) <;> (try with_reducible rfl))
  try simp only [Act.put, List.setIfInBounds_toArray, List.set_cons_zero, List.set_cons_succ]
  refine path_read (i := 3) (v := ?v81_3) rfl (by rfl) (fun _ _ _ h => h) ?hy81_3 ?_
  case hy81_3 => ((intro w hSw; (try dsimp only at hSw); go_simp) <;> (try with_reducible rfl))
  try simp only [Act.put, List.setIfInBounds_toArray, List.set_cons_zero, List.set_cons_succ]
  refine path_read (i := 4) (v := ?v81_4) rfl (by rfl) (fun _ _ _ h => h) ?hy81_4 ?_
  case hy81_4 => ((intro w hSw; (try dsimp only at hSw); go_simp) <;> (try with_reducible rfl))
  try simp only [Act.put, List.setIfInBounds_toArray, List.set_cons_zero, List.set_cons_succ]
  refine path_read (i := 5) (v := ?v81_5) rfl (by rfl) (fun _ _ _ h => h) ?hy81_5 ?_
  case hy81_5 => ((intro w hSw; (try dsimp only at hSw); go_simp) <;> (try with_reducible rfl))
  try simp only [Act.put, List.setIfInBounds_toArray, List.set_cons_zero, List.set_cons_succ]
  refine path_read (i := 6) (v := ?v81_6) rfl (by rfl) (fun _ _ _ h => h) ?hy81_6 ?_
  case hy81_6 => ((intro w hSw; (try dsimp only at hSw); go_simp) <;> (try with_reducible rfl))
  try simp only [Act.put, List.setIfInBounds_toArray, List.set_cons_zero, List.set_cons_succ]
  refine path_read (i := 7) (v := ?v81_7) rfl (by rfl) (fun _ _ _ h => h) ?hy81_7 ?_
  case hy81_7 => ((intro w hSw; (try dsimp only at hSw); go_simp) <;> (try with_reducible rfl))
  try simp only [Act.put, List.setIfInBounds_toArray, List.set_cons_zero, List.set_cons_succ]
  refine path_do (i := 8) rfl ?_
  go_wp2_with ((first | (go_at_call 35; go_loud (refine (ls_grant (x.q.grant 1) (x.q.grE 1) 1 HL.out HX.out (by omega) rfl rfl).mono ?_; rintro e w2 ⟨rfl, hl, hk⟩; have HL := Lib.hid hl; clear hl; have HROW := Lib.hid (row_chg HROW.out hk (fun x hx q => (HP.out.far x hx).1 q)); have HB0 := Lib.hid (hk.at_ HB0.out (fun q => by have := HNR.out _ (HRF.out _ q); omega)); have HB1 := Lib.hid (hk.at_ HB1.out (fun q => by have := HNR.out _ (HRF.out _ q); omega)); have HSZ := Lib.hid (Nat.lt_of_lt_of_le HSZ.out hk.size); have HK := Lib.hid (HK.out.trans (hk.mono (fun x _ q => HRF.out _ q))); have r0 := (res_cells HB1.out).1; have r1 := (res_cells HB1.out).2.1; have r2 := (res_cells HB1.out).2.2; have rf := frozen_at HB1.out; have rl := lt_of_at HB1.out; have g0 := HL.out.at_.cells.1; have g1 := HL.out.at_.cells.2.1; have g2 := HL.out.at_.cells.2.2.1; have g3 := HL.out.at_.cells.2.2.2; have gf := frozen_at HL.out.at_; have gl := HL.out.at_.lt; clear hk))))
  (first | refine ⟨.inr ?keep81_8, ?_⟩ | refine ⟨?keep81_8, ?_⟩)
  case keep81_8 => ((first | exact KEEP2.out _ (HL.out.at_.chg (res_chg _ (w.heap.size + 1) _ _ _) (fun q => by have := HNR.out _ HNE.out.1; omega)) ((res_chg _ (w.heap.size + 1) _ _ _).at_ HB0.out (fun q => by omega)) ((res_chg _ (w.heap.size + 1) _ _ _).cell (row_cell HROW.out HX.out) (fun q => by have := HNR.out _ (HP.out.cov g (.inr (.inr (.inr rfl)))); omega)) | exact KEEP2.out _ HL.out.at_ HB0.out (row_cell HROW.out HX.out)))
  try simp only [Act.put, List.setIfInBounds_toArray, List.set_cons_zero, List.set_cons_succ]
  refine path_read (i := 9) (v := ?v81_9) rfl (by rfl) (fun _ _ _ h => h) ?hy81_9 ?_
  case hy81_9 => ((intro w hSw; (try dsimp only at hSw); go_simp) <;> (try with_reducible rfl))
  try simp only [Act.put, List.setIfInBounds_toArray, List.set_cons_zero, List.set_cons_succ]
  refine path_do (i := 10) rfl ?_
  go_wp2_with ((first | (go_at_call 35; go_loud (refine (ls_grant (x.q.grant 1) (x.q.grE 1) 1 HL.out HX.out (by omega) rfl rfl).mono ?_; rintro e w2 ⟨rfl, hl, hk⟩; have HL := Lib.hid hl; clear hl; have HROW := Lib.hid (row_chg HROW.out hk (fun x hx q => (HP.out.far x hx).1 q)); have HB0 := Lib.hid (hk.at_ HB0.out (fun q => by have := HNR.out _ (HRF.out _ q); omega)); have HB1 := Lib.hid (hk.at_ HB1.out (fun q => by have := HNR.out _ (HRF.out _ q); omega)); have HSZ := Lib.hid (Nat.lt_of_lt_of_le HSZ.out hk.size); have HK := Lib.hid (HK.out.trans (hk.mono (fun x _ q => HRF.out _ q))); have r0 := (res_cells HB1.out).1; have r1 := (res_cells HB1.out).2.1; have r2 := (res_cells HB1.out).2.2; have rf := frozen_at HB1.out; have rl := lt_of_at HB1.out; have g0 := HL.out.at_.cells.1; have g1 := HL.out.at_.cells.2.1; have g2 := HL.out.at_.cells.2.2.1; have g3 := HL.out.at_.cells.2.2.2; have gf := frozen_at HL.out.at_; have gl := HL.out.at_.lt; clear hk))))
  (first | refine ⟨.inr ?keep81_10, ?_⟩ | refine ⟨?keep81_10, ?_⟩)
  case keep81_10 => ((first | exact KEEP2.out _ (HL.out.at_.chg (res_chg _ (w.heap.size + 1) _ _ _) (fun q => by have := HNR.out _ HNE.out.1; omega)) ((res_chg _ (w.heap.size + 1) _ _ _).at_ HB0.out (fun q => by omega)) ((res_chg _ (w.heap.size + 1) _ _ _).cell (row_cell HROW.out HX.out) (fun q => by have := HNR.out _ (HP.out.cov g (.inr (.inr (.inr rfl)))); omega)) | exact KEEP2.out _ HL.out.at_ HB0.out (row_cell HROW.out HX.out)))
  try simp only [Act.put, List.setIfInBounds_toArray, List.set_cons_zero, List.set_cons_succ]
  refine path_end ?_
  clear hcel
  go_wp2
  exact bodyPost_ret (results_cell1 Try.results27 rfl (run_load_res (res_set _ _ _ HB1.out))) rfl (call_done false _ HP.out HL.out (by rw [show ({ d with flows := d.flows.set k { x with q := x.q.grant 1 } } : DSt).flows.map DFlow.ptr = d.flows.map DFlow.ptr from dset_ptr HX.out]; exact HROW.out) HP.out.far (fun x q => Or.inl (HRF.out x q)) (fun g q => Or.inl (HP.out.cov g (.inr (.inr (.inr q))))) HK.out HB1.out (by omega) (fun q => by have := HNR.out _ (HRF.out _ q); omega) (fun q => by have := HNR.out _ (HP.out.cov _ (.inr (.inr (.inr q)))); omega) (World.ownsRow_nil _ (w.heap.size + 2) _ _) (by omega))
end
end Go.Proofs.Yteolilggeaffaaa

namespace Go.Proofs.Yteolilggeaffaaa
open Go.RowKit

/-- A call x from the state (d, L, last): what it leaves and returns. -/
def StepR (x : DOp) (d : DSt) (L : SLog) (last : Int) (d' : DSt) (L' : SLog) (last' : Int) (ds : List Dv) (ok : Bool) (er : Int) : Prop :=
  (x.kind = 0 ∧ d' = d ∧ L' = L.issue x.client x.surface x.n ∧ last' = lastOf last (L.issueN x.client x.surface x.n) ∧ ds = [] ∧ ok = false ∧ er = 0) ∨
  (x.kind = 1 ∧ d' = d.start L x.client x.surface x.other x.o.fs x.o.acts (IntKind.u32.wrap (last - x.back)) ∧ L' = L ∧ last' = last ∧ ds = [] ∧ ok = false ∧ er = d.startE L x.client x.surface x.other x.o.fs x.o.acts (IntKind.u32.wrap (last - x.back))) ∨
  (x.kind = 2 ∧ d' = d.mv x.client x.surface x.time ∧ L' = d.mvL L x.client x.surface ∧ last' = lastFold last ds ∧ ds = d.mvD L x.client x.surface x.x x.y x.time ∧ ok = false ∧ er = 0) ∨
  (x.kind = 3 ∧ d' = d.accept x.client x.f ∧ L' = L ∧ last' = last ∧ ds = [] ∧ ok = false ∧ er = d.acceptE x.client x.f) ∨
  (x.kind = 4 ∧ d' = d.setAct x.client x.n x.other ∧ L' = L ∧ last' = last ∧ ds = [] ∧ ok = false ∧ er = d.setActE x.client x.n x.other) ∨
  (x.kind = 5 ∧ d' = d.dropS ∧ L' = L ∧ last' = last ∧ ds = d.dropD ∧ ok = d.dropB ∧ er = 0) ∨
  (x.kind = 6 ∧ L' = L ∧ last' = last ∧ ds = [] ∧ ((d.rcvE x.client x.f x.n ≠ 0 ∧ d' = d ∧ ok = false ∧ er = d.rcvE x.client x.f x.n) ∨ (d.rcvE x.client x.f x.n = 0 ∧ ok = true ∧ er = 0 ∧ ∃ pb Rp, d' = { d with flows := d.flows ++ [⟨pb, Rp, PSt.new x.n⟩] }))) ∨
  (x.kind = 7 ∧ d' = d.fin x.client ∧ L' = L ∧ last' = last ∧ ds = [] ∧ ok = false ∧ er = d.finE x.client) ∨
  (x.kind = 8 ∧ d' = d.cancS ∧ L' = L ∧ last' = last ∧ ds = d.cancD ∧ ok = false ∧ er = 0) ∨
  ((x.kind < 0 ∨ 8 < x.kind) ∧ L' = L ∧ last' = last ∧ ds = [] ∧ ok = false ∧ (((x.n < 0 ∨ (d.flows.length : Int) ≤ x.n) ∧ d' = d ∧ er = 0) ∨ ∃ (k : Nat) (z : DFlow), x.n = k ∧ d.flows[k]? = some z ∧ d' = { d with flows := d.flows.set k { z with q := z.q.grant 1 } } ∧ er = z.q.grE 1))
def CallX (w0 : World) (F : Nat → Prop) (sb lb b : Nat) (L : SLog) (d : DSt) (last : Int) (x : DOp) (w : World) (e : Ending) (w' : World) : Prop :=
  ∃ d' L' last' ds ok er, StepR x d L last d' L' last' ds ok er ∧ CallOut w0 F sb lb b L' d' last' (ds.map Dv.cells) ok er w e w'
section
variable {w0 w : World} {F : Nat → Prop} {sb lb b : Nat} {L : SLog} {d : DSt} {last : Int}
theorem calls_imp {P : Program} {f : FuncId} {args : Array Value} {Q Q' : Ending → World → Prop} (h : Calls P f args w Q) (hi : ∀ e w', Q e w' → Q' e w') : Calls P f args w Q' := h.mono hi
theorem call_any (x : DOp) (hx : x.ok w0) (h : LQ w0 w F sb lb b L d last) (ho : d.offers < 1000000) (hf : d.flows.length < 1000) :
    Calls Try.prog 27 #[.pointer (some ⟨sb, 0, none⟩), .agg x.cells.toArray] w (CallX w0 F sb lb b L d last x w) := by
  obtain ⟨kk, client, surface, nn, other, px, py, tm, back, fo, ⟨A, len, cap, fs, acts⟩⟩ := x
  obtain ⟨hk, hc, hs, hn, hoo, hx1, hy1, ht, hb, hfo, ho1⟩ := hx
  have hc2 : client ≤ 9223372036854775807 := hc.2
  have hs2 : surface ≤ 9223372036854775807 := hs.2
  have ha : SArg w0 A len cap fs := ho1.1
  have hkk : kk = 0 ∨ kk = 1 ∨ kk = 2 ∨ kk = 3 ∨ kk = 4 ∨ kk = 5 ∨ kk = 6 ∨ kk = 7 ∨ kk = 8 ∨ (kk < 0 ∨ 8 < kk) := by omega
  clear hk hc hs hn hoo hx1 hy1 ht hb hfo ho1
  show Calls Try.prog 27 #[_, .agg #[.int .i64 kk, .int .i64 client, .int .i64 surface, .int .i64 nn, .int .i64 other, .int .i64 px, .int .i64 py, .int .i64 tm, .int .u32 back, .string fo, .slice A len cap, .int .i64 acts]] w _
  rcases hkk with rfl | rfl | rfl | rfl | rfl | rfl | rfl | rfl | rfl | hk9
  · exact (call0 client surface nn other px py tm back acts fo A len cap h hc2 hs2).mono fun e w' q => ⟨_, _, _, [], false, 0, .inl ⟨rfl, rfl, rfl, rfl, rfl, rfl, rfl⟩, q⟩
  · exact (call1 client surface nn other px py tm back acts fo A len cap h fs ha).mono fun e w' q => ⟨_, _, _, [], false, _, .inr (.inl ⟨rfl, rfl, rfl, rfl, rfl, rfl, rfl⟩), q⟩
  · exact (call2 client surface nn other px py tm back acts fo A len cap h hc2 hs2 ho).mono fun e w' q => ⟨_, _, _, _, false, 0, .inr (.inr (.inl ⟨rfl, rfl, rfl, rfl, rfl, rfl, rfl⟩)), q⟩
  · exact (call3 client surface nn other px py tm back acts fo A len cap h).mono fun e w' q => ⟨_, _, _, [], false, _, .inr (.inr (.inr (.inl ⟨rfl, rfl, rfl, rfl, rfl, rfl, rfl⟩))), q⟩
  · exact (call4 client surface nn other px py tm back acts fo A len cap h).mono fun e w' q => ⟨_, _, _, [], false, _, .inr (.inr (.inr (.inr (.inl ⟨rfl, rfl, rfl, rfl, rfl, rfl, rfl⟩)))), q⟩
  · refine (call5 client surface nn other px py tm back acts fo A len cap h).mono fun e w' q => ⟨_, _, _, d.dropD, _, 0, .inr (.inr (.inr (.inr (.inr (.inl ⟨rfl, rfl, rfl, rfl, rfl, rfl, rfl⟩))))), ?_⟩
    rw [← drop_eq]; exact q
  · by_cases h0 : d.rcvE client fo nn = 0
    · refine (call6 client surface nn other px py tm back acts fo A len cap h h0 hf).mono fun e w' q => ?_
      obtain ⟨pb, Rp, q⟩ := q
      exact ⟨_, _, _, [], true, 0, .inr (.inr (.inr (.inr (.inr (.inr (.inl ⟨rfl, rfl, rfl, rfl, .inr ⟨h0, rfl, rfl, pb, Rp, rfl⟩⟩)))))), q⟩
    · exact (call6_no client surface nn other px py tm back acts fo A len cap h h0).mono fun e w' q => ⟨_, _, _, [], false, _, .inr (.inr (.inr (.inr (.inr (.inr (.inl ⟨rfl, rfl, rfl, rfl, .inl ⟨h0, rfl, rfl, rfl⟩⟩)))))), q⟩
  · exact (call7 client surface nn other px py tm back acts fo A len cap h).mono fun e w' q => ⟨_, _, _, [], false, _, .inr (.inr (.inr (.inr (.inr (.inr (.inr (.inl ⟨rfl, rfl, rfl, rfl, rfl, rfl, rfl⟩))))))), q⟩
  · refine (call8 client surface nn other px py tm back acts fo A len cap h).mono fun e w' q => ⟨_, _, _, d.cancD, false, 0, .inr (.inr (.inr (.inr (.inr (.inr (.inr (.inr (.inl ⟨rfl, rfl, rfl, rfl, rfl, rfl, rfl⟩)))))))), ?_⟩
    rw [← canc_eq]; exact q
  · by_cases h1 : nn < 0
    · exact (callx_neg kk client surface nn other px py tm back acts fo A len cap h hk9 h1).mono fun e w' q => ⟨_, _, _, [], false, 0, .inr (.inr (.inr (.inr (.inr (.inr (.inr (.inr (.inr ⟨hk9, rfl, rfl, rfl, rfl, .inl ⟨.inl h1, rfl, rfl⟩⟩)))))))), q⟩
    · by_cases h2 : (d.flows.length : Int) ≤ nn
      · exact (callx_far kk client surface nn other px py tm back acts fo A len cap h hk9 h2).mono fun e w' q => ⟨_, _, _, [], false, 0, .inr (.inr (.inr (.inr (.inr (.inr (.inr (.inr (.inr ⟨hk9, rfl, rfl, rfl, rfl, .inl ⟨.inr h2, rfl, rfl⟩⟩)))))))), q⟩
      · obtain ⟨k, rfl⟩ : ∃ k : Nat, nn = k := ⟨nn.toNat, by omega⟩
        have hkl : k < d.flows.length := by omega
        obtain ⟨z, hz⟩ : ∃ z, d.flows[k]? = some z := ⟨_, List.getElem?_eq_getElem hkl⟩
        exact (callx_yes kk client surface other px py tm back acts fo A len cap h hk9 k z hz).mono fun e w' q => ⟨_, _, _, [], false, _, .inr (.inr (.inr (.inr (.inr (.inr (.inr (.inr (.inr ⟨hk9, rfl, rfl, rfl, rfl, .inr ⟨k, z, rfl, hz, rfl, rfl⟩⟩)))))))), q⟩
end
/-! ### How much one call adds -/
theorem offers_mv (d : DSt) (c s t : Int) : (d.mv c s t).offers ≤ d.offers + 1 := by
  unfold DSt.mv DSt.moveCS
  split
  · split
    · rw [(tick_all d t).2.2.2.1]; omega
    · have e : (if posS c s = 0 then d.offers else d.offers + 1) ≤ d.offers + 1 := by split <;> omega
      exact e
  · omega
theorem step_few {x : DOp} {d : DSt} {L : SLog} {last : Int} {d' : DSt} {L' : SLog} {last' : Int} {ds : List Dv} {ok : Bool} {er : Int} (h : StepR x d L last d' L' last' ds ok er) : d'.offers ≤ d.offers + 1 ∧ d'.flows.length ≤ d.flows.length + 1 := by
  have hcl : ∀ e : DSt, e.cancS.flows.length = e.flows.length := fun e => by
    have := congrArg List.length (ptrs_cancS e)
    simpa using this
  have hco : ∀ e : DSt, e.cancS.offers = e.offers := fun e => by unfold DSt.cancS; split <;> rfl
  rcases h with h | h | h | h | h | h | h | h | h | h
  · rw [h.2.1]; omega
  · rw [h.2.1, flows_start]
    refine ⟨?_, by omega⟩
    unfold DSt.start
    split
    · show d.offers ≤ _; omega
    · omega
  · rw [h.2.1, flows_mv]
    exact ⟨offers_mv d _ _ _, by omega⟩
  · rw [h.2.1, flows_accept]
    refine ⟨?_, by omega⟩
    unfold DSt.accept
    split
    · show d.offers ≤ _; omega
    · omega
  · rw [h.2.1, flows_setAct]
    refine ⟨?_, by omega⟩
    unfold DSt.setAct
    split
    · show d.offers ≤ _; omega
    · omega
  · rw [h.2.1]
    unfold DSt.dropS
    split
    · split
      · exact ⟨by show d.offers ≤ _; omega, by show d.flows.length ≤ _; omega⟩
      · rw [hcl, hco]; omega
    · omega
  · rcases h.2.2.2.2 with h | h
    · rw [h.2.1]; omega
    · obtain ⟨pb, Rp, rfl⟩ := h.2.2.2
      exact ⟨by show d.offers ≤ _; omega, by simp⟩
  · rw [h.2.1, flows_fin]
    refine ⟨?_, by omega⟩
    unfold DSt.fin
    split
    · show d.offers ≤ _; omega
    · omega
  · rw [h.2.1, hcl, hco]; omega
  · rcases h.2.2.2.2.2 with h | h
    · rw [h.2.1]; omega
    · obtain ⟨k, z, _, _, rfl, _⟩ := h
      exact ⟨by show d.offers ≤ _; omega, by simp⟩
end Go.Proofs.Yteolilggeaffaaa

namespace Go.Proofs.Yteolilggeaffaaa
open Go.RowKit

section
variable {w0 w w' : World} {F : Nat → Prop} {sb lb b : Nat} {L : SLog} {d : DSt} {last : Int}
theorem lq_begin {R : Nat → Prop} (h : LS w0 w sb lb b R SLog.new DSt.new 0 none 0 0) : ∃ F, LQ w0 w F sb lb b SLog.new DSt.new 0 := by
  refine ⟨fun x => R x ∨ x = sb ∨ x = lb, R, none, 0, 0, h, World.ownsRow_nil _ _ _ _, fun g hg => by simp [Value.ownBlock] at hg, fun x hx => ?_, fun x hx => ?_⟩
  · rcases hx with hx | hx | hx | hx
    · exact .inl hx
    · exact .inr (.inl hx)
    · exact .inr (.inr hx)
    · simp [Value.ownBlock] at hx
  · rcases hx with hx | hx | hx
    · exact ⟨h.ses.fresh x hx, h.ses.lt x hx⟩
    · rw [hx]; exact ⟨h.new, h.at_.lt⟩
    · rw [hx]; exact ⟨h.ses.lfresh, h.ses.llt⟩
theorem LQ.cell1 (h : LQ w0 w F sb lb b L d last) : w.cell? ⟨sb, 1, none⟩ = some (.pointer (some ⟨b, 0, none⟩)) := by
  obtain ⟨R, PA, pn, pc, h⟩ := h
  exact h.ls.at_.cells.2.1
theorem LQ.cell2 (h : LQ w0 w F sb lb b L d last) : w.cell? ⟨sb, 2, none⟩ = some (.int .u32 last) := by
  obtain ⟨R, PA, pn, pc, h⟩ := h
  exact h.ls.at_.cells.2.2.1
theorem LQ.slt (h : LQ w0 w F sb lb b L d last) : sb < w.heap.size := by
  obtain ⟨R, PA, pn, pc, h⟩ := h
  exact h.ls.at_.lt
theorem LQ.logok (h : LQ w0 w F sb lb b L d last) : L.ok := by
  obtain ⟨R, PA, pn, pc, h⟩ := h
  exact h.ls.ses.log.2
theorem LQ.lo (h : LQ w0 w F sb lb b L d last) : ∀ x, F x → w0.heap.size ≤ x ∧ x < w.heap.size := by
  obtain ⟨R, PA, pn, pc, h⟩ := h
  exact h.lo
theorem lq_start (w : World) : Calls Try.prog 22 #[] w fun e w' => ∃ sb lb b F, e = .returned (.tuple #[.pointer (some ⟨sb, 0, none⟩), .bool true]) ∧ LQ w w' F sb lb b SLog.new DSt.new 0 := by
  refine (ls_begin w).mono ?_
  rintro e w' ⟨sb, lb, b, R, rfl, h⟩
  obtain ⟨F, h⟩ := lq_begin h
  exact ⟨sb, lb, b, F, rfl, h⟩
theorem lq_state (v : Int) (h : LQ w0 w F sb lb b L d last) (hv : d.state = v) : Calls Try.prog 21 #[.pointer (some ⟨b, 0, none⟩)] w fun e w' => e = .returned (.int .i64 v) ∧ LQ w0 w' F sb lb b L d last ∧ Same w w' := by
  have h2 := h
  obtain ⟨R, PA, pn, pc, h⟩ := h
  refine (ls_state v h.ls hv).mono ?_
  rintro e w' ⟨rfl, rfl⟩
  exact ⟨rfl, h2, Chg.refl _ _⟩
theorem lq_action (v : Int) (h : LQ w0 w F sb lb b L d last) (hv : d.act = v) : Calls Try.prog 15 #[.pointer (some ⟨b, 0, none⟩)] w fun e w' => e = .returned (.int .i64 v) ∧ LQ w0 w' F sb lb b L d last ∧ Same w w' := by
  have h2 := h
  obtain ⟨R, PA, pn, pc, h⟩ := h
  refine (ls_action v h.ls hv).mono ?_
  rintro e w' ⟨rfl, _, hs⟩
  exact ⟨rfl, h2.keep hs, hs⟩
end
end Go.Proofs.Yteolilggeaffaaa

namespace Go.Proofs.Yteolilggeaffaaa
open Go.RowKit

/-- What the law keeps: the target, the number of offers, whether a format was accepted. -/
structure PrS where
  cl : Int
  su : Int
  of_ : Int
  ac : Bool
def PrS.next (p : PrS) (x : Dv) : PrS := if x.k = 14 then ⟨x.c, x.s, p.of_ + 1, false⟩ else if x.k = 15 then p else ⟨0, 0, p.of_, p.ac⟩
def PrS.good (p : PrS) (st act : Int) (ok : Bool) (st2 : Int) (x : Dv) : Prop :=
  st = 1 ∧ ((x.k = 14 ∧ p.su = 0 ∧ x.code = p.of_ + 1 ∧ x.ser ≠ 0) ∨ ((x.k = 15 ∨ x.k = 16 ∨ (x.k = 17 ∧ p.ac = true ∧ act ≠ 0 ∧ ok = true ∧ st2 = 2)) ∧ x.c = p.cl ∧ x.s = p.su ∧ p.su ≠ 0))
def PrI (p : PrS) (d : DSt) : Prop :=
  p.of_ = d.offers ∧ (d.state = 1 → p.cl = d.tc ∧ p.su = d.ts ∧ (d.ts = 0 → d.tc = 0) ∧ (d.tf ≠ ByteArray.empty → p.ac = true)) ∧ (d.state ≠ 1 → p.cl = 0 ∧ p.su = 0)
def PrS.acc (p : PrS) (x : DOp) (er : Int) : PrS := if x.kind = 3 ∧ er = 0 then { p with ac := !decide (x.f = ByteArray.empty) } else p
def PrS.run (p : PrS) (ds : List Dv) : PrS := ds.foldl PrS.next p
theorem run_succ (p : PrS) (ds : List Dv) (i : Nat) (x : Dv) (h : ds[i]? = some x) : p.run (ds.take (i + 1)) = (p.run (ds.take i)).next x := by
  unfold PrS.run
  rw [List.take_add_one, h, List.foldl_append]
  rfl
theorem next_of (p : PrS) (x : Dv) : p.of_ ≤ (p.next x).of_ := by
  unfold PrS.next
  split
  · show p.of_ ≤ p.of_ + 1; omega
  · split
    · exact Int.le_refl _
    · exact Int.le_refl _
theorem run_of (ds : List Dv) : ∀ p : PrS, p.of_ ≤ (p.run ds).of_ := by
  induction ds with
  | nil => exact fun p => Int.le_refl _
  | cons x l ih => exact fun p => Int.le_trans (next_of p x) (ih (p.next x))
theorem run_bd (p : PrS) (ds : List Dv) (k : Nat) (y : Dv) (h : ds[k]? = some y) : p.of_ ≤ (p.run (ds.take k)).of_ ∧ ((p.run (ds.take k)).next y).of_ ≤ (p.run ds).of_ := by
  refine ⟨run_of _ p, ?_⟩
  rw [← run_succ p ds k y h]
  have e : p.run ds = (p.run (ds.take (k + 1))).run (ds.drop (k + 1)) := by
    unfold PrS.run
    rw [← List.foldl_append, List.take_append_drop]
  rw [e]
  exact run_of _ _
def PrS.okay (p : PrS) (st act : Int) (ok : Bool) (st2 : Int) (ds : List Dv) : Prop := ∀ (i : Nat) x, ds[i]? = some x → (p.run (ds.take i)).good st act ok st2 x
theorem okay_nil (p : PrS) (st act : Int) (ok : Bool) (st2 : Int) : p.okay st act ok st2 [] := fun i x h => by simp at h
theorem okay_one {p : PrS} {st act : Int} {ok : Bool} {st2 : Int} {x : Dv} (h : p.good st act ok st2 x) : p.okay st act ok st2 [x] := fun i y hy => by
  have hi : i = 0 := by
    have := (List.getElem?_eq_some_iff.1 hy).1
    simpa using this
  subst hi
  simp only [List.getElem?_cons_zero, Option.some.injEq] at hy
  subst hy
  exact h
theorem okay_two {p : PrS} {st act : Int} {ok : Bool} {st2 : Int} {x y : Dv} (h : p.good st act ok st2 x) (h2 : (p.next x).good st act ok st2 y) : p.okay st act ok st2 [x, y] := fun i z hz => by
  have hi : i = 0 ∨ i = 1 := by
    have := (List.getElem?_eq_some_iff.1 hz).1
    simp at this
    omega
  rcases hi with rfl | rfl
  · simp only [List.getElem?_cons_zero, Option.some.injEq] at hz
    subst hz
    exact h
  · simp only [List.getElem?_cons_succ, List.getElem?_cons_zero, Option.some.injEq] at hz
    subst hz
    exact h2
theorem pr_stay {p : PrS} {d d' : DSt} (h : PrI p d) (h1 : d'.offers = d.offers) (h2 : d'.state = d.state) (h3 : d'.tc = d.tc) (h4 : d'.ts = d.ts) (h5 : d'.tf = d.tf) : PrI p d' := by
  obtain ⟨a, b, c⟩ := h
  refine ⟨by rw [h1]; exact a, fun q => ?_, fun q => c (by rw [← h2]; exact q)⟩
  rw [h3, h4, h5]
  exact b (by rw [← h2]; exact q)
/-- The drag ends (Cancel): its leave is delivered. -/
theorem pr_canc {p : PrS} {d : DSt} (h : PrI p d) (act : Int) (ok : Bool) (st2 : Int) : p.okay d.state act ok st2 d.cancD ∧ PrI (p.run d.cancD) d.cancS := by
  obtain ⟨a, b, c⟩ := h
  have hst : d.cancS.state = 0 := by unfold DSt.cancS; split <;> rfl
  have hof : d.cancS.offers = d.offers := by unfold DSt.cancS; split <;> rfl
  unfold DSt.cancD
  by_cases h1 : d.state = 1
  · obtain ⟨b1, b2, b3, b4⟩ := b h1
    rw [if_pos h1]
    unfold DSt.leftD
    by_cases h2 : d.ts = 0
    · rw [if_pos h2]
      exact ⟨okay_nil _ _ _ _ _, by rw [hof]; exact a, fun q => by omega, fun _ => ⟨by show p.cl = 0; rw [b1]; exact b3 h2, by show p.su = 0; rw [b2]; exact h2⟩⟩
    · rw [if_neg h2]
      exact ⟨okay_one ⟨h1, .inr ⟨.inr (.inl rfl), b1.symm, b2.symm, by rw [b2]; exact h2⟩⟩, by rw [hof]; exact a, fun q => by omega, fun _ => ⟨rfl, rfl⟩⟩
  · rw [if_neg h1]
    exact ⟨okay_nil _ _ _ _ _, by rw [hof]; exact a, fun q => by omega, fun _ => c h1⟩
theorem pr_step {x : DOp} {p : PrS} {d : DSt} {L : SLog} {last : Int} {d' : DSt} {L' : SLog} {last' : Int} {ds : List Dv} {ok : Bool} {er : Int} (hL : 0 ≤ L.last ∧ L.last ≤ 4294967295) (h : PrI p d) (hr : StepR x d L last d' L' last' ds ok er) :
    (p.acc x er).okay d.state d.act ok d'.state ds ∧ PrI ((p.acc x er).run ds) d' := by
  have hacc : x.kind ≠ 3 → p.acc x er = p := fun q => by unfold PrS.acc; rw [if_neg (fun r => q r.1)]
  obtain ⟨a, b, c⟩ := h
  have h : PrI p d := ⟨a, b, c⟩
  rcases hr with hr | hr | hr | hr | hr | hr | hr | hr | hr | hr
  · rw [hacc (by omega), hr.2.1, hr.2.2.2.2.1]
    exact ⟨okay_nil _ _ _ _ _, h⟩
  · rw [hacc (by omega), hr.2.1, hr.2.2.2.2.1]
    refine ⟨okay_nil _ _ _ _ _, ?_⟩
    show PrI p _
    by_cases hs : d.startE L x.client x.surface x.other x.o.fs x.o.acts (IntKind.u32.wrap (last - x.back)) = 0
    · have hd : d.state = 0 := by
        unfold DSt.startE at hs
        by_cases q1 : min x.client x.surface < 1 ∨ x.other < 0
        · rw [if_pos q1] at hs; omega
        · rw [if_neg q1] at hs
          by_cases q2 : d.state ≠ 0
          · rw [if_pos q2] at hs; omega
          · omega
      unfold DSt.start
      rw [if_pos hs]
      obtain ⟨c1, c2⟩ := c (by omega)
      exact ⟨a, fun _ => ⟨c1, c2, fun _ => rfl, fun q => absurd rfl q⟩, fun q => absurd rfl q⟩
    · unfold DSt.start
      rw [if_neg hs]
      exact h
  · rw [hacc (by omega), hr.2.1, hr.2.2.2.2.1]
    unfold DSt.mv DSt.mvD
    by_cases h1 : d.state = 1
    · obtain ⟨b1, b2, b3, b4⟩ := b h1
      rw [if_pos h1, if_pos h1]
      have hcs : (posC x.client x.surface = 0 ∧ posS x.client x.surface = 0) ∨ (1 ≤ posC x.client x.surface ∧ 1 ≤ posS x.client x.surface) := by
        unfold posC posS
        by_cases hm : min x.client x.surface < 1
        · rw [if_pos hm, if_pos hm]; exact .inl ⟨rfl, rfl⟩
        · rw [if_neg hm, if_neg hm]; exact .inr ⟨by omega, by omega⟩
      generalize posC x.client x.surface = cc at *
      generalize posS x.client x.surface = ss at *
      have tk := tick_all d x.time
      have ttf : (d.tick x.time).tf = d.tf := by unfold DSt.tick; split <;> rfl
      unfold DSt.moveCS DSt.outD
      by_cases hq : cc = d.tc ∧ ss = d.ts
      · rw [if_pos hq, if_pos hq]
        have hi : PrI p (d.tick x.time) := pr_stay h tk.2.2.2.1 tk.1 tk.2.1 tk.2.2.1 ttf
        by_cases hs : ss = 0
        · rw [if_pos hs]
          exact ⟨okay_nil _ _ _ _ _, hi⟩
        · rw [if_neg hs]
          exact ⟨okay_one ⟨h1, .inr ⟨.inl rfl, by rw [b1]; exact hq.1, by rw [b2]; exact hq.2, by rw [b2, ← hq.2]; exact hs⟩⟩, hi⟩
      · rw [if_neg hq, if_neg hq]
        by_cases hs : ss = 0
        · have hc0 : cc = 0 := by omega
          rw [if_pos hs, if_pos hs]
          subst hs hc0
          unfold DSt.leftD
          by_cases h2 : d.ts = 0
          · exact absurd ⟨(b3 h2).symm, h2.symm⟩ hq
          · rw [if_neg h2]
            refine ⟨okay_one ⟨h1, .inr ⟨.inr (.inl rfl), b1.symm, b2.symm, by rw [b2]; exact h2⟩⟩, a, fun _ => ⟨rfl, rfl, fun _ => rfl, fun q => absurd rfl q⟩, fun q => absurd ?_ q⟩
            show (d.tick x.time).state = 1
            rw [tk.1]; exact h1
        · have hc1 : 1 ≤ cc ∧ 1 ≤ ss := by omega
          have hn : L.issueN cc ss 14 ≠ 0 := by
            have hg : good cc ss 14 = true := by unfold good; simp; omega
            unfold SLog.issueN
            rw [if_pos hg]
            have := nxt_bd hL.1 hL.2
            omega
          rw [if_neg hs, if_neg hs]
          have hst : ((d.tick x.time).aim cc ss).state = 1 := by show (d.tick x.time).state = 1; rw [tk.1]; exact h1
          have hend : ∀ p2 : PrS, p2.of_ = p.of_ → PrI (p2.next ⟨cc, ss, 14, 0, x.x, x.y, ((d.offers + 1 : Nat) : Int), 0, L.issueN cc ss 14⟩) { (d.tick x.time).aim cc ss with offers := d.offers + 1 } := fun p2 e => ⟨by show p2.of_ + 1 = ((d.offers + 1 : Nat) : Int); rw [e, a]; rfl, fun _ => ⟨rfl, rfl, fun q => by have q2 : ss = 0 := q; omega, fun q => absurd rfl q⟩, fun q => absurd hst q⟩
          unfold DSt.leftD
          by_cases h2 : d.ts = 0
          · rw [if_pos h2]
            exact ⟨okay_one ⟨h1, .inl ⟨rfl, by rw [b2]; exact h2, by show ((d.offers + 1 : Nat) : Int) = p.of_ + 1; rw [a]; rfl, hn⟩⟩, hend p rfl⟩
          · rw [if_neg h2]
            exact ⟨okay_two ⟨h1, .inr ⟨.inr (.inl rfl), b1.symm, b2.symm, by rw [b2]; exact h2⟩⟩ ⟨h1, .inl ⟨rfl, rfl, by show ((d.offers + 1 : Nat) : Int) = p.of_ + 1; rw [a]; rfl, hn⟩⟩, hend ⟨0, 0, p.of_, p.ac⟩ rfl⟩
    · rw [if_neg h1, if_neg h1]
      exact ⟨okay_nil _ _ _ _ _, h⟩
  · rw [hr.2.1, hr.2.2.2.2.1]
    refine ⟨okay_nil _ _ _ _ _, ?_⟩
    show PrI (p.acc x er) _
    have he := hr.2.2.2.2.2.2
    by_cases h0 : d.acceptE x.client x.f = 0
    · have hst : d.state = 1 := by
        unfold DSt.acceptE DSt.acc at h0
        by_cases q : d.state ≠ 1
        · rw [if_pos q] at h0
          simp at h0
        · omega
      obtain ⟨b1, b2, b3, b4⟩ := b hst
      unfold DSt.accept PrS.acc
      rw [if_pos h0, if_pos ⟨hr.1, by rw [he]; exact h0⟩]
      refine ⟨a, fun _ => ⟨b1, b2, b3, fun q => ?_⟩, fun q => absurd hst q⟩
      have q2 : ¬ x.f = ByteArray.empty := q
      simp [q2]
    · unfold DSt.accept PrS.acc
      rw [if_neg h0, if_neg (fun q => h0 (by rw [← he]; exact q.2))]
      exact h
  · rw [hacc (by omega), hr.2.1, hr.2.2.2.2.1]
    refine ⟨okay_nil _ _ _ _ _, ?_⟩
    show PrI p _
    unfold DSt.setAct
    split
    · exact pr_stay h rfl rfl rfl rfl rfl
    · exact h
  · rw [hacc (by omega), hr.2.1, hr.2.2.2.2.1]
    rw [hr.2.2.2.2.2.1]
    unfold DSt.dropD DSt.dropS
    by_cases h1 : d.state = 1
    · rw [if_pos h1, if_pos h1]
      cases hb : d.dropB
      · rw [if_neg (by simp), if_neg (by simp)]
        exact pr_canc h d.act false _
      · obtain ⟨b1, b2, b3, b4⟩ := b h1
        rw [if_pos rfl, if_pos rfl]
        have hb2 := hb
        unfold DSt.dropB at hb2
        rw [Bool.and_eq_true, Bool.and_eq_true] at hb2
        have htf : ¬ d.tf = ByteArray.empty := by simpa using hb2.2.1
        have hact : ¬ d.act = 0 := by simpa using hb2.2.2
        have hts : d.ts ≠ 0 := fun q => hact (by unfold DSt.act; rw [if_pos (.inr q)])
        exact ⟨okay_one ⟨h1, .inr ⟨.inr (.inr ⟨rfl, b4 htf, hact, rfl, rfl⟩), b1.symm, b2.symm, by rw [b2]; exact hts⟩⟩, a, fun q => by have q2 : (2 : Int) = 1 := q; omega, fun _ => ⟨rfl, rfl⟩⟩
    · rw [if_neg h1, if_neg h1]
      exact ⟨okay_nil _ _ _ _ _, h⟩
  · rw [hacc (by omega), hr.2.2.2.1]
    refine ⟨okay_nil _ _ _ _ _, ?_⟩
    show PrI p _
    rcases hr.2.2.2.2 with q | q
    · rw [q.2.1]; exact h
    · obtain ⟨pb, Rp, rfl⟩ := q.2.2.2
      exact pr_stay h rfl rfl rfl rfl rfl
  · rw [hacc (by omega), hr.2.1, hr.2.2.2.2.1]
    refine ⟨okay_nil _ _ _ _ _, ?_⟩
    show PrI p _
    by_cases h0 : d.finE x.client = 0
    · have hst : d.state = 2 := by
        unfold DSt.finE DSt.acc at h0
        by_cases q : d.state ≠ 2
        · rw [if_pos q] at h0
          simp at h0
        · omega
      unfold DSt.fin
      rw [if_pos h0]
      exact ⟨a, fun q => by have q2 : (0 : Int) = 1 := q; omega, fun _ => c (by omega)⟩
    · unfold DSt.fin
      rw [if_neg h0]
      exact h
  · rw [hacc (by omega), hr.2.1, hr.2.2.2.2.1]
    exact pr_canc h d.act ok _
  · rw [hacc (by omega), hr.2.2.2.1]
    refine ⟨okay_nil _ _ _ _ _, ?_⟩
    show PrI p _
    rcases hr.2.2.2.2.2 with q | q
    · rw [q.2.1]; exact h
    · obtain ⟨k, z, _, _, rfl, _⟩ := q
      exact pr_stay h rfl rfl rfl rfl rfl
end Go.Proofs.Yteolilggeaffaaa
