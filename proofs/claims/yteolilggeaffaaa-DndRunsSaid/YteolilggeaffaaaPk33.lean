/- Parts of the walk, packed: Row43, MV43. -/
import Derived.Test.YteolilggeaffaaaPk32
set_option linter.unusedVariables false
set_option linter.unusedSimpArgs false
set_option maxRecDepth 100000
namespace Go.Proofs.Yteolilggeaffaaa
open Go.RowKit

/-- A variable of a struct type. -/
def VarAt (w : World) (g : Nat) (T : TypeId) (cs : Array Value) : Prop := w.heap[g]? = some (.cells cs T (0, 0))
section
variable {w w' : World} {g k : Nat} {T : TypeId} {cs c2 : Array Value}
theorem VarAt.same (h : VarAt w g T cs) (q : Same w w') : VarAt w' g T cs := q.at_ h (fun q => q)
theorem VarAt.set (h : VarAt w g T cs) (c2 : Array Value) (hne : g ≠ k) : VarAt (w.setRow k c2) g T cs := by
  unfold VarAt
  rw [setRow_other _ _ _ _ hne]
  exact h
theorem VarAt.put (h : VarAt w g T cs) (c2 : Array Value) : VarAt (w.setRow g c2) g T c2 := setRow_heap _ _ _ _ _ _ h
theorem VarAt.alloc (h : VarAt w g T cs) (o : Obj) : VarAt (w.alloc o) g T cs := h.same ((Chg.refl _ _).alloc o)
theorem VarAt.new (w : World) (T : TypeId) (cs : Array Value) : VarAt (w.alloc (.cells cs T)) w.heap.size T cs := at_new _ _
theorem VarAt.drew (h : VarAt w g T cs) : VarAt w.drew g T cs := h.same ((Chg.refl _ _).drew)
theorem Chg.setRow {S : Nat → Prop} {u v : World} (h : Chg S u v) (g : Nat) (cs : Array Value) (hg : g < u.heap.size → S g) : Chg S u (v.setRow g cs) :=
  ⟨by rw [setRow_os]; exact h.os, by rw [setRow_tape]; exact h.tape, by rw [setRow_output]; exact h.output, by rw [setRow_size]; exact h.size, fun i hi hs => (setRow_other v g i cs (fun e => hs (by subst e; exact hg hi))).trans (h.block i hi hs)⟩
variable {P : Program} {ops : Array Oper} {Q : Exit → Act → World → Prop} {rest : List Oper} {a : Act} {d : Option Tmp} {ty t : TypeId} {ps : String} {ed : Array Edge}
theorem wpl_storeRow {x y : Operand} (old : Array Value) (hx : a.eval x = .pointer (some ⟨g, 0, none⟩)) (hy : a.eval y = .agg cs) (hg : VarAt w g T old) (hi : (P.info? t).map (·.size) = some cs.size) (hold : old.size = cs.size)
    (h1 : cs.all (·.oneCell') = true) (h : wpList P ops Q rest (a.put d undef) (w.setRow g cs)) : wpList P ops Q (⟨d, .store t x y, ty, ps, ed, none⟩ :: rest) a w :=
  wpl_storev x y ⟨g, 0, none⟩ hx (by rw [hy]; exact run_storeVar_row w g T t old cs hg hi hold h1) h
theorem exec_loadv {x : Operand} {A : Addr} {V : Value} (hx : a.eval x = .pointer (some A)) (hr : (loadVar t A).run P w = .ok V w) : (execOp a.eval ⟨d, .load t x, ty, ps, ed, none⟩).run P w = .ok (.value V) w := by
  unfold execOp Instr.loadAt Instr.sureAddr; simp only [hx, Sem.run_bind, Sem.run_pure, hr, Result.andThen_ok]
theorem results_cell3 {fn : Func} {p q r : Tmp} {ta tb tc : TypeId} {tmps : Array Value} {A B C : Addr} {U V Z : Value} (h : fn.results = #[.cell p ta, .cell q tb, .cell r tc]) (hp : tmps.getD p undef = .pointer (some A)) (hq : tmps.getD q undef = .pointer (some B)) (hr : tmps.getD r undef = .pointer (some C))
    (ha : (loadVar ta A).run P w = .ok U w) (hb : (loadVar tb B).run P w = .ok V w) (hc : (loadVar tc C).run P w = .ok Z w) : (results fn tmps).run P w = .ok (.tuple #[U, V, Z]) w := by
  have hp' : tmps[p]?.getD undef = .pointer (some A) := by simpa using hp
  have hq' : tmps[q]?.getD undef = .pointer (some B) := by simpa using hq
  have hr' : tmps[r]?.getD undef = .pointer (some C) := by simpa using hr
  simp [results, h, hp', hq', hr', ha, hb, hc, asAddr, Sem.run_bind, Sem.run_pure]
theorem results_cell2_tmp {fn : Func} {p q r : Tmp} {ta tb : TypeId} {tmps : Array Value} {A B : Addr} {U V : Value} (h : fn.results = #[.cell p ta, .cell q tb, .tmp r]) (hp : tmps.getD p undef = .pointer (some A)) (hq : tmps.getD q undef = .pointer (some B))
    (ha : (loadVar ta A).run P w = .ok U w) (hb : (loadVar tb B).run P w = .ok V w) : (results fn tmps).run P w = .ok (.tuple #[U, V, tmps.getD r undef]) w := by
  have hp' : tmps[p]?.getD undef = .pointer (some A) := by simpa using hp
  have hq' : tmps[q]?.getD undef = .pointer (some B) := by simpa using hq
  simp [results, h, hp', hq', ha, hb, asAddr, Sem.run_bind, Sem.run_pure]
end
/-! ### The types at hand -/
def lgc (N : Nat) (A : Option Addr) (n cap : Nat) : Array Value := #[.int .i64 N, .slice A n cap]
def rsc (V : Value) (ok : Bool) (er : Int) : Array Value := #[V, .bool ok, .int .i64 er]
theorem infoRes43 : (Try.prog.info? 63).map (fun i => i.size) = some 3 := by kernel_rfl
theorem MD.size (x : MD) : x.cells.toArray.size = 14 := rfl
theorem MD.one (x : MD) : x.cells.toArray.all (·.oneCell') = true := by simp [MD.cells, Value.oneCell']
theorem lgc_one (N : Nat) (A : Option Addr) (n cap : Nat) : (lgc N A n cap).all (·.oneCell') = true := by simp [lgc, Value.oneCell']
theorem rsc_one (A : Option Addr) (n c : Nat) (ok : Bool) (er : Int) : (rsc (.slice A n c) ok er).all (·.oneCell') = true := by simp [rsc, Value.oneCell']
section
variable {w : World} {g : Nat}
theorem VarAt.ldD {x : MD} (h : VarAt w g 56 x.cells.toArray) : (loadVar 56 ⟨g, 0, none⟩).run Try.prog w = .ok (.agg x.cells.toArray) w := run_load_md h
theorem VarAt.ldL {N : Nat} {A : Option Addr} {n cap : Nat} (h : VarAt w g 60 (lgc N A n cap)) : (loadVar 60 ⟨g, 0, none⟩).run Try.prog w = .ok (.agg (lgc N A n cap)) w := run_load_rlog h
theorem VarAt.ldR {V : Value} {ok : Bool} {er : Int} (h : VarAt w g 63 (rsc V ok er)) : (loadVar 63 ⟨g, 0, none⟩).run Try.prog w = .ok (.agg (rsc V ok er)) w :=
  run_loadMid (P := Try.prog) (C := [V, .bool ok, .int .i64 er]) 63 0 3 _ h infoRes43 Try.underlying63 rfl (by simp)
end
end Go.Proofs.Yteolilggeaffaaa

namespace Go.Proofs.Yteolilggeaffaaa
open Go.RowKit

theorem rfind_none (A : Option Addr) (N n cap base : Nat) (l : List Ent) (s : Int) (w : World) (h : SlotsAt w base A n l) (hn : n ≤ 1000) (hz : rFind l s = none) :
    Calls Try.prog 84 #[.agg #[.int .i64 N, .slice A n cap], .int .u32 s] w fun e w' => e = .returned (.tuple #[.agg #[.int .u32 0, .int .i64 0, .int .i64 0, .int .i64 0], .bool false]) ∧ Same w w' := by
  have := rFind_ok A N n cap base l s w h hn
  rw [hz] at this
  exact this
theorem rfind_some (z : Ent) (A : Option Addr) (N n cap base : Nat) (l : List Ent) (s : Int) (w : World) (h : SlotsAt w base A n l) (hn : n ≤ 1000) (hz : rFind l s = some z) :
    Calls Try.prog 84 #[.agg #[.int .i64 N, .slice A n cap], .int .u32 s] w fun e w' => e = .returned (.tuple #[.agg #[.int .u32 z.s, .int .i64 z.c, .int .i64 z.f, .int .i64 z.k], .bool true]) ∧ Same w w' := by
  have := rFind_ok A N n cap base l s w h hn
  rw [hz] at this
  exact this
theorem rcheck_v (v : Int) (A : Option Addr) (N n cap base : Nat) (l : List Ent) (s client kinds : Int) (w : World) (h : SlotsAt w base A n l) (hn : n ≤ 1000) (hk : ∀ e ∈ l, 0 ≤ e.k ∧ e.k ≤ 62) (hv : rCheck l s client kinds = v) :
    Calls Try.prog 85 #[.agg #[.int .i64 N, .slice A n cap], .int .u32 s, .int .i64 client, .int .i64 kinds] w fun e w' => e = .returned (.int .i64 v) ∧ Same w w' := by
  subst hv; exact rCheck_ok A N n cap base l s client kinds w h hn hk
theorem rlatest_v (v : Int) (A : Option Addr) (N n cap base : Nat) (l : List Ent) (client kinds : Int) (w : World) (h : SlotsAt w base A n l) (hn : n ≤ 1000) (hk : ∀ e ∈ l, 0 ≤ e.k ∧ e.k ≤ 62) (hv : rLatest l client kinds = v) :
    Calls Try.prog 86 #[.agg #[.int .i64 N, .slice A n cap], .int .i64 client, .int .i64 kinds] w fun e w' => e = .returned (.int .u32 v) ∧ Same w w' := by
  subst hv; exact rLatest_ok A N n cap base l client kinds w h hn hk
theorem SlotsAt.same {w w' : World} {base : Nat} {A : Option Addr} {n : Nat} {l : List Ent} (h : SlotsAt w base A n l) (k : Same w w') : SlotsAt w' base A n l := h.chg k (fun _ _ _ _ q => q)
set_option maxRecDepth 100000 in
set_option maxHeartbeats 4000000 in
theorem mvalid_ok (bv : Bool) (A : Option Addr) (N n cap : Nat) (l : List Ent) (client surface s : Int) (w : World) (h : SlotsAt w 0 A n l) (hn : n ≤ 1000) (hk : ∀ e ∈ l, 0 ≤ e.k ∧ e.k ≤ 62) (hv : rvalidB l client surface s = bv) :
    Calls Try.prog 71 #[.agg #[.int .i64 N, .slice A n cap], .int .i64 client, .int .i64 surface, .int .u32 s] w fun e w' => e = .returned (.bool bv) ∧ Same w w' := by
  subst hv
  have HA := Lib.hid (And.intro h hk)
  clear h hk
  cases hz : rFind l s with
  | none =>
    have e : rvalidB l client surface s = false := by unfold rvalidB; rw [hz]; rfl
    rw [e]
    have HZ := Lib.hid hz
    clear e hz
    go_enter Try.func71, Try.ntmps71
    go_wp2_with fail
    refine (rfind_none A N n cap 0 l s _ (HA.out.1.same ((Chg.refl _ _).alloc _)) hn HZ.out).mono ?_
    rintro e w2 ⟨rfl, hs⟩
    have HS := Lib.hid hs
    clear hs
    go_wp2
    go_ret
    exact ⟨rfl, (((Chg.refl _ _).alloc _).trans HS.out).alloc _⟩
  | some z =>
    obtain ⟨v1, h1⟩ : ∃ v1, rCheck l s client 16 = v1 := ⟨_, rfl⟩
    obtain ⟨v2, h2⟩ : ∃ v2, rLatest l client 16 = v2 := ⟨_, rfl⟩
    have e : rvalidB l client surface s = ((v1 == 0) && ((z.f == surface) && (v2 == s))) := by unfold rvalidB; rw [hz, h1, h2]; rfl
    rw [e]
    have HZ := Lib.hid (And.intro hz (And.intro h1 h2))
    clear e hz h1 h2
    have HB : Hid ((w.alloc (.cells #[.int .i64 N, .slice A n cap] 60)).heap[w.heap.size]? = some (.cells #[.int .i64 N, .slice A n cap] 60 (0, 0))) := Lib.hid (at_new _ _)
    go_enter Try.func71, Try.ntmps71
    go_wp2_with fail
    refine (rfind_some z A N n cap 0 l s _ (HA.out.1.same ((Chg.refl _ _).alloc _)) hn HZ.out.1).mono ?_
    rintro e w2 ⟨rfl, hs⟩
    have HS := Lib.hid (Chg.trans ((Chg.refl (fun _ => False) w).alloc (.cells #[.int .i64 N, .slice A n cap] 60)) hs)
    have hg := hs.at_ HB.out (fun q => q)
    have hg2 := ((Chg.refl (fun _ => False) w2).alloc (.cells #[.int .u32 z.s, .int .i64 z.c, .int .i64 z.f, .int .i64 z.k] 133)).at_ hg (fun q => q)
    have p0 := cell_at (C := [.int .i64 N, .slice A n cap]) hg2 0
    have p1 := cell_at (C := [.int .i64 N, .slice A n cap]) hg2 1
    simp only [List.getElem?_cons_zero, List.getElem?_cons_succ] at p0 p1
    clear hs hg
    cases hb1 : (v1 == 0)
    · have HB1 := Lib.hid hb1
      go_wp2_with (first | (go_at_call 85; refine (rcheck_v v1 A N n cap 0 l s client 16 _ (HA.out.1.same (HS.out.alloc _)) hn HA.out.2 HZ.out.2.1).mono ?_; rintro e w3 ⟨rfl, hs3⟩; have HS3 := Lib.hid hs3; clear hs3))
      go_ret
      exact ⟨by rw [HB1.out]; rfl, (HS.out.alloc _).trans HS3.out⟩
    · have HB1 := Lib.hid hb1
      cases hb2 : (z.f == surface)
      · have HB2 := Lib.hid hb2
        go_wp2_with (first | (go_at_call 85; refine (rcheck_v v1 A N n cap 0 l s client 16 _ (HA.out.1.same (HS.out.alloc _)) hn HA.out.2 HZ.out.2.1).mono ?_; rintro e w3 ⟨rfl, hs3⟩; have HS3 := Lib.hid hs3; have z2 := hs3.cell (cell_at (C := [.int .u32 z.s, .int .i64 z.c, .int .i64 z.f, .int .i64 z.k]) (at_new w2 (.cells #[.int .u32 z.s, .int .i64 z.c, .int .i64 z.f, .int .i64 z.k] 133)) 2) (fun q => q); clear hs3))
        go_ret
        exact ⟨by rw [HB1.out, HB2.out]; rfl, (HS.out.alloc _).trans HS3.out⟩
      · have HB2 := Lib.hid hb2
        have HP := Lib.hid (And.intro p0 p1)
        go_wp2_with (first | (go_at_call 85; refine (rcheck_v v1 A N n cap 0 l s client 16 _ (HA.out.1.same (HS.out.alloc _)) hn HA.out.2 HZ.out.2.1).mono ?_; rintro e w3 ⟨rfl, hs3⟩; have HS3 := Lib.hid hs3; have p0 := hs3.cell HP.out.1 (fun q => q); have p1 := hs3.cell HP.out.2 (fun q => q); have z2 := hs3.cell (cell_at (C := [.int .u32 z.s, .int .i64 z.c, .int .i64 z.f, .int .i64 z.k]) (at_new w2 (.cells #[.int .u32 z.s, .int .i64 z.c, .int .i64 z.f, .int .i64 z.k] 133)) 2) (fun q => q); clear hs3) | (go_at_call 86; refine (rlatest_v v2 A N n cap 0 l client 16 _ (HA.out.1.same ((HS.out.alloc _).trans HS3.out)) hn HA.out.2 HZ.out.2.2).mono ?_; rintro e w4 ⟨rfl, hs4⟩; have HS4 := Lib.hid hs4; clear hs4))
        go_ret
        exact ⟨by rw [HB1.out, HB2.out]; rfl, ((HS.out.alloc _).trans HS3.out).trans HS4.out⟩
end Go.Proofs.Yteolilggeaffaaa
