/- Parts of the walk, packed: ExW43, Arg43. -/
import Derived.Test.YteolilggeaffaaaPk17
import Derived.Test.YteolilggeaffaaaPk05
import Derived.Test.YteolilggeaffaaaPk03
set_option linter.unusedVariables false
set_option linter.unusedSimpArgs false
set_option maxRecDepth 100000
namespace Go.Proofs.Yteolilggeaffaaa
open Go.RowKit

set_option maxHeartbeats 4000000 in
theorem example43_ok (w : World) : Calls Try.prog 11 #[] w fun e w' => e = .returned (.bool true) ∧ Same w w' := by
  go_enter Try.func11, Try.ntmps11
  go_wp2_with fail
  refine (ds_lognew _).mono ?_
  rintro e w1 ⟨rfl, hl1, hs1⟩
  have HL1 := Lib.hid hl1
  have HS1 := Lib.hid hs1
  clear hl1 hs1
  go_wp2_with fail
  refine (ds_new (w0 := w) HL1.out (Nat.le_refl _) HS1.out).mono ?_
  rintro e w2 ⟨b, R, rfl, hses, _, _⟩
  have H2 := Lib.hid hses
  clear hses HL1 HS1
  go_wp2_with fail
  refine (dnew_nil _).mono ?_
  rintro e w3 ⟨rfl, rfl⟩
  go_wp2_with fail
  refine (ds_issue exL 1 1 5 4 H2.out (by omega) (by omega) (by decide +kernel) rfl).mono ?_
  rintro e w3 ⟨rfl, hses, _⟩
  have H3 := Lib.hid hses
  clear hses H2
  go_wp2_with fail
  refine (text_ok 3 _).mono ?_
  rintro e w4 ⟨g4, rfl, hg, hsa, hk⟩
  have HG := Lib.hid (And.intro hg hsa)
  have H4 := Lib.hid (H3.out.keep hk)
  have HN : Hid (¬ R g4) := Lib.hid (fun q => by have := H3.out.lt g4 q; omega)
  clear hg hsa hk H3
  go_wp2_with fail
  refine (ds_start exD1 0 1 5 0 3 1 _ 1 1 [tp] H4.out HG.out.2 (fun _ g o e => by cases e; exact HN.out) ex_a ex_a').mono ?_
  rintro e w5 ⟨R5, rfl, hses, _⟩
  have H5 := Lib.hid hses
  clear hses H4 HG HN
  go_wp2_with fail
  refine (ds_move exD2 exL2 _ 2 7 3 4 10 H5.out (by decide) (by omega) (by omega) ex_b ex_bl ex_bo).mono ?_
  rintro e w6 ⟨v, rfl, hout, hses, _⟩
  obtain ⟨gb, capb, rfl, hgb, _, hcb, hob⟩ := hout.one
  have H6 := Lib.hid hses
  have NB : Hid (¬ R5 gb ∧ ¬ (gb = b ∨ gb = w.heap.size)) := Lib.hid ⟨fun q => by have := H5.out.lt gb q; omega, fun q => by rcases q with q | q; (have := H5.out.lt b H5.out.drag.rb; omega); (have := H5.out.llt; omega)⟩
  have OB := Lib.hid hob
  clear hses H5 hout hob hgb
  go_wp2_with fail
  refine (ds_move exD3 exL2 _ 2 7 4 4 11 H6.out (by decide) (by omega) (by omega) ex_c ex_cl ex_co).mono ?_
  rintro e w7 ⟨v, rfl, hout, hses, hk⟩
  obtain ⟨gc, capc, rfl, hgc, _, hcc, hoc⟩ := hout.one
  have H7 := Lib.hid hses
  have NC : Hid (¬ R5 gc) := Lib.hid (fun q => by have := H6.out.lt gc q; omega)
  have OC := Lib.hid hoc
  have OB := Lib.hid (OB.out.chg hk NB.out.2)
  clear hses H6 hout hoc hgc hk
  go_wp2_with fail
  refine (ds_accept exD3 17 3 tp H7.out ex_e ex_e').mono ?_
  rintro e w8 ⟨rfl, hses, hk⟩
  have H8 := Lib.hid hses
  have OC := Lib.hid (OC.out.chg hk NC.out)
  have OB := Lib.hid (OB.out.chg hk NB.out.1)
  clear hses H7 hk
  go_wp2_with fail
  refine (ds_accept exD4 0 2 tp H8.out ex_f ex_f').mono ?_
  rintro e w9 ⟨rfl, hses, hk⟩
  have H9 := Lib.hid hses
  have OC := Lib.hid (OC.out.chg hk NC.out)
  have OB := Lib.hid (OB.out.chg hk NB.out.1)
  clear hses H8 hk
  go_wp2_with fail
  refine (ds_setact exD5 0 2 6 2 H9.out ex_g ex_g').mono ?_
  rintro e w10 ⟨rfl, hses, hk⟩
  have H10 := Lib.hid hses
  have OC := Lib.hid (OC.out.chg hk NC.out)
  have OB := Lib.hid (OB.out.chg hk NB.out.1)
  clear hses H9 hk
  go_wp2_with fail
  refine (ds_action 2 H10.out ex_act).mono ?_
  rintro e w11 ⟨rfl, hses, hk⟩
  have H11 := Lib.hid hses
  have OC := Lib.hid (OC.out.chg hk (fun q => q))
  have OB := Lib.hid (OB.out.chg hk (fun q => q))
  clear hses H10 hk
  go_wp2_with fail
  refine (ds_drop exD6 _ true H11.out ex_hs ex_ho ex_h).mono ?_
  rintro e w12 ⟨v, rfl, hout, hses, hk⟩
  obtain ⟨gh, caph, rfl, hgh, _, hch, hoh⟩ := hout.one
  have H12 := Lib.hid hses
  have NH : Hid (¬ R5 gh) := Lib.hid (fun q => by have := H11.out.lt gh q; omega)
  have OH := Lib.hid hoh
  have OC := Lib.hid (OC.out.chg hk NC.out)
  have OB := Lib.hid (OB.out.chg hk NB.out.1)
  clear hses H11 hk hout hoh hgh
  go_wp2_with fail
  refine (ds_finish exD6 14 2 H12.out ex_i ex_i').mono ?_
  rintro e w13 ⟨rfl, hses, hk⟩
  have H13 := Lib.hid hses
  have OC := Lib.hid (OC.out.chg hk NC.out)
  have OB := Lib.hid (OB.out.chg hk NB.out.1)
  have OH := Lib.hid (OH.out.chg hk NH.out)
  clear hses H12 hk
  go_wp2_with fail
  refine (ds_rcv 2 100 tp H13.out ex_j (by decide)).mono ?_
  rintro e w14 ⟨R14, pb, Rp, rfl, hses, hk⟩
  have H14 := Lib.hid hses
  have M : Hid (∀ g, One w13 g [] → True) := Lib.hid (fun _ _ => trivial)
  have NB' : Hid (¬ R14 gb) := Lib.hid (fun q => by rcases hk.new gb q with q | q; exact NB.out.1 q; have := OB.out.lt; omega)
  have NC' : Hid (¬ R14 gc) := Lib.hid (fun q => by rcases hk.new gc q with q | q; exact NC.out q; have := OC.out.lt; omega)
  have NH' : Hid (¬ R14 gh) := Lib.hid (fun q => by rcases hk.new gh q with q | q; exact NH.out q; have := OH.out.lt; omega)
  have OC := Lib.hid (OC.out.chg hk.chg NC.out)
  have OB := Lib.hid (OB.out.chg hk.chg NB.out.1)
  have OH := Lib.hid (OH.out.chg hk.chg NH.out)
  clear hses H13 hk M
  go_wp2_with fail
  refine (ds_finish _ 0 2 H14.out (ex_k _) (ex_k' _)).mono ?_
  rintro e w15 ⟨rfl, hses, hk⟩
  have H15 := Lib.hid hses
  have OC := (OC.out.chg hk NC'.out)
  have OB := (OB.out.chg hk NB'.out)
  have OH := (OH.out.chg hk NH'.out)
  obtain ⟨p0, p1, p2, p3, p4, p5, p6, p7, p8⟩ := OB.cells
  obtain ⟨q0, q1, q2, q3, q4, q5, q6, q7, q8⟩ := OC.cells
  have r2 := OH.cells.2.2.1
  have hlb := OB.lt
  have hlc := OC.lt
  have hlh := OH.lt
  have e1 := eql_deliv 2 7 14 0 3 4 1 0 2
  have e2 := eql_deliv 2 7 15 11 4 4 0 0 0
  clear hses H14 hk OB OC OH
  go_wp2_with fail
  refine (ds_state 0 H15.out rfl).mono ?_
  rintro e w16 ⟨rfl, rfl⟩
  go_wp2
  go_ret
  exact ⟨rfl, H15.out.same⟩
end Go.Proofs.Yteolilggeaffaaa

namespace Go.Proofs.Yteolilggeaffaaa
open Go.RowKit Go.ChangeShapes Go.WideShapes Go.Deep

structure OArg where
  A : Option Addr
  len : Nat
  cap : Nat
  fs : List ByteArray
  acts : Int
def OArg.cells (x : OArg) : List Value := [.slice x.A x.len x.cap, .int .i64 x.acts]
def inI (x : Int) : Prop := -9223372036854775808 ≤ x ∧ x ≤ 9223372036854775807
def OArg.ok (w : World) (x : OArg) : Prop := SArg w x.A x.len x.cap x.fs ∧ inI x.acts
structure DOp where
  kind : Int
  client : Int
  surface : Int
  n : Int
  other : Int
  x : Int
  y : Int
  time : Int
  back : Int
  f : ByteArray
  o : OArg
def DOp.cells (x : DOp) : List Value := [.int .i64 x.kind, .int .i64 x.client, .int .i64 x.surface, .int .i64 x.n, .int .i64 x.other, .int .i64 x.x, .int .i64 x.y, .int .i64 x.time, .int .u32 x.back, .string x.f, .slice x.o.A x.o.len x.o.cap, .int .i64 x.o.acts]
def DOp.ok (w : World) (x : DOp) : Prop := inI x.kind ∧ inI x.client ∧ inI x.surface ∧ inI x.n ∧ inI x.other ∧ inI x.x ∧ inI x.y ∧ inI x.time ∧ (0 ≤ x.back ∧ x.back ≤ 4294967295) ∧ x.f.size ≤ maxLen ∧ x.o.ok w
theorem cellsDOp : Try.prog.cellsOf 67 = 12 := by kernel_rfl
theorem OArg.ok.same {w w' : World} {x : OArg} (h : x.ok w) (k : Same w w') : x.ok w' := ⟨⟨h.1.1.same k, h.1.2⟩, h.2⟩
theorem DOp.ok.same {w w' : World} {x : DOp} (h : x.ok w) (k : Same w w') : x.ok w' := by
  obtain ⟨h1, h2, h3, h4, h5, h6, h7, h8, h9, h10, h11⟩ := h
  exact ⟨h1, h2, h3, h4, h5, h6, h7, h8, h9, h10, h11.same k⟩
section
variable {H : Type} {enc : TypeId × Value → H} {w : World} {base : Nat} {spare : Nat → Bool} {held : Bool}
theorem conv_offer (cs' : List Value) (m : Nat) (y : DataW H × List MemPlace) (h : DataW.trod enc Try.prog w base spare held m 24 cs' = some y) : ∃ x : OArg, cs' = x.cells ∧ x.ok w := by
  obtain ⟨hl, hf⟩ := fields_one Try.underlying24 (by kernel_rfl) (by kernel_rfl) h
  obtain ⟨v0, y0, n0, e0, t0⟩ := hf 0 _ rfl
  obtain ⟨v1, y1, n1, e1, t1⟩ := hf 1 _ rfl
  obtain ⟨a1, q1, _, w1⟩ := DataW.trod_int Try.underlying3 t1
  obtain ⟨A, len, cap, xs, q0, hb⟩ := open_strsT t0
  refine ⟨⟨A, len, cap, xs, a1⟩, ?_, hb, of_wf_int w1⟩
  match cs', hl with
  | [u0, u1], _ =>
    simp at e0 e1 q1
    subst e0 e1 q1 q0
    rfl
theorem open_offer {r : Reach} {b0 : Nat} {v : Value} {d : DataW H} {p : List MemPlace} (hv : Value.okWide Try.prog w r b0 24 v) (h : DataW.Trod enc Try.prog w base spare held 24 v d p) :
    ∃ x : OArg, v = .agg x.cells.toArray ∧ x.ok w := by
  obtain ⟨cs, rfl, hsz⟩ := okWide_struct Try.underlying24 hv
  obtain ⟨fuel, hf⟩ := h
  obtain ⟨x, hx, hok⟩ := conv_offer _ _ _ hf
  refine ⟨x, ?_, hok⟩
  rw [← hx]
  simp [Value.cells]
theorem field_some {P : Program} {t : TypeId} {fs : Array Field} {fuel : Nat} {cs : List Value} {x : DataW H × List MemPlace} (ht : P.underlying t = some (.struct fs)) (h : DataW.trod enc P w base spare held fuel t cs = some x) :
    cs.length = P.cellsOf t ∧ ∀ (j : Nat) (t' : TypeId) (off k : Nat), (fs[j]?).map (fun f => (f.type, f.offset)) = some (t', off) → P.cellsOf t' = k → ∃ (y : DataW H × List MemPlace) (n : Nat), DataW.trod enc P w base spare held n t' ((cs.drop off).take k) = some y := by
  obtain ⟨ys, n', hn', hy, hlen, hyl, hf⟩ := DataW.trod_struct ht h
  refine ⟨hlen, fun j t' off k hj hk => ?_⟩
  cases hfj : fs[j]? with
  | none => rw [hfj] at hj; cases hj
  | some f =>
    rw [hfj] at hj
    simp only [Option.map_some, Option.some.injEq, Prod.mk.injEq] at hj
    obtain ⟨rfl, rfl⟩ := hj
    subst hk
    have hjl : j < fs.size := (Array.getElem?_eq_some_iff.1 hfj).1
    have hys : ys[j]? = some (ys[j]'(by omega)) := List.getElem?_eq_getElem (by omega)
    exact ⟨_, n', (hf j f hfj).trans hys⟩
theorem conv_dop (cs' : List Value) (m : Nat) (y : DataW H × List MemPlace) (h : DataW.trod enc Try.prog w base spare held m 67 cs' = some y) : ∃ x : DOp, cs' = x.cells ∧ x.ok w := by
  obtain ⟨hl, hf⟩ := field_some Try.underlying67 h
  rw [cellsDOp] at hl
  have ci : Try.prog.cellsOf 3 = 1 := by kernel_rfl
  have cu : Try.prog.cellsOf 33 = 1 := by kernel_rfl
  have cst : Try.prog.cellsOf 9 = 1 := by kernel_rfl
  have co : Try.prog.cellsOf 24 = 2 := by kernel_rfl
  match cs', hl with
  | [u0, u1, u2, u3, u4, u5, u6, u7, u8, u9, u10, u11], _ =>
    obtain ⟨y0, n0, t0⟩ := hf 0 3 0 1 rfl ci
    obtain ⟨y1, n1, t1⟩ := hf 1 3 1 1 rfl ci
    obtain ⟨y2, n2, t2⟩ := hf 2 3 2 1 rfl ci
    obtain ⟨y3, n3, t3⟩ := hf 3 3 3 1 rfl ci
    obtain ⟨y4, n4, t4⟩ := hf 4 3 4 1 rfl ci
    obtain ⟨y5, n5, t5⟩ := hf 5 3 5 1 rfl ci
    obtain ⟨y6, n6, t6⟩ := hf 6 3 6 1 rfl ci
    obtain ⟨y7, n7, t7⟩ := hf 7 3 7 1 rfl ci
    obtain ⟨y8, n8, t8⟩ := hf 8 33 8 1 rfl cu
    obtain ⟨y9, n9, t9⟩ := hf 9 9 9 1 rfl cst
    obtain ⟨y10, n10, t10⟩ := hf 10 24 10 2 rfl co
    simp only [List.drop_succ_cons, List.drop_zero, List.take_succ_cons, List.take_zero] at t0 t1 t2 t3 t4 t5 t6 t7 t8 t9 t10
    obtain ⟨a0, q0, _, w0⟩ := DataW.trod_int Try.underlying3 t0
    obtain ⟨a1, q1, _, w1⟩ := DataW.trod_int Try.underlying3 t1
    obtain ⟨a2, q2, _, w2⟩ := DataW.trod_int Try.underlying3 t2
    obtain ⟨a3, q3, _, w3⟩ := DataW.trod_int Try.underlying3 t3
    obtain ⟨a4, q4, _, w4⟩ := DataW.trod_int Try.underlying3 t4
    obtain ⟨a5, q5, _, w5⟩ := DataW.trod_int Try.underlying3 t5
    obtain ⟨a6, q6, _, w6⟩ := DataW.trod_int Try.underlying3 t6
    obtain ⟨a7, q7, _, w7⟩ := DataW.trod_int Try.underlying3 t7
    obtain ⟨a8, q8, _, w8⟩ := DataW.trod_int Try.underlying33 t8
    obtain ⟨s9, q9, _, w9⟩ := DataW.trod_string Try.underlying9 t9
    obtain ⟨x10, q10, w10⟩ := conv_offer _ _ _ t10
    have b8 := of_wf_u32 w8
    refine ⟨⟨a0, a1, a2, a3, a4, a5, a6, a7, a8, s9, x10⟩, ?_, of_wf_int w0, of_wf_int w1, of_wf_int w2, of_wf_int w3, of_wf_int w4, of_wf_int w5, of_wf_int w6, of_wf_int w7, b8, w9, w10⟩
    simp [OArg.cells] at q0 q1 q2 q3 q4 q5 q6 q7 q8 q9 q10
    obtain ⟨q10, q11⟩ := q10
    subst q0 q1 q2 q3 q4 q5 q6 q7 q8 q9 q10 q11
    rfl
theorem open_dop {r : Reach} {b0 : Nat} {v : Value} {d : DataW H} {p : List MemPlace} (hv : Value.okWide Try.prog w r b0 67 v) (h : DataW.Trod enc Try.prog w base spare held 67 v d p) :
    ∃ x : DOp, v = .agg x.cells.toArray ∧ x.ok w := by
  obtain ⟨cs, rfl, hsz⟩ := okWide_struct Try.underlying67 hv
  obtain ⟨fuel, hf⟩ := h
  obtain ⟨x, hx, hok⟩ := conv_dop _ _ _ hf
  refine ⟨x, ?_, hok⟩
  rw [← hx]
  simp [Value.cells]
def DOpsAt (w : World) (A : Option Addr) (len : Nat) (l : List DOp) : Prop := RowsAt w A len 12 DOp.cells l ∧ (∀ x ∈ l, x.ok w) ∧ len ≤ maxLen
theorem open_dops {r : Reach} {b0 : Nat} {v : Value} {d : DataW H} {p : List MemPlace} (hv : Value.okWide Try.prog w r b0 51 v) (h : DataW.Trod enc Try.prog w base spare held 51 v d p) :
    ∃ (A : Option Addr) (len cap : Nat) (l : List DOp), v = .slice A len cap ∧ DOpsAt w A len l :=
  open_rows DOp.cells (DOp.ok w) Try.underlying51 cellsDOp (by omega) conv_dop hv h
end

theorem DOpsAt.at_ {w : World} {A : Option Addr} {len : Nat} {l : List DOp} (h : DOpsAt w A len l) {i : Nat} (hi : i < len) :
    ∃ b o x, A = some ⟨b, o, none⟩ ∧ b < w.heap.size ∧ l[i]? = some x ∧ x.ok w ∧ ∀ j v, x.cells[j]? = some v → w.cell? ⟨b, o + i * 12 + j, none⟩ = some v := by
  obtain ⟨b, o, hA, hb, hc⟩ := h.1.2 (by omega)
  have hx : l[i]? = some (l[i]'(by rw [h.1.1]; exact hi)) := List.getElem?_eq_getElem (by rw [h.1.1]; exact hi)
  exact ⟨b, o, _, hA, hb, hx, h.2.1 _ (List.getElem_mem _), hc i _ hx⟩
theorem DOpsAt.same {w w' : World} {A : Option Addr} {len : Nat} {l : List DOp} (h : DOpsAt w A len l) (k : Same w w') : DOpsAt w' A len l := ⟨h.1.chg k (fun _ _ q => q), fun x hx => (h.2.1 x hx).same k, h.2.2⟩
/-- One call, in a row of its own. -/
theorem dops_one {w : World} (x : DOp) (hx : x.ok w) : DOpsAt (w.alloc (.cells x.cells.toArray 67)) (some ⟨w.heap.size, 0, none⟩) 1 [x] := by
  refine ⟨⟨rfl, fun _ => ⟨_, _, rfl, by simp, fun i y hy j v hv => ?_⟩⟩, fun y hy => ?_, by unfold maxLen; omega⟩
  · have hi : i = 0 := by
      have := (List.getElem?_eq_some_iff.1 hy).1
      simpa using this
    subst hi
    simp only [List.getElem?_cons_zero, Option.some.injEq] at hy
    subst hy
    rw [show 0 + 0 * 12 + j = j by omega, cell_at (at_new w _) j]
    exact hv
  · obtain rfl : y = x := by simpa using hy
    exact hx.same ((Chg.refl _ w).alloc _)

def LightOp (x : DOp) : Prop := x.f.size ≤ 100 ∧ x.o.len ≤ 20 ∧ ∀ f ∈ x.o.fs, f.size ≤ 100
def LightOut (len : Nat) (l : List DOp) (w : World) (e : Ending) (w' : World) : Prop := ∃ v, e = .returned (.bool v) ∧ w = w' ∧ (v = true → len ≤ 40 ∧ ∀ x ∈ l, LightOp x)
set_option maxRecDepth 100000 in
theorem light43_ok (A : Option Addr) (len cap : Nat) (l : List DOp) (w : World) (h : DOpsAt w A len l) :
    Calls Try.prog 23 #[.slice A len cap] w (LightOut len l w) := by
  have hm := h.2.2
  unfold maxLen at hm
  have HO := Lib.hid h
  have HL := Lib.hid h.1.1
  by_cases hg : 40 < len
  · clear h
    go_enter Try.func23, Try.ntmps23
    go_wp2
    go_ret
    exact ⟨false, rfl, rfl, fun q => by cases q⟩
  · clear h
    have hl40 : len ≤ 40 := by omega
    go_enter Try.func23, Try.ntmps23
    go_wp2
    go_loop [3] (fun v3 => ∃ i : Nat, i ≤ len ∧ v3 = .int .i64 i ∧ ∀ (j : Nat) x, j < i → l[j]? = some x → LightOp x) (fun v3 => len - (intOf v3).toNat)
    case atStart => exact ⟨0, by omega, rfl, fun j x hj => by omega⟩
    case round =>
      obtain ⟨i, hi, rfl, hf⟩ := hrel
      have HF := Lib.hid hf
      clear hf
      by_cases hlt : i < len
      · obtain ⟨b, o, x, rfl, hbw, hxi, hok, hc⟩ := HO.out.at_ hlt
        have c9 := hc 9 _ rfl
        have c10 := hc 10 _ rfl
        have hxl : x.o.len ≤ 9223372036854775807 := by have h1 := hok.2.2.2.2.2.2.2.2.2.2.1.2; unfold maxLen at h1; omega
        have hxf : x.f.size ≤ 9223372036854775807 := by have h1 := hok.2.2.2.2.2.2.2.2.2.1; unfold maxLen at h1; omega
        have HS := Lib.hid hok.2.2.2.2.2.2.2.2.2.2.1.1
        have HX := Lib.hid hxi
        have hii : (i : Int) < len := by omega
        clear hok hc hxi
        by_cases hfg : 100 < (x.f.size : Int)
        · go_wp2
          go_ret
          exact ⟨false, rfl, rfl, fun q => by cases q⟩
        · by_cases hxg : 20 < x.o.len
          · go_wp2
            go_ret
            exact ⟨false, rfl, rfl, fun q => by cases q⟩
          · have HFG := Lib.hid hfg
            go_wp2
            go_loop [4] (fun v4 => ∃ k : Nat, k ≤ x.o.len ∧ v4 = .int .i64 k ∧ ∀ (j : Nat) f, j < k → x.o.fs[j]? = some f → f.size ≤ 100) (fun v4 => x.o.len - (intOf v4).toNat)
            case atStart => exact ⟨0, by omega, rfl, fun j f hj => by omega⟩
            case round =>
              obtain ⟨k, hk, rfl, hkf⟩ := hrel
              have HKF := Lib.hid hkf
              clear hkf
              by_cases hkt : k < x.o.len
              · have hkk : (k : Int) < x.o.len := by omega
                obtain ⟨b2, o2, hA2, hb2, hc2⟩ := HS.out.2 (by omega)
                have hx2 : x.o.fs[k]? = some (x.o.fs[k]'(by rw [HS.out.1]; exact hkt)) := List.getElem?_eq_getElem (by rw [HS.out.1]; exact hkt)
                have c5 := hc2 k _ hx2
                have HX2 := Lib.hid hx2
                generalize x.o.fs[k]'(by rw [HS.out.1]; exact hkt) = s at c5 HX2
                rw [hA2] at c10
                clear hc2 hx2
                by_cases hsg : 100 < (s.size : Int)
                · go_wp2
                  go_ret
                  exact ⟨false, rfl, rfl, fun q => by cases q⟩
                · go_wp2
                  go_round
                  case rel =>
                    refine ⟨k + 1, by omega, by go_num, fun j f hj hjf => ?_⟩
                    by_cases hjk : j = k
                    · subst hjk
                      rw [HX2.out] at hjf
                      cases hjf
                      omega
                    · exact HKF.out j f (by omega) hjf
                  case measure => simp [intOf]; omega
              · have hkk : ¬ (k : Int) < x.o.len := by omega
                go_wp2
                go_round
                case rel =>
                  refine ⟨i + 1, by omega, by go_num, fun j y hj hjy => ?_⟩
                  by_cases hji : j = i
                  · subst hji
                    rw [HX.out] at hjy
                    cases hjy
                    refine ⟨by have := HFG.out; omega, by omega, fun f hf => ?_⟩
                    obtain ⟨q, hq⟩ := List.getElem?_of_mem hf
                    have hql := (List.getElem?_eq_some_iff.1 hq).1
                    exact HKF.out q f (by rw [HS.out.1] at hql; omega) hq
                  · exact HF.out j y (by omega) hjy
                case measure => simp [intOf]; omega
      · have hlt' : ¬ (i : Int) < len := by omega
        go_wp2
        go_ret
        refine ⟨true, rfl, rfl, fun _ => ⟨hl40, fun x hx => ?_⟩⟩
        obtain ⟨q, hq⟩ := List.getElem?_of_mem hx
        have hql := (List.getElem?_eq_some_iff.1 hq).1
        exact HF.out q x (by rw [HL.out] at hql; omega) hq
end Go.Proofs.Yteolilggeaffaaa
