/- compositorref43: Cancel (printed by mcanc.py). -/
import Derived.Test.YteolilggeaffaaaMT43
import Derived.WalkMore
set_option linter.unusedVariables false
set_option linter.unusedSimpArgs false
set_option maxRecDepth 100000
namespace Go.Proofs.Yteolilggeaffaaa
open Go.RowKit

theorem info_pipe : (Try.prog.info? 112).map (fun i => (i.zero, i.size, i.bytes)) = some (some (.agg #[.int .i64 0, .int .i64 0, .slice none 0 0, .bool false, .bool false]), 5, 48) := by kernel_rfl
theorem bytes_none (w : World) (A : Option Addr) (cap : Nat) (h : cap ≤ maxLen) : BytesAt w (fun _ => True) A 0 cap [] := ⟨rfl, Nat.zero_le _, h, fun q => absurd q (by omega)⟩
theorem cancel_bs {q : PSt} (h : q.bs = []) : q.cancel.bs = [] := by unfold PSt.cancel; split; exact h; rfl
theorem grant_bs {q : PSt} (h : q.bs = []) (m : Int) : (q.grant m).bs = [] := by unfold PSt.grant; split <;> exact h
theorem qcancel_z (z : RPp) (hz : z.ok) (w : World) : Calls Try.prog 76 #[.agg z.cells.toArray] w fun e w' => ∃ z' v, e = .returned (.tuple #[.agg (RPp.cells z').toArray, .int .i64 v]) ∧ z'.q = z.q.cancel ∧ z'.ok ∧ v = z.q.caE ∧ Same w w' := by
  refine (qcancel_q z.q.cancel z.q.caE (n := 0) (cap := z.cap) (A := z.A) (R := fun _ => True) (by rw [hz.2.1]; exact bytes_none w _ _ hz.2.2) hz.1 rfl rfl).mono ?_
  rintro e w' ⟨A', n', cap', rfl, hb, hs⟩
  have h0 : n' = 0 := by have := hb.1; rw [cancel_bs hz.2.1] at this; exact this.symm
  subst h0
  exact ⟨⟨z.q.cancel, A', cap'⟩, _, rfl, rfl, ⟨PSt.cancel_ok hz.1, cancel_bs hz.2.1, hb.2.2.1⟩, rfl, hs⟩
theorem qgrant_z (z : RPp) (hz : z.ok) (m : Int) (hm : m ≤ 9223372036854775807) (w : World) : Calls Try.prog 57 #[.agg z.cells.toArray, .int .i64 m] w fun e w' => ∃ z' v, e = .returned (.tuple #[.agg (RPp.cells z').toArray, .int .i64 v]) ∧ z'.q = z.q.grant m ∧ z'.ok ∧ v = z.q.grE m ∧ Same w w' := by
  refine (qgrant_q (z.q.grant m) (z.q.grE m) m (n := 0) (cap := z.cap) (A := z.A) (R := fun _ => True) (by rw [hz.2.1]; exact bytes_none w _ _ hz.2.2) hz.1 hm rfl rfl).mono ?_
  rintro e w' ⟨A', n', cap', rfl, hb, hs⟩
  have h0 : n' = 0 := by have := hb.1; rw [grant_bs hz.2.1] at this; exact this.symm
  subst h0
  exact ⟨⟨z.q.grant m, A', cap'⟩, _, rfl, rfl, ⟨PSt.grant_ok hz.1 m, grant_bs hz.2.1 m, hb.2.2.1⟩, rfl, hs⟩
theorem rows_len (rs : List RPp) : (rs.flatMap RPp.cells).length = rs.length * 5 := by
  induction rs with
  | nil => rfl
  | cons z rs ih => simp only [List.flatMap_cons, List.length_append, ih, RPp.len, List.length_cons]; omega
theorem rows_one (rs : List RPp) : ∀ u ∈ rs.flatMap RPp.cells, u.oneCell' = true := by
  intro u hu
  obtain ⟨z, _, hz⟩ := List.mem_flatMap.1 hu
  simp [RPp.cells] at hz
  rcases hz with rfl | rfl | rfl | rfl | rfl <;> rfl
theorem PRow.src {w : World} {F : Nat → Prop} {A : Option Addr} {n : Nat} {rs : List RPp} (h : PRow w F A n rs) (hn : 0 < n) : ∃ b o, A = some ⟨b, o, none⟩ ∧ ∀ j u, (rs.flatMap RPp.cells)[j]? = some u → w.cell? ⟨b, o + j, none⟩ = some u := by
  obtain ⟨g, e, _, _, hc⟩ := h.2.2 hn
  refine ⟨g, 0, e, fun j u hj => ?_⟩
  have hjl := (List.getElem?_eq_some_iff.1 hj).1
  rw [rows_len] at hjl
  have hi : j / 5 < rs.length := by omega
  have hx : rs[j / 5]? = some rs[j / 5] := List.getElem?_eq_getElem hi
  have h1 := flat_get RPp.cells 5 RPp.len rs (j / 5) (j % 5) _ hx (by omega)
  have hjj : j / 5 * 5 + j % 5 = j := by omega
  rw [hjj, hj] at h1
  have := hc (j / 5) _ hx (j % 5) u h1.symm
  rw [hjj] at this
  rw [Nat.zero_add]
  exact this
theorem canc_zero_of {q : PSt} (h : q.caE ≠ 0) : q.cancel = q := by
  unfold PSt.caE at h
  unfold PSt.cancel
  split at h
  · rename_i hq; rw [if_pos hq]
  · exact absurd rfl h
/-- The rows copied so far. -/
def CancTo (two : Bool) (fst : Int) (rs rs' : List RPp) (i : Nat) : Prop := rs'.length = i ∧ (∀ z ∈ rs', z.ok) ∧ ∀ (j : Nat) (z : RPp), rs'[j]? = some z → ∃ y, rs[j]? = some y ∧ z.q = cancQ two fst j y.q
theorem CancTo.add {two : Bool} {fst : Int} {rs rs' : List RPp} {i : Nat} (h : CancTo two fst rs rs' i) {y z : RPp} (hy : rs[i]? = some y) (hz : z.ok) (hq : z.q = cancQ two fst i y.q) : CancTo two fst rs (rs' ++ [z]) (i + 1) := by
  refine ⟨by simp [h.1], fun x hx => ?_, fun j x hx => ?_⟩
  · rcases List.mem_append.1 hx with q | q
    · exact h.2.1 x q
    · simp at q; subst q; exact hz
  · rw [List.getElem?_append] at hx
    split at hx
    · exact h.2.2 j x hx
    · rename_i hj
      have hj0 : j - rs'.length = 0 := by
        have := (List.getElem?_eq_some_iff.1 hx).1
        simp at this; omega
      rw [hj0] at hx
      simp at hx
      subst hx
      have : j = i := by have := h.1; omega
      subst this
      exact ⟨y, hy, hq⟩
theorem CancTo.done {two : Bool} {fst : Int} {rs rs' : List RPp} (h : CancTo two fst rs rs' rs.length) : CancRow two fst rs rs' := by
  unfold CancRow
  apply List.ext_getElem?
  intro j
  rw [List.getElem?_map, List.getElem?_mapIdx, List.getElem?_map]
  cases hj : rs'[j]? with
  | none =>
    have : rs[j]? = none := by
      have h1 := h.1
      rw [List.getElem?_eq_none_iff] at hj ⊢
      omega
    rw [this]; rfl
  | some z =>
    obtain ⟨y, hy, hq⟩ := h.2.2 j z hj
    rw [hy]
    simp [hq]
set_option maxHeartbeats 4000000 in
theorem mcancel_no (src cl tg : Int) (A : Option Addr) (n cap : Nat) (acts : Int) (f : ByteArray) (a p nm : Int) (tm : Bool) (la : Int) (PA : Option Addr) (pn pc : Nat) (fst : Int) (w : World) :
    Calls Try.prog 56 #[.agg #[.int .i64 0, .int .i64 src, .int .i64 cl, .int .i64 tg, .slice A n cap, .int .i64 acts, .string f, .int .i64 a, .int .i64 p, .int .i64 nm, .bool tm, .int .i64 la, .slice PA pn pc, .int .i64 fst]] w fun e w' => e = .returned (.tuple #[.agg #[.int .i64 0, .int .i64 src, .int .i64 cl, .int .i64 tg, .slice A n cap, .int .i64 acts, .string f, .int .i64 a, .int .i64 p, .int .i64 nm, .bool tm, .int .i64 la, .slice PA pn pc, .int .i64 fst], .slice none 0 0]) ∧ Same w w' := by
  go_enter Try.func56, Try.ntmps56
  go_wp2
  refine bodyPost_ret (results_cell_tmp Try.results56 rfl (run_load_md (x := ⟨0, src, cl, tg, A, n, cap, acts, f, a, p, nm, tm, la, PA, pn, pc, fst⟩) (VarAt.newk (by simp)))) rfl ⟨rfl, ((Chg.refl _ _).alloc _).alloc _⟩

set_option maxHeartbeats 8000000 in
theorem mcancel_1 (src cl tg : Int) (A : Option Addr) (n cap : Nat) (acts : Int) (f : ByteArray) (a p nm : Int) (tm : Bool) (la : Int) (PA : Option Addr) (pn pc : Nat) (fst : Int) (rs : List RPp) (ds : List Dv) (w : World) (G : Nat → Prop) (hr : PRow w G PA pn rs) (hG : ∀ x, G x → x < w.heap.size) (hpn : pn ≤ 1000) (hd : MD.cancD ⟨1, src, cl, tg, A, n, cap, acts, f, a, p, nm, tm, la, PA, pn, pc, fst⟩ = ds) :
    Calls Try.prog 56 #[.agg #[.int .i64 1, .int .i64 src, .int .i64 cl, .int .i64 tg, .slice A n cap, .int .i64 acts, .string f, .int .i64 a, .int .i64 p, .int .i64 nm, .bool tm, .int .i64 la, .slice PA pn pc, .int .i64 fst]] w fun e w' => ∃ PA' pc' rs' VA vc, e = .returned (.tuple #[.agg (MD.over ⟨1, src, cl, tg, A, n, cap, acts, f, a, p, nm, tm, la, PA, pn, pc, fst⟩ PA' pc').cells.toArray, .slice VA ds.length vc]) ∧ CancRow false fst rs rs' ∧ PRow w' G PA' pn rs' ∧ OutAt w.heap.size w' (.slice VA ds.length vc) (ds.map Dv.cells) ∧ Same w w' := by
  have HR := Lib.hid (And.intro hr hG)
  have hrl := hr.1
  have HX : Hid (VarAt ((w.alloc (.cells #[.int .i64 1, .int .i64 src, .int .i64 cl, .int .i64 tg, .slice A n cap, .int .i64 acts, .string f, .int .i64 a, .int .i64 p, .int .i64 nm, .bool tm, .int .i64 la, .slice PA pn pc, .int .i64 fst] 56)).alloc (.cells #[.int .i64 0, .int .i64 0, .int .i64 0, .int .i64 0, .slice none 0 0, .int .i64 0, .string ⟨#[]⟩, .int .i64 0, .int .i64 0, .int .i64 0, .bool false, .int .i64 0, .slice none 0 0, .int .i64 0] 56)) w.heap.size 56 #[.int .i64 1, .int .i64 src, .int .i64 cl, .int .i64 tg, .slice A n cap, .int .i64 acts, .string f, .int .i64 a, .int .i64 p, .int .i64 nm, .bool tm, .int .i64 la, .slice PA pn pc, .int .i64 fst] ∧ VarAt ((w.alloc (.cells #[.int .i64 1, .int .i64 src, .int .i64 cl, .int .i64 tg, .slice A n cap, .int .i64 acts, .string f, .int .i64 a, .int .i64 p, .int .i64 nm, .bool tm, .int .i64 la, .slice PA pn pc, .int .i64 fst] 56)).alloc (.cells #[.int .i64 0, .int .i64 0, .int .i64 0, .int .i64 0, .slice none 0 0, .int .i64 0, .string ⟨#[]⟩, .int .i64 0, .int .i64 0, .int .i64 0, .bool false, .int .i64 0, .slice none 0 0, .int .i64 0] 56)) (w.heap.size + 1) 56 #[.int .i64 0, .int .i64 0, .int .i64 0, .int .i64 0, .slice none 0 0, .int .i64 0, .string ⟨#[]⟩, .int .i64 0, .int .i64 0, .int .i64 0, .bool false, .int .i64 0, .slice none 0 0, .int .i64 0] ∧ Same w ((w.alloc (.cells #[.int .i64 1, .int .i64 src, .int .i64 cl, .int .i64 tg, .slice A n cap, .int .i64 acts, .string f, .int .i64 a, .int .i64 p, .int .i64 nm, .bool tm, .int .i64 la, .slice PA pn pc, .int .i64 fst] 56)).alloc (.cells #[.int .i64 0, .int .i64 0, .int .i64 0, .int .i64 0, .slice none 0 0, .int .i64 0, .string ⟨#[]⟩, .int .i64 0, .int .i64 0, .int .i64 0, .bool false, .int .i64 0, .slice none 0 0, .int .i64 0] 56)) ∧ ((w.alloc (.cells #[.int .i64 1, .int .i64 src, .int .i64 cl, .int .i64 tg, .slice A n cap, .int .i64 acts, .string f, .int .i64 a, .int .i64 p, .int .i64 nm, .bool tm, .int .i64 la, .slice PA pn pc, .int .i64 fst] 56)).alloc (.cells #[.int .i64 0, .int .i64 0, .int .i64 0, .int .i64 0, .slice none 0 0, .int .i64 0, .string ⟨#[]⟩, .int .i64 0, .int .i64 0, .int .i64 0, .bool false, .int .i64 0, .slice none 0 0, .int .i64 0] 56)).heap.size = w.heap.size + 2) :=
    Lib.hid ⟨(VarAt.new _ _ _).alloc _, VarAt.newk (by simp), ((Chg.refl _ _).alloc _).alloc _, by simp⟩
  clear hr hG
  have hd2 : MD.left ⟨1, src, cl, tg, A, n, cap, acts, f, a, p, nm, tm, la, PA, pn, pc, fst⟩ = ds := by have e : MD.cancD ⟨1, src, cl, tg, A, n, cap, acts, f, a, p, nm, tm, la, PA, pn, pc, fst⟩ = MD.left ⟨1, src, cl, tg, A, n, cap, acts, f, a, p, nm, tm, la, PA, pn, pc, fst⟩ := if_pos rfl; rw [← e]; exact hd
  have HD := Lib.hid hd2
  clear hd hd2
  go_enter Try.func56, Try.ntmps56
  go_wp2_with fail
  refine (mleave_ok ds ⟨1, src, cl, tg, A, n, cap, acts, f, a, p, nm, tm, la, PA, pn, pc, fst⟩ _ HD.out).mono ?_
  rintro e w1 ⟨v1, rfl, hout, hs⟩
  obtain ⟨VA, vc, rfl, _, hmax, _⟩ := out_rows hout
  have hdl : ds.length ≤ 9223372036854775807 := by unfold maxLen at hmax; have := (out_rows hout); obtain ⟨_, _, h1, h2, h3, _⟩ := this; unfold maxLen at h3; omega
  have HB : Hid (VarAt w1 w.heap.size 56 #[.int .i64 1, .int .i64 src, .int .i64 cl, .int .i64 tg, .slice A n cap, .int .i64 acts, .string f, .int .i64 a, .int .i64 p, .int .i64 nm, .bool tm, .int .i64 la, .slice PA pn pc, .int .i64 fst] ∧ VarAt w1 (w.heap.size + 1) 56 #[.int .i64 0, .int .i64 0, .int .i64 0, .int .i64 0, .slice none 0 0, .int .i64 0, .string ⟨#[]⟩, .int .i64 0, .int .i64 0, .int .i64 0, .bool false, .int .i64 0, .slice none 0 0, .int .i64 0] ∧ Same w w1 ∧ w.heap.size + 2 ≤ w1.heap.size ∧ OutAt (w.heap.size + 2) w1 (.slice VA ds.length vc) (ds.map Dv.cells)) :=
    Lib.hid ⟨HX.out.1.same hs, HX.out.2.1.same hs, HX.out.2.2.1.trans hs, by rw [← HX.out.2.2.2]; exact hs.size, by rw [← HX.out.2.2.2]; exact hout⟩
  clear hout hs hmax
  go_wp2
  go_loopw [5, 6] (fun v5 v6 wr => ∃ (i : Nat) (rs' : List RPp) (A0 : Option Addr) (cap0 : Nat), i ≤ pn ∧ v5 = .slice A0 i cap0 ∧ v6 = .int .i64 i ∧ CancTo false fst rs rs' i ∧ wr.ownsRow w1.heap.size 112 5 (.slice A0 i cap0) i (rs'.flatMap RPp.cells) ∧ Same w1 wr) (fun _ v6 _ => pn - (intOf v6).toNat)
  case atStart => exact ⟨0, [], none, 0, by omega, rfl, rfl, ⟨rfl, fun z hz => by simp at hz, fun j z hz => by simp at hz⟩, World.ownsRow_nil _ _ _ _, Chg.refl _ _⟩
  case round =>
    obtain ⟨i, rs', A0, cap0, hi, rfl, rfl, hct, hown, hk⟩ := hrel
    have HCT := Lib.hid hct
    have HOWN := Lib.hid hown
    have HK := Lib.hid hk
    have hbl : w.heap.size + 2 ≤ w1.heap.size := HB.out.2.2.2.1
    have hD := HB.out.1.same hk
    have p12 : wr.cell? ⟨w.heap.size, 12, none⟩ = some (.slice PA pn pc) := cell_at (C := [.int .i64 1, .int .i64 src, .int .i64 cl, .int .i64 tg, .slice A n cap, .int .i64 acts, .string f, .int .i64 a, .int .i64 p, .int .i64 nm, .bool tm, .int .i64 la, .slice PA pn pc, .int .i64 fst]) hD 12
    have p0 : wr.cell? ⟨w.heap.size, 0, none⟩ = some (.int .i64 1) := cell_at (C := [.int .i64 1, .int .i64 src, .int .i64 cl, .int .i64 tg, .slice A n cap, .int .i64 acts, .string f, .int .i64 a, .int .i64 p, .int .i64 nm, .bool tm, .int .i64 la, .slice PA pn pc, .int .i64 fst]) hD 0
    have p13 : wr.cell? ⟨w.heap.size, 13, none⟩ = some (.int .i64 fst) := cell_at (C := [.int .i64 1, .int .i64 src, .int .i64 cl, .int .i64 tg, .slice A n cap, .int .i64 acts, .string f, .int .i64 a, .int .i64 p, .int .i64 nm, .bool tm, .int .i64 la, .slice PA pn pc, .int .i64 fst]) hD 13
    have hbw : w.heap.size < wr.heap.size := by have := hk.size; omega
    clear hct hown hk hD
    by_cases hlt : i < pn
    · have hii : (i : Int) < pn := by omega
      obtain ⟨g, rfl, _, hgl, hc⟩ := HR.out.1.2.2 (by omega)
      obtain ⟨⟨⟨win, cr, bs, zcl, zcn⟩, zA, zc⟩, hy⟩ : ∃ y, rs[i]? = some y := ⟨_, List.getElem?_eq_getElem (by omega)⟩
      have hkw := HB.out.2.2.1.trans HK.out
      have z0 := hkw.cell (hc i _ hy 0 _ rfl) (fun q => q)
      have z1 := hkw.cell (hc i _ hy 1 _ rfl) (fun q => q)
      have z2 := hkw.cell (hc i _ hy 2 _ rfl) (fun q => q)
      have z3 := hkw.cell (hc i _ hy 3 _ rfl) (fun q => q)
      have z4 := hkw.cell (hc i _ hy 4 _ rfl) (fun q => q)
      rw [Nat.add_zero] at z0
      have hzok := HR.out.1.2.1 _ (List.mem_of_getElem? hy)
      have HY := Lib.hid (And.intro hy hzok)
      have hgl2 := Nat.lt_of_lt_of_le hgl hkw.size
      clear hc hy hzok hkw
      go_wp2_with (at_builtin; refine wpl_append1 w1.heap.size 112 _ 5 48 Try.underlying54 info_pipe rfl (by omega) _ i (rs'.flatMap RPp.cells) ((HOWN.out.alloc _).alloc _) rfl (wr.heap.size + 1) 1 [.int .i64 win, .int .i64 cr, .slice zA 0 zc, .bool (zcl && !zcn), .bool zcn] rfl (VarAt.newk (by simp)) rfl (by simp [Value.oneCell']) (by omega) (by omega) (by have := HK.out.size; simp; omega) ?_; intro g2 cap2 w5 hown2 hgrow2 _ _; have HOWN2 := Lib.hid hown2; have HGROW := Lib.hid hgrow2; clear hown2 hgrow2)
      go_roundw
      case rel =>
        refine ⟨i + 1, rs' ++ [⟨⟨win, cr, bs, zcl, zcn⟩, zA, zc⟩], _, _, by omega, rfl, by go_num, HCT.out.add HY.out.1 HY.out.2 rfl, by rw [List.flatMap_append]; exact HOWN2.out, ?_⟩
        exact (((HK.out.alloc _).alloc _).then_ (Chg.grownO (Chg.refl _ _) HGROW.out) (fun j hj e => by have := (HOWN.out.lt j e.symm).1; omega))
      case measure => simp [intOf]; omega
    · have hii : ¬ (i : Int) < pn := by omega
      obtain rfl : pn = i := by omega
      have hD := HB.out.1.same HK.out
      have hZ := HB.out.2.1.same HK.out
      have f12 := frozen_at hD 12
      have f0 := frozen_at hD 0
      have hV : VarAt ((wr.setCell ⟨w.heap.size, 12, none⟩ (.slice A0 pn cap0)).setCell ⟨w.heap.size, 0, none⟩ (.int .i64 0)) w.heap.size 56 (MD.cells ⟨0, src, cl, tg, A, n, cap, acts, f, a, p, nm, tm, la, A0, pn, cap0, fst⟩).toArray := at_setCell (i := 0) _ (at_setCell (i := 12) (C := [.int .i64 1, .int .i64 src, .int .i64 cl, .int .i64 tg, .slice A n cap, .int .i64 acts, .string f, .int .i64 a, .int .i64 p, .int .i64 nm, .bool tm, .int .i64 la, .slice PA pn pc, .int .i64 fst]) _ hD)
      have hZ2 : VarAt ((wr.setCell ⟨w.heap.size, 12, none⟩ (.slice A0 pn cap0)).setCell ⟨w.heap.size, 0, none⟩ (.int .i64 0)) (w.heap.size + 1) 56 #[.int .i64 0, .int .i64 0, .int .i64 0, .int .i64 0, .slice none 0 0, .int .i64 0, .string ⟨#[]⟩, .int .i64 0, .int .i64 0, .int .i64 0, .bool false, .int .i64 0, .slice none 0 0, .int .i64 0] := at_setCell_other _ (by omega) (at_setCell_other _ (by omega) hZ)
      have hch : Chg (fun x => x = w.heap.size ∨ x = w.heap.size + 1) wr ((wr.setCell ⟨w.heap.size, 12, none⟩ (.slice A0 pn cap0)).setCell ⟨w.heap.size, 0, none⟩ (.int .i64 0)) := ((Chg.refl _ _).setCell _ _ (fun _ => .inl rfl)).setCell _ _ (fun _ => .inl rfl)
      have HE := Lib.hid (And.intro hZ2 hch)
      have hld := VarAt.ldD (x := ⟨0, src, cl, tg, A, n, cap, acts, f, a, p, nm, tm, la, A0, pn, cap0, fst⟩) hV
      clear hD hZ hV hZ2 hch
      go_wp2_with (refine wpl_loadv _ _ _ rfl hld ?_)
      refine (muntargeted_ok ⟨0, src, cl, tg, A, n, cap, acts, f, a, p, nm, tm, la, A0, pn, cap0, fst⟩ 0 0 _).mono ?_
      rintro e w6 ⟨rfl, rfl⟩
      have h2 := ((HE.out.1.alloc (.cells (MD.aim ⟨0, src, cl, tg, A, n, cap, acts, f, a, p, nm, tm, la, A0, pn, cap0, fst⟩ 0 0).cells.toArray 56)).alloc (.cells (MD.aim ⟨0, src, cl, tg, A, n, cap, acts, f, a, p, nm, tm, la, A0, pn, cap0, fst⟩ 0 0).cells.toArray 56))
      go_wp2_with (refine wpl_storeRow _ rfl rfl h2 (by kernel_rfl) rfl (MD.one _) ?_)
      have hfin : Chg (fun x => x = w.heap.size ∨ x = w.heap.size + 1) wr (((((wr.setCell ⟨w.heap.size, 12, none⟩ (.slice A0 pn cap0)).setCell ⟨w.heap.size, 0, none⟩ (.int .i64 0)).alloc (.cells (MD.aim ⟨0, src, cl, tg, A, n, cap, acts, f, a, p, nm, tm, la, A0, pn, cap0, fst⟩ 0 0).cells.toArray 56)).alloc (.cells (MD.aim ⟨0, src, cl, tg, A, n, cap, acts, f, a, p, nm, tm, la, A0, pn, cap0, fst⟩ 0 0).cells.toArray 56)).setRow (w.heap.size + 1) (MD.aim ⟨0, src, cl, tg, A, n, cap, acts, f, a, p, nm, tm, la, A0, pn, cap0, fst⟩ 0 0).cells.toArray) := ((HE.out.2.alloc _).alloc _).setRow _ _ (fun _ => .inr rfl)
      have hsame : Same w (((((wr.setCell ⟨w.heap.size, 12, none⟩ (.slice A0 pn cap0)).setCell ⟨w.heap.size, 0, none⟩ (.int .i64 0)).alloc (.cells (MD.aim ⟨0, src, cl, tg, A, n, cap, acts, f, a, p, nm, tm, la, A0, pn, cap0, fst⟩ 0 0).cells.toArray 56)).alloc (.cells (MD.aim ⟨0, src, cl, tg, A, n, cap, acts, f, a, p, nm, tm, la, A0, pn, cap0, fst⟩ 0 0).cells.toArray 56)).setRow (w.heap.size + 1) (MD.aim ⟨0, src, cl, tg, A, n, cap, acts, f, a, p, nm, tm, la, A0, pn, cap0, fst⟩ 0 0).cells.toArray) := (HB.out.2.2.1.trans HK.out).then_ hfin (fun j hj q => by rcases q with q | q <;> omega)
      obtain ⟨A9, cap9, hv9, _, hrow9⟩ := PRow.of_own (F := G) (row_chg HOWN.out hfin (fun x hx q => by have := (HOWN.out.lt x hx).1; rcases q with q | q <;> omega)) HCT.out.1 HCT.out.2.1 (fun x hx => by have := HR.out.2 x hx; omega)
      cases hv9
      refine bodyPost_ret (results_cell_tmp Try.results56 rfl (VarAt.ldD (x := MD.over ⟨1, src, cl, tg, A, n, cap, acts, f, a, p, nm, tm, la, PA, pn, pc, fst⟩ A0 cap0) (h2.put _))) rfl ⟨A0, cap0, rs', VA, vc, rfl, ?_, hrow9, ?_, hsame⟩
      · have := HCT.out
        rw [← hrl] at this
        exact this.done
      · refine World.ownsRow.mono (base := w.heap.size + 2) (row_chg (HB.out.2.2.2.2) ((Chg.of_same HK.out).trans hfin) (fun x hx q => by have := (HB.out.2.2.2.2.lt x hx).1; rcases q with q | q <;> omega)) (by omega)

set_option maxHeartbeats 8000000 in
theorem mcancel_2 (src cl tg : Int) (A : Option Addr) (n cap : Nat) (acts : Int) (f : ByteArray) (a p nm : Int) (tm : Bool) (la : Int) (PA : Option Addr) (pn pc : Nat) (fst : Int) (rs : List RPp) (ds : List Dv) (w : World) (G : Nat → Prop) (hr : PRow w G PA pn rs) (hG : ∀ x, G x → x < w.heap.size) (hpn : pn ≤ 1000) (hd : MD.cancD ⟨2, src, cl, tg, A, n, cap, acts, f, a, p, nm, tm, la, PA, pn, pc, fst⟩ = ds) :
    Calls Try.prog 56 #[.agg #[.int .i64 2, .int .i64 src, .int .i64 cl, .int .i64 tg, .slice A n cap, .int .i64 acts, .string f, .int .i64 a, .int .i64 p, .int .i64 nm, .bool tm, .int .i64 la, .slice PA pn pc, .int .i64 fst]] w fun e w' => ∃ PA' pc' rs' VA vc, e = .returned (.tuple #[.agg (MD.over ⟨2, src, cl, tg, A, n, cap, acts, f, a, p, nm, tm, la, PA, pn, pc, fst⟩ PA' pc').cells.toArray, .slice VA ds.length vc]) ∧ CancRow true fst rs rs' ∧ PRow w' G PA' pn rs' ∧ OutAt w.heap.size w' (.slice VA ds.length vc) (ds.map Dv.cells) ∧ Same w w' := by
  have HR := Lib.hid (And.intro hr hG)
  have hrl := hr.1
  have HX : Hid (VarAt ((w.alloc (.cells #[.int .i64 2, .int .i64 src, .int .i64 cl, .int .i64 tg, .slice A n cap, .int .i64 acts, .string f, .int .i64 a, .int .i64 p, .int .i64 nm, .bool tm, .int .i64 la, .slice PA pn pc, .int .i64 fst] 56)).alloc (.cells #[.int .i64 0, .int .i64 0, .int .i64 0, .int .i64 0, .slice none 0 0, .int .i64 0, .string ⟨#[]⟩, .int .i64 0, .int .i64 0, .int .i64 0, .bool false, .int .i64 0, .slice none 0 0, .int .i64 0] 56)) w.heap.size 56 #[.int .i64 2, .int .i64 src, .int .i64 cl, .int .i64 tg, .slice A n cap, .int .i64 acts, .string f, .int .i64 a, .int .i64 p, .int .i64 nm, .bool tm, .int .i64 la, .slice PA pn pc, .int .i64 fst] ∧ VarAt ((w.alloc (.cells #[.int .i64 2, .int .i64 src, .int .i64 cl, .int .i64 tg, .slice A n cap, .int .i64 acts, .string f, .int .i64 a, .int .i64 p, .int .i64 nm, .bool tm, .int .i64 la, .slice PA pn pc, .int .i64 fst] 56)).alloc (.cells #[.int .i64 0, .int .i64 0, .int .i64 0, .int .i64 0, .slice none 0 0, .int .i64 0, .string ⟨#[]⟩, .int .i64 0, .int .i64 0, .int .i64 0, .bool false, .int .i64 0, .slice none 0 0, .int .i64 0] 56)) (w.heap.size + 1) 56 #[.int .i64 0, .int .i64 0, .int .i64 0, .int .i64 0, .slice none 0 0, .int .i64 0, .string ⟨#[]⟩, .int .i64 0, .int .i64 0, .int .i64 0, .bool false, .int .i64 0, .slice none 0 0, .int .i64 0] ∧ Same w ((w.alloc (.cells #[.int .i64 2, .int .i64 src, .int .i64 cl, .int .i64 tg, .slice A n cap, .int .i64 acts, .string f, .int .i64 a, .int .i64 p, .int .i64 nm, .bool tm, .int .i64 la, .slice PA pn pc, .int .i64 fst] 56)).alloc (.cells #[.int .i64 0, .int .i64 0, .int .i64 0, .int .i64 0, .slice none 0 0, .int .i64 0, .string ⟨#[]⟩, .int .i64 0, .int .i64 0, .int .i64 0, .bool false, .int .i64 0, .slice none 0 0, .int .i64 0] 56)) ∧ ((w.alloc (.cells #[.int .i64 2, .int .i64 src, .int .i64 cl, .int .i64 tg, .slice A n cap, .int .i64 acts, .string f, .int .i64 a, .int .i64 p, .int .i64 nm, .bool tm, .int .i64 la, .slice PA pn pc, .int .i64 fst] 56)).alloc (.cells #[.int .i64 0, .int .i64 0, .int .i64 0, .int .i64 0, .slice none 0 0, .int .i64 0, .string ⟨#[]⟩, .int .i64 0, .int .i64 0, .int .i64 0, .bool false, .int .i64 0, .slice none 0 0, .int .i64 0] 56)).heap.size = w.heap.size + 2) :=
    Lib.hid ⟨(VarAt.new _ _ _).alloc _, VarAt.newk (by simp), ((Chg.refl _ _).alloc _).alloc _, by simp⟩
  clear hr hG
  obtain rfl : ds = [] := by rw [← hd]; exact if_neg (show ¬ (2 : Int) = 1 by decide)
  clear hd
  go_enter Try.func56, Try.ntmps56
  go_wp2_with fail
  obtain ⟨w1, hw1⟩ : ∃ w1, (w.alloc (.cells #[.int .i64 2, .int .i64 src, .int .i64 cl, .int .i64 tg, .slice A n cap, .int .i64 acts, .string f, .int .i64 a, .int .i64 p, .int .i64 nm, .bool tm, .int .i64 la, .slice PA pn pc, .int .i64 fst] 56)).alloc (.cells #[.int .i64 0, .int .i64 0, .int .i64 0, .int .i64 0, .slice none 0 0, .int .i64 0, .string ⟨#[]⟩, .int .i64 0, .int .i64 0, .int .i64 0, .bool false, .int .i64 0, .slice none 0 0, .int .i64 0] 56) = w1 := ⟨_, rfl⟩
  rw [hw1] at HX ⊢
  have HB : Hid (VarAt w1 w.heap.size 56 #[.int .i64 2, .int .i64 src, .int .i64 cl, .int .i64 tg, .slice A n cap, .int .i64 acts, .string f, .int .i64 a, .int .i64 p, .int .i64 nm, .bool tm, .int .i64 la, .slice PA pn pc, .int .i64 fst] ∧ VarAt w1 (w.heap.size + 1) 56 #[.int .i64 0, .int .i64 0, .int .i64 0, .int .i64 0, .slice none 0 0, .int .i64 0, .string ⟨#[]⟩, .int .i64 0, .int .i64 0, .int .i64 0, .bool false, .int .i64 0, .slice none 0 0, .int .i64 0] ∧ Same w w1 ∧ w.heap.size + 2 ≤ w1.heap.size ∧ OutAt (w.heap.size + 2) w1 (.slice none ([] : List Dv).length 0) (([] : List Dv).map Dv.cells)) :=
    Lib.hid ⟨HX.out.1, HX.out.2.1, HX.out.2.2.1, by rw [HX.out.2.2.2]; omega, World.ownsRow_nil _ _ _ _⟩
  clear hw1
  go_wp2
  go_loopw [5, 6] (fun v5 v6 wr => ∃ (i : Nat) (rs' : List RPp) (A0 : Option Addr) (cap0 : Nat), i ≤ pn ∧ v5 = .slice A0 i cap0 ∧ v6 = .int .i64 i ∧ CancTo true fst rs rs' i ∧ wr.ownsRow w1.heap.size 112 5 (.slice A0 i cap0) i (rs'.flatMap RPp.cells) ∧ Same w1 wr) (fun _ v6 _ => pn - (intOf v6).toNat)
  case atStart => exact ⟨0, [], none, 0, by omega, rfl, rfl, ⟨rfl, fun z hz => by simp at hz, fun j z hz => by simp at hz⟩, World.ownsRow_nil _ _ _ _, Chg.refl _ _⟩
  case round =>
    obtain ⟨i, rs', A0, cap0, hi, rfl, rfl, hct, hown, hk⟩ := hrel
    have HCT := Lib.hid hct
    have HOWN := Lib.hid hown
    have HK := Lib.hid hk
    have hbl : w.heap.size + 2 ≤ w1.heap.size := HB.out.2.2.2.1
    have hD := HB.out.1.same hk
    have p12 : wr.cell? ⟨w.heap.size, 12, none⟩ = some (.slice PA pn pc) := cell_at (C := [.int .i64 2, .int .i64 src, .int .i64 cl, .int .i64 tg, .slice A n cap, .int .i64 acts, .string f, .int .i64 a, .int .i64 p, .int .i64 nm, .bool tm, .int .i64 la, .slice PA pn pc, .int .i64 fst]) hD 12
    have p0 : wr.cell? ⟨w.heap.size, 0, none⟩ = some (.int .i64 2) := cell_at (C := [.int .i64 2, .int .i64 src, .int .i64 cl, .int .i64 tg, .slice A n cap, .int .i64 acts, .string f, .int .i64 a, .int .i64 p, .int .i64 nm, .bool tm, .int .i64 la, .slice PA pn pc, .int .i64 fst]) hD 0
    have p13 : wr.cell? ⟨w.heap.size, 13, none⟩ = some (.int .i64 fst) := cell_at (C := [.int .i64 2, .int .i64 src, .int .i64 cl, .int .i64 tg, .slice A n cap, .int .i64 acts, .string f, .int .i64 a, .int .i64 p, .int .i64 nm, .bool tm, .int .i64 la, .slice PA pn pc, .int .i64 fst]) hD 13
    have hbw : w.heap.size < wr.heap.size := by have := hk.size; omega
    clear hct hown hk hD
    by_cases hlt : i < pn
    · have hii : (i : Int) < pn := by omega
      obtain ⟨g, rfl, _, hgl, hc⟩ := HR.out.1.2.2 (by omega)
      obtain ⟨⟨⟨win, cr, bs, zcl, zcn⟩, zA, zc⟩, hy⟩ : ∃ y, rs[i]? = some y := ⟨_, List.getElem?_eq_getElem (by omega)⟩
      have hkw := HB.out.2.2.1.trans HK.out
      have z0 := hkw.cell (hc i _ hy 0 _ rfl) (fun q => q)
      have z1 := hkw.cell (hc i _ hy 1 _ rfl) (fun q => q)
      have z2 := hkw.cell (hc i _ hy 2 _ rfl) (fun q => q)
      have z3 := hkw.cell (hc i _ hy 3 _ rfl) (fun q => q)
      have z4 := hkw.cell (hc i _ hy 4 _ rfl) (fun q => q)
      rw [Nat.add_zero] at z0
      have hzok := HR.out.1.2.1 _ (List.mem_of_getElem? hy)
      have HY := Lib.hid (And.intro hy hzok)
      have hgl2 := Nat.lt_of_lt_of_le hgl hkw.size
      clear hc hy hzok hkw
      by_cases hge : fst ≤ (i : Int)
      · have hge2 : ¬ (i : Int) < fst := by omega
        go_wp2_with fail
        refine (qcancel_z ⟨⟨win, cr, bs, zcl, zcn⟩, zA, zc⟩ HY.out.2 _).mono ?_
        rintro e w6 ⟨⟨⟨win', cr', bs', zcl', zcn'⟩, zA', zc'⟩, v, rfl, hq, hok', hv, hs6⟩
        dsimp only [RPp.cells]
        have h7 : VarAt w6 wr.heap.size 112 #[.int .i64 win, .int .i64 cr, .slice zA 0 zc, .bool (zcl && !zcn), .bool zcn] := (VarAt.new wr 112 #[.int .i64 win, .int .i64 cr, .slice zA 0 zc, .bool (zcl && !zcn), .bool zcn]).same hs6
        have hk6 : Same wr w6 := Chg.trans ((Chg.refl _ _).alloc _) hs6
        have hw6 : wr.heap.size < w6.heap.size := by have := hs6.size; simp at this; omega
        have HZ := Lib.hid (And.intro hq (And.intro hok' (And.intro hv hk6)))
        clear hq hok' hv hs6 z0 z1 z2 z3 z4 p0 p12 p13
        by_cases hv0 : v = 0
        · subst hv0
          have h7b := h7.alloc (.cells #[.int .i64 win', .int .i64 cr', .slice zA' 0 zc', .bool (zcl' && !zcn'), .bool zcn'] 112)
          have hld : (loadVar 112 ⟨wr.heap.size, 0, none⟩).run Try.prog ((w6.alloc (.cells #[.int .i64 win', .int .i64 cr', .slice zA' 0 zc', .bool (zcl' && !zcn'), .bool zcn'] 112)).setRow wr.heap.size #[.int .i64 win', .int .i64 cr', .slice zA' 0 zc', .bool (zcl' && !zcn'), .bool zcn']) = .ok (.agg #[.int .i64 win', .int .i64 cr', .slice zA' 0 zc', .bool (zcl' && !zcn'), .bool zcn']) ((w6.alloc (.cells #[.int .i64 win', .int .i64 cr', .slice zA' 0 zc', .bool (zcl' && !zcn'), .bool zcn'] 112)).setRow wr.heap.size #[.int .i64 win', .int .i64 cr', .slice zA' 0 zc', .bool (zcl' && !zcn'), .bool zcn']) := run_load_rp (h7b.put _)
          have hk7 : Same wr ((w6.alloc (.cells #[.int .i64 win', .int .i64 cr', .slice zA' 0 zc', .bool (zcl' && !zcn'), .bool zcn'] 112)).setRow wr.heap.size #[.int .i64 win', .int .i64 cr', .slice zA' 0 zc', .bool (zcl' && !zcn'), .bool zcn']) := (hk6.alloc _).setRow _ _ (fun q => by omega)
          have hown7 := row_chg HOWN.out hk7 (fun _ _ q => q)
          have HK7 := Lib.hid hk7
          have hsz : ((w6.alloc (.cells #[.int .i64 win', .int .i64 cr', .slice zA' 0 zc', .bool (zcl' && !zcn'), .bool zcn'] 112)).setRow wr.heap.size #[.int .i64 win', .int .i64 cr', .slice zA' 0 zc', .bool (zcl' && !zcn'), .bool zcn']).heap.size = w6.heap.size + 1 := by simp
          have HOWN7 := Lib.hid (And.intro hown7 hsz)
          have HLD := Lib.hid (And.intro h7b hld)
          clear hk7 hown7 hsz h7b hld h7 hk6
          go_wp2_with (first | (refine wpl_storeRow _ rfl rfl HLD.out.1 (by kernel_rfl) rfl (by simp [Value.oneCell']) ?_) | (refine wpl_loadv _ _ _ rfl HLD.out.2 ?_) | (at_builtin; refine wpl_append1 w1.heap.size 112 _ 5 48 Try.underlying54 info_pipe rfl (by omega) _ i (rs'.flatMap RPp.cells) (HOWN7.out.1.alloc _) rfl (w6.heap.size + 1) 1 [.int .i64 win', .int .i64 cr', .slice zA' 0 zc', .bool (zcl' && !zcn'), .bool zcn'] rfl (VarAt.newk HOWN7.out.2) rfl (by simp [Value.oneCell']) (by omega) (by omega) (by have := HK.out.size; have := HK7.out.size; simp; omega) ?_; intro g2 cap2 w5 hown2 hgrow2 _ _; have HOWN2 := Lib.hid hown2; have HGROW := Lib.hid hgrow2; clear hown2 hgrow2))
          case roundEnd =>
            refine ⟨?_, ?_⟩
            · refine ⟨i + 1, rs' ++ [⟨⟨win', cr', bs', zcl', zcn'⟩, zA', zc'⟩], _, _, by omega, rfl, by go_num, HCT.out.add HY.out.1 HZ.out.2.1 ?_, by rw [List.flatMap_append]; exact HOWN2.out, ?_⟩
              · unfold cancQ; rw [if_pos ⟨rfl, hge⟩]; exact HZ.out.1
              · exact ((HK.out.trans HK7.out).alloc _).then_ (Chg.grownO (Chg.refl _ _) HGROW.out) (fun j hj e => by have := (HOWN.out.lt j e.symm).1; omega)
            · simp [intOf]; omega
        · have hvb : (v == 0) = false := by simp [hv0]
          have hld : (loadVar 112 ⟨wr.heap.size, 0, none⟩).run Try.prog (w6.alloc (.cells #[.int .i64 win', .int .i64 cr', .slice zA' 0 zc', .bool (zcl' && !zcn'), .bool zcn'] 112)) = .ok (.agg #[.int .i64 win, .int .i64 cr, .slice zA 0 zc, .bool (zcl && !zcn), .bool zcn]) (w6.alloc (.cells #[.int .i64 win', .int .i64 cr', .slice zA' 0 zc', .bool (zcl' && !zcn'), .bool zcn'] 112)) := run_load_rp (h7.alloc _)
          have hk7 : Same wr (w6.alloc (.cells #[.int .i64 win', .int .i64 cr', .slice zA' 0 zc', .bool (zcl' && !zcn'), .bool zcn'] 112)) := hk6.alloc _
          have hown7 := row_chg HOWN.out hk7 (fun _ _ q => q)
          have HK7 := Lib.hid hk7
          have hsz : (w6.alloc (.cells #[.int .i64 win', .int .i64 cr', .slice zA' 0 zc', .bool (zcl' && !zcn'), .bool zcn'] 112)).heap.size = w6.heap.size + 1 := by simp
          have HOWN7 := Lib.hid (And.intro hown7 hsz)
          have HLD := Lib.hid hld
          have HV0 := Lib.hid hv0
          clear hk7 hown7 hsz hld h7 hk6 hv0
          go_wp2_with (first | (refine wpl_loadv _ _ _ rfl HLD.out ?_) | (at_builtin; refine wpl_append1 w1.heap.size 112 _ 5 48 Try.underlying54 info_pipe rfl (by omega) _ i (rs'.flatMap RPp.cells) (HOWN7.out.1.alloc _) rfl (w6.heap.size + 1) 1 [.int .i64 win, .int .i64 cr, .slice zA 0 zc, .bool (zcl && !zcn), .bool zcn] rfl (VarAt.newk HOWN7.out.2) rfl (by simp [Value.oneCell']) (by omega) (by omega) (by have := HK.out.size; have := HK7.out.size; simp; omega) ?_; intro g2 cap2 w5 hown2 hgrow2 _ _; have HOWN2 := Lib.hid hown2; have HGROW := Lib.hid hgrow2; clear hown2 hgrow2))
          case roundEnd =>
            refine ⟨?_, ?_⟩
            · refine ⟨i + 1, rs' ++ [⟨⟨win, cr, bs, zcl, zcn⟩, zA, zc⟩], _, _, by omega, rfl, by go_num, HCT.out.add HY.out.1 HY.out.2 ?_, by rw [List.flatMap_append]; exact HOWN2.out, ?_⟩
              · unfold cancQ; rw [if_pos ⟨rfl, hge⟩]; exact (canc_zero_of (by rw [← HZ.out.2.2.1]; exact HV0.out)).symm
              · exact ((HK.out.trans HK7.out).alloc _).then_ (Chg.grownO (Chg.refl _ _) HGROW.out) (fun j hj e => by have := (HOWN.out.lt j e.symm).1; omega)
            · simp [intOf]; omega
      · have hge2 : (i : Int) < fst := by omega
        go_wp2_with (at_builtin; refine wpl_append1 w1.heap.size 112 _ 5 48 Try.underlying54 info_pipe rfl (by omega) _ i (rs'.flatMap RPp.cells) ((HOWN.out.alloc _).alloc _) rfl (wr.heap.size + 1) 1 [.int .i64 win, .int .i64 cr, .slice zA 0 zc, .bool (zcl && !zcn), .bool zcn] rfl (VarAt.newk (by simp)) rfl (by simp [Value.oneCell']) (by omega) (by omega) (by have := HK.out.size; simp; omega) ?_; intro g2 cap2 w5 hown2 hgrow2 _ _; have HOWN2 := Lib.hid hown2; have HGROW := Lib.hid hgrow2; clear hown2 hgrow2)
        go_roundw
        case rel =>
          refine ⟨i + 1, rs' ++ [⟨⟨win, cr, bs, zcl, zcn⟩, zA, zc⟩], _, _, by omega, rfl, by go_num, HCT.out.add HY.out.1 HY.out.2 (by unfold cancQ; rw [if_neg (fun q => hge q.2)]), by rw [List.flatMap_append]; exact HOWN2.out, ?_⟩
          exact (((HK.out.alloc _).alloc _).then_ (Chg.grownO (Chg.refl _ _) HGROW.out) (fun j hj e => by have := (HOWN.out.lt j e.symm).1; omega))
        case measure => simp [intOf]; omega
    · have hii : ¬ (i : Int) < pn := by omega
      obtain rfl : pn = i := by omega
      have hD := HB.out.1.same HK.out
      have hZ := HB.out.2.1.same HK.out
      have f12 := frozen_at hD 12
      have f0 := frozen_at hD 0
      have hV : VarAt ((wr.setCell ⟨w.heap.size, 12, none⟩ (.slice A0 pn cap0)).setCell ⟨w.heap.size, 0, none⟩ (.int .i64 0)) w.heap.size 56 (MD.cells ⟨0, src, cl, tg, A, n, cap, acts, f, a, p, nm, tm, la, A0, pn, cap0, fst⟩).toArray := at_setCell (i := 0) _ (at_setCell (i := 12) (C := [.int .i64 2, .int .i64 src, .int .i64 cl, .int .i64 tg, .slice A n cap, .int .i64 acts, .string f, .int .i64 a, .int .i64 p, .int .i64 nm, .bool tm, .int .i64 la, .slice PA pn pc, .int .i64 fst]) _ hD)
      have hZ2 : VarAt ((wr.setCell ⟨w.heap.size, 12, none⟩ (.slice A0 pn cap0)).setCell ⟨w.heap.size, 0, none⟩ (.int .i64 0)) (w.heap.size + 1) 56 #[.int .i64 0, .int .i64 0, .int .i64 0, .int .i64 0, .slice none 0 0, .int .i64 0, .string ⟨#[]⟩, .int .i64 0, .int .i64 0, .int .i64 0, .bool false, .int .i64 0, .slice none 0 0, .int .i64 0] := at_setCell_other _ (by omega) (at_setCell_other _ (by omega) hZ)
      have hch : Chg (fun x => x = w.heap.size ∨ x = w.heap.size + 1) wr ((wr.setCell ⟨w.heap.size, 12, none⟩ (.slice A0 pn cap0)).setCell ⟨w.heap.size, 0, none⟩ (.int .i64 0)) := ((Chg.refl _ _).setCell _ _ (fun _ => .inl rfl)).setCell _ _ (fun _ => .inl rfl)
      have HE := Lib.hid (And.intro hZ2 hch)
      have hld := VarAt.ldD (x := ⟨0, src, cl, tg, A, n, cap, acts, f, a, p, nm, tm, la, A0, pn, cap0, fst⟩) hV
      clear hD hZ hV hZ2 hch
      go_wp2_with (refine wpl_loadv _ _ _ rfl hld ?_)
      refine (muntargeted_ok ⟨0, src, cl, tg, A, n, cap, acts, f, a, p, nm, tm, la, A0, pn, cap0, fst⟩ 0 0 _).mono ?_
      rintro e w6 ⟨rfl, rfl⟩
      have h2 := ((HE.out.1.alloc (.cells (MD.aim ⟨0, src, cl, tg, A, n, cap, acts, f, a, p, nm, tm, la, A0, pn, cap0, fst⟩ 0 0).cells.toArray 56)).alloc (.cells (MD.aim ⟨0, src, cl, tg, A, n, cap, acts, f, a, p, nm, tm, la, A0, pn, cap0, fst⟩ 0 0).cells.toArray 56))
      go_wp2_with (refine wpl_storeRow _ rfl rfl h2 (by kernel_rfl) rfl (MD.one _) ?_)
      have hfin : Chg (fun x => x = w.heap.size ∨ x = w.heap.size + 1) wr (((((wr.setCell ⟨w.heap.size, 12, none⟩ (.slice A0 pn cap0)).setCell ⟨w.heap.size, 0, none⟩ (.int .i64 0)).alloc (.cells (MD.aim ⟨0, src, cl, tg, A, n, cap, acts, f, a, p, nm, tm, la, A0, pn, cap0, fst⟩ 0 0).cells.toArray 56)).alloc (.cells (MD.aim ⟨0, src, cl, tg, A, n, cap, acts, f, a, p, nm, tm, la, A0, pn, cap0, fst⟩ 0 0).cells.toArray 56)).setRow (w.heap.size + 1) (MD.aim ⟨0, src, cl, tg, A, n, cap, acts, f, a, p, nm, tm, la, A0, pn, cap0, fst⟩ 0 0).cells.toArray) := ((HE.out.2.alloc _).alloc _).setRow _ _ (fun _ => .inr rfl)
      have hsame : Same w (((((wr.setCell ⟨w.heap.size, 12, none⟩ (.slice A0 pn cap0)).setCell ⟨w.heap.size, 0, none⟩ (.int .i64 0)).alloc (.cells (MD.aim ⟨0, src, cl, tg, A, n, cap, acts, f, a, p, nm, tm, la, A0, pn, cap0, fst⟩ 0 0).cells.toArray 56)).alloc (.cells (MD.aim ⟨0, src, cl, tg, A, n, cap, acts, f, a, p, nm, tm, la, A0, pn, cap0, fst⟩ 0 0).cells.toArray 56)).setRow (w.heap.size + 1) (MD.aim ⟨0, src, cl, tg, A, n, cap, acts, f, a, p, nm, tm, la, A0, pn, cap0, fst⟩ 0 0).cells.toArray) := (HB.out.2.2.1.trans HK.out).then_ hfin (fun j hj q => by rcases q with q | q <;> omega)
      obtain ⟨A9, cap9, hv9, _, hrow9⟩ := PRow.of_own (F := G) (row_chg HOWN.out hfin (fun x hx q => by have := (HOWN.out.lt x hx).1; rcases q with q | q <;> omega)) HCT.out.1 HCT.out.2.1 (fun x hx => by have := HR.out.2 x hx; omega)
      cases hv9
      refine bodyPost_ret (results_cell_tmp Try.results56 rfl (VarAt.ldD (x := MD.over ⟨2, src, cl, tg, A, n, cap, acts, f, a, p, nm, tm, la, PA, pn, pc, fst⟩ A0 cap0) (h2.put _))) rfl ⟨A0, cap0, rs', none, 0, rfl, ?_, hrow9, ?_, hsame⟩
      · have := HCT.out
        rw [← hrl] at this
        exact this.done
      · refine World.ownsRow.mono (base := w.heap.size + 2) (row_chg (HB.out.2.2.2.2) ((Chg.of_same HK.out).trans hfin) (fun x hx q => by have := (HB.out.2.2.2.2.lt x hx).1; rcases q with q | q <;> omega)) (by omega)

end Go.Proofs.Yteolilggeaffaaa
