/- compositorlaw43.want where it grants a byte to a pipe (printed by wantg.py). -/
import Derived.Test.YteolilggeaffaaaPk39
import Derived.Test.YteolilggeaffaaaPk51
import Derived.Test.YteolilggeaffaaaMP43
set_option linter.unusedVariables false
set_option linter.unusedSimpArgs false
set_option maxRecDepth 100000
namespace Go.Proofs.Yteolilggeaffaaa
open Go.RowKit

theorem own_some {w : World} {base : Nat} {e : TypeId} {size n : Nat} {A : Option Addr} {cap : Nat} {xs : List Value} (h : w.ownsRow base e size (.slice A n cap) n xs) (hn : 0 < n) : ∃ g cur fr, A = some ⟨g, 0, none⟩ ∧ base ≤ g ∧ w.heap[g]? = some (.cells cur e fr) ∧ fr = (0, 0) := by
  rcases h.2 with ⟨q, q2⟩ | ⟨g, cap', cur, hv, hb, hg, _⟩
  · omega
  · cases hv
    exact ⟨g, cur, _, rfl, hb, hg, rfl⟩
theorem own_there {w : World} {base n : Nat} {g cap : Nat} {rs : List RPp} (h : w.ownsRow base 112 5 (.slice (some ⟨g, 0, none⟩) n cap) n (rs.flatMap RPp.cells)) {k : Nat} (hk : k < n) (hl : rs.length = n) : w.there g (k * 5) 5 := by
  intro j hj
  have hx : k * 5 + j < n * 5 := by omega
  refine ⟨?_, h.frozenAt _⟩
  rw [h.cellAt _ hx]
  have : k * 5 + j < (rs.flatMap RPp.cells).length := by rw [rows_len]; omega
  rw [List.getElem?_eq_getElem this]
  rfl
theorem wpl_storeMid {P : Program} {ops : Array Oper} {Q : Exit → Act → World → Prop} {rest : List Oper} {a : Act} {w : World} {ty t : TypeId} {ps : String} {ed : Array Edge} {x y : Operand} (g o : Nat) (cells : Array Value) (hx : a.eval x = .pointer (some ⟨g, o, none⟩)) (hy : a.eval y = .agg cells)
    (ht : w.there g o cells.size) (hi : (P.info? t).map (·.size) = some cells.size) (h1 : cells.all (·.oneCell') = true) (h : ∀ w', w.setCells g o cells.toList = w' → wpList P ops Q rest a w') : wpList P ops Q (⟨none, .store t x y, ty, ps, ed, none⟩ :: rest) a w :=
  wpl_storev x y ⟨g, o, none⟩ hx (by rw [hy]; exact run_storeVar_mid w g o t cells ht hi h1) (h _ rfl)
theorem grant_row {w : World} {base g cap n : Nat} {cur : Array Value} {rs : List RPp} {F : Nat → Prop} {k : Nat} {z' : RPp} (h : w.ownsRow base 112 5 (.slice (some ⟨g, 0, none⟩) n cap) n (rs.flatMap RPp.cells)) (ht : w.heap[g]? = some (.cells cur 112 (0, 0))) (hl : rs.length = n) (hz : ∀ z ∈ rs, z.ok) (hF : ∀ x, F x → x < base) (hk : k < n) (hz' : z'.ok) :
    PRow (w.setCells g (k * 5) z'.cells) F (some ⟨g, 0, none⟩) n (rs.set k z') := by
  obtain ⟨A, cp, hv, _, hp⟩ := PRow.of_own h hl hz hF
  cases hv
  exact PRow.set5 (C := cur.toList) hp (by simpa using ht) hk hz'
set_option maxHeartbeats 8000000 in
theorem want_grant (kk : Int) (ph src cl tg : Int) (A : Option Addr) (n cap : Nat) (acts : Int) (f : ByteArray) (a p nm : Int) (tm : Bool) (la : Int) (PA : Option Addr) (pn pc : Nat) (fst : Int) (N : Nat) (LA : Option Addr) (ln lc : Nat) (last : Int) (client surface other px py time back : Int) (g : ByteArray) (OA : Option Addr) (om oc : Nat) (oa : Int) (w : World) (k : Nat) (rs : List RPp) (y : RPp) (G : Nat → Prop)
    (hk : kk < 0 ∨ 8 < kk) (hkp : k < pn) (hpn : pn ≤ 1000) (hr : PRow w G PA pn rs) (hG : ∀ x, G x → x < w.heap.size) (hy : rs[k]? = some y) :
    Calls Try.prog 26 #[.agg #[.int .i64 ph, .int .i64 src, .int .i64 cl, .int .i64 tg, .slice A n cap, .int .i64 acts, .string f, .int .i64 a, .int .i64 p, .int .i64 nm, .bool tm, .int .i64 la, .slice PA pn pc, .int .i64 fst], .agg #[.int .i64 N, .slice LA ln lc], .int .u32 last, .agg #[.int .i64 kk, .int .i64 client, .int .i64 surface, .int .i64 k, .int .i64 other, .int .i64 px, .int .i64 py, .int .i64 time, .int .u32 back, .string g, .slice OA om oc, .int .i64 oa]] w fun e w' => ∃ PA' pc' z' er, e = .returned (.tuple #[.agg (MD.cells { (⟨ph, src, cl, tg, A, n, cap, acts, f, a, p, nm, tm, la, PA, pn, pc, fst⟩ : MD) with PA := PA', pc := pc' }).toArray, .agg #[.int .i64 N, .slice LA ln lc], .agg #[.slice none 0 0, .bool false, .int .i64 er]]) ∧ PRow w' G PA' pn (rs.set k z') ∧ z'.q = y.q.grant 1 ∧ er = y.q.grE 1 ∧ Same w w' := by
  have k0 : (kk == 0) = false := by simp; omega
  have k1 : (kk == 1) = false := by simp; omega
  have k2 : (kk == 2) = false := by simp; omega
  have k3 : (kk == 3) = false := by simp; omega
  have k4 : (kk == 4) = false := by simp; omega
  have k5 : (kk == 5) = false := by simp; omega
  have k6 : (kk == 6) = false := by simp; omega
  have k7 : (kk == 7) = false := by simp; omega
  have k8 : (kk == 8) = false := by simp; omega
  have hii : (k : Int) < pn := by omega
  have hi0 : ¬ (k : Int) < 0 := by omega
  obtain ⟨g0, rfl, _, hgl, hc⟩ := hr.2.2 (by omega)
  have hyok := hr.2.1 _ (List.mem_of_getElem? hy)
  have HR := Lib.hid (And.intro hr (And.intro hG (And.intro hy hyok)))
  have HRL := Lib.hid hr.1
  obtain ⟨⟨win, cr, bs, zcl, zcn⟩, zA, zc⟩ := y
  have HX := Lib.hid (six_at w #[.int .i64 ph, .int .i64 src, .int .i64 cl, .int .i64 tg, .slice A n cap, .int .i64 acts, .string f, .int .i64 a, .int .i64 p, .int .i64 nm, .bool tm, .int .i64 la, .slice (some ⟨g0, 0, none⟩) pn pc, .int .i64 fst] #[.int .i64 N, .slice LA ln lc] #[.int .i64 kk, .int .i64 client, .int .i64 surface, .int .i64 k, .int .i64 other, .int .i64 px, .int .i64 py, .int .i64 time, .int .u32 back, .string g, .slice OA om oc, .int .i64 oa] #[.int .i64 0, .int .i64 0, .int .i64 0, .int .i64 0, .slice none 0 0, .int .i64 0, .string ⟨#[]⟩, .int .i64 0, .int .i64 0, .int .i64 0, .bool false, .int .i64 0, .slice none 0 0, .int .i64 0] #[.int .i64 0, .slice none 0 0] #[.slice none 0 0, .bool false, .int .i64 0] 56 60 67 56 60 63)
  have HX7 : Hid (VarAt ((((((w.alloc (.cells #[.int .i64 ph, .int .i64 src, .int .i64 cl, .int .i64 tg, .slice A n cap, .int .i64 acts, .string f, .int .i64 a, .int .i64 p, .int .i64 nm, .bool tm, .int .i64 la, .slice (some ⟨g0, 0, none⟩) pn pc, .int .i64 fst] 56)).alloc (.cells #[.int .i64 N, .slice LA ln lc] 60)).alloc (.cells #[.int .i64 kk, .int .i64 client, .int .i64 surface, .int .i64 k, .int .i64 other, .int .i64 px, .int .i64 py, .int .i64 time, .int .u32 back, .string g, .slice OA om oc, .int .i64 oa] 67)).alloc (.cells #[.int .i64 0, .int .i64 0, .int .i64 0, .int .i64 0, .slice none 0 0, .int .i64 0, .string ⟨#[]⟩, .int .i64 0, .int .i64 0, .int .i64 0, .bool false, .int .i64 0, .slice none 0 0, .int .i64 0] 56)).alloc (.cells #[.int .i64 0, .slice none 0 0] 60)).alloc (.cells #[.slice none 0 0, .bool false, .int .i64 0] 63)) (w.heap.size + 1 + 1) 67 #[.int .i64 kk, .int .i64 client, .int .i64 surface, .int .i64 k, .int .i64 other, .int .i64 px, .int .i64 py, .int .i64 time, .int .u32 back, .string g, .slice OA om oc, .int .i64 oa]) := Lib.hid ((((VarAt.newk (by simp)).alloc _).alloc _).alloc _)
  have HC := Lib.hid hc
  clear hk hr hG hy hyok hc
  go_enter Try.func26, Try.ntmps26
  go_upto_region 29 with (fail)
  obtain ⟨w1, hw1⟩ : ∃ w1, ((((((w.alloc (.cells #[.int .i64 ph, .int .i64 src, .int .i64 cl, .int .i64 tg, .slice A n cap, .int .i64 acts, .string f, .int .i64 a, .int .i64 p, .int .i64 nm, .bool tm, .int .i64 la, .slice (some ⟨g0, 0, none⟩) pn pc, .int .i64 fst] 56)).alloc (.cells #[.int .i64 N, .slice LA ln lc] 60)).alloc (.cells #[.int .i64 kk, .int .i64 client, .int .i64 surface, .int .i64 k, .int .i64 other, .int .i64 px, .int .i64 py, .int .i64 time, .int .u32 back, .string g, .slice OA om oc, .int .i64 oa] 67)).alloc (.cells #[.int .i64 0, .int .i64 0, .int .i64 0, .int .i64 0, .slice none 0 0, .int .i64 0, .string ⟨#[]⟩, .int .i64 0, .int .i64 0, .int .i64 0, .bool false, .int .i64 0, .slice none 0 0, .int .i64 0] 56)).alloc (.cells #[.int .i64 0, .slice none 0 0] 60)).alloc (.cells #[.slice none 0 0, .bool false, .int .i64 0] 63)) = w1 := ⟨_, rfl⟩
  rw [hw1] at HX HX7 ⊢
  clear hw1
  have hs1 := HX.out.2.2.2.2.2.2
  have hy := HR.out.2.2.1
  have z0 := hs1.cell (HC.out k _ hy 0 _ rfl) (fun q => q)
  have z1 := hs1.cell (HC.out k _ hy 1 _ rfl) (fun q => q)
  have z2 := hs1.cell (HC.out k _ hy 2 _ rfl) (fun q => q)
  have z3 := hs1.cell (HC.out k _ hy 3 _ rfl) (fun q => q)
  have z4 := hs1.cell (HC.out k _ hy 4 _ rfl) (fun q => q)
  rw [Nat.add_zero] at z0
  have y3 : w1.cell? ⟨w.heap.size + 1 + 1, 3, none⟩ = some (.int .i64 k) := cell_at (C := [.int .i64 kk, .int .i64 client, .int .i64 surface, .int .i64 k, .int .i64 other, .int .i64 px, .int .i64 py, .int .i64 time, .int .u32 back, .string g, .slice OA om oc, .int .i64 oa]) HX7.out 3
  have p12 : w1.cell? ⟨w.heap.size, 12, none⟩ = some (.slice (some ⟨g0, 0, none⟩) pn pc) := cell_at (C := [.int .i64 ph, .int .i64 src, .int .i64 cl, .int .i64 tg, .slice A n cap, .int .i64 acts, .string f, .int .i64 a, .int .i64 p, .int .i64 nm, .bool tm, .int .i64 la, .slice (some ⟨g0, 0, none⟩) pn pc, .int .i64 fst]) HX.out.1 12
  clear hs1 hy
  go_wp2_with fail
  refine (qgrant_z ⟨⟨win, cr, bs, zcl, zcn⟩, zA, zc⟩ HR.out.2.2.2 1 (by omega) _).mono ?_
  rintro e w2 ⟨⟨⟨win', cr', bs', zcl', zcn'⟩, zA', zc'⟩, v, rfl, hq, hok', hv, hs⟩
  dsimp only [RPp.cells]
  have hz2 : w.heap.size + 6 ≤ w2.heap.size := by rw [← HX.out.2.2.2.2.2.1]; exact hs.size
  have HZ := Lib.hid (And.intro hq (And.intro hok' (And.intro hv hs)))
  have HB := Lib.hid (And.intro (HX.out.1.same hs) (And.intro (HX.out.2.1.same hs) (And.intro (HX.out.2.2.1.same hs) (And.intro (HX.out.2.2.2.1.same hs) (And.intro (HX.out.2.2.2.2.1.same hs) (HX.out.2.2.2.2.2.2.trans hs))))))
  clear p12 y3
  have y3 : w2.cell? ⟨w.heap.size + 1 + 1, 3, none⟩ = some (.int .i64 k) := (HZ.out.2.2.2).cell (cell_at (C := [.int .i64 kk, .int .i64 client, .int .i64 surface, .int .i64 k, .int .i64 other, .int .i64 px, .int .i64 py, .int .i64 time, .int .u32 back, .string g, .slice OA om oc, .int .i64 oa]) HX7.out 3) (fun q => q)
  have p12 : w2.cell? ⟨w.heap.size, 12, none⟩ = some (.slice (some ⟨g0, 0, none⟩) pn pc) := cell_at (C := [.int .i64 ph, .int .i64 src, .int .i64 cl, .int .i64 tg, .slice A n cap, .int .i64 acts, .string f, .int .i64 a, .int .i64 p, .int .i64 nm, .bool tm, .int .i64 la, .slice (some ⟨g0, 0, none⟩) pn pc, .int .i64 fst]) HB.out.1 12
  have hlt : w.heap.size < w2.heap.size := by omega
  clear hq hok' hv hs z0 z1 z2 z3 z4
  go_upto_region 35 with (first | (at_builtin; refine wpl_appendSl (w2.heap.size + 1) 112 _ 5 48 Try.underlying54 info_pipe rfl (by omega) _ 0 [] (World.ownsRow_nil _ _ _ _) rfl (some ⟨g0, 0, none⟩) pn pc (rs.flatMap RPp.cells) rfl (by rw [rows_len, HRL.out]) (fun hp => (HR.out.1.same (HB.out.2.2.2.2.2.alloc _)).src hp) (rows_one rs) (by omega) (by omega) (by simp) ?_; intro A3 cap3 w5 hown hgrow; rw [Nat.zero_add, List.nil_append] at hown; obtain ⟨g3, cur, fr, rfl, hb3, ht3, rfl⟩ := own_some hown (by omega); have HOWN := Lib.hid hown; have HT3 := Lib.hid (And.intro hb3 ht3); have HG5 : Hid (Same (w2.alloc (.cells #[.int .i64 win', .int .i64 cr', .slice zA' 0 zc', .bool (zcl' && !zcn'), .bool zcn'] 112)) w5) := Lib.hid ((Chg.grownO (Chg.refl _ _) hgrow).mono (fun i hi e => by simp [Value.ownBlock] at e)); have hld := run_load_rp ((VarAt.new w2 112 #[.int .i64 win', .int .i64 cr', .slice zA' 0 zc', .bool (zcl' && !zcn'), .bool zcn']).same HG5.out); have hw5 : Same w2 w5 := ((Chg.refl _ _).alloc _).trans HG5.out; have HW5 := Lib.hid hw5; have y3 := hw5.cell y3 (fun q => q); have p12 := hw5.cell p12 (fun q => q); have hlt : w.heap.size < w5.heap.size := Nat.lt_of_lt_of_le hlt hw5.size; clear hown hgrow hb3 ht3 hw5) | (refine wpl_loadv _ _ _ rfl hld ?_) | (refine wpl_storeMid g3 (k * 5) #[.int .i64 win', .int .i64 cr', .slice zA' 0 zc', .bool (zcl' && !zcn'), .bool zcn'] ?hx ?hy ?ht ?hi ?h1 ?h; (case hx => first | rfl | (go_simp; done) | go_loud (fail "hx")); (case hy => first | rfl | go_loud (fail "hy")); (case ht => exact own_there HOWN.out hkp HRL.out); (case hi => kernel_rfl); (case h1 => simp [Value.oneCell']); intro w6 hw6; have HW6 := Lib.hid hw6; clear hw6))
  have hch : Chg (fun x => x = g3) w5 w6 := (by rw [← HW6.out]; exact chg_setCells g3 _ (k * 5) w5)
  have hlo := HT3.out.1
  have e6 : w5.setCells g3 (k * 5) (RPp.cells ⟨⟨win', cr', bs', zcl', zcn'⟩, zA', zc'⟩) = w6 := HW6.out
  have hrw := grant_row (k := k) (z' := ⟨⟨win', cr', bs', zcl', zcn'⟩, zA', zc'⟩) (F := fun x => G x ∨ (w.heap.size ≤ x ∧ x < w.heap.size + 6)) HOWN.out HT3.out.2 HRL.out HR.out.1.2.1 (fun x hx => by
    rcases hx with q | q
    · have := HR.out.2.1 x q; omega
    · omega) hkp HZ.out.2.1
  rw [e6] at hrw
  have HROW := Lib.hid hrw
  clear e6 hrw
  have H6 : Hid (VarAt w6 w.heap.size 56 #[.int .i64 ph, .int .i64 src, .int .i64 cl, .int .i64 tg, .slice A n cap, .int .i64 acts, .string f, .int .i64 a, .int .i64 p, .int .i64 nm, .bool tm, .int .i64 la, .slice (some ⟨g0, 0, none⟩) pn pc, .int .i64 fst] ∧ VarAt w6 (w.heap.size + 1) 60 #[.int .i64 N, .slice LA ln lc] ∧ VarAt w6 (w.heap.size + 1 + 1 + 1) 56 #[.int .i64 0, .int .i64 0, .int .i64 0, .int .i64 0, .slice none 0 0, .int .i64 0, .string ⟨#[]⟩, .int .i64 0, .int .i64 0, .int .i64 0, .bool false, .int .i64 0, .slice none 0 0, .int .i64 0] ∧ VarAt w6 (w.heap.size + 1 + 1 + 1 + 1) 60 #[.int .i64 0, .slice none 0 0] ∧ VarAt w6 (w.heap.size + 1 + 1 + 1 + 1 + 1) 63 #[.slice none 0 0, .bool false, .int .i64 0] ∧ Same w w6 ∧ w.heap.size + 6 ≤ w6.heap.size) := Lib.hid ⟨hch.at_ (HB.out.1.same HW5.out) (fun q => by have q2 : w.heap.size = g3 := q; omega), hch.at_ (HB.out.2.1.same HW5.out) (fun q => by have q2 : w.heap.size + 1 = g3 := q; omega), hch.at_ (HB.out.2.2.1.same HW5.out) (fun q => by have q2 : w.heap.size + 1 + 1 + 1 = g3 := q; omega), hch.at_ (HB.out.2.2.2.1.same HW5.out) (fun q => by have q2 : w.heap.size + 1 + 1 + 1 + 1 = g3 := q; omega), hch.at_ (HB.out.2.2.2.2.1.same HW5.out) (fun q => by have q2 : w.heap.size + 1 + 1 + 1 + 1 + 1 = g3 := q; omega), (HB.out.2.2.2.2.2.trans HW5.out).then_ hch (fun i hi q => by omega), (Nat.le_trans (Nat.le_trans hz2 HW5.out.size) hch.size)⟩
  clear hch y3 p12 hlt
  have p12 : w6.cell? ⟨w.heap.size, 12, none⟩ = some (.slice (some ⟨g0, 0, none⟩) pn pc) := cell_at (C := [.int .i64 ph, .int .i64 src, .int .i64 cl, .int .i64 tg, .slice A n cap, .int .i64 acts, .string f, .int .i64 a, .int .i64 p, .int .i64 nm, .bool tm, .int .i64 la, .slice (some ⟨g0, 0, none⟩) pn pc, .int .i64 fst]) H6.out.1 12
  have f12 := frozen_at H6.out.1 12
  have hlt : w.heap.size < w6.heap.size := (by have := H6.out.2.2.2.2.2.2; omega)
  go_wp2_with fail
  have hD : VarAt ((w6.setCell ⟨w.heap.size, 12, none⟩ (.slice (some ⟨g3, 0, none⟩) pn cap3)).drew) w.heap.size 56 #[.int .i64 ph, .int .i64 src, .int .i64 cl, .int .i64 tg, .slice A n cap, .int .i64 acts, .string f, .int .i64 a, .int .i64 p, .int .i64 nm, .bool tm, .int .i64 la, .slice (some ⟨g3, 0, none⟩) pn cap3, .int .i64 fst] := VarAt.drew (at_setCell (i := 12) (C := [.int .i64 ph, .int .i64 src, .int .i64 cl, .int .i64 tg, .slice A n cap, .int .i64 acts, .string f, .int .i64 a, .int .i64 p, .int .i64 nm, .bool tm, .int .i64 la, .slice (some ⟨g0, 0, none⟩) pn pc, .int .i64 fst]) _ H6.out.1)
  have hL : VarAt ((w6.setCell ⟨w.heap.size, 12, none⟩ (.slice (some ⟨g3, 0, none⟩) pn cap3)).drew) (w.heap.size + 1) 60 #[.int .i64 N, .slice LA ln lc] := VarAt.drew (at_setCell_other _ (by omega) H6.out.2.1)
  have h8 : VarAt ((w6.setCell ⟨w.heap.size, 12, none⟩ (.slice (some ⟨g3, 0, none⟩) pn cap3)).drew) (w.heap.size + 1 + 1 + 1) 56 #[.int .i64 0, .int .i64 0, .int .i64 0, .int .i64 0, .slice none 0 0, .int .i64 0, .string ⟨#[]⟩, .int .i64 0, .int .i64 0, .int .i64 0, .bool false, .int .i64 0, .slice none 0 0, .int .i64 0] := VarAt.drew (at_setCell_other _ (by omega) H6.out.2.2.1)
  have h9 : VarAt ((w6.setCell ⟨w.heap.size, 12, none⟩ (.slice (some ⟨g3, 0, none⟩) pn cap3)).drew) (w.heap.size + 1 + 1 + 1 + 1) 60 #[.int .i64 0, .slice none 0 0] := VarAt.drew (at_setCell_other _ (by omega) H6.out.2.2.2.1)
  have h10 : VarAt ((w6.setCell ⟨w.heap.size, 12, none⟩ (.slice (some ⟨g3, 0, none⟩) pn cap3)).drew) (w.heap.size + 1 + 1 + 1 + 1 + 1) 63 #[.slice none 0 0, .bool false, .int .i64 0] := VarAt.drew (at_setCell_other _ (by omega) H6.out.2.2.2.2.1)
  have hch6 : Chg (fun x => w.heap.size ≤ x ∧ x < w.heap.size + 6) w6 ((w6.setCell ⟨w.heap.size, 12, none⟩ (.slice (some ⟨g3, 0, none⟩) pn cap3)).drew) := ((Chg.refl _ _).setCell _ _ (fun _ => ⟨Nat.le_refl _, by show w.heap.size < _; omega⟩)).drew
  have HCH6 := Lib.hid hch6
  clear hch6 p12 f12 hlt
  generalize w6.setCell ⟨w.heap.size, 12, none⟩ (.slice (some ⟨g3, 0, none⟩) pn cap3) = w7 at *
  refine region_path (S := (fun w' => VarAt w' w.heap.size 56 #[.int .i64 ph, .int .i64 src, .int .i64 cl, .int .i64 tg, .slice A n cap, .int .i64 acts, .string f, .int .i64 a, .int .i64 p, .int .i64 nm, .bool tm, .int .i64 la, .slice (some ⟨g3, 0, none⟩) pn cap3, .int .i64 fst] ∧ VarAt w' (w.heap.size + 1) 60 #[.int .i64 N, .slice LA ln lc])) 99 [(0, true), (1, true), (2, true), (3, true), (4, false), (5, false), (6, false)] (by kernel_rfl) (by kernel_rfl) (by kernel_rfl) (⟨hD, hL⟩) ?_
  generalize w7.drew = wd at *
  refine path_read (i := 0) (v := (.agg #[.int .i64 ph, .int .i64 src, .int .i64 cl, .int .i64 tg, .slice A n cap, .int .i64 acts, .string f, .int .i64 a, .int .i64 p, .int .i64 nm, .bool tm, .int .i64 la, .slice (some ⟨g3, 0, none⟩) pn cap3, .int .i64 fst]) ) rfl (by rfl) (fun _ _ _ h => h) ?hy82_0 ?_
  case hy82_0 => (intro w hSw;  exact exec_loadv rfl (VarAt.ldD (x := ⟨ph, src, cl, tg, A, n, cap, acts, f, a, p, nm, tm, la, some ⟨g3, 0, none⟩, pn, cap3, fst⟩) hSw.1))
  try simp only [Act.put, List.setIfInBounds_toArray, List.set_cons_zero, List.set_cons_succ]
  refine path_read (i := 1) (v := (.agg #[.int .i64 N, .slice LA ln lc]) ) rfl (by rfl) (fun _ _ _ h => h) ?hy82_1 ?_
  case hy82_1 => (intro w hSw;  exact exec_loadv rfl (VarAt.ldL (N := N) hSw.2))
  try simp only [Act.put, List.setIfInBounds_toArray, List.set_cons_zero, List.set_cons_succ]
  refine path_read (i := 2) (v := ?v82_2) rfl (by rfl) (fun _ _ _ h => h) ?hy82_2 ?_
  case hy82_2 => ((intro w hSw; (try dsimp only at hSw); go_simp) <;> (try with_reducible rfl))
  try simp only [Act.put, List.setIfInBounds_toArray, List.set_cons_zero, List.set_cons_succ]
  refine path_read (i := 3) (v := ?v82_3) rfl (by rfl) (fun _ _ _ h => h) ?hy82_3 ?_
  case hy82_3 => ((intro w hSw; (try dsimp only at hSw); go_simp) <;> (try with_reducible rfl))
  try simp only [Act.put, List.setIfInBounds_toArray, List.set_cons_zero, List.set_cons_succ]
  refine path_do (i := 4) rfl ?_
  (refine wpl_storeRow #[.int .i64 0, .int .i64 0, .int .i64 0, .int .i64 0, .slice none 0 0, .int .i64 0, .string ⟨#[]⟩, .int .i64 0, .int .i64 0, .int .i64 0, .bool false, .int .i64 0, .slice none 0 0, .int .i64 0] rfl rfl h8 (by kernel_rfl) rfl (by simp [Value.oneCell']) ?_)
  refine path_next (.inr ?keep82_4) ?_
  case keep82_4 => (exact ⟨hD.set _ (by omega), hL.set _ (by omega)⟩)
  try simp only [Act.put, List.setIfInBounds_toArray, List.set_cons_zero, List.set_cons_succ]
  refine path_do (i := 5) rfl ?_
  (refine wpl_storeRow #[.int .i64 0, .slice none 0 0] rfl rfl (h9.set _ (by omega)) (by kernel_rfl) rfl (by simp [Value.oneCell']) ?_)
  refine path_next (.inr ?keep82_5) ?_
  case keep82_5 => (exact ⟨(hD.set _ (by omega)).set _ (by omega), (hL.set _ (by omega)).set _ (by omega)⟩)
  try simp only [Act.put, List.setIfInBounds_toArray, List.set_cons_zero, List.set_cons_succ]
  refine path_do (i := 6) rfl ?_
  (refine wpl_storeRow #[.slice none 0 0, .bool false, .int .i64 0] rfl rfl ((h10.set _ (by omega)).set _ (by omega)) (by kernel_rfl) rfl (by simp [Value.oneCell']) ?_)
  refine path_next (.inr ?keep82_6) ?_
  case keep82_6 => (exact ⟨((hD.set _ (by omega)).set _ (by omega)).set _ (by omega), ((hL.set _ (by omega)).set _ (by omega)).set _ (by omega)⟩)
  try simp only [Act.put, List.setIfInBounds_toArray, List.set_cons_zero, List.set_cons_succ]
  refine path_end ?_
  go_wp2
  have H3 := three_set (d1 := #[.int .i64 ph, .int .i64 src, .int .i64 cl, .int .i64 tg, .slice A n cap, .int .i64 acts, .string f, .int .i64 a, .int .i64 p, .int .i64 nm, .bool tm, .int .i64 la, .slice (some ⟨g3, 0, none⟩) pn cap3, .int .i64 fst]) (l1 := #[.int .i64 N, .slice LA ln lc]) (r1 := #[.slice none 0 0, .bool false, .int .i64 v]) h8 h9 h10 (by omega) (by omega) (by omega)
  have hfin := ((HCH6.out.setRow (w.heap.size + 1 + 1 + 1) #[.int .i64 ph, .int .i64 src, .int .i64 cl, .int .i64 tg, .slice A n cap, .int .i64 acts, .string f, .int .i64 a, .int .i64 p, .int .i64 nm, .bool tm, .int .i64 la, .slice (some ⟨g3, 0, none⟩) pn cap3, .int .i64 fst] (fun _ => ⟨by omega, by omega⟩)).setRow (w.heap.size + 1 + 1 + 1 + 1) #[.int .i64 N, .slice LA ln lc] (fun _ => ⟨by omega, by omega⟩)).setRow (w.heap.size + 1 + 1 + 1 + 1 + 1) #[.slice none 0 0, .bool false, .int .i64 v] (fun _ => ⟨by omega, by omega⟩)
  refine bodyPost_ret (results_cell3 Try.results26 rfl rfl rfl (VarAt.ldD (x := ⟨ph, src, cl, tg, A, n, cap, acts, f, a, p, nm, tm, la, some ⟨g3, 0, none⟩, pn, cap3, fst⟩) H3.1) (VarAt.ldL (N := N) H3.2.1) (VarAt.ldR H3.2.2)) rfl ⟨some ⟨g3, 0, none⟩, cap3, ⟨⟨win', cr', bs', zcl', zcn'⟩, zA', zc'⟩, v, rfl, (HROW.out.chgF hfin (fun x hx => .inr hx)).weak (fun x hx => .inl hx), HZ.out.1, HZ.out.2.2.1, ?_⟩
  exact H6.out.2.2.2.2.2.1.then_ hfin (fun i hi q => by omega)
end Go.Proofs.Yteolilggeaffaaa
