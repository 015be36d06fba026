/- compositorref42: Gone (printed by kg42.py). -/
import Derived.Test.YtndldjopgbhphaaPk43
import Derived.WalkMore
import Derived.Deep.DeepCutAuto
set_option linter.unusedVariables false
set_option linter.unusedSimpArgs false
set_option maxRecDepth 100000
namespace Go.Proofs.Ytndldjopgbhphaa
open Go.RowKit

theorem bytes_none (w : World) (A : Option Addr) (cap : Nat) (h : cap ≤ maxLen) : BytesAt w (fun _ => True) A 0 cap [] := ⟨rfl, Nat.zero_le _, h, fun q => absurd q (by omega)⟩
theorem cancel_bs {q : PSt} (h : q.bs = []) : q.cancel.bs = [] := by unfold PSt.cancel; split; exact h; rfl
theorem qcancel_z (z : RPp) (hz : z.ok) (w : World) : Calls Try.prog 65 #[.agg z.cells.toArray] w fun e w' => ∃ z' v, e = .returned (.tuple #[.agg (RPp.cells z').toArray, .int .i64 v]) ∧ z'.q = z.q.cancel ∧ z'.ok ∧ v = z.q.caE ∧ Same w w' := by
  refine (qcancel_q z.q.cancel z.q.caE (n := 0) (cap := z.cap) (A := z.A) (R := fun _ => True) (by rw [hz.2.1]; exact bytes_none w _ _ hz.2.2) hz.1 rfl rfl).mono ?_
  rintro e w' ⟨A', n', cap', rfl, hb, hs⟩
  have h0 : n' = 0 := by have := hb.1; rw [cancel_bs hz.2.1] at this; exact this.symm
  subst h0
  exact ⟨⟨z.q.cancel, A', cap'⟩, _, rfl, rfl, ⟨PSt.cancel_ok hz.1, cancel_bs hz.2.1, hb.2.2.1⟩, rfl, hs⟩
theorem infoKF : (Try.prog.info? 132).map (fun i => i.size) = some 7 := by kernel_rfl
theorem run_load_kfl {w : World} {g : Nat} {a b c d e f h : Value} (hv : VarAt w g 132 #[a, b, c, d, e, f, h]) : (loadVar 132 ⟨g, 0, none⟩).run Try.prog w = .ok (.agg #[a, b, c, d, e, f, h]) w :=
  run_loadMid (P := Try.prog) (C := [a, b, c, d, e, f, h]) 132 0 7 _ hv infoKF Try.underlying132 rfl (by simp)
def KGoneOut (w : World) (G : Nat → Prop) (x : KC) (client : Int) (e : Ending) (w' : World) : Prop :=
  ∃ PA' pc' rs', e = .returned (.agg (x.gone client PA' pc').cells.toArray) ∧ KRow w' G PA' x.pn rs' ∧ Same w w'
set_option maxHeartbeats 4000000 in
theorem kgone_no (ho wa : Int) (A : Option Addr) (n cap : Nat) (acts : Int) (us : Bool) (la nu : Int) (PA : Option Addr) (pn pc : Nat) (client : Int) (w : World) (h : client < 1) :
    Calls Try.prog 31 #[.agg #[.bool true, .int .i64 ho, .int .i64 wa, .slice A n cap, .int .i64 acts, .bool us, .int .u32 la, .int .i64 nu, .slice PA pn pc], .int .i64 client] w fun e w' => e = .returned (.agg #[.bool true, .int .i64 ho, .int .i64 wa, .slice A n cap, .int .i64 acts, .bool us, .int .u32 la, .int .i64 nu, .slice PA pn pc]) ∧ Same w w' := by
  go_enter Try.func31, Try.ntmps31
  go_wp2
  exact bodyPost_ret (results_cell1 Try.results31 rfl (run_load_kc (x := ⟨ho, wa, A, n, cap, acts, us, la, nu, PA, pn, pc⟩) (VarAt.newk (by simp)))) rfl ⟨rfl, ((Chg.refl _ _).alloc _).alloc _⟩
theorem kgone_end {w w1 wr wE : World} {G : Nat → Prop} {b2 b4 pn cap0 : Nat} {A0 : Option Addr} {rs' : List KFl} {XE : KC} {DCa : Array Value} (hx : VarAt w1 b2 63 DCa ∧ VarAt w1 b4 63 #[.bool false, .int .i64 0, .int .i64 0, .slice none 0 0, .int .i64 0, .bool false, .int .u32 0, .int .i64 0, .slice none 0 0] ∧ Same w w1 ∧ w1.heap.size = b2 + 2) (hk : Same w1 wr) (hown : wr.ownsRow w1.heap.size 132 7 (.slice A0 pn cap0) pn (rs'.flatMap KFl.cells))
    (hl : rs'.length = pn) (hok : ∀ z ∈ rs', z.z.ok) (hG : ∀ x, G x → x < w.heap.size) (he : b2 = w.heap.size ∧ b4 = w.heap.size + 1 ∧ w1.heap.size = w.heap.size + 2) (hz : VarAt wE b4 63 #[.bool false, .int .i64 0, .int .i64 0, .slice none 0 0, .int .i64 0, .bool false, .int .u32 0, .int .i64 0, .slice none 0 0]) (hch : Chg (fun x => x = b2) wr wE) :
    KRow (wE.setRow b4 XE.cells.toArray) G A0 pn rs' ∧ Same w (wE.setRow b4 XE.cells.toArray) := by
  have hch2 : Chg (fun x => x = b2 ∨ x = b4) wr (wE.setRow b4 XE.cells.toArray) := (hch.mono (fun x _ q => .inl q)).setRow _ _ (fun _ => .inr rfl)
  obtain ⟨A9, cap9, hv9, _, hrow9⟩ := KRow.of_own (F := G) (row_chg hown hch2 (fun x hx q => by have := (hown.lt x hx).1; rcases q with q | q <;> omega)) hl hok (fun x hx => by have := hG x hx; omega)
  cases hv9
  exact ⟨hrow9, (hx.2.2.1.trans hk).then_ hch2 (fun j hj q => by rcases q with q | q <;> omega)⟩
set_option maxHeartbeats 8000000 in
theorem kgone_yes (ho wa : Int) (A : Option Addr) (n cap : Nat) (acts : Int) (us : Bool) (la nu : Int) (PA : Option Addr) (pn pc : Nat) (client : Int) (rs : List KFl) (w : World) (G : Nat → Prop) (hr : KRow w G PA pn rs) (hG : ∀ x, G x → x < w.heap.size) (hpn : pn ≤ 1000) (h0 : ¬ client < 1) :
    Calls Try.prog 31 #[.agg #[.bool true, .int .i64 ho, .int .i64 wa, .slice A n cap, .int .i64 acts, .bool us, .int .u32 la, .int .i64 nu, .slice PA pn pc], .int .i64 client] w (KGoneOut w G ⟨ho, wa, A, n, cap, acts, us, la, nu, PA, pn, pc⟩ client) := by
  have HR := Lib.hid (And.intro hr hG)
  have hrl := hr.1
  have HX : Hid (VarAt ((w.alloc (.cells #[.bool true, .int .i64 ho, .int .i64 wa, .slice A n cap, .int .i64 acts, .bool us, .int .u32 la, .int .i64 nu, .slice PA pn pc] 63)).alloc (.cells #[.bool false, .int .i64 0, .int .i64 0, .slice none 0 0, .int .i64 0, .bool false, .int .u32 0, .int .i64 0, .slice none 0 0] 63)) w.heap.size 63 #[.bool true, .int .i64 ho, .int .i64 wa, .slice A n cap, .int .i64 acts, .bool us, .int .u32 la, .int .i64 nu, .slice PA pn pc] ∧ VarAt ((w.alloc (.cells #[.bool true, .int .i64 ho, .int .i64 wa, .slice A n cap, .int .i64 acts, .bool us, .int .u32 la, .int .i64 nu, .slice PA pn pc] 63)).alloc (.cells #[.bool false, .int .i64 0, .int .i64 0, .slice none 0 0, .int .i64 0, .bool false, .int .u32 0, .int .i64 0, .slice none 0 0] 63)) (w.heap.size + 1) 63 #[.bool false, .int .i64 0, .int .i64 0, .slice none 0 0, .int .i64 0, .bool false, .int .u32 0, .int .i64 0, .slice none 0 0] ∧ Same w ((w.alloc (.cells #[.bool true, .int .i64 ho, .int .i64 wa, .slice A n cap, .int .i64 acts, .bool us, .int .u32 la, .int .i64 nu, .slice PA pn pc] 63)).alloc (.cells #[.bool false, .int .i64 0, .int .i64 0, .slice none 0 0, .int .i64 0, .bool false, .int .u32 0, .int .i64 0, .slice none 0 0] 63)) ∧ ((w.alloc (.cells #[.bool true, .int .i64 ho, .int .i64 wa, .slice A n cap, .int .i64 acts, .bool us, .int .u32 la, .int .i64 nu, .slice PA pn pc] 63)).alloc (.cells #[.bool false, .int .i64 0, .int .i64 0, .slice none 0 0, .int .i64 0, .bool false, .int .u32 0, .int .i64 0, .slice none 0 0] 63)).heap.size = w.heap.size + 2) :=
    Lib.hid ⟨(VarAt.new _ _ _).alloc _, VarAt.newk (by simp), ((Chg.refl _ _).alloc _).alloc _, by simp⟩
  clear hr hG
  go_enter Try.func31, Try.ntmps31
  go_upto_region 3 with (fail)
  generalize (w.alloc (.cells #[.bool true, .int .i64 ho, .int .i64 wa, .slice A n cap, .int .i64 acts, .bool us, .int .u32 la, .int .i64 nu, .slice PA pn pc] 63)).alloc (.cells #[.bool false, .int .i64 0, .int .i64 0, .slice none 0 0, .int .i64 0, .bool false, .int .u32 0, .int .i64 0, .slice none 0 0] 63) = w1 at *
  obtain ⟨b2, e2⟩ : ∃ b2, w.heap.size = b2 := ⟨_, rfl⟩
  obtain ⟨b4, e4⟩ : ∃ b4, w.heap.size + 1 = b4 := ⟨_, rfl⟩
  have HE : Hid (b2 = w.heap.size ∧ b4 = w.heap.size + 1 ∧ w1.heap.size = w.heap.size + 2) := Lib.hid ⟨e2.symm, e4.symm, HX.out.2.2.2⟩
  rw [e4, e2]
  rw [e4, e2] at HX
  clear e2 e4
  go_wp2
  go_loopw [5, 6] (fun v5 v6 wr => ∃ (i : Nat) (rs' : List KFl) (A0 : Option Addr) (cap0 : Nat), i ≤ pn ∧ v5 = .slice A0 i cap0 ∧ v6 = .int .i64 i ∧ rs'.length = i ∧ (∀ z ∈ rs', z.z.ok) ∧ wr.ownsRow w1.heap.size 132 7 (.slice A0 i cap0) i (rs'.flatMap KFl.cells) ∧ Same w1 wr) (fun _ v6 _ => pn - (intOf v6).toNat)
  case atStart => exact ⟨0, [], none, 0, by omega, rfl, rfl, rfl, fun z hz => by simp at hz, World.ownsRow_nil _ _ _ _, Chg.refl _ _⟩
  case round =>
    obtain ⟨i, rs', A0, cap0, hi, rfl, rfl, hle, hok, hown, hk⟩ := hrel
    have HLE := Lib.hid hle
    have HOK := Lib.hid hok
    have HOWN := Lib.hid hown
    have HK := Lib.hid hk
    have hD := HX.out.1.same hk
    have hZ := HX.out.2.1.same hk
    have hbw : b4 < wr.heap.size := lt_of_at hZ
    have hbw2 : b2 < wr.heap.size := lt_of_at hD
    have hszr := hk.size
    clear hle hok hown hk
    by_cases hlt : i < pn
    · as_aux_lemma =>
      have p8 : wr.cell? ⟨b2, 8, none⟩ = some (.slice PA pn pc) := cell_at (C := [.bool true, .int .i64 ho, .int .i64 wa, .slice A n cap, .int .i64 acts, .bool us, .int .u32 la, .int .i64 nu, .slice PA pn pc]) hD 8
      clear hD hZ
      have hii : (i : Int) < pn := by omega
      obtain ⟨g, rfl, _, hgl, hc⟩ := HR.out.1.2.2 (by omega)
      obtain ⟨⟨so, re, ⟨⟨win, cr, bs, zcl, zcn⟩, zA, zc⟩⟩, hy⟩ : ∃ y, rs[i]? = some y := ⟨_, List.getElem?_eq_getElem (by omega)⟩
      have hkw := HX.out.2.2.1.trans HK.out
      have z0 := hkw.cell (hc i _ hy 0 _ rfl) (fun q => q)
      have z1 := hkw.cell (hc i _ hy 1 _ rfl) (fun q => q)
      have z2 := hkw.cell (hc i _ hy 2 _ rfl) (fun q => q)
      have z3 := hkw.cell (hc i _ hy 3 _ rfl) (fun q => q)
      have z4 := hkw.cell (hc i _ hy 4 _ rfl) (fun q => q)
      have z5 := hkw.cell (hc i _ hy 5 _ rfl) (fun q => q)
      have z6 := hkw.cell (hc i _ hy 6 _ rfl) (fun q => q)
      rw [Nat.add_zero] at z0
      have HY : Hid (rs[i]? = some ⟨so, re, ⟨⟨win, cr, bs, zcl, zcn⟩, zA, zc⟩⟩ ∧ RPp.ok ⟨⟨win, cr, bs, zcl, zcn⟩, zA, zc⟩) := Lib.hid ⟨hy, HR.out.1.2.1 _ (List.mem_of_getElem? hy)⟩
      have hgl2 := Nat.lt_of_lt_of_le hgl hkw.size
      clear hc hy hkw
      by_cases hs1 : so = client
      · have b1 : (so == client) = true := by simp [hs1]
        clear hs1
        go_wp2_with fail
        refine (qcancel_z ⟨⟨win, cr, bs, zcl, zcn⟩, zA, zc⟩ HY.out.2 _).mono ?_
        rintro e w6 ⟨⟨⟨win', cr', bs', zcl', zcn'⟩, zA', zc'⟩, v, rfl, hq, hok', hv, hs6⟩
        dsimp only [RPp.cells]
        have h7 : VarAt w6 wr.heap.size 132 #[.int .i64 so, .int .i64 re, .int .i64 win, .int .i64 cr, .slice zA 0 zc, .bool (zcl && !zcn), .bool zcn] := (VarAt.new wr 132 #[.int .i64 so, .int .i64 re, .int .i64 win, .int .i64 cr, .slice zA 0 zc, .bool (zcl && !zcn), .bool zcn]).same hs6
        have hk6 : Same wr w6 := Chg.trans ((Chg.refl _ _).alloc _) hs6
        have hw6 : wr.heap.size < w6.heap.size := by have := hs6.size; simp at this; omega
        have HZ := Lib.hid (And.intro hok' hk6)
        clear hq hok' hv hs6 z0 z1 z2 z3 z4 z5 z6 p8
        have h7b := h7.alloc (.cells #[.int .i64 win', .int .i64 cr', .slice zA' 0 zc', .bool (zcl' && !zcn'), .bool zcn'] 83)
        have hk7 : Same wr (w6.alloc (.cells #[.int .i64 win', .int .i64 cr', .slice zA' 0 zc', .bool (zcl' && !zcn'), .bool zcn'] 83)) := hk6.alloc _
        obtain ⟨b7, e7⟩ : ∃ b7, wr.heap.size = b7 := ⟨_, rfl⟩
        rw [e7]
        rw [e7] at h7b hw6
        have HB7 : Hid (b7 = wr.heap.size) := Lib.hid e7.symm
        clear e7 h7
        have hV : VarAt ((((((w6.alloc (.cells #[.int .i64 win', .int .i64 cr', .slice zA' 0 zc', .bool (zcl' && !zcn'), .bool zcn'] 83)).setCell ⟨b7, 2, none⟩ (.int .i64 win')).setCell ⟨b7, 3, none⟩ (.int .i64 cr')).setCell ⟨b7, 4, none⟩ (.slice zA' 0 zc')).setCell ⟨b7, 5, none⟩ (.bool (zcl' && !zcn'))).setCell ⟨b7, 6, none⟩ (.bool zcn')) b7 132 #[.int .i64 so, .int .i64 re, .int .i64 win', .int .i64 cr', .slice zA' 0 zc', .bool (zcl' && !zcn'), .bool zcn'] := by
          have v0 := at_setCell (i := 2) (C := [.int .i64 so, .int .i64 re, .int .i64 win, .int .i64 cr, .slice zA 0 zc, .bool (zcl && !zcn), .bool zcn]) (.int .i64 win') h7b
          have v1 := at_setCell (i := 3) (C := [.int .i64 so, .int .i64 re, .int .i64 win', .int .i64 cr, .slice zA 0 zc, .bool (zcl && !zcn), .bool zcn]) (.int .i64 cr') v0
          have v2 := at_setCell (i := 4) (C := [.int .i64 so, .int .i64 re, .int .i64 win', .int .i64 cr', .slice zA 0 zc, .bool (zcl && !zcn), .bool zcn]) (.slice zA' 0 zc') v1
          have v3 := at_setCell (i := 5) (C := [.int .i64 so, .int .i64 re, .int .i64 win', .int .i64 cr', .slice zA' 0 zc', .bool (zcl && !zcn), .bool zcn]) (.bool (zcl' && !zcn')) v2
          have v4 := at_setCell (i := 6) (C := [.int .i64 so, .int .i64 re, .int .i64 win', .int .i64 cr', .slice zA' 0 zc', .bool (zcl' && !zcn'), .bool zcn]) (.bool zcn') v3
          exact v4
        have hkS : Same wr ((((((w6.alloc (.cells #[.int .i64 win', .int .i64 cr', .slice zA' 0 zc', .bool (zcl' && !zcn'), .bool zcn'] 83)).setCell ⟨b7, 2, none⟩ (.int .i64 win')).setCell ⟨b7, 3, none⟩ (.int .i64 cr')).setCell ⟨b7, 4, none⟩ (.slice zA' 0 zc')).setCell ⟨b7, 5, none⟩ (.bool (zcl' && !zcn'))).setCell ⟨b7, 6, none⟩ (.bool zcn')) := (((((hk7.setCell _ _ (fun q => by have q2 : b7 < wr.heap.size := q; have := HB7.out; omega)).setCell _ _ (fun q => by have q2 : b7 < wr.heap.size := q; have := HB7.out; omega)).setCell _ _ (fun q => by have q2 : b7 < wr.heap.size := q; have := HB7.out; omega)).setCell _ _ (fun q => by have q2 : b7 < wr.heap.size := q; have := HB7.out; omega)).setCell _ _ (fun q => by have q2 : b7 < wr.heap.size := q; have := HB7.out; omega))
        have HVS := Lib.hid (And.intro hV hkS)
        have q2 := cell_at (C := [.int .i64 so, .int .i64 re, .int .i64 win, .int .i64 cr, .slice zA 0 zc, .bool (zcl && !zcn), .bool zcn]) h7b 2
        have q3 := cell_at (C := [.int .i64 so, .int .i64 re, .int .i64 win, .int .i64 cr, .slice zA 0 zc, .bool (zcl && !zcn), .bool zcn]) h7b 3
        have q4 := cell_at (C := [.int .i64 so, .int .i64 re, .int .i64 win, .int .i64 cr, .slice zA 0 zc, .bool (zcl && !zcn), .bool zcn]) h7b 4
        have q5 := cell_at (C := [.int .i64 so, .int .i64 re, .int .i64 win, .int .i64 cr, .slice zA 0 zc, .bool (zcl && !zcn), .bool zcn]) h7b 5
        have q6 := cell_at (C := [.int .i64 so, .int .i64 re, .int .i64 win, .int .i64 cr, .slice zA 0 zc, .bool (zcl && !zcn), .bool zcn]) h7b 6
        simp only [List.getElem?_cons_zero, List.getElem?_cons_succ] at q2 q3 q4 q5 q6
        have g2_ := frozen_at h7b 2
        have g3_ := frozen_at h7b 3
        have g4_ := frozen_at h7b 4
        have g5_ := frozen_at h7b 5
        have g6_ := frozen_at h7b 6
        have hl7 := lt_of_at h7b
        clear hV hkS hk7 hk6 h7b hw6
        go_upto_region 11 with (fail)
        clear q2 q3 q4 q5 q6 g2_ g3_ g4_ g5_ g6_ hl7
        generalize ((((((w6.alloc (.cells #[.int .i64 win', .int .i64 cr', .slice zA' 0 zc', .bool (zcl' && !zcn'), .bool zcn'] 83)).setCell ⟨b7, 2, none⟩ (.int .i64 win')).setCell ⟨b7, 3, none⟩ (.int .i64 cr')).setCell ⟨b7, 4, none⟩ (.slice zA' 0 zc')).setCell ⟨b7, 5, none⟩ (.bool (zcl' && !zcn'))).setCell ⟨b7, 6, none⟩ (.bool zcn')) = wS at *
        have hld := run_load_kfl HVS.out.1
        go_wp2_with (first | (refine wpl_loadv _ _ _ rfl hld ?_) | (refine wpl_mk1 so re win' cr' zA' 0 zc' (zcl' && !zcn') zcn' rfl ?_; intro u9 g9 hs9 v9 hg9 hg9l; have V9 := Lib.hid v9; have OWN9 := Lib.hid (row_chg (row_chg HOWN.out HVS.out.2 (fun _ _ q => q)) hs9 (fun _ _ q => q)); have HK9 : Hid (Same wr u9) := Lib.hid (HVS.out.2.trans hs9); have SZ9 : Hid (w1.heap.size ≤ u9.heap.size) := Lib.hid (Nat.le_trans HK.out.size HK9.out.size); clear hs9 v9 hg9 hg9l) | (at_builtin; refine wpl_append1 w1.heap.size 132 _ 7 64 Try.underlying61 info_flow rfl (by omega) _ i (rs'.flatMap KFl.cells) OWN9.out rfl g9 1 [.int .i64 so, .int .i64 re, .int .i64 win', .int .i64 cr', .slice zA' 0 zc', .bool (zcl' && !zcn'), .bool zcn'] rfl V9.out rfl (by simp [Value.oneCell']) (by omega) (by omega) SZ9.out ?_; intro g2 cap2 w5 hown2 hgrow2 _ _; have HOWN2 := Lib.hid hown2; have HGROW := Lib.hid hgrow2; clear hown2 hgrow2))
        go_roundw
        case rel =>
          refine ⟨i + 1, rs' ++ [⟨so, re, ⟨⟨win', cr', bs', zcl', zcn'⟩, zA', zc'⟩⟩], _, _, by omega, rfl, by go_num, by simp [HLE.out], fun z hz => ?_, by rw [List.flatMap_append]; exact HOWN2.out, ?_⟩
          · rcases List.mem_append.1 hz with q | q
            · exact HOK.out z q
            · simp at q; subst q; exact HZ.out.1
          · exact (HK.out.trans HK9.out).then_ (Chg.grownO (Chg.refl _ _) HGROW.out) (fun j hj e => by have := (OWN9.out.lt j e.symm).1; omega)
        case measure => simp [intOf]; omega
      · have b1 : (so == client) = false := by simp [hs1]
        clear hs1
        by_cases hs2 : re = client
        · have b2_ : (re == client) = true := by simp [hs2]
          clear hs2
          go_wp2_with fail
          refine (qcancel_z ⟨⟨win, cr, bs, zcl, zcn⟩, zA, zc⟩ HY.out.2 _).mono ?_
          rintro e w6 ⟨⟨⟨win', cr', bs', zcl', zcn'⟩, zA', zc'⟩, v, rfl, hq, hok', hv, hs6⟩
          dsimp only [RPp.cells]
          have h7 : VarAt w6 wr.heap.size 132 #[.int .i64 so, .int .i64 re, .int .i64 win, .int .i64 cr, .slice zA 0 zc, .bool (zcl && !zcn), .bool zcn] := (VarAt.new wr 132 #[.int .i64 so, .int .i64 re, .int .i64 win, .int .i64 cr, .slice zA 0 zc, .bool (zcl && !zcn), .bool zcn]).same hs6
          have hk6 : Same wr w6 := Chg.trans ((Chg.refl _ _).alloc _) hs6
          have hw6 : wr.heap.size < w6.heap.size := by have := hs6.size; simp at this; omega
          have HZ := Lib.hid (And.intro hok' hk6)
          clear hq hok' hv hs6 z0 z1 z2 z3 z4 z5 z6 p8
          have h7b := h7.alloc (.cells #[.int .i64 win', .int .i64 cr', .slice zA' 0 zc', .bool (zcl' && !zcn'), .bool zcn'] 83)
          have hk7 : Same wr (w6.alloc (.cells #[.int .i64 win', .int .i64 cr', .slice zA' 0 zc', .bool (zcl' && !zcn'), .bool zcn'] 83)) := hk6.alloc _
          obtain ⟨b7, e7⟩ : ∃ b7, wr.heap.size = b7 := ⟨_, rfl⟩
          rw [e7]
          rw [e7] at h7b hw6
          have HB7 : Hid (b7 = wr.heap.size) := Lib.hid e7.symm
          clear e7 h7
          have hV : VarAt ((((((w6.alloc (.cells #[.int .i64 win', .int .i64 cr', .slice zA' 0 zc', .bool (zcl' && !zcn'), .bool zcn'] 83)).setCell ⟨b7, 2, none⟩ (.int .i64 win')).setCell ⟨b7, 3, none⟩ (.int .i64 cr')).setCell ⟨b7, 4, none⟩ (.slice zA' 0 zc')).setCell ⟨b7, 5, none⟩ (.bool (zcl' && !zcn'))).setCell ⟨b7, 6, none⟩ (.bool zcn')) b7 132 #[.int .i64 so, .int .i64 re, .int .i64 win', .int .i64 cr', .slice zA' 0 zc', .bool (zcl' && !zcn'), .bool zcn'] := by
            have v0 := at_setCell (i := 2) (C := [.int .i64 so, .int .i64 re, .int .i64 win, .int .i64 cr, .slice zA 0 zc, .bool (zcl && !zcn), .bool zcn]) (.int .i64 win') h7b
            have v1 := at_setCell (i := 3) (C := [.int .i64 so, .int .i64 re, .int .i64 win', .int .i64 cr, .slice zA 0 zc, .bool (zcl && !zcn), .bool zcn]) (.int .i64 cr') v0
            have v2 := at_setCell (i := 4) (C := [.int .i64 so, .int .i64 re, .int .i64 win', .int .i64 cr', .slice zA 0 zc, .bool (zcl && !zcn), .bool zcn]) (.slice zA' 0 zc') v1
            have v3 := at_setCell (i := 5) (C := [.int .i64 so, .int .i64 re, .int .i64 win', .int .i64 cr', .slice zA' 0 zc', .bool (zcl && !zcn), .bool zcn]) (.bool (zcl' && !zcn')) v2
            have v4 := at_setCell (i := 6) (C := [.int .i64 so, .int .i64 re, .int .i64 win', .int .i64 cr', .slice zA' 0 zc', .bool (zcl' && !zcn'), .bool zcn]) (.bool zcn') v3
            exact v4
          have hkS : Same wr ((((((w6.alloc (.cells #[.int .i64 win', .int .i64 cr', .slice zA' 0 zc', .bool (zcl' && !zcn'), .bool zcn'] 83)).setCell ⟨b7, 2, none⟩ (.int .i64 win')).setCell ⟨b7, 3, none⟩ (.int .i64 cr')).setCell ⟨b7, 4, none⟩ (.slice zA' 0 zc')).setCell ⟨b7, 5, none⟩ (.bool (zcl' && !zcn'))).setCell ⟨b7, 6, none⟩ (.bool zcn')) := (((((hk7.setCell _ _ (fun q => by have q2 : b7 < wr.heap.size := q; have := HB7.out; omega)).setCell _ _ (fun q => by have q2 : b7 < wr.heap.size := q; have := HB7.out; omega)).setCell _ _ (fun q => by have q2 : b7 < wr.heap.size := q; have := HB7.out; omega)).setCell _ _ (fun q => by have q2 : b7 < wr.heap.size := q; have := HB7.out; omega)).setCell _ _ (fun q => by have q2 : b7 < wr.heap.size := q; have := HB7.out; omega))
          have HVS := Lib.hid (And.intro hV hkS)
          have q2 := cell_at (C := [.int .i64 so, .int .i64 re, .int .i64 win, .int .i64 cr, .slice zA 0 zc, .bool (zcl && !zcn), .bool zcn]) h7b 2
          have q3 := cell_at (C := [.int .i64 so, .int .i64 re, .int .i64 win, .int .i64 cr, .slice zA 0 zc, .bool (zcl && !zcn), .bool zcn]) h7b 3
          have q4 := cell_at (C := [.int .i64 so, .int .i64 re, .int .i64 win, .int .i64 cr, .slice zA 0 zc, .bool (zcl && !zcn), .bool zcn]) h7b 4
          have q5 := cell_at (C := [.int .i64 so, .int .i64 re, .int .i64 win, .int .i64 cr, .slice zA 0 zc, .bool (zcl && !zcn), .bool zcn]) h7b 5
          have q6 := cell_at (C := [.int .i64 so, .int .i64 re, .int .i64 win, .int .i64 cr, .slice zA 0 zc, .bool (zcl && !zcn), .bool zcn]) h7b 6
          simp only [List.getElem?_cons_zero, List.getElem?_cons_succ] at q2 q3 q4 q5 q6
          have g2_ := frozen_at h7b 2
          have g3_ := frozen_at h7b 3
          have g4_ := frozen_at h7b 4
          have g5_ := frozen_at h7b 5
          have g6_ := frozen_at h7b 6
          have hl7 := lt_of_at h7b
          clear hV hkS hk7 hk6 h7b hw6
          go_upto_region 11 with (fail)
          clear q2 q3 q4 q5 q6 g2_ g3_ g4_ g5_ g6_ hl7
          generalize ((((((w6.alloc (.cells #[.int .i64 win', .int .i64 cr', .slice zA' 0 zc', .bool (zcl' && !zcn'), .bool zcn'] 83)).setCell ⟨b7, 2, none⟩ (.int .i64 win')).setCell ⟨b7, 3, none⟩ (.int .i64 cr')).setCell ⟨b7, 4, none⟩ (.slice zA' 0 zc')).setCell ⟨b7, 5, none⟩ (.bool (zcl' && !zcn'))).setCell ⟨b7, 6, none⟩ (.bool zcn')) = wS at *
          have hld := run_load_kfl HVS.out.1
          go_wp2_with (first | (refine wpl_loadv _ _ _ rfl hld ?_) | (refine wpl_mk1 so re win' cr' zA' 0 zc' (zcl' && !zcn') zcn' rfl ?_; intro u9 g9 hs9 v9 hg9 hg9l; have V9 := Lib.hid v9; have OWN9 := Lib.hid (row_chg (row_chg HOWN.out HVS.out.2 (fun _ _ q => q)) hs9 (fun _ _ q => q)); have HK9 : Hid (Same wr u9) := Lib.hid (HVS.out.2.trans hs9); have SZ9 : Hid (w1.heap.size ≤ u9.heap.size) := Lib.hid (Nat.le_trans HK.out.size HK9.out.size); clear hs9 v9 hg9 hg9l) | (at_builtin; refine wpl_append1 w1.heap.size 132 _ 7 64 Try.underlying61 info_flow rfl (by omega) _ i (rs'.flatMap KFl.cells) OWN9.out rfl g9 1 [.int .i64 so, .int .i64 re, .int .i64 win', .int .i64 cr', .slice zA' 0 zc', .bool (zcl' && !zcn'), .bool zcn'] rfl V9.out rfl (by simp [Value.oneCell']) (by omega) (by omega) SZ9.out ?_; intro g2 cap2 w5 hown2 hgrow2 _ _; have HOWN2 := Lib.hid hown2; have HGROW := Lib.hid hgrow2; clear hown2 hgrow2))
          go_roundw
          case rel =>
            refine ⟨i + 1, rs' ++ [⟨so, re, ⟨⟨win', cr', bs', zcl', zcn'⟩, zA', zc'⟩⟩], _, _, by omega, rfl, by go_num, by simp [HLE.out], fun z hz => ?_, by rw [List.flatMap_append]; exact HOWN2.out, ?_⟩
            · rcases List.mem_append.1 hz with q | q
              · exact HOK.out z q
              · simp at q; subst q; exact HZ.out.1
            · exact (HK.out.trans HK9.out).then_ (Chg.grownO (Chg.refl _ _) HGROW.out) (fun j hj e => by have := (OWN9.out.lt j e.symm).1; omega)
          case measure => simp [intOf]; omega
        · have b2_ : (re == client) = false := by simp [hs2]
          clear hs2
          go_wp2_with (first | (refine wpl_mk1 so re win cr zA 0 zc (zcl && !zcn) zcn rfl ?_; intro u9 g9 hs9 v9 hg9 hg9l; have V9 := Lib.hid v9; have OWN9 := Lib.hid (row_chg (row_chg HOWN.out ((Chg.refl (fun _ => False) wr).alloc (.cells #[.int .i64 so, .int .i64 re, .int .i64 win, .int .i64 cr, .slice zA 0 zc, .bool (zcl && !zcn), .bool zcn] 132)) (fun _ _ q => q)) hs9 (fun _ _ q => q)); have HK9 : Hid (Same wr u9) := Lib.hid (((Chg.refl (fun _ => False) wr).alloc (.cells #[.int .i64 so, .int .i64 re, .int .i64 win, .int .i64 cr, .slice zA 0 zc, .bool (zcl && !zcn), .bool zcn] 132)).trans hs9); have SZ9 : Hid (w1.heap.size ≤ u9.heap.size) := Lib.hid (Nat.le_trans HK.out.size HK9.out.size); clear hs9 v9 hg9 hg9l) | (at_builtin; refine wpl_append1 w1.heap.size 132 _ 7 64 Try.underlying61 info_flow rfl (by omega) _ i (rs'.flatMap KFl.cells) OWN9.out rfl g9 1 [.int .i64 so, .int .i64 re, .int .i64 win, .int .i64 cr, .slice zA 0 zc, .bool (zcl && !zcn), .bool zcn] rfl V9.out rfl (by simp [Value.oneCell']) (by omega) (by omega) SZ9.out ?_; intro g2 cap2 w5 hown2 hgrow2 _ _; have HOWN2 := Lib.hid hown2; have HGROW := Lib.hid hgrow2; clear hown2 hgrow2))
          go_roundw
          case rel =>
            refine ⟨i + 1, rs' ++ [⟨so, re, ⟨⟨win, cr, bs, zcl, zcn⟩, zA, zc⟩⟩], _, _, by omega, rfl, by go_num, by simp [HLE.out], fun z hz => ?_, by rw [List.flatMap_append]; exact HOWN2.out, ?_⟩
            · rcases List.mem_append.1 hz with q | q
              · exact HOK.out z q
              · simp at q; subst q; exact HY.out.2
            · exact (HK.out.trans HK9.out).then_ (Chg.grownO (Chg.refl _ _) HGROW.out) (fun j hj e => by have := (OWN9.out.lt j e.symm).1; omega)
          case measure => simp [intOf]; omega
    · have hii : ¬ (i : Int) < pn := by omega
      obtain rfl : pn = i := by omega
      have p8 : wr.cell? ⟨b2, 8, none⟩ = some (.slice PA pn pc) := cell_at (C := [.bool true, .int .i64 ho, .int .i64 wa, .slice A n cap, .int .i64 acts, .bool us, .int .u32 la, .int .i64 nu, .slice PA pn pc]) hD 8
      by_cases h1 : ho = client
      · have b1 : (ho == client) = true := by simp [h1]
        by_cases h2 : wa = client
        · have b2_ : (wa == client) = true := by simp [h2]
          have hV : VarAt (((((wr.setCell ⟨b2, 8, none⟩ (.slice A0 pn cap0)).setCell ⟨b2, 1, none⟩ (.int .i64 0)).setCell ⟨b2, 3, none⟩ (.slice none 0 0)).setCell ⟨b2, 4, none⟩ (.int .i64 0)).setCell ⟨b2, 2, none⟩ (.int .i64 0)) b2 63 (KC.cells ⟨0, 0, none, 0, 0, 0, us, la, nu, A0, pn, cap0⟩).toArray := by
            have v0 := at_setCell (i := 8) (C := [.bool true, .int .i64 ho, .int .i64 wa, .slice A n cap, .int .i64 acts, .bool us, .int .u32 la, .int .i64 nu, .slice PA pn pc]) (.slice A0 pn cap0) hD
            have v1 := at_setCell (i := 1) (C := [.bool true, .int .i64 ho, .int .i64 wa, .slice A n cap, .int .i64 acts, .bool us, .int .u32 la, .int .i64 nu, .slice A0 pn cap0]) (.int .i64 0) v0
            have v2 := at_setCell (i := 3) (C := [.bool true, .int .i64 0, .int .i64 wa, .slice A n cap, .int .i64 acts, .bool us, .int .u32 la, .int .i64 nu, .slice A0 pn cap0]) (.slice none 0 0) v1
            have v3 := at_setCell (i := 4) (C := [.bool true, .int .i64 0, .int .i64 wa, .slice none 0 0, .int .i64 acts, .bool us, .int .u32 la, .int .i64 nu, .slice A0 pn cap0]) (.int .i64 0) v2
            have v4 := at_setCell (i := 2) (C := [.bool true, .int .i64 0, .int .i64 wa, .slice none 0 0, .int .i64 0, .bool us, .int .u32 la, .int .i64 nu, .slice A0 pn cap0]) (.int .i64 0) v3
            exact v4
          have hZ2 : VarAt (((((wr.setCell ⟨b2, 8, none⟩ (.slice A0 pn cap0)).setCell ⟨b2, 1, none⟩ (.int .i64 0)).setCell ⟨b2, 3, none⟩ (.slice none 0 0)).setCell ⟨b2, 4, none⟩ (.int .i64 0)).setCell ⟨b2, 2, none⟩ (.int .i64 0)) b4 63 #[.bool false, .int .i64 0, .int .i64 0, .slice none 0 0, .int .i64 0, .bool false, .int .u32 0, .int .i64 0, .slice none 0 0] := (at_setCell_other _ (by have := HE.out; omega) (at_setCell_other _ (by have := HE.out; omega) (at_setCell_other _ (by have := HE.out; omega) (at_setCell_other _ (by have := HE.out; omega) (at_setCell_other _ (by have := HE.out; omega) hZ)))))
          have hch : Chg (fun x => x = b2) wr (((((wr.setCell ⟨b2, 8, none⟩ (.slice A0 pn cap0)).setCell ⟨b2, 1, none⟩ (.int .i64 0)).setCell ⟨b2, 3, none⟩ (.slice none 0 0)).setCell ⟨b2, 4, none⟩ (.int .i64 0)).setCell ⟨b2, 2, none⟩ (.int .i64 0)) := ((((((Chg.refl (fun x => x = b2) wr).setCell ⟨b2, 8, none⟩ (.slice A0 pn cap0) (fun _ => rfl)).setCell ⟨b2, 1, none⟩ (.int .i64 0) (fun _ => rfl)).setCell ⟨b2, 3, none⟩ (.slice none 0 0) (fun _ => rfl)).setCell ⟨b2, 4, none⟩ (.int .i64 0) (fun _ => rfl)).setCell ⟨b2, 2, none⟩ (.int .i64 0) (fun _ => rfl))
          have HV := Lib.hid (And.intro hV (And.intro hZ2 hch))
          have c1 := cell_at (C := [.bool true, .int .i64 ho, .int .i64 wa, .slice A n cap, .int .i64 acts, .bool us, .int .u32 la, .int .i64 nu, .slice PA pn pc]) hD 1
          have f1 := frozen_at hD 1
          have c2 := cell_at (C := [.bool true, .int .i64 ho, .int .i64 wa, .slice A n cap, .int .i64 acts, .bool us, .int .u32 la, .int .i64 nu, .slice PA pn pc]) hD 2
          have f2 := frozen_at hD 2
          have c3 := cell_at (C := [.bool true, .int .i64 ho, .int .i64 wa, .slice A n cap, .int .i64 acts, .bool us, .int .u32 la, .int .i64 nu, .slice PA pn pc]) hD 3
          have f3 := frozen_at hD 3
          have c4 := cell_at (C := [.bool true, .int .i64 ho, .int .i64 wa, .slice A n cap, .int .i64 acts, .bool us, .int .u32 la, .int .i64 nu, .slice PA pn pc]) hD 4
          have f4 := frozen_at hD 4
          have c8 := cell_at (C := [.bool true, .int .i64 ho, .int .i64 wa, .slice A n cap, .int .i64 acts, .bool us, .int .u32 la, .int .i64 nu, .slice PA pn pc]) hD 8
          have f8 := frozen_at hD 8
          have hl2 := lt_of_at hD
          have eX : KC.gone ⟨ho, wa, A, n, cap, acts, us, la, nu, PA, pn, pc⟩ client A0 cap0 = ⟨0, 0, none, 0, 0, 0, us, la, nu, A0, pn, cap0⟩ := by
            unfold KC.gone
            simp only [h1, h2, if_true, if_false]
          have EX := Lib.hid eX
          clear hV hZ2 hch hD hZ eX h1 h2
          go_upto_region 17 with (fail)
          clear c1 f1 c2 f2 c3 f3 c4 f4 c8 f8 hl2
          generalize (((((wr.setCell ⟨b2, 8, none⟩ (.slice A0 pn cap0)).setCell ⟨b2, 1, none⟩ (.int .i64 0)).setCell ⟨b2, 3, none⟩ (.slice none 0 0)).setCell ⟨b2, 4, none⟩ (.int .i64 0)).setCell ⟨b2, 2, none⟩ (.int .i64 0)) = wE at *
          have hld := run_load_kc (x := ⟨0, 0, none, 0, 0, 0, us, la, nu, A0, pn, cap0⟩) HV.out.1
          go_wp2_with (first | (refine wpl_loadv _ _ _ rfl hld ?_) | (refine wpl_storeRow _ rfl rfl HV.out.2.1 (by kernel_rfl) rfl (KC.one _) ?_))
          exact bodyPost_ret (results_cell1 Try.results31 rfl (run_load_kc (HV.out.2.1.put _))) rfl ⟨A0, cap0, rs', (by rw [EX.out]), kgone_end HX.out HK.out HOWN.out HLE.out HOK.out HR.out.2 HE.out HV.out.2.1 HV.out.2.2⟩
        · have b2_ : (wa == client) = false := by simp [h2]
          have hV : VarAt ((((wr.setCell ⟨b2, 8, none⟩ (.slice A0 pn cap0)).setCell ⟨b2, 1, none⟩ (.int .i64 0)).setCell ⟨b2, 3, none⟩ (.slice none 0 0)).setCell ⟨b2, 4, none⟩ (.int .i64 0)) b2 63 (KC.cells ⟨0, wa, none, 0, 0, 0, us, la, nu, A0, pn, cap0⟩).toArray := by
            have v0 := at_setCell (i := 8) (C := [.bool true, .int .i64 ho, .int .i64 wa, .slice A n cap, .int .i64 acts, .bool us, .int .u32 la, .int .i64 nu, .slice PA pn pc]) (.slice A0 pn cap0) hD
            have v1 := at_setCell (i := 1) (C := [.bool true, .int .i64 ho, .int .i64 wa, .slice A n cap, .int .i64 acts, .bool us, .int .u32 la, .int .i64 nu, .slice A0 pn cap0]) (.int .i64 0) v0
            have v2 := at_setCell (i := 3) (C := [.bool true, .int .i64 0, .int .i64 wa, .slice A n cap, .int .i64 acts, .bool us, .int .u32 la, .int .i64 nu, .slice A0 pn cap0]) (.slice none 0 0) v1
            have v3 := at_setCell (i := 4) (C := [.bool true, .int .i64 0, .int .i64 wa, .slice none 0 0, .int .i64 acts, .bool us, .int .u32 la, .int .i64 nu, .slice A0 pn cap0]) (.int .i64 0) v2
            exact v3
          have hZ2 : VarAt ((((wr.setCell ⟨b2, 8, none⟩ (.slice A0 pn cap0)).setCell ⟨b2, 1, none⟩ (.int .i64 0)).setCell ⟨b2, 3, none⟩ (.slice none 0 0)).setCell ⟨b2, 4, none⟩ (.int .i64 0)) b4 63 #[.bool false, .int .i64 0, .int .i64 0, .slice none 0 0, .int .i64 0, .bool false, .int .u32 0, .int .i64 0, .slice none 0 0] := (at_setCell_other _ (by have := HE.out; omega) (at_setCell_other _ (by have := HE.out; omega) (at_setCell_other _ (by have := HE.out; omega) (at_setCell_other _ (by have := HE.out; omega) hZ))))
          have hch : Chg (fun x => x = b2) wr ((((wr.setCell ⟨b2, 8, none⟩ (.slice A0 pn cap0)).setCell ⟨b2, 1, none⟩ (.int .i64 0)).setCell ⟨b2, 3, none⟩ (.slice none 0 0)).setCell ⟨b2, 4, none⟩ (.int .i64 0)) := (((((Chg.refl (fun x => x = b2) wr).setCell ⟨b2, 8, none⟩ (.slice A0 pn cap0) (fun _ => rfl)).setCell ⟨b2, 1, none⟩ (.int .i64 0) (fun _ => rfl)).setCell ⟨b2, 3, none⟩ (.slice none 0 0) (fun _ => rfl)).setCell ⟨b2, 4, none⟩ (.int .i64 0) (fun _ => rfl))
          have HV := Lib.hid (And.intro hV (And.intro hZ2 hch))
          have c1 := cell_at (C := [.bool true, .int .i64 ho, .int .i64 wa, .slice A n cap, .int .i64 acts, .bool us, .int .u32 la, .int .i64 nu, .slice PA pn pc]) hD 1
          have f1 := frozen_at hD 1
          have c2 := cell_at (C := [.bool true, .int .i64 ho, .int .i64 wa, .slice A n cap, .int .i64 acts, .bool us, .int .u32 la, .int .i64 nu, .slice PA pn pc]) hD 2
          have f2 := frozen_at hD 2
          have c3 := cell_at (C := [.bool true, .int .i64 ho, .int .i64 wa, .slice A n cap, .int .i64 acts, .bool us, .int .u32 la, .int .i64 nu, .slice PA pn pc]) hD 3
          have f3 := frozen_at hD 3
          have c4 := cell_at (C := [.bool true, .int .i64 ho, .int .i64 wa, .slice A n cap, .int .i64 acts, .bool us, .int .u32 la, .int .i64 nu, .slice PA pn pc]) hD 4
          have f4 := frozen_at hD 4
          have c8 := cell_at (C := [.bool true, .int .i64 ho, .int .i64 wa, .slice A n cap, .int .i64 acts, .bool us, .int .u32 la, .int .i64 nu, .slice PA pn pc]) hD 8
          have f8 := frozen_at hD 8
          have hl2 := lt_of_at hD
          have eX : KC.gone ⟨ho, wa, A, n, cap, acts, us, la, nu, PA, pn, pc⟩ client A0 cap0 = ⟨0, wa, none, 0, 0, 0, us, la, nu, A0, pn, cap0⟩ := by
            unfold KC.gone
            simp only [h1, h2, if_true, if_false]
          have EX := Lib.hid eX
          clear hV hZ2 hch hD hZ eX h1 h2
          go_upto_region 17 with (fail)
          clear c1 f1 c2 f2 c3 f3 c4 f4 c8 f8 hl2
          generalize ((((wr.setCell ⟨b2, 8, none⟩ (.slice A0 pn cap0)).setCell ⟨b2, 1, none⟩ (.int .i64 0)).setCell ⟨b2, 3, none⟩ (.slice none 0 0)).setCell ⟨b2, 4, none⟩ (.int .i64 0)) = wE at *
          have hld := run_load_kc (x := ⟨0, wa, none, 0, 0, 0, us, la, nu, A0, pn, cap0⟩) HV.out.1
          go_wp2_with (first | (refine wpl_loadv _ _ _ rfl hld ?_) | (refine wpl_storeRow _ rfl rfl HV.out.2.1 (by kernel_rfl) rfl (KC.one _) ?_))
          exact bodyPost_ret (results_cell1 Try.results31 rfl (run_load_kc (HV.out.2.1.put _))) rfl ⟨A0, cap0, rs', (by rw [EX.out]), kgone_end HX.out HK.out HOWN.out HLE.out HOK.out HR.out.2 HE.out HV.out.2.1 HV.out.2.2⟩
      · have b1 : (ho == client) = false := by simp [h1]
        by_cases h2 : wa = client
        · have b2_ : (wa == client) = true := by simp [h2]
          have hV : VarAt ((wr.setCell ⟨b2, 8, none⟩ (.slice A0 pn cap0)).setCell ⟨b2, 2, none⟩ (.int .i64 0)) b2 63 (KC.cells ⟨ho, 0, A, n, cap, acts, us, la, nu, A0, pn, cap0⟩).toArray := by
            have v0 := at_setCell (i := 8) (C := [.bool true, .int .i64 ho, .int .i64 wa, .slice A n cap, .int .i64 acts, .bool us, .int .u32 la, .int .i64 nu, .slice PA pn pc]) (.slice A0 pn cap0) hD
            have v1 := at_setCell (i := 2) (C := [.bool true, .int .i64 ho, .int .i64 wa, .slice A n cap, .int .i64 acts, .bool us, .int .u32 la, .int .i64 nu, .slice A0 pn cap0]) (.int .i64 0) v0
            exact v1
          have hZ2 : VarAt ((wr.setCell ⟨b2, 8, none⟩ (.slice A0 pn cap0)).setCell ⟨b2, 2, none⟩ (.int .i64 0)) b4 63 #[.bool false, .int .i64 0, .int .i64 0, .slice none 0 0, .int .i64 0, .bool false, .int .u32 0, .int .i64 0, .slice none 0 0] := (at_setCell_other _ (by have := HE.out; omega) (at_setCell_other _ (by have := HE.out; omega) hZ))
          have hch : Chg (fun x => x = b2) wr ((wr.setCell ⟨b2, 8, none⟩ (.slice A0 pn cap0)).setCell ⟨b2, 2, none⟩ (.int .i64 0)) := (((Chg.refl (fun x => x = b2) wr).setCell ⟨b2, 8, none⟩ (.slice A0 pn cap0) (fun _ => rfl)).setCell ⟨b2, 2, none⟩ (.int .i64 0) (fun _ => rfl))
          have HV := Lib.hid (And.intro hV (And.intro hZ2 hch))
          have c1 := cell_at (C := [.bool true, .int .i64 ho, .int .i64 wa, .slice A n cap, .int .i64 acts, .bool us, .int .u32 la, .int .i64 nu, .slice PA pn pc]) hD 1
          have f1 := frozen_at hD 1
          have c2 := cell_at (C := [.bool true, .int .i64 ho, .int .i64 wa, .slice A n cap, .int .i64 acts, .bool us, .int .u32 la, .int .i64 nu, .slice PA pn pc]) hD 2
          have f2 := frozen_at hD 2
          have c8 := cell_at (C := [.bool true, .int .i64 ho, .int .i64 wa, .slice A n cap, .int .i64 acts, .bool us, .int .u32 la, .int .i64 nu, .slice PA pn pc]) hD 8
          have f8 := frozen_at hD 8
          have hl2 := lt_of_at hD
          have eX : KC.gone ⟨ho, wa, A, n, cap, acts, us, la, nu, PA, pn, pc⟩ client A0 cap0 = ⟨ho, 0, A, n, cap, acts, us, la, nu, A0, pn, cap0⟩ := by
            unfold KC.gone
            simp only [h1, h2, if_true, if_false]
          have EX := Lib.hid eX
          clear hV hZ2 hch hD hZ eX h1 h2
          go_upto_region 17 with (fail)
          clear c1 f1 c2 f2 c8 f8 hl2
          generalize ((wr.setCell ⟨b2, 8, none⟩ (.slice A0 pn cap0)).setCell ⟨b2, 2, none⟩ (.int .i64 0)) = wE at *
          have hld := run_load_kc (x := ⟨ho, 0, A, n, cap, acts, us, la, nu, A0, pn, cap0⟩) HV.out.1
          go_wp2_with (first | (refine wpl_loadv _ _ _ rfl hld ?_) | (refine wpl_storeRow _ rfl rfl HV.out.2.1 (by kernel_rfl) rfl (KC.one _) ?_))
          exact bodyPost_ret (results_cell1 Try.results31 rfl (run_load_kc (HV.out.2.1.put _))) rfl ⟨A0, cap0, rs', (by rw [EX.out]), kgone_end HX.out HK.out HOWN.out HLE.out HOK.out HR.out.2 HE.out HV.out.2.1 HV.out.2.2⟩
        · have b2_ : (wa == client) = false := by simp [h2]
          have hV : VarAt (wr.setCell ⟨b2, 8, none⟩ (.slice A0 pn cap0)) b2 63 (KC.cells ⟨ho, wa, A, n, cap, acts, us, la, nu, A0, pn, cap0⟩).toArray := by
            have v0 := at_setCell (i := 8) (C := [.bool true, .int .i64 ho, .int .i64 wa, .slice A n cap, .int .i64 acts, .bool us, .int .u32 la, .int .i64 nu, .slice PA pn pc]) (.slice A0 pn cap0) hD
            exact v0
          have hZ2 : VarAt (wr.setCell ⟨b2, 8, none⟩ (.slice A0 pn cap0)) b4 63 #[.bool false, .int .i64 0, .int .i64 0, .slice none 0 0, .int .i64 0, .bool false, .int .u32 0, .int .i64 0, .slice none 0 0] := (at_setCell_other _ (by have := HE.out; omega) hZ)
          have hch : Chg (fun x => x = b2) wr (wr.setCell ⟨b2, 8, none⟩ (.slice A0 pn cap0)) := ((Chg.refl (fun x => x = b2) wr).setCell ⟨b2, 8, none⟩ (.slice A0 pn cap0) (fun _ => rfl))
          have HV := Lib.hid (And.intro hV (And.intro hZ2 hch))
          have c1 := cell_at (C := [.bool true, .int .i64 ho, .int .i64 wa, .slice A n cap, .int .i64 acts, .bool us, .int .u32 la, .int .i64 nu, .slice PA pn pc]) hD 1
          have f1 := frozen_at hD 1
          have c2 := cell_at (C := [.bool true, .int .i64 ho, .int .i64 wa, .slice A n cap, .int .i64 acts, .bool us, .int .u32 la, .int .i64 nu, .slice PA pn pc]) hD 2
          have f2 := frozen_at hD 2
          have c8 := cell_at (C := [.bool true, .int .i64 ho, .int .i64 wa, .slice A n cap, .int .i64 acts, .bool us, .int .u32 la, .int .i64 nu, .slice PA pn pc]) hD 8
          have f8 := frozen_at hD 8
          have hl2 := lt_of_at hD
          have eX : KC.gone ⟨ho, wa, A, n, cap, acts, us, la, nu, PA, pn, pc⟩ client A0 cap0 = ⟨ho, wa, A, n, cap, acts, us, la, nu, A0, pn, cap0⟩ := by
            unfold KC.gone
            simp only [h1, h2, if_true, if_false]
          have EX := Lib.hid eX
          clear hV hZ2 hch hD hZ eX h1 h2
          go_upto_region 17 with (fail)
          clear c1 f1 c2 f2 c8 f8 hl2
          generalize (wr.setCell ⟨b2, 8, none⟩ (.slice A0 pn cap0)) = wE at *
          have hld := run_load_kc (x := ⟨ho, wa, A, n, cap, acts, us, la, nu, A0, pn, cap0⟩) HV.out.1
          go_wp2_with (first | (refine wpl_loadv _ _ _ rfl hld ?_) | (refine wpl_storeRow _ rfl rfl HV.out.2.1 (by kernel_rfl) rfl (KC.one _) ?_))
          exact bodyPost_ret (results_cell1 Try.results31 rfl (run_load_kc (HV.out.2.1.put _))) rfl ⟨A0, cap0, rs', (by rw [EX.out]), kgone_end HX.out HK.out HOWN.out HLE.out HOK.out HR.out.2 HE.out HV.out.2.1 HV.out.2.2⟩
end Go.Proofs.Ytndldjopgbhphaa
