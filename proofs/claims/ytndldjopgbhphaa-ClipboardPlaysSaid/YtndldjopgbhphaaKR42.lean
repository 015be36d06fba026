/- compositorref42: Receive (printed by kr42.py). -/
import Derived.Test.YtndldjopgbhphaaPk43
import Derived.Test.YtndldjopgbhphaaPk39
import Derived.Test.YtndldjopgbhphaaTree
import Derived.WalkMore
import Derived.Deep.DeepCutAuto
set_option linter.unusedVariables false
set_option linter.unusedSimpArgs false
set_option maxRecDepth 100000
namespace Go.Proofs.Ytndldjopgbhphaa
open Go.RowKit

theorem hasS_succ {xs : List ByteArray} {x y : ByteArray} {i : Nat} (h : xs[i]? = some y) : hasS (xs.take (i + 1)) x = (hasS (xs.take i) x || decide (x = y)) := by
  unfold hasS
  rw [List.take_add_one, h, List.any_append]
  simp
def KRcvOut (w : World) (G : Nat → Prop) (x : KC) (fs : List ByteArray) (client : Int) (g : ByteArray) (win : Int) (rs : List KFl) (e : Ending) (w' : World) : Prop :=
  (∃ v, x.rcvE fs client g win = v ∧ v ≠ 0 ∧ e = .returned (.tuple #[.agg x.cells.toArray, .int .i64 0, .int .i64 v]) ∧ Same w w') ∨
  (x.rcvE fs client g win = 0 ∧ ∃ PA' pc', e = .returned (.tuple #[.agg (KC.cells { x with PA := PA', pn := x.pn + 1, pc := pc' }).toArray, .int .i64 x.pn, .int .i64 0]) ∧ KRow w' G PA' (x.pn + 1) (rs ++ [⟨x.ho, client, ⟨PSt.new win, none, 0⟩⟩]) ∧ Same w w')
def KRel (w : World) (G : Nat → Prop) (x : KC) (client win : Int) (rs : List KFl) (b4 b8 : Nat) (wx : World) : Prop :=
  ∃ PA' pc', VarAt wx b4 63 (KC.cells { x with PA := PA', pn := x.pn + 1, pc := pc' }).toArray ∧ VarAt wx b8 63 #[.bool false, .int .i64 0, .int .i64 0, .slice none 0 0, .int .i64 0, .bool false, .int .u32 0, .int .i64 0, .slice none 0 0] ∧ KRow wx (fun y => G y ∨ y = b8) PA' (x.pn + 1) (rs ++ [⟨x.ho, client, ⟨PSt.new win, none, 0⟩⟩]) ∧ Same w wx ∧ w.heap.size + 2 ≤ wx.heap.size
theorem krel_end (ho wa : Int) (A : Option Addr) (n cap : Nat) (acts : Int) (us : Bool) (la nu : Int) (PA : Option Addr) (pn pc : Nat) {rs : List KFl} {w wd u : World} {G : Nat → Prop} {b4 b8 g2 cap2 : Nat} {win : Int} (hr : KRow w G PA pn rs ∧ ∀ x, G x → x < w.heap.size) (hl : rs.length = pn) (hw : 1 ≤ win ∧ win ≤ 65536) (hd : Same w wd) (he : b4 = w.heap.size ∧ b8 = w.heap.size + 1 ∧ w.heap.size + 2 ≤ wd.heap.size)
    (vc : VarAt wd b4 63 #[.bool true, .int .i64 ho, .int .i64 wa, .slice A n cap, .int .i64 acts, .bool us, .int .u32 la, .int .i64 nu, .slice PA pn pc]) (vz : VarAt wd b8 63 #[.bool false, .int .i64 0, .int .i64 0, .slice none 0 0, .int .i64 0, .bool false, .int .u32 0, .int .i64 0, .slice none 0 0]) (hk : Same wd u) (o : u.ownsRow wd.heap.size 132 7 (.slice (some ⟨g2, 0, none⟩) (0 + pn + 1) cap2) (0 + pn + 1) (([] ++ rs.flatMap KFl.cells) ++ [.int .i64 ho, .int .i64 wa, .int .i64 win, .int .i64 0, .slice none 0 0, .bool false, .bool false])) :
    KRel w G ⟨ho, wa, A, n, cap, acts, us, la, nu, PA, pn, pc⟩ wa win rs b4 b8 (u.setCell ⟨b4, 8, none⟩ (.slice (some ⟨g2, 0, none⟩) (pn + 1) cap2)) := by
  obtain ⟨rfl, rfl, hz⟩ := he
  have hch : Chg (fun x => x = w.heap.size) u (u.setCell ⟨w.heap.size, 8, none⟩ (.slice (some ⟨g2, 0, none⟩) (pn + 1) cap2)) := (Chg.refl _ _).setCell _ _ (fun _ => rfl)
  rw [Nat.zero_add, List.nil_append] at o
  have o2 := row_chg o hch (fun x hx q => by have := (o.lt x hx).1; have q2 : x = w.heap.size := q; omega)
  obtain ⟨A9, cap9, hv9, _, hrow9⟩ := KRow.of_own (F := fun y => G y ∨ y = w.heap.size + 1) (rs := rs ++ [⟨ho, wa, ⟨PSt.new win, none, 0⟩⟩]) (by rw [List.flatMap_append]; exact o2) (by simp [hl]) (fun z hz => by
    rcases List.mem_append.1 hz with q | q
    · exact hr.1.2.1 z q
    · simp at q; subst q; exact ⟨PSt.new_ok hw.1 hw.2, rfl, Nat.zero_le _⟩) (fun x hx => by
    rcases hx with hx | hx
    · have := hr.2 x hx; omega
    · omega)
  cases hv9
  refine ⟨_, cap2, at_setCell (i := 8) (C := [.bool true, .int .i64 ho, .int .i64 wa, .slice A n cap, .int .i64 acts, .bool us, .int .u32 la, .int .i64 nu, .slice PA pn pc]) (.slice (some ⟨g2, 0, none⟩) (pn + 1) cap2) (vc.same hk), at_setCell_other _ (by omega) (vz.same hk), hrow9, (hd.trans hk).then_ hch (fun i hi q => by have q2 : i = w.heap.size := q; omega), ?_⟩
  have := hk.size
  have := hch.size
  omega
set_option maxHeartbeats 8000000 in
theorem kreceive_ok (ho wa : Int) (A : Option Addr) (n cap : Nat) (acts : Int) (us : Bool) (la nu : Int) (PA : Option Addr) (pn pc : Nat) (fs : List ByteArray) (client : Int) (g : ByteArray) (win : Int) (rs : List KFl) (w : World) (G : Nat → Prop) (h : StrsAt w A n fs) (hn : n ≤ 1000) (hr : KRow w G PA pn rs) (hG : ∀ x, G x → x < w.heap.size) (hpn : pn ≤ 1000) :
    Calls Try.prog 29 #[.agg #[.bool true, .int .i64 ho, .int .i64 wa, .slice A n cap, .int .i64 acts, .bool us, .int .u32 la, .int .i64 nu, .slice PA pn pc], .int .i64 client, .string g, .int .i64 win] w (KRcvOut w G ⟨ho, wa, A, n, cap, acts, us, la, nu, PA, pn, pc⟩ fs client g win rs) := by
  by_cases h1 : client < 1
  · clear h hr hG
    go_enter Try.func29, Try.ntmps29
    go_wp2
    refine bodyPost_ret (results_cell_tmp2 Try.results29 rfl (run_load_kc (x := ⟨ho, wa, A, n, cap, acts, us, la, nu, PA, pn, pc⟩) (VarAt.newk (by simp)))) rfl (.inl ⟨17, if_pos (.inl (by omega)), by decide, rfl, ((Chg.refl _ _).alloc _).alloc _⟩)
  · by_cases h2 : wa ≠ client
    · have b1 : (wa != client) = true := by simp [h2]
      have b2 : (wa == client) = false := by simp [h2]
      have H2 := Lib.hid h2
      clear h hr hG h2
      go_enter Try.func29, Try.ntmps29
      go_wp2
      refine bodyPost_ret (results_cell_tmp2 Try.results29 rfl (run_load_kc (x := ⟨ho, wa, A, n, cap, acts, us, la, nu, PA, pn, pc⟩) (VarAt.newk (by simp)))) rfl (.inl ⟨17, if_pos (.inr H2.out), by decide, rfl, ((Chg.refl _ _).alloc _).alloc _⟩)
    · obtain rfl : wa = client := Decidable.not_not.1 h2
      clear h2
      have HR := Lib.hid (And.intro hr hG)
      have HRL := Lib.hid hr.1
      have HF := Lib.hid h
      have H1 := Lib.hid h1
      have HX : Hid (VarAt ((w.alloc (.cells #[.bool true, .int .i64 ho, .int .i64 wa, .slice A n cap, .int .i64 acts, .bool us, .int .u32 la, .int .i64 nu, .slice PA pn pc] 63)).alloc (.cells #[.bool false, .int .i64 0, .int .i64 0, .slice none 0 0, .int .i64 0, .bool false, .int .u32 0, .int .i64 0, .slice none 0 0] 63)) w.heap.size 63 #[.bool true, .int .i64 ho, .int .i64 wa, .slice A n cap, .int .i64 acts, .bool us, .int .u32 la, .int .i64 nu, .slice PA pn pc] ∧ VarAt ((w.alloc (.cells #[.bool true, .int .i64 ho, .int .i64 wa, .slice A n cap, .int .i64 acts, .bool us, .int .u32 la, .int .i64 nu, .slice PA pn pc] 63)).alloc (.cells #[.bool false, .int .i64 0, .int .i64 0, .slice none 0 0, .int .i64 0, .bool false, .int .u32 0, .int .i64 0, .slice none 0 0] 63)) (w.heap.size + 1) 63 #[.bool false, .int .i64 0, .int .i64 0, .slice none 0 0, .int .i64 0, .bool false, .int .u32 0, .int .i64 0, .slice none 0 0] ∧ Same w ((w.alloc (.cells #[.bool true, .int .i64 ho, .int .i64 wa, .slice A n cap, .int .i64 acts, .bool us, .int .u32 la, .int .i64 nu, .slice PA pn pc] 63)).alloc (.cells #[.bool false, .int .i64 0, .int .i64 0, .slice none 0 0, .int .i64 0, .bool false, .int .u32 0, .int .i64 0, .slice none 0 0] 63)) ∧ ((w.alloc (.cells #[.bool true, .int .i64 ho, .int .i64 wa, .slice A n cap, .int .i64 acts, .bool us, .int .u32 la, .int .i64 nu, .slice PA pn pc] 63)).alloc (.cells #[.bool false, .int .i64 0, .int .i64 0, .slice none 0 0, .int .i64 0, .bool false, .int .u32 0, .int .i64 0, .slice none 0 0] 63)).heap.size = w.heap.size + 2) :=
        Lib.hid ⟨(VarAt.new _ _ _).alloc _, VarAt.newk (by simp), ((Chg.refl _ _).alloc _).alloc _, by simp⟩
      clear hr hG h
      go_enter Try.func29, Try.ntmps29
      go_upto_region 5 with (fail)
      generalize (w.alloc (.cells #[.bool true, .int .i64 ho, .int .i64 wa, .slice A n cap, .int .i64 acts, .bool us, .int .u32 la, .int .i64 nu, .slice PA pn pc] 63)).alloc (.cells #[.bool false, .int .i64 0, .int .i64 0, .slice none 0 0, .int .i64 0, .bool false, .int .u32 0, .int .i64 0, .slice none 0 0] 63) = w1 at *
      obtain ⟨b4, e4⟩ : ∃ b4, w.heap.size = b4 := ⟨_, rfl⟩
      obtain ⟨b8, e8⟩ : ∃ b8, w.heap.size + 1 = b8 := ⟨_, rfl⟩
      have HE := Lib.hid (And.intro e4.symm e8.symm)
      rw [e8, e4]
      rw [e8, e4] at HX
      clear e4 e8
      have p1 : w1.cell? ⟨b4, 1, none⟩ = some (.int .i64 ho) := cell_at (C := [.bool true, .int .i64 ho, .int .i64 wa, .slice A n cap, .int .i64 acts, .bool us, .int .u32 la, .int .i64 nu, .slice PA pn pc]) HX.out.1 1
      have p3 : w1.cell? ⟨b4, 3, none⟩ = some (.slice A n cap) := cell_at (C := [.bool true, .int .i64 ho, .int .i64 wa, .slice A n cap, .int .i64 acts, .bool us, .int .u32 la, .int .i64 nu, .slice PA pn pc]) HX.out.1 3
      have hlt4 := lt_of_at HX.out.1
      go_wp2
      go_loop [11, 12] (fun v11 v12 => ∃ i : Nat, i ≤ n ∧ v11 = .bool (hasS (fs.take i) g) ∧ v12 = .int .i64 i) (fun _ v12 => n - (intOf v12).toNat)
      case atStart => exact ⟨0, by omega, rfl, rfl⟩
      case round =>
        obtain ⟨i, hi, rfl, rfl⟩ := hrel
        by_cases hlt : i < n
        · as_aux_lemma =>
            have hil : i < fs.length := by rw [HF.out.1]; exact hlt
            obtain ⟨bf, of_, rfl, hbl, hc⟩ := HF.out.2 (by omega)
            obtain ⟨y, hy⟩ : ∃ y, y = fs[i] := ⟨_, rfl⟩
            have hy2 : fs[i]? = some y := by rw [hy]; exact List.getElem?_eq_getElem hil
            have hcell := HX.out.2.2.1.cell (hc i y hy2) (fun q => q)
            have hbl1 := Nat.lt_of_lt_of_le hbl HX.out.2.2.1.size
            have HS := Lib.hid (hasS_succ (x := g) hy2)
            have hii : (i : Int) < n := by omega
            clear hc hy hy2 hbl hil
            cases hb : hasS (fs.take i) g
            · by_cases hyg : y = g
              · have HN : Hid (hasS (fs.take (i + 1)) g = true) := Lib.hid (by rw [HS.out, hb, decide_eq_true hyg.symm]; rfl)
                subst hyg
                clear hb
                go_wp2
                go_round
                case rel => exact ⟨i + 1, by omega, by rw [HN.out], by go_num⟩
                case measure => simp [intOf]; omega
              · have HN : Hid (hasS (fs.take (i + 1)) g = false) := Lib.hid (by rw [HS.out, hb, decide_eq_false (fun q => hyg q.symm)]; rfl)
                have hb' : decide (y = g) = false := decide_eq_false hyg
                have hne := toList_ne hyg
                clear hb hyg
                go_wp2
                go_round
                case rel => exact ⟨i + 1, by omega, by rw [HN.out], by go_num⟩
                case measure => simp [intOf]; omega
            · have HN : Hid (hasS (fs.take (i + 1)) g = true) := Lib.hid (by rw [HS.out, hb]; rfl)
              clear hb
              go_wp2
              go_round
              case rel => exact ⟨i + 1, by omega, by rw [HN.out], by go_num⟩
              case measure => simp [intOf]; omega
        · have hii : ¬ (i : Int) < n := by omega
          have hin : i = n := by omega
          have hft : fs.take i = fs := by rw [hin, ← HF.out.1, List.take_length]
          rw [hft]
          clear hft hin hlt
          have hz := HX.out.2.1
          have hld := run_load_kc (x := ⟨ho, wa, A, n, cap, acts, us, la, nu, PA, pn, pc⟩) HX.out.1
          by_cases h0 : ho = 0
          · subst h0
            go_wp2_with (first | (refine wpl_loadv _ _ _ rfl hld ?_) | (refine wpl_storeRow _ rfl rfl hz (by kernel_rfl) rfl (KC.one _) ?_))
            refine bodyPost_ret (results_cell_tmp2 Try.results29 rfl (run_load_kc (x := ⟨0, wa, A, n, cap, acts, us, la, nu, PA, pn, pc⟩) (hz.put _))) rfl (.inl ⟨8, ?_, by decide, rfl, HX.out.2.2.1.setRow _ _ (fun q => by have := HE.out.2; omega)⟩)
            unfold KC.rcvE
            rw [if_neg (fun q => by rcases q with q | q; have := H1.out; omega; exact q rfl), if_pos (.inl rfl)]
          · have b1 : (ho == 0) = false := by simp [h0]
            have H0 := Lib.hid h0
            clear h0
            cases hb : hasS fs g
            · have HB := Lib.hid hb
              clear hb
              go_wp2_with (first | (refine wpl_loadv _ _ _ rfl hld ?_) | (refine wpl_storeRow _ rfl rfl hz (by kernel_rfl) rfl (KC.one _) ?_))
              refine bodyPost_ret (results_cell_tmp2 Try.results29 rfl (run_load_kc (x := ⟨ho, wa, A, n, cap, acts, us, la, nu, PA, pn, pc⟩) (hz.put _))) rfl (.inl ⟨8, ?_, by decide, rfl, HX.out.2.2.1.setRow _ _ (fun q => by have := HE.out.2; omega)⟩)
              unfold KC.rcvE
              rw [if_neg (fun q => by rcases q with q | q; have := H1.out; omega; exact q rfl), if_pos (.inr HB.out)]
            · have HB := Lib.hid hb
              clear hb
              go_wp2_with fail
              by_cases h4 : win < 1 ∨ 65536 < win
              · have H4 := Lib.hid h4
                refine (qnew_bad win _ h4).mono ?_
                rintro e w4 ⟨rfl, hs⟩
                unfold rpv
                have hld := run_load_kc (x := ⟨ho, wa, A, n, cap, acts, us, la, nu, PA, pn, pc⟩) (VarAt.alloc (VarAt.same HX.out.1 hs) (.cells #[.int .i64 0, .int .i64 0, .slice none 0 0, .bool false, .bool false] 83))
                have hz := VarAt.alloc (VarAt.same HX.out.2.1 hs) (.cells #[.int .i64 0, .int .i64 0, .slice none 0 0, .bool false, .bool false] 83)
                have HS := Lib.hid (HX.out.2.2.1.trans hs)
                clear hs h4
                go_wp2_with (first | (refine wpl_loadv _ _ _ rfl hld ?_) | (refine wpl_storeRow _ rfl rfl hz (by kernel_rfl) rfl (KC.one _) ?_))
                refine bodyPost_ret (results_cell_tmp2 Try.results29 rfl (run_load_kc (x := ⟨ho, wa, A, n, cap, acts, us, la, nu, PA, pn, pc⟩) (hz.put _))) rfl (.inl ⟨6, ?_, by decide, rfl, (HS.out.alloc _).setRow _ _ (fun q => by have := HE.out.2; omega)⟩)
                unfold KC.rcvE
                rw [if_neg (fun q => by rcases q with q | q; have := H1.out; omega; exact q rfl), if_neg (fun q => by rcases q with q | q; exact H0.out q; rw [HB.out] at q; cases q), if_pos H4.out]
              · have HW : Hid (1 ≤ win ∧ win ≤ 65536) := Lib.hid ⟨by omega, by omega⟩
                have HV : Hid (KC.rcvE ⟨ho, wa, A, n, cap, acts, us, la, nu, PA, pn, pc⟩ fs wa g win = 0) := Lib.hid (by
                  unfold KC.rcvE
                  rw [if_neg (fun q => by rcases q with q | q; have := H1.out; omega; exact q rfl), if_neg (fun q => by rcases q with q | q; exact H0.out q; rw [HB.out] at q; cases q), if_neg h4])
                clear h4
                refine (qnew_ok win _ HW.out.1 HW.out.2).mono ?_
                rintro e w4 ⟨rfl, hs⟩
                unfold rpv
                dsimp only [PSt.new]
                have hC := VarAt.alloc (VarAt.same HX.out.1 hs) (.cells #[.int .i64 win, .int .i64 0, .slice none 0 0, .bool false, .bool false] 83)
                have hZ := VarAt.alloc (VarAt.same HX.out.2.1 hs) (.cells #[.int .i64 win, .int .i64 0, .slice none 0 0, .bool false, .bool false] 83)
                have hP := VarAt.new w4 83 #[.int .i64 win, .int .i64 0, .slice none 0 0, .bool false, .bool false]
                have hs5 := (HX.out.2.2.1.trans hs).alloc (.cells #[.int .i64 win, .int .i64 0, .slice none 0 0, .bool false, .bool false] 83)
                have hz5 : w.heap.size + 2 ≤ (w4.alloc (.cells #[.int .i64 win, .int .i64 0, .slice none 0 0, .bool false, .bool false] 83)).heap.size := by have := hs.size; have := HX.out.2.2.2; have := HE.out.1; simp; omega
                have HQ := Lib.hid (And.intro hC (And.intro hZ (And.intro hP (And.intro hs5 hz5))))
                clear hs hC hZ hP hs5 hz5 hld hz p1 p3 hlt4 hii
                go_upto_region 15 with (fail)
                have HQ := HQ
                generalize w4.alloc (.cells #[.int .i64 win, .int .i64 0, .slice none 0 0, .bool false, .bool false] 83) = w5 at *
                obtain ⟨b13, e13⟩ : ∃ b13, w4.heap.size = b13 := ⟨_, rfl⟩
                rw [e13]
                rw [e13] at HQ
                clear e13
                have VC : Hid (VarAt w5.drew b4 63 #[.bool true, .int .i64 ho, .int .i64 wa, .slice A n cap, .int .i64 acts, .bool us, .int .u32 la, .int .i64 nu, .slice PA pn pc]) := Lib.hid HQ.out.1.drew
                have VZ : Hid (VarAt w5.drew b8 63 #[.bool false, .int .i64 0, .int .i64 0, .slice none 0 0, .int .i64 0, .bool false, .int .u32 0, .int .i64 0, .slice none 0 0]) := Lib.hid HQ.out.2.1.drew
                have VP : Hid (VarAt w5.drew b13 83 #[.int .i64 win, .int .i64 0, .slice none 0 0, .bool false, .bool false]) := Lib.hid HQ.out.2.2.1.drew
                have HSD : Hid (Same w w5.drew) := Lib.hid (HQ.out.2.2.2.1.drew)
                have HE3 : Hid (b4 = w.heap.size ∧ b8 = w.heap.size + 1 ∧ w.heap.size + 2 ≤ w5.drew.heap.size) := Lib.hid ⟨HE.out.1, HE.out.2, HQ.out.2.2.2.2⟩
                have HK : Hid (Same w5.drew w5.drew) := Lib.hid (Chg.refl _ _)
                go_cut [64] from 64 to 76 (fun v64 wx => KRel w G ⟨ho, wa, A, n, cap, acts, us, la, nu, PA, pn, pc⟩ wa win rs b4 b8 wx)
                case first =>
                  refine region_tree (S := (fun w' => VarAt w' b4 63 #[.bool true, .int .i64 ho, .int .i64 wa, .slice A n cap, .int .i64 acts, .bool us, .int .u32 la, .int .i64 nu, .slice PA pn pc] ∧ VarAt w' b13 83 #[.int .i64 win, .int .i64 0, .slice none 0 0, .bool false, .bool false])) 12 (.rd 1 (.rd 2 (.rd 4 (.rd 5 (.rd 6 (.rd 7 (.rd 8 (.fork 0 9 (.fork 3 9 (.one 9 (.one 10 (.rd 11 (.one 12 .nil)))) (.one 3 (.one 10 (.rd 11 (.one 12 .nil))))) (.one 0 (.one 3 (.one 10 (.rd 11 (.one 12 .nil))))))))))))) (by kernel_rfl) (by kernel_rfl) (by kernel_rfl) (⟨VC.out, VP.out⟩) ?_
                  generalize w5.drew = wd at *
                  refine tree_read (i := 1) (v := ?v1) rfl (by rfl) (fun _ _ _ h => h) ?hy1 ?_
                  case hy1 => ((intro w hSw; (try dsimp only at hSw); go_simp) <;> (try with_reducible rfl))
                  try simp only [Act.put, List.setIfInBounds_toArray, List.set_cons_zero, List.set_cons_succ]
                  refine tree_read (i := 2) (v := (.slice PA pn pc) ) rfl (by rfl) (fun _ _ _ h => h) ?hy2 ?_
                  case hy2 => (intro w hSw;  (have q : w.cell? ⟨b4, 8, none⟩ = some (.slice PA pn pc) := cell_at (C := [.bool true, .int .i64 ho, .int .i64 wa, .slice A n cap, .int .i64 acts, .bool us, .int .u32 la, .int .i64 nu, .slice PA pn pc]) hSw.1 8; go_simp))
                  try simp only [Act.put, List.setIfInBounds_toArray, List.set_cons_zero, List.set_cons_succ]
                  refine tree_read (i := 4) (v := ?v3) rfl (by rfl) (fun _ _ _ h => h) ?hy3 ?_
                  case hy3 => ((intro w hSw; (try dsimp only at hSw); go_simp) <;> (try with_reducible rfl))
                  try simp only [Act.put, List.setIfInBounds_toArray, List.set_cons_zero, List.set_cons_succ]
                  refine tree_read (i := 5) (v := (.int .i64 ho) ) rfl (by rfl) (fun _ _ _ h => h) ?hy4 ?_
                  case hy4 => (intro w hSw;  (have q : w.cell? ⟨b4, 1, none⟩ = some (.int .i64 ho) := cell_at (C := [.bool true, .int .i64 ho, .int .i64 wa, .slice A n cap, .int .i64 acts, .bool us, .int .u32 la, .int .i64 nu, .slice PA pn pc]) hSw.1 1; go_simp))
                  try simp only [Act.put, List.setIfInBounds_toArray, List.set_cons_zero, List.set_cons_succ]
                  refine tree_read (i := 6) (v := ?v5) rfl (by rfl) (fun _ _ _ h => h) ?hy5 ?_
                  case hy5 => ((intro w hSw; (try dsimp only at hSw); go_simp) <;> (try with_reducible rfl))
                  try simp only [Act.put, List.setIfInBounds_toArray, List.set_cons_zero, List.set_cons_succ]
                  refine tree_read (i := 7) (v := (.agg #[.int .i64 win, .int .i64 0, .slice none 0 0, .bool false, .bool false]) ) rfl (by rfl) (fun _ _ _ h => h) ?hy6 ?_
                  case hy6 => (intro w hSw;  exact exec_loadv rfl (run_load_rp hSw.2))
                  try simp only [Act.put, List.setIfInBounds_toArray, List.set_cons_zero, List.set_cons_succ]
                  refine tree_read (i := 8) (v := (.agg #[.int .i64 ho, .int .i64 wa, .int .i64 win, .int .i64 0, .slice none 0 0, .bool false, .bool false]) ) rfl (by rfl) (fun _ _ _ h => h) ?hy7 ?_
                  case hy7 => (intro w hSw;  exact exec_build (by simp [Act.eval]; exact built_flow ho wa win 0 none 0 0 false false))
                  try simp only [Act.put, List.setIfInBounds_toArray, List.set_cons_zero, List.set_cons_succ]
                  refine tree_fork (i := 0) (j := 9) rfl rfl ?_ ?_
                  · refine wpl_mk0 wd.heap.size HK.out.size ?_
                    intro u0 b0 hs0 o0 hb0 hb0l
                    have z0 := hs0.size
                    have HK := Lib.hid (HK.out.trans hs0)
                    have O := Lib.hid o0
                    (try (have V9 := Lib.hid (V9.out.same hs0)))
                    clear hs0 o0
                    refine tree_next (.inr ?keep8) ?_
                    case keep8 => (exact ⟨VC.out.same HK.out, VP.out.same HK.out⟩)
                    try simp only [Act.put, List.setIfInBounds_toArray, List.set_cons_zero, List.set_cons_succ]
                    refine tree_fork (i := 3) (j := 9) rfl rfl ?_ ?_
                    · refine wpl_appendSl wd.heap.size 132 _ 7 64 Try.underlying61 info_flow rfl (by omega) _ 0 [] O.out rfl PA pn pc (rs.flatMap KFl.cells) rfl (by rw [krows_len, HRL.out]) (fun hp => (HR.out.1.same (HSD.out.trans HK.out)).src hp) (krows_one rs) (by omega) (by omega) HK.out.size ?_
                      intro A3 cap3 u3 hown hgrow
                      have z3 := (Chg.grownO (Chg.refl _ _) hgrow).size
                      (try (have V9 := Lib.hid ((Chg.grownO (Chg.refl _ _) hgrow).at_ V9.out (fun q => by have q2 : g9 = b0 := Option.some.inj (q : some g9 = some b0); omega))))
                      have HK : Hid (Same wd u3) := Lib.hid (grow_same O.out (Nat.le_refl _) HK.out hgrow)
                      have O2 := Lib.hid hown
                      clear hown hgrow O
                      refine tree_next (.inr ?keep10) ?_
                      case keep10 => (exact ⟨VC.out.same HK.out, VP.out.same HK.out⟩)
                      try simp only [Act.put, List.setIfInBounds_toArray, List.set_cons_zero, List.set_cons_succ]
                      refine tree_one (i := 9) rfl ?_
                      refine wpl_mk1 ho wa win 0 none 0 0 false false rfl ?_
                      intro u9 g9 hs9 v9 hg9 hg9l
                      have z9 := hs9.size
                      have HK := Lib.hid (HK.out.trans hs9)
                      have V9 := Lib.hid v9
                      (try (have O := Lib.hid (row_chg O.out hs9 (fun _ _ q => q))))
                      (try (have O2 := Lib.hid (row_chg O2.out hs9 (fun _ _ q => q))))
                      clear hs9 v9
                      refine tree_next (.inr ?keep12) ?_
                      case keep12 => (exact ⟨VC.out.same HK.out, VP.out.same HK.out⟩)
                      try simp only [Act.put, List.setIfInBounds_toArray, List.set_cons_zero, List.set_cons_succ]
                      refine tree_one (i := 10) rfl ?_
                      refine wpl_append1 wd.heap.size 132 _ 7 64 Try.underlying61 info_flow rfl (by omega) _ (0 + pn) ([] ++ rs.flatMap KFl.cells) O2.out rfl g9 1 [.int .i64 ho, .int .i64 wa, .int .i64 win, .int .i64 0, .slice none 0 0, .bool false, .bool false] rfl V9.out rfl (by simp [Value.oneCell']) (by omega) (by omega) HK.out.size ?_
                      intro g2 cap2 u10 hown hgrow _ _
                      have HK : Hid (Same wd u10) := Lib.hid (grow_same O2.out (Nat.le_refl _) HK.out hgrow)
                      have O3 := Lib.hid hown
                      clear hown hgrow
                      rw [show 0 + pn = pn from Nat.zero_add pn]
                      have p8 : u10.cell? ⟨b4, 8, none⟩ = some (.slice PA pn pc) := cell_at (C := [.bool true, .int .i64 ho, .int .i64 wa, .slice A n cap, .int .i64 acts, .bool us, .int .u32 la, .int .i64 nu, .slice PA pn pc]) (VC.out.same HK.out) 8
                      have f8 := frozen_at (VC.out.same HK.out) 8
                      have hl8 := lt_of_at (VC.out.same HK.out)
                      have FIN := Lib.hid (krel_end ho wa A n cap acts us la nu PA pn pc (win := win) HR.out HRL.out HW.out HSD.out HE3.out VC.out VZ.out HK.out O3.out)
                      refine tree_next (.inr ?keep13) ?_
                      case keep13 => (exact ⟨VC.out.same HK.out, VP.out.same HK.out⟩)
                      try simp only [Act.put, List.setIfInBounds_toArray, List.set_cons_zero, List.set_cons_succ]
                      refine tree_read (i := 11) (v := ?v14) rfl (by rfl) (fun _ _ _ h => h) ?hy14 ?_
                      case hy14 => ((intro w hSw; (try dsimp only at hSw); go_simp) <;> (try with_reducible rfl))
                      try simp only [Act.put, List.setIfInBounds_toArray, List.set_cons_zero, List.set_cons_succ]
                      refine tree_one (i := 12) rfl ?_
                      go_wp2_with (fail)
                      try refine ⟨.inl (by first | rfl | trivial), ?_⟩
                      try refine tree_end ?_
                      go_wp2_with fail
                      go_meet
                      case rel => exact FIN.out
                    · refine wpl_mk1 ho wa win 0 none 0 0 false false rfl ?_
                      intro u9 g9 hs9 v9 hg9 hg9l
                      have z9 := hs9.size
                      have HK := Lib.hid (HK.out.trans hs9)
                      have V9 := Lib.hid v9
                      (try (have O := Lib.hid (row_chg O.out hs9 (fun _ _ q => q))))
                      (try (have O2 := Lib.hid (row_chg O2.out hs9 (fun _ _ q => q))))
                      clear hs9 v9
                      refine tree_next (.inr ?keep15) ?_
                      case keep15 => (exact ⟨VC.out.same HK.out, VP.out.same HK.out⟩)
                      try simp only [Act.put, List.setIfInBounds_toArray, List.set_cons_zero, List.set_cons_succ]
                      refine tree_one (i := 3) rfl ?_
                      refine wpl_appendSl wd.heap.size 132 _ 7 64 Try.underlying61 info_flow rfl (by omega) _ 0 [] O.out rfl PA pn pc (rs.flatMap KFl.cells) rfl (by rw [krows_len, HRL.out]) (fun hp => (HR.out.1.same (HSD.out.trans HK.out)).src hp) (krows_one rs) (by omega) (by omega) HK.out.size ?_
                      intro A3 cap3 u3 hown hgrow
                      have z3 := (Chg.grownO (Chg.refl _ _) hgrow).size
                      (try (have V9 := Lib.hid ((Chg.grownO (Chg.refl _ _) hgrow).at_ V9.out (fun q => by have q2 : g9 = b0 := Option.some.inj (q : some g9 = some b0); omega))))
                      have HK : Hid (Same wd u3) := Lib.hid (grow_same O.out (Nat.le_refl _) HK.out hgrow)
                      have O2 := Lib.hid hown
                      clear hown hgrow O
                      refine tree_next (.inr ?keep16) ?_
                      case keep16 => (exact ⟨VC.out.same HK.out, VP.out.same HK.out⟩)
                      try simp only [Act.put, List.setIfInBounds_toArray, List.set_cons_zero, List.set_cons_succ]
                      refine tree_one (i := 10) rfl ?_
                      refine wpl_append1 wd.heap.size 132 _ 7 64 Try.underlying61 info_flow rfl (by omega) _ (0 + pn) ([] ++ rs.flatMap KFl.cells) O2.out rfl g9 1 [.int .i64 ho, .int .i64 wa, .int .i64 win, .int .i64 0, .slice none 0 0, .bool false, .bool false] rfl V9.out rfl (by simp [Value.oneCell']) (by omega) (by omega) HK.out.size ?_
                      intro g2 cap2 u10 hown hgrow _ _
                      have HK : Hid (Same wd u10) := Lib.hid (grow_same O2.out (Nat.le_refl _) HK.out hgrow)
                      have O3 := Lib.hid hown
                      clear hown hgrow
                      rw [show 0 + pn = pn from Nat.zero_add pn]
                      have p8 : u10.cell? ⟨b4, 8, none⟩ = some (.slice PA pn pc) := cell_at (C := [.bool true, .int .i64 ho, .int .i64 wa, .slice A n cap, .int .i64 acts, .bool us, .int .u32 la, .int .i64 nu, .slice PA pn pc]) (VC.out.same HK.out) 8
                      have f8 := frozen_at (VC.out.same HK.out) 8
                      have hl8 := lt_of_at (VC.out.same HK.out)
                      have FIN := Lib.hid (krel_end ho wa A n cap acts us la nu PA pn pc (win := win) HR.out HRL.out HW.out HSD.out HE3.out VC.out VZ.out HK.out O3.out)
                      refine tree_next (.inr ?keep17) ?_
                      case keep17 => (exact ⟨VC.out.same HK.out, VP.out.same HK.out⟩)
                      try simp only [Act.put, List.setIfInBounds_toArray, List.set_cons_zero, List.set_cons_succ]
                      refine tree_read (i := 11) (v := ?v18) rfl (by rfl) (fun _ _ _ h => h) ?hy18 ?_
                      case hy18 => ((intro w hSw; (try dsimp only at hSw); go_simp) <;> (try with_reducible rfl))
                      try simp only [Act.put, List.setIfInBounds_toArray, List.set_cons_zero, List.set_cons_succ]
                      refine tree_one (i := 12) rfl ?_
                      go_wp2_with (fail)
                      try refine ⟨.inl (by first | rfl | trivial), ?_⟩
                      try refine tree_end ?_
                      go_wp2_with fail
                      go_meet
                      case rel => exact FIN.out
                  · refine wpl_mk1 ho wa win 0 none 0 0 false false rfl ?_
                    intro u9 g9 hs9 v9 hg9 hg9l
                    have z9 := hs9.size
                    have HK := Lib.hid (HK.out.trans hs9)
                    have V9 := Lib.hid v9
                    (try (have O := Lib.hid (row_chg O.out hs9 (fun _ _ q => q))))
                    (try (have O2 := Lib.hid (row_chg O2.out hs9 (fun _ _ q => q))))
                    clear hs9 v9
                    refine tree_next (.inr ?keep19) ?_
                    case keep19 => (exact ⟨VC.out.same HK.out, VP.out.same HK.out⟩)
                    try simp only [Act.put, List.setIfInBounds_toArray, List.set_cons_zero, List.set_cons_succ]
                    refine tree_one (i := 0) rfl ?_
                    refine wpl_mk0 wd.heap.size HK.out.size ?_
                    intro u0 b0 hs0 o0 hb0 hb0l
                    have z0 := hs0.size
                    have HK := Lib.hid (HK.out.trans hs0)
                    have O := Lib.hid o0
                    (try (have V9 := Lib.hid (V9.out.same hs0)))
                    clear hs0 o0
                    refine tree_next (.inr ?keep20) ?_
                    case keep20 => (exact ⟨VC.out.same HK.out, VP.out.same HK.out⟩)
                    try simp only [Act.put, List.setIfInBounds_toArray, List.set_cons_zero, List.set_cons_succ]
                    refine tree_one (i := 3) rfl ?_
                    refine wpl_appendSl wd.heap.size 132 _ 7 64 Try.underlying61 info_flow rfl (by omega) _ 0 [] O.out rfl PA pn pc (rs.flatMap KFl.cells) rfl (by rw [krows_len, HRL.out]) (fun hp => (HR.out.1.same (HSD.out.trans HK.out)).src hp) (krows_one rs) (by omega) (by omega) HK.out.size ?_
                    intro A3 cap3 u3 hown hgrow
                    have z3 := (Chg.grownO (Chg.refl _ _) hgrow).size
                    (try (have V9 := Lib.hid ((Chg.grownO (Chg.refl _ _) hgrow).at_ V9.out (fun q => by have q2 : g9 = b0 := Option.some.inj (q : some g9 = some b0); omega))))
                    have HK : Hid (Same wd u3) := Lib.hid (grow_same O.out (Nat.le_refl _) HK.out hgrow)
                    have O2 := Lib.hid hown
                    clear hown hgrow O
                    refine tree_next (.inr ?keep21) ?_
                    case keep21 => (exact ⟨VC.out.same HK.out, VP.out.same HK.out⟩)
                    try simp only [Act.put, List.setIfInBounds_toArray, List.set_cons_zero, List.set_cons_succ]
                    refine tree_one (i := 10) rfl ?_
                    refine wpl_append1 wd.heap.size 132 _ 7 64 Try.underlying61 info_flow rfl (by omega) _ (0 + pn) ([] ++ rs.flatMap KFl.cells) O2.out rfl g9 1 [.int .i64 ho, .int .i64 wa, .int .i64 win, .int .i64 0, .slice none 0 0, .bool false, .bool false] rfl V9.out rfl (by simp [Value.oneCell']) (by omega) (by omega) HK.out.size ?_
                    intro g2 cap2 u10 hown hgrow _ _
                    have HK : Hid (Same wd u10) := Lib.hid (grow_same O2.out (Nat.le_refl _) HK.out hgrow)
                    have O3 := Lib.hid hown
                    clear hown hgrow
                    rw [show 0 + pn = pn from Nat.zero_add pn]
                    have p8 : u10.cell? ⟨b4, 8, none⟩ = some (.slice PA pn pc) := cell_at (C := [.bool true, .int .i64 ho, .int .i64 wa, .slice A n cap, .int .i64 acts, .bool us, .int .u32 la, .int .i64 nu, .slice PA pn pc]) (VC.out.same HK.out) 8
                    have f8 := frozen_at (VC.out.same HK.out) 8
                    have hl8 := lt_of_at (VC.out.same HK.out)
                    have FIN := Lib.hid (krel_end ho wa A n cap acts us la nu PA pn pc (win := win) HR.out HRL.out HW.out HSD.out HE3.out VC.out VZ.out HK.out O3.out)
                    refine tree_next (.inr ?keep22) ?_
                    case keep22 => (exact ⟨VC.out.same HK.out, VP.out.same HK.out⟩)
                    try simp only [Act.put, List.setIfInBounds_toArray, List.set_cons_zero, List.set_cons_succ]
                    refine tree_read (i := 11) (v := ?v23) rfl (by rfl) (fun _ _ _ h => h) ?hy23 ?_
                    case hy23 => ((intro w hSw; (try dsimp only at hSw); go_simp) <;> (try with_reducible rfl))
                    try simp only [Act.put, List.setIfInBounds_toArray, List.set_cons_zero, List.set_cons_succ]
                    refine tree_one (i := 12) rfl ?_
                    go_wp2_with (fail)
                    try refine ⟨.inl (by first | rfl | trivial), ?_⟩
                    try refine tree_end ?_
                    go_wp2_with fail
                    go_meet
                    case rel => exact FIN.out
                case rest =>
                  obtain ⟨PA', pc', hC, hZ, hrow, hsx, hszx⟩ := hcut
                  have HFN := Lib.hid (And.intro hrow (And.intro hsx hszx))
                  have s1 : IntKind.i64.wrap (((pn + 1 : Nat) : Int) - 1) = (pn : Int) := by rw [show ((pn + 1 : Nat) : Int) - 1 = (pn : Int) by omega]; exact IntWalk.i64_in _ (by omega)
                  have s2 : IntKind.i64.wrap ((pn : Int) + 1 - 1) = (pn : Int) := by rw [show (pn : Int) + 1 - 1 = (pn : Int) by omega]; exact IntWalk.i64_in _ (by omega)
                  have s3 : IntKind.i64.wrap (pn : Int) = (pn : Int) := IntWalk.i64_in _ (by omega)
                  clear hrow hsx hszx
                  go_upto_region 16 with (fail)
                  have hCd := hC.drew
                  have hZd := hZ.drew
                  refine region_path (S := (fun w' => VarAt w' b4 63 (KC.cells ⟨ho, wa, A, n, cap, acts, us, la, nu, PA', pn + 1, pc'⟩).toArray)) 99 [(0, true), (1, true), (2, true), (3, true), (4, true), (5, false), (6, true), (7, true)] (by kernel_rfl) (by kernel_rfl) (by kernel_rfl) hCd ?_
                  refine path_read (i := 0) (v := (.agg (KC.cells ⟨ho, wa, A, n, cap, acts, us, la, nu, PA', pn + 1, pc'⟩).toArray) ) rfl (by rfl) (fun _ _ _ h => h) ?hy25_0 ?_
                  case hy25_0 => (intro w hSw;  exact exec_loadv rfl (run_load_kc (x := ⟨ho, wa, A, n, cap, acts, us, la, nu, PA', pn + 1, pc'⟩) hSw))
                  try simp only [Act.put, List.setIfInBounds_toArray, List.set_cons_zero, List.set_cons_succ]
                  refine path_read (i := 1) (v := ?v25_1) rfl (by rfl) (fun _ _ _ h => h) ?hy25_1 ?_
                  case hy25_1 => ((intro w hSw; (try dsimp only at hSw); go_simp) <;> (try with_reducible rfl))
                  try simp only [Act.put, List.setIfInBounds_toArray, List.set_cons_zero, List.set_cons_succ]
                  refine path_read (i := 2) (v := (.slice PA' (pn + 1) pc') ) rfl (by rfl) (fun _ _ _ h => h) ?hy25_2 ?_
                  case hy25_2 => (intro w hSw;  (have q : w.cell? ⟨b4, 8, none⟩ = some (.slice PA' (pn + 1) pc') := cell_at (C := KC.cells ⟨ho, wa, A, n, cap, acts, us, la, nu, PA', pn + 1, pc'⟩) hSw 8; go_simp))
                  try simp only [Act.put, List.setIfInBounds_toArray, List.set_cons_zero, List.set_cons_succ]
                  refine path_read (i := 3) (v := ?v25_3) rfl (by rfl) (fun _ _ _ h => h) ?hy25_3 ?_
                  case hy25_3 => ((intro w hSw; (try dsimp only at hSw); go_simp) <;> (try with_reducible rfl))
                  try simp only [Act.put, List.setIfInBounds_toArray, List.set_cons_zero, List.set_cons_succ]
                  refine path_read (i := 4) (v := ?v25_4) rfl (by rfl) (fun _ _ _ h => h) ?hy25_4 ?_
                  case hy25_4 => ((intro w hSw; (try dsimp only at hSw); go_simp) <;> (try with_reducible rfl))
                  try simp only [Act.put, List.setIfInBounds_toArray, List.set_cons_zero, List.set_cons_succ]
                  refine path_do (i := 5) rfl ?_
                  (refine wpl_storeRow _ rfl rfl hZd (by kernel_rfl) rfl (KC.one _) ?_)
                  refine path_next (.inr ?keep25_5) ?_
                  case keep25_5 => (exact hCd.set _ (by have := HE.out; omega))
                  try simp only [Act.put, List.setIfInBounds_toArray, List.set_cons_zero, List.set_cons_succ]
                  refine path_read (i := 6) (v := ?v25_6) rfl (by rfl) (fun _ _ _ h => h) ?hy25_6 ?_
                  case hy25_6 => ((intro w hSw; (try dsimp only at hSw); go_simp) <;> (try with_reducible rfl))
                  try simp only [Act.put, List.setIfInBounds_toArray, List.set_cons_zero, List.set_cons_succ]
                  refine path_read (i := 7) (v := ?v25_7) rfl (by rfl) (fun _ _ _ h => h) ?hy25_7 ?_
                  case hy25_7 => ((intro w hSw; (try dsimp only at hSw); go_simp) <;> (try with_reducible rfl))
                  try simp only [Act.put, List.setIfInBounds_toArray, List.set_cons_zero, List.set_cons_succ]
                  refine path_end ?_
                  go_wp2
                  refine bodyPost_ret (results_cell_tmp2 Try.results29 rfl (run_load_kc (x := ⟨ho, wa, A, n, cap, acts, us, la, nu, PA', pn + 1, pc'⟩) (hZd.put _))) rfl (.inr ⟨HV.out, PA', pc', rfl, ?_, ?_⟩)
                  · exact ((HFN.out.1.chgF (((Chg.refl (fun y => G y ∨ y = b8) _).drew).setRow _ _ (fun _ => .inr rfl)) (fun y hy => hy)).weak (fun y hy => .inl hy))
                  · exact (HFN.out.2.1.drew).setRow _ _ (fun q => by have := HE.out.2; omega)
end Go.Proofs.Ytndldjopgbhphaa
