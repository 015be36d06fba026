/- compositorref43: Receive (printed by mrecv.py). -/
import Derived.Test.YteolilggeaffaaaMP43
set_option linter.unusedVariables false
set_option linter.unusedSimpArgs false
set_option maxRecDepth 100000
namespace Go.Proofs.Yteolilggeaffaaa
open Go.RowKit

set_option maxHeartbeats 8000000 in
theorem mreceive_no (ph src cl tg : Int) (A : Option Addr) (n cap : Nat) (acts : Int) (f : ByteArray) (a p nm : Int) (tm : Bool) (la : Int) (PA : Option Addr) (pn pc : Nat) (fst : Int) (fs : List ByteArray) (client : Int) (g : ByteArray) (win v : Int) (w : World) (h : StrsAt w A n fs) (hn : n ≤ 1000) (hv : MD.rcvE ⟨ph, src, cl, tg, A, n, cap, acts, f, a, p, nm, tm, la, PA, pn, pc, fst⟩ fs client g win = v) (h0 : v ≠ 0) :
    Calls Try.prog 54 #[.agg #[.int .i64 ph, .int .i64 src, .int .i64 cl, .int .i64 tg, .slice A n cap, .int .i64 acts, .string f, .int .i64 a, .int .i64 p, .int .i64 nm, .bool tm, .int .i64 la, .slice PA pn pc, .int .i64 fst], .int .i64 client, .string g, .int .i64 win] w fun e w' => e = .returned (.tuple #[.agg (MD.cells ⟨ph, src, cl, tg, A, n, cap, acts, f, a, p, nm, tm, la, PA, pn, pc, fst⟩).toArray, .int .i64 0, .int .i64 v]) ∧ Same w w' := by
  obtain ⟨va, hva⟩ : ∃ va, MD.acc ⟨ph, src, cl, tg, A, n, cap, acts, f, a, p, nm, tm, la, PA, pn, pc, fst⟩ 2 client = va := ⟨_, rfl⟩
  unfold MD.rcvE at hv
  rw [hva] at hv
  have HA := Lib.hid (fun w => maccess_ok va ⟨ph, src, cl, tg, A, n, cap, acts, f, a, p, nm, tm, la, PA, pn, pc, fst⟩ 2 client w hva)
  have HH := Lib.hid (fun (w' : World) (k : Same w w') => h.same k)
  clear h hva
  by_cases h1 : va ≠ 0
  · rw [if_pos h1] at hv
    subst hv
    have b1 : (va == 0) = false := by simp [h1]
    have b2 : (va != 0) = true := by simp [h1]
    clear h0 h1
    unfold MD.cells at *
    go_enter Try.func54, Try.ntmps54
    go_wp2_with fail
    refine (HA.out _).mono ?_
    rintro e w2 ⟨rfl, rfl⟩
    go_wp2
    refine bodyPost_ret (results_cell_tmp2 Try.results54 rfl (run_load_md (x := ⟨ph, src, cl, tg, A, n, cap, acts, f, a, p, nm, tm, la, PA, pn, pc, fst⟩) (at_new3' _ _ _ _))) rfl ⟨rfl, (((Chg.refl _ _).alloc _).alloc _).alloc _⟩
  · rw [if_neg h1] at hv
    obtain rfl : va = 0 := Decidable.not_not.1 h1
    clear h1
    cases h3 : hasS fs g
    · rw [if_pos h3] at hv
      subst hv
      have H3 := Lib.hid h3
      clear h3 h0
      unfold MD.cells at *
      go_enter Try.func54, Try.ntmps54
      go_wp2_with fail
      refine (HA.out _).mono ?_
      rintro e w2 ⟨rfl, rfl⟩
      go_wp2_with fail
      refine (uhas_v false A n cap fs g _ (HH.out _ ((((Chg.refl _ _).alloc _).alloc _).alloc _)) (by omega) H3.out).mono ?_
      rintro e w3 ⟨rfl, rfl⟩
      go_wp2
      refine bodyPost_ret (results_cell_tmp2 Try.results54 rfl (run_load_md (x := ⟨ph, src, cl, tg, A, n, cap, acts, f, a, p, nm, tm, la, PA, pn, pc, fst⟩) (at_new3' _ _ _ _))) rfl ⟨rfl, (((Chg.refl _ _).alloc _).alloc _).alloc _⟩
    · rw [h3, if_neg (by decide)] at hv
      by_cases h4 : win < 1 ∨ 65536 < win
      · rw [if_pos h4] at hv
        subst hv
        have H3 := Lib.hid (And.intro h3 h4)
        clear h3 h0 h4
        unfold MD.cells at *
        go_enter Try.func54, Try.ntmps54
        go_wp2_with fail
        refine (HA.out _).mono ?_
        rintro e w2 ⟨rfl, rfl⟩
        go_wp2_with fail
        refine (uhas_v true A n cap fs g _ (HH.out _ ((((Chg.refl _ _).alloc _).alloc _).alloc _)) (by omega) H3.out.1).mono ?_
        rintro e w3 ⟨rfl, rfl⟩
        go_wp2_with fail
        refine (qnew_bad win _ H3.out.2).mono ?_
        rintro e w4 ⟨rfl, hs⟩
        unfold rpv
        have hb := VarAt.same ((VarAt.new w 56 #[.int .i64 ph, .int .i64 src, .int .i64 cl, .int .i64 tg, .slice A n cap, .int .i64 acts, .string f, .int .i64 a, .int .i64 p, .int .i64 nm, .bool tm, .int .i64 la, .slice PA pn pc, .int .i64 fst]).alloc (.cells #[.int .i64 0, .int .i64 0, .int .i64 0, .int .i64 0, .slice none 0 0, .int .i64 0, .string ⟨#[]⟩, .int .i64 0, .int .i64 0, .int .i64 0, .bool false, .int .i64 0, .slice none 0 0, .int .i64 0] 56) |>.alloc (.cells #[.int .i64 ph, .int .i64 src, .int .i64 cl, .int .i64 tg, .slice A n cap, .int .i64 acts, .string f, .int .i64 a, .int .i64 p, .int .i64 nm, .bool tm, .int .i64 la, .slice PA pn pc, .int .i64 fst] 56)) hs
        have hld := VarAt.ldD (x := ⟨ph, src, cl, tg, A, n, cap, acts, f, a, p, nm, tm, la, PA, pn, pc, fst⟩) (hb.alloc (.cells #[.int .i64 0, .int .i64 0, .slice none 0 0, .bool false, .bool false] 112))
        have h8 := (VarAt.same (((VarAt.newk (w := w.alloc (.cells #[.int .i64 ph, .int .i64 src, .int .i64 cl, .int .i64 tg, .slice A n cap, .int .i64 acts, .string f, .int .i64 a, .int .i64 p, .int .i64 nm, .bool tm, .int .i64 la, .slice PA pn pc, .int .i64 fst] 56)) (T := 56) (cs := #[.int .i64 0, .int .i64 0, .int .i64 0, .int .i64 0, .slice none 0 0, .int .i64 0, .string ⟨#[]⟩, .int .i64 0, .int .i64 0, .int .i64 0, .bool false, .int .i64 0, .slice none 0 0, .int .i64 0]) (k := w.heap.size + 1) (by simp))).alloc (.cells #[.int .i64 ph, .int .i64 src, .int .i64 cl, .int .i64 tg, .slice A n cap, .int .i64 acts, .string f, .int .i64 a, .int .i64 p, .int .i64 nm, .bool tm, .int .i64 la, .slice PA pn pc, .int .i64 fst] 56)) hs).alloc (.cells #[.int .i64 0, .int .i64 0, .slice none 0 0, .bool false, .bool false] 112)
        have HS := Lib.hid ((((Chg.refl (fun _ => False) w).alloc (.cells #[.int .i64 ph, .int .i64 src, .int .i64 cl, .int .i64 tg, .slice A n cap, .int .i64 acts, .string f, .int .i64 a, .int .i64 p, .int .i64 nm, .bool tm, .int .i64 la, .slice PA pn pc, .int .i64 fst] 56)).alloc (.cells #[.int .i64 0, .int .i64 0, .int .i64 0, .int .i64 0, .slice none 0 0, .int .i64 0, .string ⟨#[]⟩, .int .i64 0, .int .i64 0, .int .i64 0, .bool false, .int .i64 0, .slice none 0 0, .int .i64 0] 56)).alloc (.cells #[.int .i64 ph, .int .i64 src, .int .i64 cl, .int .i64 tg, .slice A n cap, .int .i64 acts, .string f, .int .i64 a, .int .i64 p, .int .i64 nm, .bool tm, .int .i64 la, .slice PA pn pc, .int .i64 fst] 56) |>.trans hs)
        clear hs hb
        go_wp2_with (first | (refine wpl_loadv _ _ _ rfl hld ?_) | (refine wpl_storeRow _ rfl rfl h8 (by kernel_rfl) rfl (MD.one _) ?_))
        refine bodyPost_ret (results_cell_tmp2 Try.results54 rfl (VarAt.ldD (x := ⟨ph, src, cl, tg, A, n, cap, acts, f, a, p, nm, tm, la, PA, pn, pc, fst⟩) (h8.put _))) rfl ⟨rfl, (HS.out.alloc _).setRow _ _ (fun q => by omega)⟩
      · rw [if_neg h4] at hv
        exact absurd hv.symm h0
set_option maxHeartbeats 8000000 in
theorem mreceive_yes (ph src cl tg : Int) (A : Option Addr) (n cap : Nat) (acts : Int) (f : ByteArray) (a p nm : Int) (tm : Bool) (la : Int) (PA : Option Addr) (pn pc : Nat) (fst : Int) (fs : List ByteArray) (client : Int) (g : ByteArray) (win : Int) (rs : List RPp) (w : World) (G : Nat → Prop) (h : StrsAt w A n fs) (hn : n ≤ 1000) (hr : PRow w G PA pn rs) (hG : ∀ x, G x → x < w.heap.size) (hpn : pn ≤ 1000) (hv : MD.rcvE ⟨ph, src, cl, tg, A, n, cap, acts, f, a, p, nm, tm, la, PA, pn, pc, fst⟩ fs client g win = 0) :
    Calls Try.prog 54 #[.agg #[.int .i64 ph, .int .i64 src, .int .i64 cl, .int .i64 tg, .slice A n cap, .int .i64 acts, .string f, .int .i64 a, .int .i64 p, .int .i64 nm, .bool tm, .int .i64 la, .slice PA pn pc, .int .i64 fst], .int .i64 client, .string g, .int .i64 win] w fun e w' => ∃ PA' pc', e = .returned (.tuple #[.agg (MD.cells { (⟨ph, src, cl, tg, A, n, cap, acts, f, a, p, nm, tm, la, PA, pn, pc, fst⟩ : MD) with PA := PA', pn := pn + 1, pc := pc' }).toArray, .int .i64 pn, .int .i64 0]) ∧ PRow w' G PA' (pn + 1) (rs ++ [⟨PSt.new win, none, 0⟩]) ∧ Same w w' := by
  obtain ⟨va, hva⟩ : ∃ va, MD.acc ⟨ph, src, cl, tg, A, n, cap, acts, f, a, p, nm, tm, la, PA, pn, pc, fst⟩ 2 client = va := ⟨_, rfl⟩
  unfold MD.rcvE at hv
  rw [hva] at hv
  have h1 : ¬ va ≠ 0 := by intro q; rw [if_pos q] at hv; exact q hv
  obtain rfl : va = 0 := Decidable.not_not.1 h1
  rw [if_neg h1] at hv
  have h3 : hasS fs g = true := by
    cases q : hasS fs g
    · rw [if_pos q] at hv; exact absurd hv (by decide)
    · rfl
  have h4 : ¬ (win < 1 ∨ 65536 < win) := by intro q; rw [h3, if_neg (by decide), if_pos q] at hv; exact absurd hv (by decide)
  have HA := Lib.hid (fun w => maccess_ok 0 ⟨ph, src, cl, tg, A, n, cap, acts, f, a, p, nm, tm, la, PA, pn, pc, fst⟩ 2 client w hva)
  have HH := Lib.hid (And.intro (fun (w' : World) (k : Same w w') => h.same k) (And.intro hr (And.intro hG (And.intro h3 (And.intro (show 1 ≤ win by omega) (show win ≤ 65536 by omega))))))
  have hrl := hr.1
  have HRL := Lib.hid hrl
  clear h hva hv h1 h3 h4 hr hG hrl
  unfold MD.cells at HA
  go_enter Try.func54, Try.ntmps54
  go_wp2_with fail
  refine (HA.out _).mono ?_
  rintro e w2 ⟨rfl, rfl⟩
  go_wp2_with fail
  refine (uhas_v true A n cap fs g _ (HH.out.1 _ ((((Chg.refl _ _).alloc _).alloc _).alloc _)) (by omega) HH.out.2.2.2.1).mono ?_
  rintro e w3 ⟨rfl, rfl⟩
  go_wp2_with fail
  refine (qnew_ok win _ HH.out.2.2.2.2.1 HH.out.2.2.2.2.2).mono ?_
  rintro e w4 ⟨rfl, hs⟩
  unfold rpv
  dsimp only [PSt.new]
  have hz4 : w.heap.size + 3 ≤ w4.heap.size := by have := hs.size; simp at this; omega
  have hb := VarAt.same ((VarAt.new w 56 #[.int .i64 ph, .int .i64 src, .int .i64 cl, .int .i64 tg, .slice A n cap, .int .i64 acts, .string f, .int .i64 a, .int .i64 p, .int .i64 nm, .bool tm, .int .i64 la, .slice PA pn pc, .int .i64 fst]).alloc (.cells #[.int .i64 0, .int .i64 0, .int .i64 0, .int .i64 0, .slice none 0 0, .int .i64 0, .string ⟨#[]⟩, .int .i64 0, .int .i64 0, .int .i64 0, .bool false, .int .i64 0, .slice none 0 0, .int .i64 0] 56) |>.alloc (.cells #[.int .i64 ph, .int .i64 src, .int .i64 cl, .int .i64 tg, .slice A n cap, .int .i64 acts, .string f, .int .i64 a, .int .i64 p, .int .i64 nm, .bool tm, .int .i64 la, .slice PA pn pc, .int .i64 fst] 56)) hs
  have h8 := (VarAt.same (((VarAt.newk (w := w.alloc (.cells #[.int .i64 ph, .int .i64 src, .int .i64 cl, .int .i64 tg, .slice A n cap, .int .i64 acts, .string f, .int .i64 a, .int .i64 p, .int .i64 nm, .bool tm, .int .i64 la, .slice PA pn pc, .int .i64 fst] 56)) (T := 56) (cs := #[.int .i64 0, .int .i64 0, .int .i64 0, .int .i64 0, .slice none 0 0, .int .i64 0, .string ⟨#[]⟩, .int .i64 0, .int .i64 0, .int .i64 0, .bool false, .int .i64 0, .slice none 0 0, .int .i64 0]) (k := w.heap.size + 1) (by simp))).alloc (.cells #[.int .i64 ph, .int .i64 src, .int .i64 cl, .int .i64 tg, .slice A n cap, .int .i64 acts, .string f, .int .i64 a, .int .i64 p, .int .i64 nm, .bool tm, .int .i64 la, .slice PA pn pc, .int .i64 fst] 56)) hs)
  have hs4 := ((((Chg.refl (fun _ => False) w).alloc (.cells #[.int .i64 ph, .int .i64 src, .int .i64 cl, .int .i64 tg, .slice A n cap, .int .i64 acts, .string f, .int .i64 a, .int .i64 p, .int .i64 nm, .bool tm, .int .i64 la, .slice PA pn pc, .int .i64 fst] 56)).alloc (.cells #[.int .i64 0, .int .i64 0, .int .i64 0, .int .i64 0, .slice none 0 0, .int .i64 0, .string ⟨#[]⟩, .int .i64 0, .int .i64 0, .int .i64 0, .bool false, .int .i64 0, .slice none 0 0, .int .i64 0] 56)).alloc (.cells #[.int .i64 ph, .int .i64 src, .int .i64 cl, .int .i64 tg, .slice A n cap, .int .i64 acts, .string f, .int .i64 a, .int .i64 p, .int .i64 nm, .bool tm, .int .i64 la, .slice PA pn pc, .int .i64 fst] 56) |>.trans hs)
  have HB := Lib.hid (And.intro hb (And.intro h8 hs4))
  have p12 : w4.cell? ⟨w.heap.size, 12, none⟩ = some (.slice PA pn pc) := cell_at (C := [.int .i64 ph, .int .i64 src, .int .i64 cl, .int .i64 tg, .slice A n cap, .int .i64 acts, .string f, .int .i64 a, .int .i64 p, .int .i64 nm, .bool tm, .int .i64 la, .slice PA pn pc, .int .i64 fst]) hb 12
  have hlt : w.heap.size < w4.heap.size := by omega
  clear hs hb h8 hs4
  go_wp2_with (first | (refine wpl_loadv _ _ _ rfl HV.out.ldD ?_) | (refine wpl_storeRow _ rfl rfl H8.out (by kernel_rfl) rfl (MD.one _) ?_) | (at_builtin; refine wpl_appendSl w4.heap.size 112 _ 5 48 Try.underlying54 info_pipe rfl (by omega) _ 0 [] (World.ownsRow_nil _ _ _ _) rfl PA pn pc (rs.flatMap RPp.cells) rfl (by rw [rows_len, HRL.out]) (fun hp => (HH.out.2.1.same (HB.out.2.2.alloc _)).src hp) (rows_one rs) (by omega) (by omega) (by simp) ?_; intro A3 cap3 w5 hown hgrow; have HOWN : Hid (w5.ownsRow w4.heap.size 112 5 (.slice A3 pn cap3) pn (rs.flatMap RPp.cells)) := Lib.hid (by rw [Nat.zero_add, List.nil_append] at hown; exact hown); have HG5 : Hid (Same (w4.alloc (.cells #[.int .i64 win, .int .i64 0, .slice none 0 0, .bool false, .bool false] 112)) w5) := Lib.hid ((Chg.grownO (Chg.refl _ _) hgrow).mono (fun i hi e => by simp [Value.ownBlock] at e)); have hld := run_load_rp ((VarAt.new w4 112 #[.int .i64 win, .int .i64 0, .slice none 0 0, .bool false, .bool false]).same HG5.out); clear hown hgrow) | (refine wpl_loadv _ _ _ rfl hld ?_) | (at_builtin; refine wpl_append1 w4.heap.size 112 _ 5 48 Try.underlying54 info_pipe rfl (by omega) _ pn (rs.flatMap RPp.cells) (HOWN.out.alloc _) rfl w5.heap.size 1 [.int .i64 win, .int .i64 0, .slice none 0 0, .bool false, .bool false] rfl (VarAt.new _ _ _) rfl (by simp [Value.oneCell']) (by omega) (by omega) (by have := HG5.out.size; simp at this ⊢; omega) ?_; intro g2 cap2 w6 hown2 hgrow2 _ _; have HOWN2 := Lib.hid hown2; have HG6 : Hid (Same w4 w6) := Lib.hid ((((Chg.refl (fun _ => False) w4).alloc _).trans (HG5.out.alloc _)).then_ (Chg.grownO (Chg.refl _ _) hgrow2) (fun i hi e => by have := (HOWN.out.lt i e.symm).1; omega)); have hb6 := HB.out.1.same HG6.out; have p12 : w6.cell? ⟨w.heap.size, 12, none⟩ = some (.slice PA pn pc) := cell_at (C := [.int .i64 ph, .int .i64 src, .int .i64 cl, .int .i64 tg, .slice A n cap, .int .i64 acts, .string f, .int .i64 a, .int .i64 p, .int .i64 nm, .bool tm, .int .i64 la, .slice PA pn pc, .int .i64 fst]) hb6 12; have f12 := frozen_at hb6 12; have hlt : w.heap.size < w6.heap.size := (Nat.lt_of_lt_of_le hlt HG6.out.size); have HV : Hid (VarAt (w6.setCell ⟨w.heap.size, 12, none⟩ (.slice (some ⟨g2, 0, none⟩) (pn + 1) cap2)) w.heap.size 56 (MD.cells ⟨ph, src, cl, tg, A, n, cap, acts, f, a, p, nm, tm, la, some ⟨g2, 0, none⟩, pn + 1, cap2, fst⟩).toArray) := Lib.hid (at_setCell (i := 12) (C := [.int .i64 ph, .int .i64 src, .int .i64 cl, .int .i64 tg, .slice A n cap, .int .i64 acts, .string f, .int .i64 a, .int .i64 p, .int .i64 nm, .bool tm, .int .i64 la, .slice PA pn pc, .int .i64 fst]) _ hb6); have H8 := Lib.hid (at_setCell_other (i := 12) (.slice (some ⟨g2, 0, none⟩) (pn + 1) cap2) (show w.heap.size + 1 ≠ w.heap.size by omega) (HB.out.2.1.same HG6.out)); clear hown2 hgrow2 hb6 hld))
  have hz6 := HG6.out.size
  have hch : Chg (fun x => x = w.heap.size ∨ x = w.heap.size + 1) w6 ((w6.setCell ⟨w.heap.size, 12, none⟩ (.slice (some ⟨g2, 0, none⟩) (pn + 1) cap2)).setRow (w.heap.size + 1) (MD.cells ⟨ph, src, cl, tg, A, n, cap, acts, f, a, p, nm, tm, la, some ⟨g2, 0, none⟩, pn + 1, cap2, fst⟩).toArray) := ((Chg.refl _ _).setCell _ _ (fun _ => .inl rfl)).setRow _ _ (fun _ => .inr rfl)
  obtain ⟨A9, cap9, hv9, _, hrow9⟩ := PRow.of_own (rs := rs ++ [⟨PSt.new win, none, 0⟩]) (F := G) (row_chg (by rw [List.flatMap_append]; exact HOWN2.out) hch (fun x hx q => by have := (HOWN2.out.lt x hx).1; rcases q with q | q <;> omega)) (by simp [HRL.out]) (fun z hz => by
    rcases List.mem_append.1 hz with q | q
    · exact HH.out.2.1.2.1 z q
    · simp at q; subst q; exact ⟨PSt.new_ok HH.out.2.2.2.2.1 HH.out.2.2.2.2.2, rfl, Nat.zero_le _⟩) (fun x hx => by have := HH.out.2.2.1 x hx; omega)
  cases hv9
  refine bodyPost_ret (results_cell_tmp2 Try.results54 rfl (VarAt.ldD (x := ⟨ph, src, cl, tg, A, n, cap, acts, f, a, p, nm, tm, la, some ⟨g2, 0, none⟩, pn + 1, cap2, fst⟩) (VarAt.put H8.out _))) rfl ⟨some ⟨g2, 0, none⟩, cap2, rfl, hrow9, ?_⟩
  exact (HB.out.2.2.trans HG6.out).then_ hch (fun j hj q => by rcases q with q | q <;> omega)

end Go.Proofs.Yteolilggeaffaaa
