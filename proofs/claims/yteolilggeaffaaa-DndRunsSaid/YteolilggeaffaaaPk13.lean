/- Parts of the walk, packed: DragC, DragD. -/
import Derived.Test.YteolilggeaffaaaPk12
import Derived.Deep.DeepCutAuto
set_option linter.unusedVariables false
set_option linter.unusedSimpArgs false
set_option maxRecDepth 100000
namespace Go.Proofs.Yteolilggeaffaaa
open Go.RowKit

def DCOut (w : World) (b lb : Nat) (R : Nat → Prop) (d' : DSt) (l : List (List Value)) (e : Ending) (w' : World) : Prop := ∃ v, e = .returned v ∧ OutAt w.heap.size w' v l ∧ DragAt w' b lb R d' ∧ Chg R w w'
theorem OutAt.chg {base : Nat} {w w' : World} {v : Value} {l : List (List Value)} {S : Nat → Prop} (h : OutAt base w v l) (k : Chg S w w') (hs : ∀ x, S x → x < base) : OutAt base w' v l :=
  row_chg h k (fun x hx q => by have := (World.ownsRow.lt h x hx).1; have := hs x q; omega)
section
variable {w w' : World} {b lb : Nat} {R : Nat → Prop} {d : DSt}
set_option maxHeartbeats 4000000 in
theorem dcancel_ok (d' : DSt) (l : List (List Value)) (h : DragAt w b lb R d) (hd : d.cancS = d') (hl : d.cancO = l) : Calls Try.prog 34 #[.pointer (some ⟨b, 0, none⟩)] w (DCOut w b lb R d' l) := by
  have HD := Lib.hid h
  obtain ⟨A, n, cap, PA, pn, pcap, h⟩ := h
  have HH := Lib.hid h
  have HM := Lib.hid (dmade_ok b lb w h.c0)
  have k1 := h.c1
  have k12 := h.c12
  have HRB := Lib.hid (And.intro h.rb (h.lt b h.rb))
  subst hd hl
  clear h
  by_cases h1 : d.state = 1
  · have e1 : d.cancS = d.endS := by unfold DSt.cancS; rw [if_neg (by omega)]
    have e2 : d.cancO = d.left := by unfold DSt.cancO; rw [if_pos h1]
    rw [e1, e2]
    clear e1 e2
    go_enter Try.func34, Try.ntmps34
    go_wp2_with fail
    refine HM.out.mono ?_
    rintro e w' ⟨rfl, rfl⟩
    go_wp2_with fail
    refine (dleave_ok d.left HD.out rfl).mono ?_
    rintro e w1 ⟨v, rfl, ho, hs⟩
    have HO := Lib.hid (And.intro ho hs)
    clear ho hs k1 k12
    go_wp2_with fail
    refine (dend_ok (HD.out.same HO.out.2)).mono ?_
    rintro e w2 ⟨rfl, hd, hk⟩
    have HE := Lib.hid (And.intro hd hk)
    clear hd hk
    go_wp2
    go_ret
    exact ⟨v, rfl, HO.out.1.chg HE.out.2 (fun x hx => by have := HRB.out.2; omega), HE.out.1, (Chg.of_same HO.out.2).trans (HE.out.2.mono (fun x _ hx => by rw [hx]; exact HRB.out.1))⟩
  · by_cases h2 : d.state = 2
    · have e1 : d.cancS = (d.canc (d.flows.length - d.old)).endS := by unfold DSt.cancS; rw [if_pos h2]
      have e2 : d.cancO = [] := by unfold DSt.cancO; rw [if_neg h1]
      rw [e1, e2]
      have hpn : pn = d.flows.length - d.old := by have := HH.out.pl.1; simpa using this.symm
      have HPN := Lib.hid hpn
      have hpl : pn ≤ 1000 := by have := HH.out.few; omega
      clear e1 e2 hpn h1
      go_enter Try.func34, Try.ntmps34
      go_wp2_with fail
      refine HM.out.mono ?_
      rintro e w' ⟨rfl, rfl⟩
      go_wp2
      go_loopg [24] pn (fun g v24 wr => ∃ (k : Nat), k ≤ pn ∧ g = pn - k ∧ v24 = .int .i64 k ∧ DragHd wr b lb R (d.canc k) A n cap PA pn pcap ∧ Chg R w wr)
      case atStart => exact ⟨0, by omega, by omega, rfl, by rw [canc_zero]; exact HH.out, Chg.refl _ _⟩
      case round =>
        obtain ⟨k, hk, hg, rfl, hd, hc⟩ := hrel
        have HG := Lib.hid hg
        have HS := Lib.hid (And.intro hd hc)
        clear hg hd hc
        by_cases hlt : k < pn
        · have hkk : (k : Int) < pn := by omega
          obtain ⟨g, cap2, hsl, _, _⟩ := HS.out.1.pl.form (by omega)
          have hf : (d.old + k) < d.flows.length := by have := HPN.out; omega
          obtain ⟨x, hx⟩ : ∃ x, d.flows[d.old + k]? = some x := ⟨_, List.getElem?_eq_getElem hf⟩
          have hx2 := canc_at d k hx
          have hcell := HS.out.1.pl.cells (g := g) (by rw [hsl]; rfl) k x.ptr (by rw [List.getElem?_map, List.getElem?_drop]; rw [show (d.canc k).old + k = d.old + k from rfl, hx2]; rfl)
          have hcell2 : wr.cell? ⟨g, k, none⟩ = some (.pointer (some ⟨x.pb, 0, none⟩)) := by
            have h9 : wr.cell? ((⟨g, 0, none⟩ : Addr).add k) = some x.ptr := hcell
            unfold Addr.add at h9
            by_cases hk0 : k = 0
            · subst hk0; exact h9
            · simpa [DFlow.ptr, hk0] using h9
          clear hcell
          cases hsl
          have HX := Lib.hid (And.intro hx hx2)
          have HP := Lib.hid (HS.out.1.pipes x (List.mem_of_getElem? hx2))
          have HSB := Lib.hid (HS.out.1.sub x (List.mem_of_getElem? hx2))
          clear hx hx2
          go_wp2_with fail
          refine (pcancel_ok x.pb _ x.R x.q HP.out).mono ?_
          rintro e w2 ⟨rfl, hp, hk2⟩
          have hk3 : Chg x.R wr w2 := hk2.mono (fun y _ e => by rw [e]; exact HP.out.rb)
          have hnew := HS.out.1.flow HX.out.2 hk3 hp
          rw [show ((d.canc k).flows.set (d.old + k) { x with q := x.q.cancel }) = _ from rfl, canc_succ d k HX.out.1] at hnew
          have HN := Lib.hid (And.intro hnew (HS.out.2.trans (hk3.mono (fun y _ hy => (HSB.out y hy).1))))
          clear hp hk2 hk3 hnew hcell2
          go_wp2
          go_roundg (pn - (k + 1))
          case measure => have := HG.out; omega
          case rel => exact ⟨k + 1, by omega, by rfl, by go_num, HN.out.1, HN.out.2⟩
        · have hkk : ¬ (k : Int) < pn := by omega
          obtain rfl : k = pn := by omega
          go_wp2_with fail
          refine (dend_ok ⟨A, n, cap, PA, k, pcap, HS.out.1⟩).mono ?_
          rintro e w2 ⟨rfl, hd, hk⟩
          have HE := Lib.hid (And.intro hd hk)
          clear hd hk
          go_wp2
          go_ret
          refine ⟨_, rfl, World.ownsRow_nil _ _ _ _, ?_, HS.out.2.trans (HE.out.2.mono (fun x _ hx => by rw [hx]; exact HRB.out.1))⟩
          rw [← HPN.out]
          exact HE.out.1
    · have e1 : d.cancS = d.endS := by unfold DSt.cancS; rw [if_neg h2]
      have e2 : d.cancO = [] := by unfold DSt.cancO; rw [if_neg h1]
      rw [e1, e2]
      have h1b : (d.state == 1) = false := by simp [h1]
      have h2b : (d.state == 2) = false := by simp [h2]
      clear e1 e2
      go_enter Try.func34, Try.ntmps34
      go_wp2_with fail
      refine HM.out.mono ?_
      rintro e w' ⟨rfl, rfl⟩
      go_wp2_with fail
      refine (dend_ok HD.out).mono ?_
      rintro e w2 ⟨rfl, hd, hk⟩
      have HE := Lib.hid (And.intro hd hk)
      clear hd hk
      go_wp2
      go_ret
      exact ⟨_, rfl, World.ownsRow_nil _ _ _ _, HE.out.1, HE.out.2.mono (fun x _ hx => by rw [hx]; exact HRB.out.1)⟩
end
end Go.Proofs.Yteolilggeaffaaa

namespace Go.Proofs.Yteolilggeaffaaa
open Go.RowKit

def DSt.dropB (d : DSt) : Bool := decide (d.state = 1) && (!decide (d.tf = ByteArray.empty) && !decide (d.act = 0))
def DSt.dropS (d : DSt) : DSt := if d.state = 1 then (if d.dropB then { d with state := 2 } else d.cancS) else d
def DSt.dropO (d : DSt) : List (List Value) := if d.state = 1 then (if d.dropB then [delivC d.tc d.ts 17 0 0 0 0 0 0] else d.cancO) else []
def DDOut (w : World) (b lb : Nat) (R : Nat → Prop) (d' : DSt) (l : List (List Value)) (ok : Bool) (e : Ending) (w' : World) : Prop :=
  ∃ v, e = .returned (.tuple #[v, .bool ok]) ∧ OutAt w.heap.size w' v l ∧ DragAt w' b lb R d' ∧ Chg R w w'
section
variable {w w' : World} {b lb : Nat} {R : Nat → Prop} {d : DSt}
theorem drop_no (h : d.state ≠ 1) : d.dropS = d ∧ d.dropO = [] ∧ d.dropB = false := by
  refine ⟨by unfold DSt.dropS; rw [if_neg h], by unfold DSt.dropO; rw [if_neg h], by unfold DSt.dropB; rw [decide_eq_false h]; rfl⟩
theorem drop_un (h : d.state = 1) (h2 : d.dropB = false) : d.dropS = d.cancS ∧ d.dropO = d.cancO := by
  refine ⟨by unfold DSt.dropS; rw [if_pos h, h2, if_neg (by decide)], by unfold DSt.dropO; rw [if_pos h, h2, if_neg (by decide)]⟩
theorem drop_yes (h : d.state = 1) (h2 : d.dropB = true) : d.dropS = { d with state := 2 } ∧ d.dropO = [delivC d.tc d.ts 17 0 0 0 0 0 0] := by
  refine ⟨by unfold DSt.dropS; rw [if_pos h, h2, if_pos rfl], by unfold DSt.dropO; rw [if_pos h, h2, if_pos rfl]⟩
set_option maxHeartbeats 4000000 in
theorem ddrop_ok (d' : DSt) (l : List (List Value)) (ok : Bool) (h : DragAt w b lb R d) (hd : d.dropS = d') (hl : d.dropO = l) (hb : d.dropB = ok) : Calls Try.prog 16 #[.pointer (some ⟨b, 0, none⟩)] w (DDOut w b lb R d' l ok) := by
  have HD := Lib.hid h
  obtain ⟨A, n, cap, PA, pn, pcap, h⟩ := h
  have HH := Lib.hid h
  have HM := Lib.hid (dmade_ok b lb w h.c0)
  have k1 := h.c1
  have k4 := h.c4
  have k5 := h.c5
  have k6 := h.c6
  have f1 := h.fr
  have hlt := h.lt b h.rb
  have HRB := Lib.hid h.rb
  subst hd hl hb
  clear h
  by_cases h1 : d.state = 1
  · by_cases h2 : d.tf = ByteArray.empty
    · have hb : d.dropB = false := by unfold DSt.dropB; rw [decide_eq_true h2]; simp
      rw [(drop_un h1 hb).1, (drop_un h1 hb).2, hb]
      have hem : ByteArray.empty.toList = [] := toList_nil
      rw [h2] at k6
      clear hb
      go_enter Try.func16, Try.ntmps16
      go_wp2_with fail
      refine HM.out.mono ?_
      rintro e w' ⟨rfl, rfl⟩
      go_wp2_with fail
      refine (dcancel_ok d.cancS d.cancO HD.out rfl rfl).mono ?_
      rintro e w2 ⟨v, rfl, ho, hd, hk⟩
      have HE := Lib.hid (And.intro ho (And.intro hd hk))
      clear ho hd hk
      go_wp2
      go_ret2
      exact ⟨v, rfl, HE.out.1, HE.out.2.1, HE.out.2.2⟩
    · have h2e : ¬ d.tf = ⟨#[]⟩ := h2
      have hne := toList_ne h2e
      have hne2 : ¬ d.tf.toList = [] := toList_cons h2e
      have hne4 : d.tf.toList.isEmpty = false := toList_emp h2e
      obtain ⟨va, hva⟩ : ∃ va, d.act = va := ⟨_, rfl⟩
      have HA := Lib.hid (daction_ok va HD.out hva)
      by_cases h3 : va = 0
      · have hb : d.dropB = false := by unfold DSt.dropB; rw [hva, decide_eq_true h3]; simp
        rw [(drop_un h1 hb).1, (drop_un h1 hb).2, hb]
        subst h3
        clear hb hva
        go_enter Try.func16, Try.ntmps16
        go_wp2_with fail
        refine HM.out.mono ?_
        rintro e w' ⟨rfl, rfl⟩
        go_wp2_with fail
        refine HA.out.mono ?_
        rintro e w1 ⟨rfl, hs⟩
        have HS := Lib.hid hs
        clear hs k1 k4 k5 k6
        go_wp2_with fail
        refine (dcancel_ok d.cancS d.cancO (HD.out.same HS.out) rfl rfl).mono ?_
        rintro e w2 ⟨v, rfl, ho, hd, hk⟩
        have HE := Lib.hid (And.intro ho (And.intro hd hk))
        clear ho hd hk
        go_wp2
        go_ret2
        exact ⟨v, rfl, World.ownsRow.mono HE.out.1 HS.out.size, HE.out.2.1, (Chg.of_same HS.out).trans HE.out.2.2⟩
      · have hb : d.dropB = true := by unfold DSt.dropB; rw [hva, decide_eq_false h3, decide_eq_true h1, decide_eq_false h2]; rfl
        rw [(drop_yes h1 hb).1, (drop_yes h1 hb).2, hb]
        have h3b : (va == 0) = false := by simp [h3]
        clear hb hva
        go_enter Try.func16, Try.ntmps16
        go_wp2_with fail
        refine HM.out.mono ?_
        rintro e w' ⟨rfl, rfl⟩
        go_wp2_with fail
        refine HA.out.mono ?_
        rintro e w1 ⟨rfl, hs⟩
        have H1 := Lib.hid (HH.out.chg hs (fun _ _ q => q))
        have HS := Lib.hid hs
        have j4 := hs.cell k4 (fun q => q)
        have j5 := hs.cell k5 (fun q => q)
        have f2 := H1.out.fr
        have hlt2 := Nat.lt_of_lt_of_le hlt hs.size
        have j1 := H1.out.c1
        clear hs k1 k4 k5 k6
        go_upto_region 6 with (fail)
        have HU := Lib.hid (HH.out.chg HS.out (fun _ _ q => q) |>.upd { d with state := 2 } rfl rfl rfl HH.out.offs (Chg.setCell (Chg.refl _ w1) _ _ (fun _ => rfl)) (at_setCell (i := 1) (.int .i64 2) H1.out.at_))
        have HC := Lib.hid (Chg.trans (Chg.of_same HS.out) (Chg.setCell (Chg.refl R w1) ⟨b, 1, none⟩ (.int .i64 2) (fun _ => HRB.out)))
        have m4 := HU.out.c4
        have m5 := HU.out.c5
        generalize w1.setCell ⟨b, 1, none⟩ (.int .i64 2) = w2 at *
        clear j1 j4 j5 f2 hlt2
        refine region_path (S := (fun w' => w'.cell? ⟨b, 4, none⟩ = some (.int .i64 d.tc) ∧ w'.cell? ⟨b, 5, none⟩ = some (.int .i64 d.ts))) 99 [(0, true), (1, true), (2, true), (3, true), (4, true), (5, true), (6, true), (7, true), (8, true), (9, true), (10, true), (11, false), (12, true), (13, true)] (by kernel_rfl) (by kernel_rfl) (by kernel_rfl) ⟨m4, m5⟩ ?_
        refine path_read (i := 0) (v := ?v35_0) rfl (by rfl) (fun _ _ _ h => h) ?hy35_0 ?_
        case hy35_0 => ((intro w hSw; (try dsimp only at hSw); go_simp) <;> (try with_reducible rfl))
        try simp only [Act.put, List.setIfInBounds_toArray, List.set_cons_zero, List.set_cons_succ]
        refine path_read (i := 1) (v := ?v35_1) rfl (by rfl) (fun _ _ _ h => h) ?hy35_1 ?_
        case hy35_1 => ((intro w hSw; (try dsimp only at hSw); go_simp) <;> (try with_reducible rfl))
        try simp only [Act.put, List.setIfInBounds_toArray, List.set_cons_zero, List.set_cons_succ]
        refine path_read (i := 2) (v := ?v35_2) rfl (by rfl) (fun _ _ _ h => h) ?hy35_2 ?_
        case hy35_2 => ((intro w hSw; (try dsimp only at hSw); go_simp) <;> (try with_reducible rfl))
        try simp only [Act.put, List.setIfInBounds_toArray, List.set_cons_zero, List.set_cons_succ]
        refine path_read (i := 3) (v := ?v35_3) rfl (by rfl) (fun _ _ _ h => h) ?hy35_3 ?_
        case hy35_3 => ((intro w hSw; (try dsimp only at hSw); go_simp) <;> (try with_reducible rfl))
        try simp only [Act.put, List.setIfInBounds_toArray, List.set_cons_zero, List.set_cons_succ]
        refine path_read (i := 4) (v := ?v35_4) rfl (by rfl) (fun _ _ _ h => h) ?hy35_4 ?_
        case hy35_4 => ((intro w hSw; (try dsimp only at hSw); go_simp) <;> (try with_reducible rfl))
        try simp only [Act.put, List.setIfInBounds_toArray, List.set_cons_zero, List.set_cons_succ]
        refine path_read (i := 5) (v := ?v35_5) rfl (by rfl) (fun _ _ _ h => h) ?hy35_5 ?_
        case hy35_5 => ((intro w hSw; (try dsimp only at hSw); go_simp) <;> (try with_reducible rfl))
        try simp only [Act.put, List.setIfInBounds_toArray, List.set_cons_zero, List.set_cons_succ]
        refine path_read (i := 6) (v := ?v35_6) rfl (by rfl) (fun _ _ _ h => h) ?hy35_6 ?_
        case hy35_6 => ((intro w hSw; (try dsimp only at hSw); go_simp) <;> (try with_reducible rfl))
        try simp only [Act.put, List.setIfInBounds_toArray, List.set_cons_zero, List.set_cons_succ]
        refine path_read (i := 7) (v := ?v35_7) rfl (by rfl) (fun _ _ _ h => h) ?hy35_7 ?_
        case hy35_7 => ((intro w hSw; (try dsimp only at hSw); go_simp) <;> (try with_reducible rfl))
        try simp only [Act.put, List.setIfInBounds_toArray, List.set_cons_zero, List.set_cons_succ]
        refine path_read (i := 8) (v := ?v35_8) rfl (by rfl) (fun _ _ _ h => h) ?hy35_8 ?_
        case hy35_8 => ((intro w hSw; (try dsimp only at hSw); go_simp) <;> (try with_reducible rfl))
        try simp only [Act.put, List.setIfInBounds_toArray, List.set_cons_zero, List.set_cons_succ]
        refine path_read (i := 9) (v := ?v35_9) rfl (by rfl) (fun _ _ _ h => h) ?hy35_9 ?_
        case hy35_9 => ((intro w hSw; (try dsimp only at hSw); go_simp) <;> (try with_reducible rfl))
        try simp only [Act.put, List.setIfInBounds_toArray, List.set_cons_zero, List.set_cons_succ]
        refine path_read (i := 10) (v := ?v35_10) rfl (by rfl) (fun _ _ _ h => h) ?hy35_10 ?_
        case hy35_10 => ((intro w hSw; (try dsimp only at hSw); go_simp) <;> (try with_reducible rfl))
        try simp only [Act.put, List.setIfInBounds_toArray, List.set_cons_zero, List.set_cons_succ]
        refine path_do (i := 11) rfl ?_
        go_wp2_with (fail)
        (first | refine ⟨.inr ?keep35_11, ?_⟩ | refine ⟨?keep35_11, ?_⟩)
        case keep35_11 => (exact ⟨Chg.cell (S := fun _ => False) (u := w2) ((Chg.refl _ w2).drew.alloc _) m4 (fun q => q), Chg.cell (S := fun _ => False) (u := w2) ((Chg.refl _ w2).drew.alloc _) m5 (fun q => q)⟩)
        try simp only [Act.put, List.setIfInBounds_toArray, List.set_cons_zero, List.set_cons_succ]
        refine path_read (i := 12) (v := ?v35_12) rfl (by rfl) (fun _ _ _ h => h) ?hy35_12 ?_
        case hy35_12 => ((intro w hSw; (try dsimp only at hSw); go_simp) <;> (try with_reducible rfl))
        try simp only [Act.put, List.setIfInBounds_toArray, List.set_cons_zero, List.set_cons_succ]
        refine path_read (i := 13) (v := ?v35_13) rfl (by rfl) (fun _ _ _ h => h) ?hy35_13 ?_
        case hy35_13 => ((intro w hSw; (try dsimp only at hSw); go_simp) <;> (try with_reducible rfl))
        try simp only [Act.put, List.setIfInBounds_toArray, List.set_cons_zero, List.set_cons_succ]
        refine path_end ?_
        go_wp2
        go_ret2
        exact ⟨_, rfl, World.ownsRow.mono (out_one w2 d.tc d.ts 17 0 0 0 0 0 0) HC.out.size, ⟨A, n, cap, PA, pn, pcap, HU.out.chg ((Chg.refl (fun _ => False) w2).drew.alloc _) (fun _ _ q => q)⟩, (HC.out.trans (Chg.of_same ((Chg.refl (fun _ => False) w2).drew.alloc _)))⟩
  · rw [(drop_no h1).1, (drop_no h1).2.1, (drop_no h1).2.2]
    have h1b : (d.state == 1) = false := by simp [h1]
    have h1c : (d.state != 1) = true := by simp [h1]
    go_enter Try.func16, Try.ntmps16
    go_wp2_with fail
    refine HM.out.mono ?_
    rintro e w' ⟨rfl, rfl⟩
    go_wp2
    go_ret2
    exact ⟨_, rfl, World.ownsRow_nil _ _ _ _, HD.out, Chg.refl _ _⟩
end
end Go.Proofs.Yteolilggeaffaaa
