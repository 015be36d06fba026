/- The walk of Cancel. -/
import Derived.Test.YteolilggeaffaaaDragF
set_option linter.unusedVariables false
set_option linter.unusedSimpArgs false
set_option maxRecDepth 100000
namespace Go.Proofs.Yteolilggeaffaaa
open Go.RowKit

def DCOut (w : World) (b lb : Nat) (R : Nat → Prop) (d' : DSt) (l : List (List Value)) (e : Ending) (w' : World) : Prop := ∃ v, e = .returned v ∧ OutAt w.heap.size w' v l ∧ DragAt w' b lb R d' ∧ Chg R w w'
theorem OutAt.chg {base : Nat} {w w' : World} {v : Value} {l : List (List Value)} {S : Nat → Prop} (h : OutAt base w v l) (k : Chg S w w') (hs : ∀ x, S x → x < base) : OutAt base w' v l :=
  row_chg h k (fun x hx q => by have := (World.ownsRow.lt h x hx).1; have := hs x q; omega)
section
variable {w w' : World} {b lb : Nat} {R : Nat → Prop} {d : DSt}
set_option maxHeartbeats 4000000 in
theorem dcancel_ok (d' : DSt) (l : List (List Value)) (h : DragAt w b lb R d) (hd : d.cancS = d') (hl : d.cancO = l) : Calls Try.prog 34 #[.pointer (some ⟨b, 0, none⟩)] w (DCOut w b lb R d' l) := by
  have HD := Lib.hid h
  obtain ⟨A, n, cap, PA, pn, pcap, h⟩ := h
  have HH := Lib.hid h
  have HM := Lib.hid (dmade_ok b lb w h.c0)
  have k1 := h.c1
  have k12 := h.c12
  have HRB := Lib.hid (And.intro h.rb (h.lt b h.rb))
  subst hd hl
  clear h
  by_cases h1 : d.state = 1
  · have e1 : d.cancS = d.endS := by unfold DSt.cancS; rw [if_neg (by omega)]
    have e2 : d.cancO = d.left := by unfold DSt.cancO; rw [if_pos h1]
    rw [e1, e2]
    clear e1 e2
    go_enter Try.func34, Try.ntmps34
    go_wp2_with fail
    refine HM.out.mono ?_
    rintro e w' ⟨rfl, rfl⟩
    go_wp2_with fail
    refine (dleave_ok d.left HD.out rfl).mono ?_
    rintro e w1 ⟨v, rfl, ho, hs⟩
    have HO := Lib.hid (And.intro ho hs)
    clear ho hs k1 k12
    go_wp2_with fail
    refine (dend_ok (HD.out.same HO.out.2)).mono ?_
    rintro e w2 ⟨rfl, hd, hk⟩
    have HE := Lib.hid (And.intro hd hk)
    clear hd hk
    go_wp2
    go_ret
    exact ⟨v, rfl, HO.out.1.chg HE.out.2 (fun x hx => by have := HRB.out.2; omega), HE.out.1, (Chg.of_same HO.out.2).trans (HE.out.2.mono (fun x _ hx => by rw [hx]; exact HRB.out.1))⟩
  · by_cases h2 : d.state = 2
    · have e1 : d.cancS = (d.canc (d.flows.length - d.old)).endS := by unfold DSt.cancS; rw [if_pos h2]
      have e2 : d.cancO = [] := by unfold DSt.cancO; rw [if_neg h1]
      rw [e1, e2]
      have hpn : pn = d.flows.length - d.old := by have := HH.out.pl.1; simpa using this.symm
      have HPN := Lib.hid hpn
      have hpl : pn ≤ 1000 := by have := HH.out.few; omega
      clear e1 e2 hpn h1
      go_enter Try.func34, Try.ntmps34
      go_wp2_with fail
      refine HM.out.mono ?_
      rintro e w' ⟨rfl, rfl⟩
      go_wp2
      go_loopg [24] pn (fun g v24 wr => ∃ (k : Nat), k ≤ pn ∧ g = pn - k ∧ v24 = .int .i64 k ∧ DragHd wr b lb R (d.canc k) A n cap PA pn pcap ∧ Chg R w wr)
      case atStart => exact ⟨0, by omega, by omega, rfl, by rw [canc_zero]; exact HH.out, Chg.refl _ _⟩
      case round =>
        obtain ⟨k, hk, hg, rfl, hd, hc⟩ := hrel
        have HG := Lib.hid hg
        have HS := Lib.hid (And.intro hd hc)
        clear hg hd hc
        by_cases hlt : k < pn
        · have hkk : (k : Int) < pn := by omega
          obtain ⟨g, cap2, hsl, _, _⟩ := HS.out.1.pl.form (by omega)
          have hf : (d.old + k) < d.flows.length := by have := HPN.out; omega
          obtain ⟨x, hx⟩ : ∃ x, d.flows[d.old + k]? = some x := ⟨_, List.getElem?_eq_getElem hf⟩
          have hx2 := canc_at d k hx
          have hcell := HS.out.1.pl.cells (g := g) (by rw [hsl]; rfl) k x.ptr (by rw [List.getElem?_map, List.getElem?_drop]; rw [show (d.canc k).old + k = d.old + k from rfl, hx2]; rfl)
          have hcell2 : wr.cell? ⟨g, k, none⟩ = some (.pointer (some ⟨x.pb, 0, none⟩)) := by
            have h9 : wr.cell? ((⟨g, 0, none⟩ : Addr).add k) = some x.ptr := hcell
            unfold Addr.add at h9
            by_cases hk0 : k = 0
            · subst hk0; exact h9
            · simpa [DFlow.ptr, hk0] using h9
          clear hcell
          cases hsl
          have HX := Lib.hid (And.intro hx hx2)
          have HP := Lib.hid (HS.out.1.pipes x (List.mem_of_getElem? hx2))
          have HSB := Lib.hid (HS.out.1.sub x (List.mem_of_getElem? hx2))
          clear hx hx2
          go_wp2_with fail
          refine (pcancel_ok x.pb _ x.R x.q HP.out).mono ?_
          rintro e w2 ⟨rfl, hp, hk2⟩
          have hk3 : Chg x.R wr w2 := hk2.mono (fun y _ e => by rw [e]; exact HP.out.rb)
          have hnew := HS.out.1.flow HX.out.2 hk3 hp
          rw [show ((d.canc k).flows.set (d.old + k) { x with q := x.q.cancel }) = _ from rfl, canc_succ d k HX.out.1] at hnew
          have HN := Lib.hid (And.intro hnew (HS.out.2.trans (hk3.mono (fun y _ hy => (HSB.out y hy).1))))
          clear hp hk2 hk3 hnew hcell2
          go_wp2
          go_roundg (pn - (k + 1))
          case measure => have := HG.out; omega
          case rel => exact ⟨k + 1, by omega, by rfl, by go_num, HN.out.1, HN.out.2⟩
        · have hkk : ¬ (k : Int) < pn := by omega
          obtain rfl : k = pn := by omega
          go_wp2_with fail
          refine (dend_ok ⟨A, n, cap, PA, k, pcap, HS.out.1⟩).mono ?_
          rintro e w2 ⟨rfl, hd, hk⟩
          have HE := Lib.hid (And.intro hd hk)
          clear hd hk
          go_wp2
          go_ret
          refine ⟨_, rfl, World.ownsRow_nil _ _ _ _, ?_, HS.out.2.trans (HE.out.2.mono (fun x _ hx => by rw [hx]; exact HRB.out.1))⟩
          rw [← HPN.out]
          exact HE.out.1
    · have e1 : d.cancS = d.endS := by unfold DSt.cancS; rw [if_neg h2]
      have e2 : d.cancO = [] := by unfold DSt.cancO; rw [if_neg h1]
      rw [e1, e2]
      have h1b : (d.state == 1) = false := by simp [h1]
      have h2b : (d.state == 2) = false := by simp [h2]
      clear e1 e2
      go_enter Try.func34, Try.ntmps34
      go_wp2_with fail
      refine HM.out.mono ?_
      rintro e w' ⟨rfl, rfl⟩
      go_wp2_with fail
      refine (dend_ok HD.out).mono ?_
      rintro e w2 ⟨rfl, hd, hk⟩
      have HE := Lib.hid (And.intro hd hk)
      clear hd hk
      go_wp2
      go_ret
      exact ⟨_, rfl, World.ownsRow_nil _ _ _ _, HE.out.1, HE.out.2.mono (fun x _ hx => by rw [hx]; exact HRB.out.1)⟩
end
end Go.Proofs.Yteolilggeaffaaa
