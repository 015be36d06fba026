/- The walk of Move. -/
import Derived.Test.YteolilggeaffaaaPk15
set_option linter.unusedVariables false
set_option linter.unusedSimpArgs false
set_option maxRecDepth 100000
namespace Go.Proofs.Yteolilggeaffaaa
open Go.RowKit

def DSt.tick (d : DSt) (time : Int) : DSt := if d.timed = false ∨ d.latest < time then { d with timed := true, latest := time } else d
def DSt.aim (d : DSt) (c s : Int) : DSt := { d with tc := c, ts := s, tf := ByteArray.empty, ta := 0, tp := 0 }
def posC (client surface : Int) : Int := if min client surface < 1 then 0 else client
def posS (client surface : Int) : Int := if min client surface < 1 then 0 else surface
def DSt.moveCS (d : DSt) (c s time : Int) : DSt := if c = d.tc ∧ s = d.ts then d.tick time else { (d.tick time).aim c s with offers := if s = 0 then d.offers else d.offers + 1 }
def DSt.outCS (d : DSt) (L : SLog) (c s x y time : Int) : List (List Value) :=
  if c = d.tc ∧ s = d.ts then (if s = 0 then [] else [delivC c s 15 (d.tick time).latest x y 0 0 0]) else if s = 0 then d.left else d.left ++ [delivC c s 14 0 x y ((d.offers + 1 : Nat) : Int) 0 (L.issueN c s 14)]
def DSt.logCS (d : DSt) (L : SLog) (c s : Int) : SLog := if (c = d.tc ∧ s = d.ts) ∨ s = 0 then L else L.issue c s 14
theorem tick_all (d : DSt) (time : Int) : (d.tick time).state = d.state ∧ (d.tick time).tc = d.tc ∧ (d.tick time).ts = d.ts ∧ (d.tick time).offers = d.offers ∧ (d.tick time).flows = d.flows ∧ (d.tick time).old = d.old ∧ (d.tick time).fmts = d.fmts := by
  unfold DSt.tick
  split <;> exact ⟨rfl, rfl, rfl, rfl, rfl, rfl, rfl⟩
theorem tick_left (d : DSt) (time : Int) : (d.tick time).left = d.left := by
  unfold DSt.left
  rw [(tick_all d time).2.1, (tick_all d time).2.2.1]
def DMOut (w : World) (b lb : Nat) (R : Nat → Prop) (d' : DSt) (L' : SLog) (l : List (List Value)) (e : Ending) (w' : World) : Prop :=
  ∃ v, e = .returned v ∧ OutAt w.heap.size w' v l ∧ DragAt w' b lb R d' ∧ LogAt w' lb L' ∧ Chg (fun x => x = b ∨ x = lb) w w'
theorem infoDeliv : (Try.prog.info? 72).map (fun i => (i.zero, i.size, i.bytes)) = some (some (.agg #[.int .i64 0, .int .i64 0, .int .i64 0, .int .i64 0, .int .i64 0, .int .i64 0, .int .i64 0, .int .i64 0, .int .u32 0]), 9, 72) := by kernel_rfl
section
variable {w w' : World} {b lb : Nat} {R : Nat → Prop} {d : DSt} {L : SLog}
theorem aim_chg (w : World) (b : Nat) (c s : Int) : Chg (fun x => x = b) w (((((w.setCell ⟨b, 4, none⟩ (.int .i64 c)).setCell ⟨b, 5, none⟩ (.int .i64 s)).setCell ⟨b, 6, none⟩ (.string ⟨#[]⟩)).setCell ⟨b, 7, none⟩ (.int .i64 0)).setCell ⟨b, 8, none⟩ (.int .i64 0)) := by
  refine Chg.setCell (Chg.setCell (Chg.setCell (Chg.setCell (Chg.setCell (Chg.refl (fun x => x = b) w) _ _ ?_) _ _ ?_) _ _ ?_) _ _ ?_) _ _ ?_
  all_goals exact fun _ => rfl
theorem aim_at {A PA : Option Addr} {n cap pn pcap : Nat} (c s : Int) (h : w.heap[b]? = some (.cells (dcells lb d A n cap PA pn pcap).toArray 84 (0, 0))) :
    (((((w.setCell ⟨b, 4, none⟩ (.int .i64 c)).setCell ⟨b, 5, none⟩ (.int .i64 s)).setCell ⟨b, 6, none⟩ (.string ⟨#[]⟩)).setCell ⟨b, 7, none⟩ (.int .i64 0)).setCell ⟨b, 8, none⟩ (.int .i64 0)).heap[b]? = some (.cells (dcells lb (d.aim c s) A n cap PA pn pcap).toArray 84 (0, 0)) :=
  at_setCell (i := 8) _ (at_setCell (i := 7) _ (at_setCell (i := 6) _ (at_setCell (i := 5) _ (at_setCell (i := 4) _ h))))
theorem DragHd.aimed {A PA : Option Addr} {n cap pn pcap : Nat} (h : DragHd w b lb R d A n cap PA pn pcap) (c s : Int) :
    DragHd (((((w.setCell ⟨b, 4, none⟩ (.int .i64 c)).setCell ⟨b, 5, none⟩ (.int .i64 s)).setCell ⟨b, 6, none⟩ (.string ⟨#[]⟩)).setCell ⟨b, 7, none⟩ (.int .i64 0)).setCell ⟨b, 8, none⟩ (.int .i64 0)) b lb R (d.aim c s) A n cap PA pn pcap :=
  h.upd (d.aim c s) rfl rfl rfl h.offs (aim_chg w b c s) (aim_at c s h.at_)
theorem OutAt.push {base : Nat} {v : Value} {l : List (List Value)} {C : List Value} (h : w.ownsRow base 72 9 v (l.length + 1) (l.flatten ++ C)) : OutAt base w v (l ++ [C]) := by
  unfold OutAt
  rw [List.length_append, List.flatten_append]
  simpa using h
theorem aim_same (d : DSt) (time c s : Int) : (d.tick time).aim c s = { (d.tick time).aim c s with offers := d.offers } := by
  unfold DSt.tick
  split <;> rfl
theorem dmove_idle (client surface x y time : Int) (h : DragAt w b lb R d) (h1 : d.state ≠ 1) :
    Calls Try.prog 20 #[.pointer (some ⟨b, 0, none⟩), .int .i64 client, .int .i64 surface, .int .i64 x, .int .i64 y, .int .i64 time] w fun e w' => e = .returned (.slice none 0 0) ∧ w = w' := by
  obtain ⟨A, n, cap, PA, pn, pcap, h⟩ := h
  have HM := Lib.hid (dmade_ok b lb w h.c0)
  have k1 := h.c1
  have hlt := h.lt b h.rb
  have h1b : (d.state == 1) = false := by simp [h1]
  have h1c : (d.state != 1) = true := by simp [h1]
  clear h
  go_enter Try.func20, Try.ntmps20
  go_wp2_with fail
  refine HM.out.mono ?_
  rintro e w' ⟨rfl, rfl⟩
  go_wp2
  go_ret
  exact ⟨rfl, rfl⟩
set_option maxHeartbeats 8000000 in
theorem dmove_on (c s client surface x y time : Int) (h : DragAt w b lb R d) (hL : LogAt w lb L) (h1 : d.state = 1) (hc : posC client surface = c) (hs : posS client surface = s) (ho : d.offers < 1000000) (hb1 : client ≤ 9223372036854775807) (hb2 : surface ≤ 9223372036854775807) :
    Calls Try.prog 20 #[.pointer (some ⟨b, 0, none⟩), .int .i64 client, .int .i64 surface, .int .i64 x, .int .i64 y, .int .i64 time] w (DMOut w b lb R (d.moveCS c s time) (d.logCS L c s) (d.outCS L c s x y time)) := by
  obtain ⟨A, n, cap, PA, pn, pcap, h⟩ := h
  have HH := Lib.hid h
  have HL := Lib.hid hL
  have HM := Lib.hid (dmade_ok b lb w h.c0)
  have HCS : Hid ((c = 0 ∧ s = 0) ∨ (1 ≤ c ∧ 1 ≤ s ∧ c ≤ 9223372036854775807 ∧ s ≤ 9223372036854775807)) := Lib.hid (by
    unfold posC at hc; unfold posS at hs
    by_cases hm : min client surface < 1
    · rw [if_pos hm] at hc hs; exact .inl ⟨hc.symm, hs.symm⟩
    · rw [if_neg hm] at hc hs; subst hc hs; exact .inr ⟨by omega, by omega, hb1, hb2⟩)
  have HP := Lib.hid (And.intro hc hs)
  have HO := Lib.hid ho
  have k1 := h.c1
  rw [h1] at k1
  have hlt := h.lt b h.rb
  clear h hL hc hs ho hb1 hb2
  go_enter Try.func20, Try.ntmps20
  go_wp2_with fail
  refine HM.out.mono ?_
  rintro e w' ⟨rfl, rfl⟩
  go_upto_if 28 with (fail)
  go_cut [1, 2] (fun v1 v2 wx => v1 = .int .i64 c ∧ v2 = .int .i64 s ∧ wx = w)
  case first =>
    by_cases hm : min client surface < 1
    · have hc : c = 0 := by rw [← HP.out.1]; unfold posC; rw [if_pos hm]
      have hs : s = 0 := by rw [← HP.out.2]; unfold posS; rw [if_pos hm]
      go_wp2_with fail
      go_meet
      case rel => rw [hc, hs]; exact ⟨rfl, rfl, rfl⟩
    · have hc : c = client := by rw [← HP.out.1]; unfold posC; rw [if_neg hm]
      have hs : s = surface := by rw [← HP.out.2]; unfold posS; rw [if_neg hm]
      go_wp2_with fail
      go_meet
      case rel => rw [hc, hs]; exact ⟨rfl, rfl, rfl⟩
  case rest =>
    obtain ⟨rfl, rfl, e⟩ := hcut
    have e := e.symm
    subst e
    have hh := HH.out
    have k10 := hh.c10
    have k11 := hh.c11
    have hlt := hh.lt b hh.rb
    clear hh k1 
    go_upto_region 5 with (fail)
    go_cut [41] from 29 to 42 (fun v41 wx => v41 = .bool (decide (d.timed = false ∨ d.latest < time)) ∧ wx = w)
    case first =>
      cases ht : d.timed
      · rw [ht] at k10
        go_wp2_with fail
        go_meet
        case rel => exact ⟨by simp [ht], rfl⟩
      · rw [ht] at k10
        by_cases hl : d.latest < time
        · go_wp2_with fail
          go_meet
          case rel => exact ⟨by simp [ht, hl], rfl⟩
        · go_wp2_with fail
          go_meet
          case rel => exact ⟨by simp [ht]; omega, rfl⟩
    case rest =>
      obtain ⟨rfl, e⟩ := hcut
      have e := e.symm
      subst e
      go_upto_if 41 with (fail)
      go_cut [41] from 42 to 49 (fun v41 wx => DragHd wx b lb R (d.tick time) A n cap PA pn pcap ∧ Chg (fun x => x = b) w wx)
      case first =>
        have f1 := HH.out.fr
        by_cases hq : d.timed = false ∨ d.latest < time
        · have htk : d.tick time = { d with timed := true, latest := time } := if_pos hq
          have HTK := Lib.hid htk
          rw [decide_eq_true hq]
          clear htk hq
          go_wp2_with fail
          go_meet
          case rel =>
            rw [HTK.out]
            exact ⟨HH.out.upd { d with timed := true, latest := time } rfl rfl rfl HH.out.offs ((Chg.refl (fun x => x = b) _).set2 b 10 11 _ _ rfl) (at_setCell (i := 11) _ (at_setCell (i := 10) _ HH.out.at_)), (Chg.refl (fun x => x = b) _).set2 b 10 11 _ _ rfl⟩
        · have htk : d.tick time = d := if_neg hq
          have HTK := Lib.hid htk
          rw [decide_eq_false hq]
          clear htk hq
          go_wp2_with fail
          go_meet
          case rel =>
            rw [HTK.out]
            exact ⟨HH.out, Chg.refl _ _⟩
      case rest =>
        obtain ⟨hd, hk⟩ := hcut
        have HT := Lib.hid (tick_all d time)
        have HTL := Lib.hid (tick_left d time)
        have HD := Lib.hid hd
        have HK := Lib.hid hk
        have k4 := hd.c4
        rw [HT.out.2.1] at k4
        have k5 := hd.c5
        rw [HT.out.2.2.1] at k5
        have hlt := hd.lt b hd.rb
        clear hd hk
        go_upto_region 7 with (fail)
        go_cut [64] from 49 to 65 (fun v64 wx => v64 = .bool (decide (c = d.tc ∧ s = d.ts)) ∧ wx = wc)
        case first =>
          by_cases hc : c = d.tc
          · by_cases hs : s = d.ts
            · have hq : decide (c = d.tc ∧ s = d.ts) = true := decide_eq_true ⟨hc, hs⟩
              have hcb : (c == d.tc) = true := by simp [hc]
              have hsb : (s == d.ts) = true := by simp [hs]
              have HQ := Lib.hid hq
              clear hc hs hq
              go_wp2_with fail
              go_meet
              case rel => rw [HQ.out]; exact ⟨rfl, rfl⟩
            · have hq : decide (c = d.tc ∧ s = d.ts) = false := decide_eq_false (fun q => hs q.2)
              have hcb : (c == d.tc) = true := by simp [hc]
              have hsb : (s == d.ts) = false := by simp [hs]
              have HQ := Lib.hid hq
              clear hc hs hq
              go_wp2_with fail
              go_meet
              case rel => rw [HQ.out]; exact ⟨rfl, rfl⟩
          · have hq : decide (c = d.tc ∧ s = d.ts) = false := decide_eq_false (fun q => hc q.1)
            have hcb : (c == d.tc) = false := by simp [hc]
            have HQ := Lib.hid hq
            clear hc hq
            go_wp2_with fail
            go_meet
            case rel => rw [HQ.out]; exact ⟨rfl, rfl⟩
        case rest =>
          obtain ⟨rfl, e⟩ := hcut
          have e := e.symm
          subst e
          by_cases hq : c = d.tc ∧ s = d.ts
          · have m1 : d.moveCS c s time = d.tick time := if_pos hq
            have m2 : d.logCS L c s = L := if_pos (.inl hq)
            have m3 : d.outCS L c s x y time = if s = 0 then [] else [delivC c s 15 (d.tick time).latest x y 0 0 0] := if_pos hq
            have HQ := Lib.hid (And.intro m1 (And.intro m2 m3))
            rw [decide_eq_true hq]
            have k11 := HD.out.c11
            clear hq m1 m2 m3
            by_cases hs : s = 0
            · have HS := Lib.hid hs
              have hsb : (s == 0) = true := by simp [hs]
              clear hs
              go_wp2
              go_ret
              rw [HQ.out.1, HQ.out.2.1, HQ.out.2.2, if_pos HS.out]
              exact ⟨_, rfl, World.ownsRow_nil _ _ _ _, ⟨A, n, cap, PA, pn, pcap, HD.out⟩, HL.out.chg HK.out (fun e => HH.out.rl (by rw [e]; exact HH.out.rb)), HK.out.mono (fun _ _ e => .inl e)⟩
            · have HS := Lib.hid hs
              have hsb : (s == 0) = false := by simp [hs]
              clear hs
              go_wp2
              go_ret
              rw [HQ.out.1, HQ.out.2.1, HQ.out.2.2, if_neg HS.out]
              exact ⟨_, rfl, World.ownsRow.mono (out_one wc c s 15 (d.tick time).latest x y 0 0 0) HK.out.size, ⟨A, n, cap, PA, pn, pcap, HD.out.chg ((Chg.refl (fun _ => False) wc).alloc _) (fun _ _ q => q)⟩, HL.out.chg (HK.out.trans (Chg.of_same ((Chg.refl (fun _ => False) wc).alloc _))) (fun e => HH.out.rl (by rw [e]; exact HH.out.rb)), (HK.out.trans (Chg.of_same ((Chg.refl (fun _ => False) wc).alloc _))).mono (fun _ _ e => .inl e)⟩
          · have m1 : d.moveCS c s time = { (d.tick time).aim c s with offers := if s = 0 then d.offers else d.offers + 1 } := if_neg hq
            have m3 : d.outCS L c s x y time = if s = 0 then d.left else d.left ++ [delivC c s 14 0 x y ((d.offers + 1 : Nat) : Int) 0 (L.issueN c s 14)] := if_neg hq
            have HQ := Lib.hid (And.intro m1 m3)
            have HQN := Lib.hid hq
            rw [decide_eq_false hq]
            clear hq m1 m3
            go_wp2_with fail
            refine (dleave_ok d.left ⟨A, n, cap, PA, pn, pcap, HD.out⟩ HTL.out).mono ?_
            rintro e w2 ⟨v, rfl, hout, hs2⟩
            have HOUT := Lib.hid hout
            have HS2 := Lib.hid hs2
            have hd2 := HD.out.chg hs2 (fun _ _ q => q)
            have HD2 := Lib.hid hd2
            have j4 := hd2.c4
            have j5 := hd2.c5
            have j6 := hd2.c6
            have j7 := hd2.c7
            have j8 := hd2.c8
            have f2 := hd2.fr
            have hlt2 := hd2.lt b hd2.rb
            have HNB : Hid (∀ x, x = b → x < wc.heap.size) := Lib.hid (fun x e => by rw [e]; exact hlt)
            clear hout hs2 hd2 k4 k5 hlt
            by_cases hs : s = 0
            · have hc : c = 0 := by rcases HCS.out with q | q <;> omega
              subst hs hc
              go_wp2
              go_ret
              rw [HQ.out.1, HQ.out.2, if_pos trivial, if_pos trivial, ← aim_same]
              exact ⟨v, rfl, World.ownsRow.mono (HOUT.out.chg (aim_chg w2 b 0 0) HNB.out) HK.out.size, ⟨A, n, cap, PA, pn, pcap, HD2.out.aimed 0 0⟩, by
                have e : d.logCS L 0 0 = L := if_pos (.inr rfl)
                rw [e]
                exact HL.out.chg ((HK.out.trans (Chg.of_same HS2.out)).trans (aim_chg w2 b 0 0)) (fun e => HH.out.rl (by rw [e]; exact HH.out.rb)), ((HK.out.trans (Chg.of_same HS2.out)).trans (aim_chg w2 b 0 0)).mono (fun _ _ e => .inl e)⟩
            · have HS := Lib.hid hs
              have hsb : (s == 0) = false := by simp [hs]
              have hc1 : 1 ≤ c ∧ 1 ≤ s ∧ c ≤ 9223372036854775807 ∧ s ≤ 9223372036854775807 := by rcases HCS.out with q | q <;> omega
              have HC1 := Lib.hid hc1
              have m2 : d.logCS L c s = L.issue c s 14 := if_neg (fun q => by rcases q with q | q; exact HQN.out q; exact HS.out q)
              have HM2 := Lib.hid m2
              have s1 : IntKind.i64.wrap ((d.offers : Int) + 1) = (d.offers : Int) + 1 := IntWalk.i64_in _ (by have := HO.out; omega)
              clear hs hc1 m2
              go_upto_region 15 with (fail)
              have HA3 := Lib.hid (HD2.out.aimed c s)
              have HK3 := Lib.hid (aim_chg w2 b c s)
              generalize (((((w2.setCell ⟨b, 4, none⟩ (.int .i64 c)).setCell ⟨b, 5, none⟩ (.int .i64 s)).setCell ⟨b, 6, none⟩ (.string ⟨#[]⟩)).setCell ⟨b, 7, none⟩ (.int .i64 0)).setCell ⟨b, 8, none⟩ (.int .i64 0)) = w3 at *
              clear j4 j5 j6 j7 j8 f2 hlt2
              have f3 := HA3.out.fr
              have g9 : w3.cell? ⟨b, 9, none⟩ = some (.int .i64 d.offers) := by
                have := HA3.out.c9
                have e : ((d.tick time).aim c s).offers = d.offers := HT.out.2.2.2.1
                rw [e] at this
                exact this
              have g0 := HA3.out.c0
              have hlt3 := HA3.out.lt b HA3.out.rb
              have hm4 : DragHd (w3.setCell ⟨b, 9, none⟩ (.int .i64 ((d.offers : Int) + 1))) b lb R { (d.tick time).aim c s with offers := d.offers + 1 } A n cap PA pn pcap :=
                HA3.out.upd { (d.tick time).aim c s with offers := d.offers + 1 } rfl rfl rfl (by have := HO.out; show d.offers + 1 ≤ 1000000; omega) (Chg.setCell (Chg.refl _ w3) _ _ (fun _ => rfl)) (at_setCell (i := 9) (.int .i64 ((d.offers : Int) + 1)) HA3.out.at_)
              have HK24 := Lib.hid (HK3.out.trans (Chg.setCell (Chg.refl (fun x => x = b) w3) ⟨b, 9, none⟩ (.int .i64 ((d.offers : Int) + 1)) (fun _ => rfl)))
              have HK4 := Lib.hid ((((Chg.of_same (S := fun x => x = b) HS2.out).trans HK3.out)).trans (Chg.setCell (Chg.refl (fun x => x = b) w3) ⟨b, 9, none⟩ (.int .i64 ((d.offers : Int) + 1)) (fun _ => rfl)))
              have HM4 := Lib.hid hm4
              clear hm4
              go_wp2_with fail
              refine (issue_ok lb _ L c s 14 (HL.out.chg (HK.out.trans HK4.out) (fun e => HH.out.rl (by rw [e]; exact HH.out.rb))) HC1.out.2.2.1 HC1.out.2.2.2).mono ?_
              rintro e w5 ⟨rfl, hl5, hk5⟩
              have HL5 := Lib.hid hl5
              have hd5 := HM4.out.chg hk5 (fun x hx e => HM4.out.rl (by rw [← e]; exact hx))
              have HD5 := Lib.hid hd5
              have HK5 := Lib.hid hk5
              have HO5 : Hid (OutAt wc.heap.size w5 v d.left) := Lib.hid (HOUT.out.chg (S := fun x => x = b ∨ x = lb) (Chg.trans (HK24.out.mono (fun _ _ e => Or.inl e)) (hk5.mono (fun _ _ e => Or.inr e))) (fun x e => by
                rcases e with e | e
                · exact HNB.out x e
                · have := HD.out.ll; omega))
              have g9 : w5.cell? ⟨b, 9, none⟩ = some (.int .i64 ((d.offers : Int) + 1)) := hd5.c9
              have hlt5 := hd5.lt b hd5.rb
              have HSZ := Lib.hid (Nat.le_trans HK4.out.size hk5.size)
              have HLL : Hid (d.left.length ≤ 1) := Lib.hid (by unfold DSt.left; split <;> simp)
              clear hl5 hk5 hd5 g0 f3 hlt3
              go_wp2_with (at_builtin; refine wpl_append1 wc.heap.size 72 _ 9 72 Try.underlying40 infoDeliv rfl (by omega) v d.left.length d.left.flatten (HO5.out.alloc _) rfl w5.heap.size 1 (delivC c s 14 0 x y ((d.offers : Int) + 1) 0 (L.issueN c s 14)) rfl (at_new w5 _) rfl (by simp [delivC, Value.oneCell']) (by have := HLL.out; omega) (by omega) (by have := HSZ.out; simp; omega) ?_; intro gg gcap w6 hown hgr hat hlt6; have HOWN := Lib.hid (And.intro hown (Chg.grownO ((Chg.refl (fun _ => False) w5).alloc _) hgr)); clear hown hgr hat hlt6)
              go_ret
              have hlo : ∀ x, some x = v.ownBlock → wc.heap.size ≤ x := fun x e => (World.ownsRow.lt HO5.out x e.symm).1
              have hk6 := HOWN.out.2
              rw [HQ.out.1, HQ.out.2, if_neg HS.out, if_neg HS.out, HM2.out]
              refine ⟨_, rfl, World.ownsRow.mono (OutAt.push HOWN.out.1) HK.out.size, ⟨A, n, cap, PA, pn, pcap, HD5.out.chg hk6 (fun x hx e => by have := HD.out.lt x hx; have := hlo x e; omega)⟩, HL5.out.chg hk6 (fun e => by have := HD.out.ll; have := hlo lb e; omega), ?_⟩
              refine Chg.then_ (Chg.trans (HK.out.mono (fun _ _ e => Or.inl e)) (Chg.trans (HK4.out.mono (fun _ _ e => Or.inl e)) (HK5.out.mono (fun _ _ e => Or.inr e)))) hk6 (fun x hx e => ?_)
              have := hlo x e
              have := HK.out.size
              omega
end
end Go.Proofs.Yteolilggeaffaaa
