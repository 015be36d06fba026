/- Parts of the walk, packed: DragS, DragT. -/
import Derived.Test.YteolilggeaffaaaPk14
import Derived.WalkMore
import Derived.Deep.LoopGhost
set_option linter.unusedVariables false
set_option linter.unusedSimpArgs false
set_option maxRecDepth 100000
namespace Go.Proofs.Yteolilggeaffaaa
open Go.RowKit

def DSt.startE (d : DSt) (L : SLog) (client surface icon : Int) (fs : List ByteArray) (acts n : Int) : Int :=
  if min client surface < 1 ∨ icon < 0 then 6 else if d.state ≠ 0 then 14 else if checkV fs acts ≠ 0 then checkV fs acts else if validD L client surface n then 0 else 13
def DSt.start (d : DSt) (L : SLog) (client surface icon : Int) (fs : List ByteArray) (acts n : Int) : DSt :=
  if d.startE L client surface icon fs acts n = 0 then { d.endS with state := 1, fmts := fs, acts := acts } else d
section
variable {w w' : World} {b lb : Nat} {R : Nat → Prop} {d : DSt} {L : SLog}
set_option maxHeartbeats 4000000 in
theorem dstart_range (client surface icon acts n : Int) (Ao : Option Addr) (no co : Nat) (h : DragAt w b lb R d) (h1 : min client surface < 1 ∨ icon < 0) :
    Calls Try.prog 31 #[.pointer (some ⟨b, 0, none⟩), .int .i64 client, .int .i64 surface, .int .i64 icon, .agg #[.slice Ao no co, .int .i64 acts], .int .u32 n] w fun e w' => e = .returned (.int .i64 6) ∧ Same w w' := by
  obtain ⟨A, m, cap, PA, pn, pcap, h⟩ := h
  have HM := Lib.hid (fun (w' : World) (hs : Same w w') => dmade_ok b lb w' (hs.cell h.c0 (fun q => q)))
  clear h
  go_enter Try.func31, Try.ntmps31
  go_wp2
  go_step3
  go_wp2_with fail
  refine (HM.out _ ((Chg.refl _ _).alloc _)).mono ?_
  rintro e w' ⟨rfl, rfl⟩
  go_wp2
  go_step3
  go_wp2
  go_loopw [13, 18] (fun v13 v18 wr => v13 = .int .i64 0 ∧ v18 = .int .i64 0 ∧ Same w wr) (fun _ _ _ => 0)
  case atStart => exact ⟨rfl, rfl, (Chg.refl _ _).alloc _⟩
  case round =>
    obtain ⟨rfl, rfl, hs⟩ := hrel
    have HS := Lib.hid hs
    clear hs
    by_cases h2 : min client surface < 1
    · go_wp2
      try rw [Exit.noGoto_ret]
      go_ret
      exact ⟨rfl, HS.out⟩
    · have h3 : icon < 0 := by omega
      go_wp2
      try rw [Exit.noGoto_ret]
      go_ret
      exact ⟨rfl, HS.out⟩
set_option maxHeartbeats 4000000 in
theorem dstart_state (client surface icon acts n : Int) (Ao : Option Addr) (no co : Nat) (h : DragAt w b lb R d) (h1 : ¬ (min client surface < 1)) (h2 : ¬ icon < 0) (h3 : d.state ≠ 0) :
    Calls Try.prog 31 #[.pointer (some ⟨b, 0, none⟩), .int .i64 client, .int .i64 surface, .int .i64 icon, .agg #[.slice Ao no co, .int .i64 acts], .int .u32 n] w fun e w' => e = .returned (.int .i64 14) ∧ Same w w' := by
  obtain ⟨A, m, cap, PA, pn, pcap, h⟩ := h
  have HM := Lib.hid (fun (w' : World) (hs : Same w w') => dmade_ok b lb w' (hs.cell h.c0 (fun q => q)))
  have HC := Lib.hid (fun (w' : World) (hs : Same w w') => hs.cell h.c1 (fun q => q))
  have h3b : (d.state == 0) = false := by simp [h3]
  have h3c : (d.state != 0) = true := by simp [h3]
  clear h
  go_enter Try.func31, Try.ntmps31
  go_wp2
  go_step3
  go_wp2_with fail
  refine (HM.out _ ((Chg.refl _ _).alloc _)).mono ?_
  rintro e w' ⟨rfl, rfl⟩
  go_wp2
  go_step3
  go_wp2
  go_loopw [13, 18] (fun v13 v18 wr => v13 = .int .i64 0 ∧ (v18 = .int .i64 0 ∨ v18 = .int .i64 1) ∧ Same w wr) (fun _ v18 _ => 2 - (intOf v18).toNat)
  case atStart => exact ⟨rfl, .inl rfl, (Chg.refl _ _).alloc _⟩
  case round =>
    obtain ⟨rfl, hk, hs⟩ := hrel
    have HS := Lib.hid hs
    clear hs
    rcases hk with rfl | rfl
    · go_wp2
      go_roundw
      case rel => exact ⟨rfl, .inr rfl, HS.out⟩
      case measure => simp [intOf]
    · have k1 := HC.out _ HS.out
      go_wp2
      try rw [Exit.noGoto_ret]
      go_ret
      exact ⟨rfl, HS.out⟩
set_option maxHeartbeats 4000000 in
theorem dstart_check (v client surface icon acts n : Int) (Ao : Option Addr) (no co : Nat) (fs : List ByteArray) (h : DragAt w b lb R d) (ha : SArg w Ao no co fs) (h1 : ¬ (min client surface < 1)) (h2 : ¬ icon < 0) (h3 : d.state = 0) (h4 : checkV fs acts = v) (h5 : v ≠ 0) :
    Calls Try.prog 31 #[.pointer (some ⟨b, 0, none⟩), .int .i64 client, .int .i64 surface, .int .i64 icon, .agg #[.slice Ao no co, .int .i64 acts], .int .u32 n] w fun e w' => e = .returned (.int .i64 v) ∧ Same w w' := by
  obtain ⟨A, m, cap, PA, pn, pcap, h⟩ := h
  have HM := Lib.hid (fun (w' : World) (hs : Same w w') => dmade_ok b lb w' (hs.cell h.c0 (fun q => q)))
  have HC := Lib.hid (fun (w' : World) (hs : Same w w') => hs.cell h.c1 (fun q => q))
  have HB0 := at_new w (.cells #[.slice Ao no co, .int .i64 acts] 74)
  have HX := Lib.hid (fun (w' : World) (hs : Same (w.alloc (.cells #[.slice Ao no co, .int .i64 acts] 74)) w') => And.intro (hs.cell (cell_at (C := [.slice Ao no co, .int .i64 acts]) HB0 0) (fun q => q)) (hs.cell (cell_at (C := [.slice Ao no co, .int .i64 acts]) HB0 1) (fun q => q)))
  have HS0 := Lib.hid ((Chg.refl (fun _ => False) w).alloc (.cells #[.slice Ao no co, .int .i64 acts] 74))
  have HA := Lib.hid ha
  have HV := Lib.hid h4
  have h5b : (v == 0) = false := by simp [h5]
  have h5c : (v != 0) = true := by simp [h5]
  clear h HB0 ha h4
  go_enter Try.func31, Try.ntmps31
  go_wp2
  go_step3
  go_wp2_with fail
  refine (HM.out _ HS0.out).mono ?_
  rintro e w' ⟨rfl, rfl⟩
  go_wp2
  go_step3
  go_wp2
  go_loopw [13, 18] (fun v13 v18 wr => v13 = .int .i64 0 ∧ (v18 = .int .i64 0 ∨ v18 = .int .i64 1 ∨ v18 = .int .i64 2) ∧ Same (w.alloc (.cells #[.slice Ao no co, .int .i64 acts] 74)) wr) (fun _ v18 _ => 3 - (intOf v18).toNat)
  case atStart => exact ⟨rfl, .inl rfl, Chg.refl _ _⟩
  case round =>
    obtain ⟨rfl, hk, hs⟩ := hrel
    have HS := Lib.hid hs
    clear hs
    rcases hk with rfl | rfl | rfl
    · go_wp2
      go_roundw
      case rel => exact ⟨rfl, .inr (.inl rfl), HS.out⟩
      case measure => simp [intOf]
    · have k1 := HC.out _ (HS0.out.trans HS.out)
      rw [h3] at k1
      go_wp2
      go_roundw
      case rel => exact ⟨rfl, .inr (.inr rfl), HS.out⟩
      case measure => simp [intOf]
    · obtain ⟨b0, b1⟩ := HX.out _ HS.out
      go_wp2_with fail
      refine (ocheck_v v Ao no co fs acts wr (HA.out.same (HS0.out.trans HS.out)).1 (HA.out.2.1) HA.out.2.2 HV.out).mono ?_
      rintro e w2 ⟨rfl, hs⟩
      have HS2 := Lib.hid ((HS0.out.trans HS.out).trans hs)
      clear hs b0 b1
      go_wp2
      try rw [Exit.noGoto_ret]
      go_ret
      exact ⟨rfl, HS2.out⟩
set_option maxHeartbeats 4000000 in
theorem dstart_serial (client surface icon acts n : Int) (Ao : Option Addr) (no co : Nat) (fs : List ByteArray) (h : DragAt w b lb R d) (ha : SArg w Ao no co fs) (h1 : ¬ (min client surface < 1)) (h2 : ¬ icon < 0) (h3 : d.state = 0) (h4 : checkV fs acts = 0) (hL : LogAt w lb L) (h5 : validD L client surface n = false) :
    Calls Try.prog 31 #[.pointer (some ⟨b, 0, none⟩), .int .i64 client, .int .i64 surface, .int .i64 icon, .agg #[.slice Ao no co, .int .i64 acts], .int .u32 n] w fun e w' => e = .returned (.int .i64 13) ∧ Same w w' := by
  have HD := Lib.hid (And.intro h hL)
  obtain ⟨A, m, cap, PA, pn, pcap, h⟩ := h
  have HM := Lib.hid (fun (w' : World) (hs : Same w w') => dmade_ok b lb w' (hs.cell h.c0 (fun q => q)))
  have HC := Lib.hid (fun (w' : World) (hs : Same w w') => hs.cell h.c1 (fun q => q))
  have HB0 := at_new w (.cells #[.slice Ao no co, .int .i64 acts] 74)
  have HX := Lib.hid (fun (w' : World) (hs : Same (w.alloc (.cells #[.slice Ao no co, .int .i64 acts] 74)) w') => And.intro (hs.cell (cell_at (C := [.slice Ao no co, .int .i64 acts]) HB0 0) (fun q => q)) (hs.cell (cell_at (C := [.slice Ao no co, .int .i64 acts]) HB0 1) (fun q => q)))
  have HS0 := Lib.hid ((Chg.refl (fun _ => False) w).alloc (.cells #[.slice Ao no co, .int .i64 acts] 74))
  have HA := Lib.hid ha
  have HV := Lib.hid h4
  have H5 := Lib.hid h5
  clear h HB0 ha h4 hL h5
  go_enter Try.func31, Try.ntmps31
  go_wp2
  go_step3
  go_wp2_with fail
  refine (HM.out _ HS0.out).mono ?_
  rintro e w' ⟨rfl, rfl⟩
  go_wp2
  go_step3
  go_wp2
  go_loopw [13, 18] (fun v13 v18 wr => ((v13 = .int .i64 0 ∧ (v18 = .int .i64 0 ∨ v18 = .int .i64 1 ∨ v18 = .int .i64 2 ∨ v18 = .int .i64 3)) ∨ (v13 = .int .i64 13 ∧ v18 = .int .i64 4)) ∧ Same (w.alloc (.cells #[.slice Ao no co, .int .i64 acts] 74)) wr) (fun _ v18 _ => 5 - (intOf v18).toNat)
  case atStart => exact ⟨.inl ⟨rfl, .inl rfl⟩, Chg.refl _ _⟩
  case round =>
    obtain ⟨hk, hs⟩ := hrel
    have HS := Lib.hid hs
    clear hs
    rcases hk with ⟨rfl, rfl | rfl | rfl | rfl⟩ | ⟨rfl, rfl⟩
    · go_wp2
      go_roundw
      case rel => exact ⟨.inl ⟨rfl, .inr (.inl rfl)⟩, HS.out⟩
      case measure => simp [intOf]
    · have k1 := HC.out _ (HS0.out.trans HS.out)
      rw [h3] at k1
      go_wp2
      go_roundw
      case rel => exact ⟨.inl ⟨rfl, .inr (.inr (.inl rfl))⟩, HS.out⟩
      case measure => simp [intOf]
    · obtain ⟨b0, b1⟩ := HX.out _ HS.out
      go_wp2_with fail
      refine (ocheck_v 0 Ao no co fs acts wr (HA.out.same (HS0.out.trans HS.out)).1 (HA.out.2.1) HA.out.2.2 HV.out).mono ?_
      rintro e w2 ⟨rfl, hs⟩
      have HS2 := Lib.hid (HS.out.trans hs)
      clear hs b0 b1
      go_wp2
      go_roundw
      case rel => exact ⟨.inl ⟨rfl, .inr (.inr (.inr rfl))⟩, HS2.out⟩
      case measure => simp [intOf]
    · go_wp2_with fail
      refine (dvalid_ok false client surface n (HD.out.1.same (HS0.out.trans HS.out)) (HD.out.2.chg (HS0.out.trans HS.out) (fun q => q)) H5.out).mono ?_
      rintro e w2 ⟨rfl, hs⟩
      have HS2 := Lib.hid (HS.out.trans hs)
      clear hs
      go_wp2
      exact ⟨⟨.inr ⟨rfl, rfl⟩, HS2.out⟩, by simp [intOf]⟩
    · go_wp2
      try rw [Exit.noGoto_ret]
      go_ret
      exact ⟨rfl, HS0.out.trans HS.out⟩
end
end Go.Proofs.Yteolilggeaffaaa

namespace Go.Proofs.Yteolilggeaffaaa
open Go.RowKit

section
variable {w w' : World} {b lb : Nat} {R : Nat → Prop} {d : DSt} {L : SLog}
/-- The drag begins anew: other formats, no transfers. -/
theorem DragHd.started {A A' PA : Option Addr} {n cap n' cap' pn pcap : Nat} (h : DragHd w b lb R d A n cap PA pn pcap) (d' : DSt) (hfl : d'.flows = d.flows) (hol : d'.old = d.flows.length) (ho : d'.offers ≤ 1000000) (hl : d'.fmts.length ≤ 1000) (k : Chg (fun x => x = b) w w')
    (hb : w'.heap[b]? = some (.cells (dcells lb d' A' n' cap' none 0 0).toArray 84 (0, 0))) (hf : SArg w' A' n' cap' d'.fmts) (hnew : 0 < n' → ∀ g o, A' = some ⟨g, o, none⟩ → w.heap.size ≤ g ∧ g < w'.heap.size) :
    DragHd w' b lb (fun x => R x ∨ (w.heap.size ≤ x ∧ x < w'.heap.size ∧ ∃ o, A' = some ⟨x, o, none⟩)) d' A' n' cap' none 0 0 := by
  have hlt := h.lt
  refine ⟨hb, hf, ?_, ?_, fun g hg => by simp [Value.ownBlock] at hg, ?_, ?_, ?_, .inl h.rb, fun x hx => ?_, fun q => ?_, Nat.lt_of_lt_of_le h.ll k.size, ?_, ho, hl, ?_⟩
  · intro hn g o hA
    have h1 := hnew hn g o hA
    refine ⟨.inr ⟨h1.1, h1.2, o, hA⟩, ?_, by simp [Value.ownBlock], fun x hx hr => ?_⟩
    · rintro rfl; have := hlt _ h.rb; omega
    · rw [hfl] at hx; have := hlt _ (h.sub x hx g hr).1; omega
  · rw [hfl, hol, List.drop_length]; exact World.ownsRow_nil _ _ _ _
  · rw [hfl]; exact fun x hx => (h.pipes x hx).chg k (fun i hi => (h.sub x hx i hi).2)
  · rw [hfl]; exact fun x hx i hi => ⟨.inl (h.sub x hx i hi).1, (h.sub x hx i hi).2⟩
  · rw [hfl]; exact h.apart
  · rcases hx with hx | hx
    · exact Nat.lt_of_lt_of_le (h.lt x hx) k.size
    · exact hx.2.1
  · rcases q with q | q
    · exact h.rl q
    · have := h.ll; omega
  · rw [hfl]; exact h.few
  · rw [hfl, hol]; exact Nat.le_refl _
theorem start_chg (w : World) (b : Nat) : Chg (fun x => x = b) w (((((((w.setCell ⟨b, 1, none⟩ (.int .i64 1)).setCell ⟨b, 4, none⟩ (.int .i64 0)).setCell ⟨b, 5, none⟩ (.int .i64 0)).setCell ⟨b, 6, none⟩ (.string ⟨#[]⟩)).setCell ⟨b, 7, none⟩ (.int .i64 0)).setCell ⟨b, 8, none⟩ (.int .i64 0)).setCell ⟨b, 12, none⟩ (.slice none 0 0)) := by
  refine Chg.setCell (Chg.setCell (Chg.setCell (Chg.setCell (Chg.setCell (Chg.setCell (Chg.setCell (Chg.refl (fun x => x = b) w) _ _ ?_) _ _ ?_) _ _ ?_) _ _ ?_) _ _ ?_) _ _ ?_) _ _ ?_
  all_goals exact fun _ => rfl
theorem start_at {A PA : Option Addr} {n cap pn pcap : Nat} (h : w.heap[b]? = some (.cells (dcells lb d A n cap PA pn pcap).toArray 84 (0, 0))) :
    (((((((w.setCell ⟨b, 1, none⟩ (.int .i64 1)).setCell ⟨b, 4, none⟩ (.int .i64 0)).setCell ⟨b, 5, none⟩ (.int .i64 0)).setCell ⟨b, 6, none⟩ (.string ⟨#[]⟩)).setCell ⟨b, 7, none⟩ (.int .i64 0)).setCell ⟨b, 8, none⟩ (.int .i64 0)).setCell ⟨b, 12, none⟩ (.slice none 0 0)).heap[b]? = some (.cells (dcells lb { d.endS with state := 1 } A n cap none 0 0).toArray 84 (0, 0)) :=
  at_setCell (i := 12) _ (at_setCell (i := 8) _ (at_setCell (i := 7) _ (at_setCell (i := 6) _ (at_setCell (i := 5) _ (at_setCell (i := 4) _ (at_setCell (i := 1) _ h))))))
theorem start_few {fs : List ByteArray} {acts : Int} (h : checkV fs acts = 0) : fs.length ≤ 16 := by
  unfold checkV at h
  split at h
  · cases h
  · omega
def DSt.begin (d : DSt) (fs : List ByteArray) (acts : Int) : DSt := { d.endS with state := 1, fmts := fs, acts := acts }
def DSOut (b lb : Nat) (R : Nat → Prop) (d' : DSt) (v : Int) (w : World) (e : Ending) (w' : World) : Prop :=
  e = .returned (.int .i64 v) ∧ ∃ R', DragAt w' b lb R' d' ∧ Own R R' w w'
theorem start_end {w w1 w2 w' : World} {A PA : Option Addr} {n cap pn pcap : Nat} (h : DragHd w b lb R d A n cap PA pn pcap) (acts : Int) (fs : List ByteArray) (hfs : fs.length ≤ 1000) (k1 : Same w w1) (k2 : Same (((((((w1.setCell ⟨b, 1, none⟩ (.int .i64 1)).setCell ⟨b, 4, none⟩ (.int .i64 0)).setCell ⟨b, 5, none⟩ (.int .i64 0)).setCell ⟨b, 6, none⟩ (.string ⟨#[]⟩)).setCell ⟨b, 7, none⟩ (.int .i64 0)).setCell ⟨b, 8, none⟩ (.int .i64 0)).setCell ⟨b, 12, none⟩ (.slice none 0 0)) w2)
    {A' : Option Addr} {n' cap' : Nat} (hs : SArg w2 A' n' cap' fs) (hnew : 0 < n' → ∀ g o, A' = some ⟨g, o, none⟩ → w1.heap.size ≤ g ∧ g < w2.heap.size) (hw : (w2.setCell ⟨b, 2, none⟩ (.slice A' n' cap')).setCell ⟨b, 3, none⟩ (.int .i64 acts) = w') :
    ∃ R', DragAt w' b lb R' (d.begin fs acts) ∧ Own R R' w w' := by
  subst hw
  have hb := h.lt b h.rb
  have kk : Chg (fun x => x = b) w w2 := ((Chg.of_same (S := fun x => x = b) k1).trans (start_chg w1 b)).trans (Chg.of_same k2)
  have kk' : Chg (fun x => x = b) w ((w2.setCell ⟨b, 2, none⟩ (.slice A' n' cap')).setCell ⟨b, 3, none⟩ (.int .i64 acts)) := Chg.set2 (S := fun x => x = b) kk b 2 3 _ _ rfl
  have hat : w2.heap[b]? = some (.cells (dcells lb { d.endS with state := 1 } A n cap none 0 0).toArray 84 (0, 0)) := k2.at_ (start_at (k1.at_ h.at_ (fun q => q))) (fun q => q)
  refine ⟨_, ⟨A', n', cap', none, 0, 0, DragHd.started h (d.begin fs acts) rfl rfl h.offs hfs kk' ?_ ?_ ?_⟩, kk'.mono (fun x _ e => by subst e; exact h.rb), fun x hx => ?_⟩
  · exact at_setCell (i := 3) _ (at_setCell (i := 2) _ hat)
  · refine hs.chg2 ((Chg.refl (fun x => x = b) w2).set2 b 2 3 _ _ rfl) (fun hn g o hA e => ?_)
    have := hnew hn g o hA
    have := k1.size
    omega
  · intro hn g o hA
    have := hnew hn g o hA
    have := k1.size
    simp
    omega
  · rcases hx with hx | hx
    · exact .inl hx
    · exact .inr hx.1
set_option maxHeartbeats 4000000 in
theorem dstart_yes (client surface icon acts n : Int) (Ao : Option Addr) (no co : Nat) (fs : List ByteArray) (h : DragAt w b lb R d) (ha : SArg w Ao no co fs) (h1 : ¬ (min client surface < 1)) (h2 : ¬ icon < 0) (h3 : d.state = 0) (h4 : checkV fs acts = 0) (hL : LogAt w lb L) (h5 : validD L client surface n = true) (hd : 0 < no → ∀ g o, Ao = some ⟨g, o, none⟩ → ¬ R g) :
    Calls Try.prog 31 #[.pointer (some ⟨b, 0, none⟩), .int .i64 client, .int .i64 surface, .int .i64 icon, .agg #[.slice Ao no co, .int .i64 acts], .int .u32 n] w (DSOut b lb R (d.begin fs acts) 0 w) := by
  have HD := Lib.hid (And.intro h hL)
  obtain ⟨A, m, cap, PA, pn, pcap, h⟩ := h
  have HH := Lib.hid h
  have HM := Lib.hid (fun (w' : World) (hs : Same w w') => dmade_ok b lb w' (hs.cell h.c0 (fun q => q)))
  have HC := Lib.hid (fun (w' : World) (hs : Same w w') => hs.cell h.c1 (fun q => q))
  have HB0 := at_new w (.cells #[.slice Ao no co, .int .i64 acts] 74)
  have HX := Lib.hid (fun (w' : World) (hs : Same (w.alloc (.cells #[.slice Ao no co, .int .i64 acts] 74)) w') => And.intro (hs.cell (cell_at (C := [.slice Ao no co, .int .i64 acts]) HB0 0) (fun q => q)) (hs.cell (cell_at (C := [.slice Ao no co, .int .i64 acts]) HB0 1) (fun q => q)))
  have HS0 := Lib.hid ((Chg.refl (fun _ => False) w).alloc (.cells #[.slice Ao no co, .int .i64 acts] 74))
  have hrb := h.rb
  have HA := Lib.hid ha
  have HAD : Hid (0 < no → ∀ g o, Ao = some ⟨g, o, none⟩ → ¬ g = b) := Lib.hid (fun hn g o hA e => hd hn g o hA (by rw [e]; exact hrb))
  have HV := Lib.hid h4
  have HFEW := Lib.hid (start_few h4)
  have H5 := Lib.hid h5
  have hlt := h.lt b h.rb
  have HLT := Lib.hid hlt
  clear h HB0 ha h4 hL h5 hlt hrb hd
  go_enter Try.func31, Try.ntmps31
  go_wp2
  go_step3
  go_wp2_with fail
  refine (HM.out _ HS0.out).mono ?_
  rintro e w' ⟨rfl, rfl⟩
  go_wp2
  go_step3
  go_wp2
  go_loopw [13, 18] (fun v13 v18 wr => (v13 = .int .i64 0 ∧ (v18 = .int .i64 0 ∨ v18 = .int .i64 1 ∨ v18 = .int .i64 2 ∨ v18 = .int .i64 3 ∨ v18 = .int .i64 4)) ∧ Same (w.alloc (.cells #[.slice Ao no co, .int .i64 acts] 74)) wr) (fun _ v18 _ => 5 - (intOf v18).toNat)
  case atStart => exact ⟨⟨rfl, .inl rfl⟩, Chg.refl _ _⟩
  case round =>
    obtain ⟨hk, hs⟩ := hrel
    have HS := Lib.hid hs
    clear hs
    rcases hk with ⟨rfl, rfl | rfl | rfl | rfl | rfl⟩
    · go_wp2
      go_roundw
      case rel => exact ⟨⟨rfl, .inr (.inl rfl)⟩, HS.out⟩
      case measure => simp [intOf]
    · have k1 := HC.out _ (HS0.out.trans HS.out)
      rw [h3] at k1
      go_wp2
      go_roundw
      case rel => exact ⟨⟨rfl, .inr (.inr (.inl rfl))⟩, HS.out⟩
      case measure => simp [intOf]
    · obtain ⟨b0, b1⟩ := HX.out _ HS.out
      go_wp2_with fail
      refine (ocheck_v 0 Ao no co fs acts wr (HA.out.same (HS0.out.trans HS.out)).1 (HA.out.2.1) HA.out.2.2 HV.out).mono ?_
      rintro e w2 ⟨rfl, hs⟩
      have HS2 := Lib.hid (HS.out.trans hs)
      clear hs b0 b1
      go_wp2
      go_roundw
      case rel => exact ⟨⟨rfl, .inr (.inr (.inr (.inl rfl)))⟩, HS2.out⟩
      case measure => simp [intOf]
    · go_wp2_with fail
      refine (dvalid_ok true client surface n (HD.out.1.same (HS0.out.trans HS.out)) (HD.out.2.chg (HS0.out.trans HS.out) (fun q => q)) H5.out).mono ?_
      rintro e w2 ⟨rfl, hs⟩
      have HS2 := Lib.hid (HS.out.trans hs)
      clear hs
      go_wp2
      exact ⟨⟨⟨rfl, .inr (.inr (.inr (.inr rfl)))⟩, HS2.out⟩, by simp [intOf]⟩
    · have hk := HS0.out.trans HS.out
      have HK := Lib.hid hk
      have hh := HH.out.chg hk (fun _ _ q => q)
      have f1 := hh.fr
      have k1 := hh.c1
      have k4 := hh.c4
      have k5 := hh.c5
      have k6 := hh.c6
      have k7 := hh.c7
      have k8 := hh.c8
      have k12 := hh.c12
      have hlt := hh.lt b hh.rb
      have HCH := Lib.hid (start_chg wr b)
      have HCA := Lib.hid (start_at (d := d) (lb := lb) hh.at_)
      obtain ⟨b0, b1⟩ := HX.out _ HS.out
      have b0 := (start_chg wr b).cell b0 (by have := HLT.out; show ¬ w.heap.size = b; omega)
      have b1 := (start_chg wr b).cell b1 (by have := HLT.out; show ¬ w.heap.size = b; omega)
      have HBB := Lib.hid (And.intro b0 b1)
      clear hh hk b0 b1
      go_wp2_with fail
      have hpb := HBB.out
      clear f1 k1 k4 k5 k6 k7 k8 k12 hlt
      refine region_path (S := (fun w' => w'.cell? ⟨w.heap.size, 0, none⟩ = some (.slice Ao no co) ∧ w'.cell? ⟨w.heap.size, 1, none⟩ = some (.int .i64 acts))) 99 [(0, true), (1, true), (2, true), (4, true), (5, true), (3, false), (6, true), (7, true), (8, true), (9, false)] (by kernel_rfl) (by kernel_rfl) (by kernel_rfl) (⟨(Chg.refl (fun _ => False) _).drew.cell hpb.1 (fun q => q), (Chg.refl (fun _ => False) _).drew.cell hpb.2 (fun q => q)⟩) ?_
      refine path_read (i := 0) (v := ?v36_0) rfl (by rfl) (fun _ _ _ h => h) ?hy36_0 ?_
      case hy36_0 => ((intro w hSw; (try dsimp only at hSw); go_simp) <;> (try with_reducible rfl))
      try simp only [Act.put, List.setIfInBounds_toArray, List.set_cons_zero, List.set_cons_succ]
      refine path_read (i := 1) (v := ?v36_1) rfl (by rfl) (fun _ _ _ h => h) ?hy36_1 ?_
      case hy36_1 => ((intro w hSw; (try dsimp only at hSw); go_simp) <;> (try with_reducible rfl))
      try simp only [Act.put, List.setIfInBounds_toArray, List.set_cons_zero, List.set_cons_succ]
      refine path_read (i := 2) (v := ?v36_2) rfl (by rfl) (fun _ _ _ h => h) ?hy36_2 ?_
      case hy36_2 => ((intro w hSw; (try dsimp only at hSw); go_simp) <;> (try with_reducible rfl))
      try simp only [Act.put, List.setIfInBounds_toArray, List.set_cons_zero, List.set_cons_succ]
      refine path_read (i := 4) (v := ?v36_4) rfl (by rfl) (fun _ _ _ h => h) ?hy36_4 ?_
      case hy36_4 => ((intro w hSw; (try dsimp only at hSw); go_simp) <;> (try with_reducible rfl))
      try simp only [Act.put, List.setIfInBounds_toArray, List.set_cons_zero, List.set_cons_succ]
      refine path_read (i := 5) (v := ?v36_5) rfl (by rfl) (fun _ _ _ h => h) ?hy36_5 ?_
      case hy36_5 => ((intro w hSw; (try dsimp only at hSw); go_simp) <;> (try with_reducible rfl))
      try simp only [Act.put, List.setIfInBounds_toArray, List.set_cons_zero, List.set_cons_succ]
      refine path_do (i := 3) rfl ?_
      go_wp2_with ((go_at_call 60; go_loud (refine (clone_ok Ao no co fs _ (((HA.out.same HK.out).chg2 HCH.out (fun hn g o hA e => HAD.out hn g o hA e)).same (Chg.refl _ _).drew) (by have := HFEW.out; have := HA.out.1.1; omega)).mono ?_; rintro e w2 ⟨A2, cap2, rfl, hsa, hs, hnew⟩; have HSA := Lib.hid hsa; have HS2 := Lib.hid ((Chg.refl (fun _ => False) _).drew.trans hs); have HNEW := Lib.hid hnew; have hat2 := HS2.out.at_ HCA.out (fun q => q); have g2 := cell_at hat2 2; have g3 := cell_at hat2 3; simp only [dcells, List.getElem?_cons_succ, List.getElem?_cons_zero] at g2 g3; have f2 := frozen_at hat2; have hl2 := lt_of_at hat2; clear hsa hs hnew hat2)))
      (first | refine ⟨.inr ?keep36_3, ?_⟩ | refine ⟨?keep36_3, ?_⟩)
      case keep36_3 => (have h := HBB.out; have h1 := HS2.out.cell h.1 (fun q => q); have h2 := HS2.out.cell h.2 (fun q => q); first | exact ⟨h1, h2⟩ | exact ⟨((Chg.refl (fun x => x = b) w2).set2 b 2 3 _ _ rfl).cell h1 (by have := HLT.out; show ¬ w.heap.size = b; omega), ((Chg.refl (fun x => x = b) w2).set2 b 2 3 _ _ rfl).cell h2 (by have := HLT.out; show ¬ w.heap.size = b; omega)⟩)
      try simp only [Act.put, List.setIfInBounds_toArray, List.set_cons_zero, List.set_cons_succ]
      refine path_read (i := 6) (v := ?v36_6) rfl (by rfl) (fun _ _ _ h => h) ?hy36_6 ?_
      case hy36_6 => ((intro w hSw; (try dsimp only at hSw); go_simp) <;> (try with_reducible rfl))
      try simp only [Act.put, List.setIfInBounds_toArray, List.set_cons_zero, List.set_cons_succ]
      refine path_read (i := 7) (v := ?v36_7) rfl (by rfl) (fun _ _ _ h => h) ?hy36_7 ?_
      case hy36_7 => ((intro w hSw; (try dsimp only at hSw); go_simp) <;> (try with_reducible rfl))
      try simp only [Act.put, List.setIfInBounds_toArray, List.set_cons_zero, List.set_cons_succ]
      refine path_read (i := 8) (v := ?v36_8) rfl (by rfl) (fun _ _ _ h => h) ?hy36_8 ?_
      case hy36_8 => ((intro w hSw; (try dsimp only at hSw); go_simp) <;> (try with_reducible rfl))
      try simp only [Act.put, List.setIfInBounds_toArray, List.set_cons_zero, List.set_cons_succ]
      refine path_do (i := 9) rfl ?_
      go_wp2_with ((go_at_call 60; go_loud (refine (clone_ok Ao no co fs _ (((HA.out.same HK.out).chg2 HCH.out (fun hn g o hA e => HAD.out hn g o hA e)).same (Chg.refl _ _).drew) (by have := HFEW.out; have := HA.out.1.1; omega)).mono ?_; rintro e w2 ⟨A2, cap2, rfl, hsa, hs, hnew⟩; have HSA := Lib.hid hsa; have HS2 := Lib.hid ((Chg.refl (fun _ => False) _).drew.trans hs); have HNEW := Lib.hid hnew; have hat2 := HS2.out.at_ HCA.out (fun q => q); have g2 := cell_at hat2 2; have g3 := cell_at hat2 3; simp only [dcells, List.getElem?_cons_succ, List.getElem?_cons_zero] at g2 g3; have f2 := frozen_at hat2; have hl2 := lt_of_at hat2; clear hsa hs hnew hat2)))
      (first | refine ⟨.inr ?keep36_9, ?_⟩ | refine ⟨?keep36_9, ?_⟩)
      case keep36_9 => (have h := HBB.out; have h1 := HS2.out.cell h.1 (fun q => q); have h2 := HS2.out.cell h.2 (fun q => q); first | exact ⟨h1, h2⟩ | exact ⟨((Chg.refl (fun x => x = b) w2).set2 b 2 3 _ _ rfl).cell h1 (by have := HLT.out; show ¬ w.heap.size = b; omega), ((Chg.refl (fun x => x = b) w2).set2 b 2 3 _ _ rfl).cell h2 (by have := HLT.out; show ¬ w.heap.size = b; omega)⟩)
      try simp only [Act.put, List.setIfInBounds_toArray, List.set_cons_zero, List.set_cons_succ]
      refine path_end ?_
      go_wp2
      go_ret
      exact ⟨rfl, start_end HH.out acts fs (by have := HFEW.out; omega) HK.out HS2.out HSA.out (fun hn g o hA => ⟨by have := (HNEW.out hn g o hA).1; simpa using this, (HNEW.out hn g o hA).2⟩) rfl⟩
end
end Go.Proofs.Yteolilggeaffaaa
