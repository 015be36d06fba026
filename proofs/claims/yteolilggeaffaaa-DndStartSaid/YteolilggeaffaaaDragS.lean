/- The walk of Start: why it refuses. -/
import Derived.Test.YteolilggeaffaaaDragV
import Derived.WalkMore
import Derived.Deep.LoopGhost
set_option linter.unusedVariables false
set_option linter.unusedSimpArgs false
set_option maxRecDepth 100000
namespace Go.Proofs.Yteolilggeaffaaa
open Go.RowKit

def DSt.startE (d : DSt) (L : SLog) (client surface icon : Int) (fs : List ByteArray) (acts n : Int) : Int :=
  if min client surface < 1 ∨ icon < 0 then 6 else if d.state ≠ 0 then 14 else if checkV fs acts ≠ 0 then checkV fs acts else if validD L client surface n then 0 else 13
def DSt.start (d : DSt) (L : SLog) (client surface icon : Int) (fs : List ByteArray) (acts n : Int) : DSt :=
  if d.startE L client surface icon fs acts n = 0 then { d.endS with state := 1, fmts := fs, acts := acts } else d
section
variable {w w' : World} {b lb : Nat} {R : Nat → Prop} {d : DSt} {L : SLog}
set_option maxHeartbeats 4000000 in
theorem dstart_range (client surface icon acts n : Int) (Ao : Option Addr) (no co : Nat) (h : DragAt w b lb R d) (h1 : min client surface < 1 ∨ icon < 0) :
    Calls Try.prog 31 #[.pointer (some ⟨b, 0, none⟩), .int .i64 client, .int .i64 surface, .int .i64 icon, .agg #[.slice Ao no co, .int .i64 acts], .int .u32 n] w fun e w' => e = .returned (.int .i64 6) ∧ Same w w' := by
  obtain ⟨A, m, cap, PA, pn, pcap, h⟩ := h
  have HM := Lib.hid (fun (w' : World) (hs : Same w w') => dmade_ok b lb w' (hs.cell h.c0 (fun q => q)))
  clear h
  go_enter Try.func31, Try.ntmps31
  go_wp2
  go_step3
  go_wp2_with fail
  refine (HM.out _ ((Chg.refl _ _).alloc _)).mono ?_
  rintro e w' ⟨rfl, rfl⟩
  go_wp2
  go_step3
  go_wp2
  go_loopw [13, 18] (fun v13 v18 wr => v13 = .int .i64 0 ∧ v18 = .int .i64 0 ∧ Same w wr) (fun _ _ _ => 0)
  case atStart => exact ⟨rfl, rfl, (Chg.refl _ _).alloc _⟩
  case round =>
    obtain ⟨rfl, rfl, hs⟩ := hrel
    have HS := Lib.hid hs
    clear hs
    by_cases h2 : min client surface < 1
    · go_wp2
      try rw [Exit.noGoto_ret]
      go_ret
      exact ⟨rfl, HS.out⟩
    · have h3 : icon < 0 := by omega
      go_wp2
      try rw [Exit.noGoto_ret]
      go_ret
      exact ⟨rfl, HS.out⟩
set_option maxHeartbeats 4000000 in
theorem dstart_state (client surface icon acts n : Int) (Ao : Option Addr) (no co : Nat) (h : DragAt w b lb R d) (h1 : ¬ (min client surface < 1)) (h2 : ¬ icon < 0) (h3 : d.state ≠ 0) :
    Calls Try.prog 31 #[.pointer (some ⟨b, 0, none⟩), .int .i64 client, .int .i64 surface, .int .i64 icon, .agg #[.slice Ao no co, .int .i64 acts], .int .u32 n] w fun e w' => e = .returned (.int .i64 14) ∧ Same w w' := by
  obtain ⟨A, m, cap, PA, pn, pcap, h⟩ := h
  have HM := Lib.hid (fun (w' : World) (hs : Same w w') => dmade_ok b lb w' (hs.cell h.c0 (fun q => q)))
  have HC := Lib.hid (fun (w' : World) (hs : Same w w') => hs.cell h.c1 (fun q => q))
  have h3b : (d.state == 0) = false := by simp [h3]
  have h3c : (d.state != 0) = true := by simp [h3]
  clear h
  go_enter Try.func31, Try.ntmps31
  go_wp2
  go_step3
  go_wp2_with fail
  refine (HM.out _ ((Chg.refl _ _).alloc _)).mono ?_
  rintro e w' ⟨rfl, rfl⟩
  go_wp2
  go_step3
  go_wp2
  go_loopw [13, 18] (fun v13 v18 wr => v13 = .int .i64 0 ∧ (v18 = .int .i64 0 ∨ v18 = .int .i64 1) ∧ Same w wr) (fun _ v18 _ => 2 - (intOf v18).toNat)
  case atStart => exact ⟨rfl, .inl rfl, (Chg.refl _ _).alloc _⟩
  case round =>
    obtain ⟨rfl, hk, hs⟩ := hrel
    have HS := Lib.hid hs
    clear hs
    rcases hk with rfl | rfl
    · go_wp2
      go_roundw
      case rel => exact ⟨rfl, .inr rfl, HS.out⟩
      case measure => simp [intOf]
    · have k1 := HC.out _ HS.out
      go_wp2
      try rw [Exit.noGoto_ret]
      go_ret
      exact ⟨rfl, HS.out⟩
set_option maxHeartbeats 4000000 in
theorem dstart_check (v client surface icon acts n : Int) (Ao : Option Addr) (no co : Nat) (fs : List ByteArray) (h : DragAt w b lb R d) (ha : SArg w Ao no co fs) (h1 : ¬ (min client surface < 1)) (h2 : ¬ icon < 0) (h3 : d.state = 0) (h4 : checkV fs acts = v) (h5 : v ≠ 0) :
    Calls Try.prog 31 #[.pointer (some ⟨b, 0, none⟩), .int .i64 client, .int .i64 surface, .int .i64 icon, .agg #[.slice Ao no co, .int .i64 acts], .int .u32 n] w fun e w' => e = .returned (.int .i64 v) ∧ Same w w' := by
  obtain ⟨A, m, cap, PA, pn, pcap, h⟩ := h
  have HM := Lib.hid (fun (w' : World) (hs : Same w w') => dmade_ok b lb w' (hs.cell h.c0 (fun q => q)))
  have HC := Lib.hid (fun (w' : World) (hs : Same w w') => hs.cell h.c1 (fun q => q))
  have HB0 := at_new w (.cells #[.slice Ao no co, .int .i64 acts] 74)
  have HX := Lib.hid (fun (w' : World) (hs : Same (w.alloc (.cells #[.slice Ao no co, .int .i64 acts] 74)) w') => And.intro (hs.cell (cell_at (C := [.slice Ao no co, .int .i64 acts]) HB0 0) (fun q => q)) (hs.cell (cell_at (C := [.slice Ao no co, .int .i64 acts]) HB0 1) (fun q => q)))
  have HS0 := Lib.hid ((Chg.refl (fun _ => False) w).alloc (.cells #[.slice Ao no co, .int .i64 acts] 74))
  have HA := Lib.hid ha
  have HV := Lib.hid h4
  have h5b : (v == 0) = false := by simp [h5]
  have h5c : (v != 0) = true := by simp [h5]
  clear h HB0 ha h4
  go_enter Try.func31, Try.ntmps31
  go_wp2
  go_step3
  go_wp2_with fail
  refine (HM.out _ HS0.out).mono ?_
  rintro e w' ⟨rfl, rfl⟩
  go_wp2
  go_step3
  go_wp2
  go_loopw [13, 18] (fun v13 v18 wr => v13 = .int .i64 0 ∧ (v18 = .int .i64 0 ∨ v18 = .int .i64 1 ∨ v18 = .int .i64 2) ∧ Same (w.alloc (.cells #[.slice Ao no co, .int .i64 acts] 74)) wr) (fun _ v18 _ => 3 - (intOf v18).toNat)
  case atStart => exact ⟨rfl, .inl rfl, Chg.refl _ _⟩
  case round =>
    obtain ⟨rfl, hk, hs⟩ := hrel
    have HS := Lib.hid hs
    clear hs
    rcases hk with rfl | rfl | rfl
    · go_wp2
      go_roundw
      case rel => exact ⟨rfl, .inr (.inl rfl), HS.out⟩
      case measure => simp [intOf]
    · have k1 := HC.out _ (HS0.out.trans HS.out)
      rw [h3] at k1
      go_wp2
      go_roundw
      case rel => exact ⟨rfl, .inr (.inr rfl), HS.out⟩
      case measure => simp [intOf]
    · obtain ⟨b0, b1⟩ := HX.out _ HS.out
      go_wp2_with fail
      refine (ocheck_v v Ao no co fs acts wr (HA.out.same (HS0.out.trans HS.out)).1 (HA.out.2.1) HA.out.2.2 HV.out).mono ?_
      rintro e w2 ⟨rfl, hs⟩
      have HS2 := Lib.hid ((HS0.out.trans HS.out).trans hs)
      clear hs b0 b1
      go_wp2
      try rw [Exit.noGoto_ret]
      go_ret
      exact ⟨rfl, HS2.out⟩
set_option maxHeartbeats 4000000 in
theorem dstart_serial (client surface icon acts n : Int) (Ao : Option Addr) (no co : Nat) (fs : List ByteArray) (h : DragAt w b lb R d) (ha : SArg w Ao no co fs) (h1 : ¬ (min client surface < 1)) (h2 : ¬ icon < 0) (h3 : d.state = 0) (h4 : checkV fs acts = 0) (hL : LogAt w lb L) (h5 : validD L client surface n = false) :
    Calls Try.prog 31 #[.pointer (some ⟨b, 0, none⟩), .int .i64 client, .int .i64 surface, .int .i64 icon, .agg #[.slice Ao no co, .int .i64 acts], .int .u32 n] w fun e w' => e = .returned (.int .i64 13) ∧ Same w w' := by
  have HD := Lib.hid (And.intro h hL)
  obtain ⟨A, m, cap, PA, pn, pcap, h⟩ := h
  have HM := Lib.hid (fun (w' : World) (hs : Same w w') => dmade_ok b lb w' (hs.cell h.c0 (fun q => q)))
  have HC := Lib.hid (fun (w' : World) (hs : Same w w') => hs.cell h.c1 (fun q => q))
  have HB0 := at_new w (.cells #[.slice Ao no co, .int .i64 acts] 74)
  have HX := Lib.hid (fun (w' : World) (hs : Same (w.alloc (.cells #[.slice Ao no co, .int .i64 acts] 74)) w') => And.intro (hs.cell (cell_at (C := [.slice Ao no co, .int .i64 acts]) HB0 0) (fun q => q)) (hs.cell (cell_at (C := [.slice Ao no co, .int .i64 acts]) HB0 1) (fun q => q)))
  have HS0 := Lib.hid ((Chg.refl (fun _ => False) w).alloc (.cells #[.slice Ao no co, .int .i64 acts] 74))
  have HA := Lib.hid ha
  have HV := Lib.hid h4
  have H5 := Lib.hid h5
  clear h HB0 ha h4 hL h5
  go_enter Try.func31, Try.ntmps31
  go_wp2
  go_step3
  go_wp2_with fail
  refine (HM.out _ HS0.out).mono ?_
  rintro e w' ⟨rfl, rfl⟩
  go_wp2
  go_step3
  go_wp2
  go_loopw [13, 18] (fun v13 v18 wr => ((v13 = .int .i64 0 ∧ (v18 = .int .i64 0 ∨ v18 = .int .i64 1 ∨ v18 = .int .i64 2 ∨ v18 = .int .i64 3)) ∨ (v13 = .int .i64 13 ∧ v18 = .int .i64 4)) ∧ Same (w.alloc (.cells #[.slice Ao no co, .int .i64 acts] 74)) wr) (fun _ v18 _ => 5 - (intOf v18).toNat)
  case atStart => exact ⟨.inl ⟨rfl, .inl rfl⟩, Chg.refl _ _⟩
  case round =>
    obtain ⟨hk, hs⟩ := hrel
    have HS := Lib.hid hs
    clear hs
    rcases hk with ⟨rfl, rfl | rfl | rfl | rfl⟩ | ⟨rfl, rfl⟩
    · go_wp2
      go_roundw
      case rel => exact ⟨.inl ⟨rfl, .inr (.inl rfl)⟩, HS.out⟩
      case measure => simp [intOf]
    · have k1 := HC.out _ (HS0.out.trans HS.out)
      rw [h3] at k1
      go_wp2
      go_roundw
      case rel => exact ⟨.inl ⟨rfl, .inr (.inr (.inl rfl))⟩, HS.out⟩
      case measure => simp [intOf]
    · obtain ⟨b0, b1⟩ := HX.out _ HS.out
      go_wp2_with fail
      refine (ocheck_v 0 Ao no co fs acts wr (HA.out.same (HS0.out.trans HS.out)).1 (HA.out.2.1) HA.out.2.2 HV.out).mono ?_
      rintro e w2 ⟨rfl, hs⟩
      have HS2 := Lib.hid (HS.out.trans hs)
      clear hs b0 b1
      go_wp2
      go_roundw
      case rel => exact ⟨.inl ⟨rfl, .inr (.inr (.inr rfl))⟩, HS2.out⟩
      case measure => simp [intOf]
    · go_wp2_with fail
      refine (dvalid_ok false client surface n (HD.out.1.same (HS0.out.trans HS.out)) (HD.out.2.chg (HS0.out.trans HS.out) (fun q => q)) H5.out).mono ?_
      rintro e w2 ⟨rfl, hs⟩
      have HS2 := Lib.hid (HS.out.trans hs)
      clear hs
      go_wp2
      exact ⟨⟨.inr ⟨rfl, rfl⟩, HS2.out⟩, by simp [intOf]⟩
    · go_wp2
      try rw [Exit.noGoto_ret]
      go_ret
      exact ⟨rfl, HS0.out.trans HS.out⟩
end
end Go.Proofs.Yteolilggeaffaaa
