/- The walk of TransferComplete: for all arguments it returns true and leaves what was there as it was. -/
import Derived.Test.YtgpfnfcfmogefaaComplM
set_option linter.unusedVariables false
set_option linter.unusedSimpArgs false
namespace Go.Proofs.Ytgpfnfcfmogefaa
open Go.RowKit

set_option maxRecDepth 100000 in
set_option maxHeartbeats 8000000 in
theorem complete_main (A : Option Addr) (N cap : Nat) (xs : List Int) (a1 a2 : Nat) (w : World) (h : BytesAt w (fun _ => True) A N cap xs) (hl : N ≤ 3000) (h1 : a1 ≤ 255) (h2 : a2 ≤ 255) :
    Calls Try.prog 3 #[.slice A N cap, .int .u8 a1, .int .u8 a2] w fun e w' => e = .returned (.bool true) ∧ Same w w' := by
  have HB := Lib.hid h
  have HXL := Lib.hid h.1
  have hlc := h.2.1
  have hcm : cap ≤ 9223372036854775807 := by have := h.2.2.1; unfold maxLen at this; omega
  clear h
  have hcv := fun (w : World) (C : Array Value) (n c : Nat) => Lib.run_convert_bytes_const (P := Try.prog) w 22 5 C n c Try.underlying22 Try.underlying5
  have HCV := Lib.hid hcv
  clear hcv
  go_enter Try.func3, Try.ntmps3
  go_wp2_with fail
  refine (pnew_v _ ((a1 : Int) + 1) (by omega) (by omega)).mono ?_
  rintro e w1 ⟨b, R, rfl, hp, hc⟩
  have HP1 := Lib.hid hp
  clear hp hc
  go_wp2_with fail
  refine (pgrant_v (cst (a1 + 1) xs 0 0) 0 _ HP1.out (by omega) (by unfold PSt.grE PSt.over PSt.new; simp; omega) (by unfold PSt.grant PSt.grE PSt.over PSt.new cst; simp; omega)).mono ?_
  rintro e w2 ⟨rfl, hp, hc⟩
  have HP2 := Lib.hid hp
  clear hp hc
  go_wp2_with fail
  go_loopw [11, 12, 49] (fun v11 v12 v49 wr => CRel w b (a1 + 1) N xs v11 v12 v49 wr) (fun _ _ v49 _ => 10000 - (intOf v49).toNat)
  case atStart => exact ⟨0, 0, 0, A, cap, R, by omega, by omega, by omega, by omega, rfl, by simp, by simpa using HB.out, OwnG.nil _ _ _, HP2.out⟩
  case round =>
    obtain ⟨p, g, i, A12, c12, R1, hpN, hgp, hpn, hip, rfl, rfl, hb12, hown, hpip⟩ := hrel
    have HB12 := Lib.hid hb12
    have HO := Lib.hid hown
    have HP := Lib.hid hpip
    have hcle : N - p ≤ c12 := hb12.2.1
    have hcmm : c12 ≤ 9223372036854775807 := by have := hb12.2.2.1; unfold maxLen at this; omega
    clear hb12 hown hpip
    have hi1 : (i : Int) < 2 * (N : Int) + 2 := by omega
    by_cases hdone : N - p = 0
    · obtain rfl : p = N := by omega
      have HCL := Lib.hid (cst_close (n := a1 + 1) HXL.out g)
      have HXL0 := Lib.hid (show xs.drop p = [] by rw [← HXL.out]; exact List.drop_length)
      clear hdone hpN HB12
      go_wp2_with fail
      refine (pclose_v _ 0 HP.out HCL.out.1 HCL.out.2).mono ?_
      rintro e w3 ⟨rfl, hp3, hc3⟩
      have HP3 := Lib.hid hp3
      have HO3 := Lib.hid (HO.out.chgS hc3 (fun _ q => q))
      clear hp3 hc3
      go_wp2_with fail
      refine (pclose_v ⟨(a1 + 1 : Nat), 0, xs.drop g, true, false⟩ 20 HP3.out (by rfl) (by rfl)).mono ?_
      rintro e w4 ⟨rfl, hp4, hc4⟩
      have HP4 := Lib.hid hp4
      have HO4 := Lib.hid (HO3.out.chgS hc4 (fun _ q => q))
      clear hp4 hc4
      obtain ⟨wo, hwo⟩ : ∃ wo : World, wo = wr := ⟨_, rfl⟩
      clear hwo
      go_wp2_with fail
      go_loopw [11, 110] (fun v11 v110 wr => CRel2 w b (a1 + 1) p xs v11 v110 wr) (fun _ v110 _ => 10000 - (intOf v110).toNat)
      case atStart => exact ⟨g, 0, R1, hgp, by omega, rfl, HO4.out, HP4.out⟩
      case round =>
        obtain ⟨g2, i2, R2, hg2, hi2, rfl, hown, hpip⟩ := hrel
        have HO5 := Lib.hid hown
        have HP5 := Lib.hid hpip
        have hi3 : (i2 : Int) < (p : Int) + 2 := by omega
        clear hown hpip
        by_cases hlt : g2 < p
        · obtain ⟨j, hj⟩ : ∃ j, j = min (a2 + 1) (p - g2) := ⟨_, rfl⟩
          have HR := Lib.hid (cls_read (n := a1 + 1) (k := a2 + 1) HXL.out hlt hj (kk := (a2 : Int) + 1) (by omega))
          have hj0 : 0 < j := by omega
          have hjp : g2 + j ≤ p := by omega
          have HGL : Hid ((xs.take g2).length = g2) := Lib.hid (by rw [List.length_take, HXL.out]; omega)
          clear hj
          go_wp2_with fail
          refine (pread_n _ _ j 0 _ HP5.out HR.out.2.1 HR.out.2.2.2 HR.out.1 HR.out.2.2.1).mono ?_
          rintro e w6 ⟨A6, c6, rfl, hb6, hp6, hc6⟩
          have HP6 := Lib.hid hp6
          have HO6 := Lib.hid (HO5.out.chgS hc6 (fun _ q => q))
          have HB6 := Lib.hid (BytesAt.off hb6 HP5.out.pipe.lt)
          have HSZ6 := Lib.hid hp6.same.size
          clear hp6 hc6 hb6
          go_wp2_with (at_builtin; refine wpl_appendG' HO6.out g2 HGL.out HP6.out.pipe.lt rfl A6 j c6 _ rfl HB6.out (by omega) HSZ6.out ?_; intro A7 c7 w7 ho7 hk7; have HO7 := Lib.hid ho7; have HP7 := Lib.hid (HP6.out.next hk7 (fun x hx => ⟨HO6.out.off x hx, (HO6.out.own.lt x hx).1⟩)); clear ho7 hk7)
          go_roundw
          case rel =>
            have ho := HO7.out
            rw [take_more] at ho
            exact ⟨g2 + j, i2 + 1, R2, by omega, by omega, by go_num, ho, HP7.out⟩
          case measure => simp [intOf]; omega
        · obtain rfl : g2 = p := by omega
          have HR := Lib.hid (cls_over (n := a1 + 1) (k := a2 + 1) HXL.out (kk := (a2 : Int) + 1) (by omega))
          have HTK : Hid (xs.take g2 = xs) := Lib.hid (by rw [← HXL.out]; exact List.take_length)
          have HO5' : Hid (OwnG w wr R2 _ xs) := Lib.hid (by have := HO5.out; rw [HTK.out] at this; exact this)
          clear hlt
          go_wp2_with fail
          refine (pread_n _ [] 0 20 _ HP5.out HR.out.2.1 rfl HR.out.1 HR.out.2.2).mono ?_
          rintro e w6 ⟨A6, c6, rfl, hb6, hp6, hc6⟩
          have HP6 := Lib.hid hp6
          have HO6 := Lib.hid (HO5'.out.chgS hc6 (fun _ q => q))
          clear hp6 hc6 hb6
          have hcv := HCV.out
          go_wp2_with fail
          clear hcv
          refine (pwrite_v ⟨(a1 + 1 : Nat), 0, [], true, false⟩ 0 20 _ 1 1 [1] (HP6.out.same_ ((Chg.refl _ _).alloc _)) (bytes_new _ _ _ 1 [1] _ rfl rfl (by unfold maxLen; omega)) (by rfl) (by rfl) (by rfl)).mono ?_
          rintro e w8 ⟨rfl, R8, hp, hR, hc⟩
          have HP8 := Lib.hid hp
          have HO8 := Lib.hid ((HO6.out.chg ((Chg.refl (fun _ => False) w6).alloc _) (fun _ q _ => q)).wrote hc hR)
          clear hp hR hc
          obtain ⟨A11, c11, hv11, hb11⟩ := HO8.out.bytes
          subst hv11
          have hcv1 := run_cv hb11
          have hcv2 := run_cv (HB.out.chg HP8.out.same (fun _ _ q => q))
          have HB11 := Lib.hid hb11
          clear hb11
          go_wp2_with fail
          refine (pdone_v true HP8.out (by rfl)).mono ?_
          rintro e w' ⟨rfl, rfl⟩
          go_wp2_with fail
          refine (pcancel_v ⟨(a1 + 1 : Nat), 0, [], true, false⟩ 20 HP8.out (by rfl) (by rfl)).mono ?_
          rintro e w9 ⟨rfl, hp, hc⟩
          have HP9 := Lib.hid hp
          clear hp hc hcv1 hcv2
          go_wp2_with fail
          refine (example41_ok _).mono ?_
          rintro e w10 ⟨rfl, hs⟩
          have HS10 := Lib.hid hs
          clear hs
          go_wp2
          go_ret
          exact ⟨rfl, HP9.out.same.trans HS10.out⟩
    · have hpN' : p < N := by omega
      obtain ⟨m, hm⟩ : ∃ m, m = min (N - p) (a1 + 1 - (p - g)) := ⟨_, rfl⟩
      have HW := Lib.hid (cst_write (n := a1 + 1) HXL.out hpN hgp hpn hm)
      have hm0 : 0 < m := by omega
      have hmN : p + m ≤ N := by omega
      obtain ⟨j, hj⟩ : ∃ j, j = min (a2 + 1) (p + m - g) := ⟨_, rfl⟩
      have HR := Lib.hid (cst_read (n := a1 + 1) (k := a2 + 1) HXL.out hmN (show g ≤ p + m by omega) hj (kk := (a2 : Int) + 1) (by omega))
      have HG := Lib.hid (cst_grant (n := a1 + 1) HXL.out hmN (show g + j ≤ p + m by omega))
      have hj0 : 0 < j := by omega
      have hjp : g + j ≤ p + m := by omega
      have hnm : p + m ≤ g + (a1 + 1) := by omega
      clear hm hj
      have hdz : ((N - p : Nat) : Int) ≠ 0 := by omega
      have hmlt : ¬ (((N - p : Nat) : Int) < m) := by omega
      go_wp2_with fail
      refine (pwrite_v (cst (a1 + 1) xs (p + m) g) m 0 A12 _ c12 (xs.drop p) HP.out (HB12.out.chg HP.out.same (fun _ _ q => q)) (by rw [HW.out.1]) HW.out.2.1 HW.out.2.2).mono ?_
      rintro e w3 ⟨rfl, R3, hp3, hR3, hc3⟩
      have HP3 := Lib.hid hp3
      have HO3 := Lib.hid (HO.out.wrote hc3 hR3)
      clear hp3 hR3 hc3
      obtain ⟨An, hAn, hsl⟩ := slice_from A12 (N - p) c12 m (by omega)
      have HAN := Lib.hid hAn
      clear hAn
      go_wp2_with fail
      clear hsl
      refine (pread_n _ _ j 0 _ HP3.out HR.out.2.1 HR.out.2.2.2 HR.out.1 HR.out.2.2.1).mono ?_
      rintro e w4 ⟨A4, c4, rfl, hb4, hp4, hc4⟩
      have HP4 := Lib.hid hp4
      have HO4 := Lib.hid (HO3.out.chgS hc4 (fun _ q => q))
      have HB4 := Lib.hid (BytesAt.off hb4 HP3.out.pipe.lt)
      clear hp4 hc4 hb4
      go_wp2_with fail
      refine (pgrant_v _ 0 j HP4.out (by omega) HG.out.1 HG.out.2).mono ?_
      rintro e w5 ⟨rfl, hp5, hc5⟩
      have HP5 := Lib.hid hp5
      have HO5 := Lib.hid (HO4.out.chgS hc5 (fun _ q => q))
      have HB5 := Lib.hid (HB4.out.chg hc5 (fun x hx q => hx q))
      have HSZ5 := Lib.hid hp5.same.size
      have HGL : Hid ((xs.take g).length = g) := Lib.hid (by rw [List.length_take, HXL.out]; omega)
      clear hp5 hc5
      go_wp2_with (at_builtin; refine wpl_appendG' HO5.out g HGL.out HP5.out.pipe.lt rfl A4 j c4 _ rfl HB5.out (by omega) HSZ5.out ?_; intro A6 c6 w6 ho6 hk6; have HO6 := Lib.hid ho6; have HP6 := Lib.hid (HP5.out.next hk6 (fun x hx => ⟨HO5.out.off x hx, (HO5.out.own.lt x hx).1⟩)); clear ho6 hk6)
      go_roundw
      case rel =>
        have ho := HO6.out
        rw [take_more] at ho
        have hb := HB12.out.drop (show m ≤ N - p by omega)
        rw [← HAN.out, List.drop_drop, Nat.sub_sub] at hb
        exact ⟨p + m, g + j, i + 1, An, c12 - m, R3, by omega, by omega, by omega, by omega, by go_num, by rw [Nat.sub_sub], hb, ho, HP6.out⟩
      case measure => simp [intOf]; omega

theorem TransferComplete_walk (A : Option Addr) (len cap : Nat) (xs : List Int) (a1 a2 : Int) (w : World) (h : BytesAt w (fun _ => True) A len cap xs) (h1 : 0 ≤ a1 ∧ a1 ≤ 255) (h2 : 0 ≤ a2 ∧ a2 ≤ 255) :
    Calls Try.prog 3 #[.slice A len cap, .int .u8 a1, .int .u8 a2] w fun e w' => e = .returned (.bool true) ∧ Same w w' := by
  have hlc := h.2.1
  have hcm := h.2.2.1
  unfold maxLen at hcm
  by_cases hl : 3000 < (len : Int)
  · exact complete_large A len cap a1 a2 w hl (by omega)
  obtain ⟨m1, rfl⟩ : ∃ m : Nat, a1 = (m : Int) := ⟨a1.toNat, by omega⟩
  obtain ⟨m2, rfl⟩ : ∃ m : Nat, a2 = (m : Int) := ⟨a2.toNat, by omega⟩
  exact complete_main A len cap xs m1 m2 w h (by omega) (by omega) (by omega)
end Go.Proofs.Ytgpfnfcfmogefaa
