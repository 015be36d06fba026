/- The walk of valid: is a serial that of the client's last button on the surface? -/
import Derived.Test.YteolilggeaffaaaDragN
set_option linter.unusedVariables false
set_option linter.unusedSimpArgs false
set_option maxRecDepth 100000
namespace Go.Proofs.Yteolilggeaffaaa
open Go.RowKit

def validD (L : SLog) (client surface n : Int) : Bool := ((L.find n).c != 0) && (((L.find n).f == surface) && ((L.check n client 16 == 0) && (L.latest client 16 == n)))
section
variable {w w' : World} {b lb : Nat} {R : Nat → Prop} {d : DSt} {L : SLog}
set_option maxHeartbeats 4000000 in
theorem dvalid_ok (bv : Bool) (client surface n : Int) (h : DragAt w b lb R d) (hL : LogAt w lb L) (hv : validD L client surface n = bv) :
    Calls Try.prog 59 #[.pointer (some ⟨b, 0, none⟩), .int .i64 client, .int .i64 surface, .int .u32 n] w fun e w' => e = .returned (.bool bv) ∧ Same w w' := by
  obtain ⟨A, m, cap, PA, pn, pcap, h⟩ := h
  subst hv
  have HF := Lib.hid (find_ok lb w n L hL)
  have HL := Lib.hid hL
  have c0 := h.c0
  have hlt := h.lt b h.rb
  clear h hL
  unfold validD
  obtain ⟨vc, hvc⟩ : ∃ vc, L.check n client 16 = vc := ⟨_, rfl⟩
  obtain ⟨vl, hvl⟩ : ∃ vl, L.latest client 16 = vl := ⟨_, rfl⟩
  rw [hvc, hvl]
  have HV := Lib.hid (And.intro hvc hvl)
  clear hvc hvl
  generalize L.find n = x at *
  obtain ⟨s, c, f, k⟩ := x
  simp only [entRes] at HF
  simp only
  cases hc : (c != 0)
  · rw [hc] at HF
    clear hc
    go_enter Try.func59, Try.ntmps59
    go_wp2_with fail
    refine HF.out.mono ?_
    rintro e w1 ⟨rfl, hs⟩
    have HS := Lib.hid hs
    clear hs
    go_wp2
    go_ret
    exact ⟨rfl, HS.out.alloc _⟩
  · rw [hc] at HF
    clear hc
    cases hf : (f == surface)
    · have hf2 : ¬ f = surface := by simpa using hf
      go_enter Try.func59, Try.ntmps59
      go_wp2_with fail
      refine HF.out.mono ?_
      rintro e w1 ⟨rfl, hs⟩
      have HS := Lib.hid hs
      clear hs
      go_wp2
      go_ret
      exact ⟨rfl, HS.out.alloc _⟩
    · obtain rfl : f = surface := by simpa using hf
      cases hk : (vc == 0)
      · have hk2 : ¬ vc = 0 := by simpa using hk
        go_enter Try.func59, Try.ntmps59
        go_wp2_with fail
        refine HF.out.mono ?_
        rintro e w1 ⟨rfl, hs⟩
        have d0 := hs.cell c0 (fun q => q)
        have hlt1 := Nat.lt_of_lt_of_le hlt hs.size
        have HS := Lib.hid hs
        clear hs
        go_wp2_with fail
        refine (check_ok lb _ n client 16 L (HL.out.chg (HS.out.alloc _) (fun q => q))).mono ?_
        rw [HV.out.1]
        rintro e w2 ⟨rfl, hs⟩
        have HS2 := Lib.hid ((HS.out.alloc _).trans hs)
        clear hs
        go_wp2
        go_ret
        exact ⟨rfl, HS2.out⟩
      · obtain rfl : vc = 0 := by simpa using hk
        go_enter Try.func59, Try.ntmps59
        go_wp2_with fail
        refine HF.out.mono ?_
        rintro e w1 ⟨rfl, hs⟩
        have d0 := hs.cell c0 (fun q => q)
        have hlt1 := Nat.lt_of_lt_of_le hlt hs.size
        have HS := Lib.hid hs
        clear hs
        go_wp2_with fail
        refine (check_ok lb _ n client 16 L (HL.out.chg (HS.out.alloc _) (fun q => q))).mono ?_
        rw [HV.out.1]
        rintro e w2 ⟨rfl, hs⟩
        have HS2 := Lib.hid ((HS.out.alloc _).trans hs)
        have d2 := HS2.out.cell c0 (fun q => q)
        clear hs
        go_wp2_with fail
        refine (latest_ok lb _ client 16 L (HL.out.chg HS2.out (fun q => q))).mono ?_
        rw [HV.out.2]
        rintro e w3 ⟨rfl, hs⟩
        have HS3 := Lib.hid (HS2.out.trans hs)
        clear hs
        go_wp2
        go_ret
        exact ⟨by simp, HS3.out⟩
end
end Go.Proofs.Yteolilggeaffaaa
