/- Parts of the walk, packed: DragR, DragN, DragV. -/
import Derived.Test.YteolilggeaffaaaPk13
set_option linter.unusedVariables false
set_option linter.unusedSimpArgs false
set_option maxRecDepth 100000
namespace Go.Proofs.Yteolilggeaffaaa
open Go.RowKit

section
variable {w w' : World} {b lb : Nat} {R : Nat → Prop} {d : DSt}
theorem infoPipeP : (Try.prog.info? 43).map (fun i => (i.zero, i.size, i.bytes)) = some (some (.pointer none), 1, 8) := by kernel_rfl
set_option maxHeartbeats 4000000 in
theorem drcv_no (v client win : Int) (f : ByteArray) (h : DragAt w b lb R d) (hv : d.rcvE client f win = v) (h0 : v ≠ 0) :
    Calls Try.prog 17 #[.pointer (some ⟨b, 0, none⟩), .int .i64 client, .string f, .int .i64 win] w fun e w' => e = .returned (.tuple #[.pointer none, .int .i64 v]) ∧ w = w' := by
  obtain ⟨va, hva⟩ : ∃ va, d.acc client 2 = va := ⟨_, rfl⟩
  have HA := Lib.hid (daccess_ok va client 2 h hva)
  obtain ⟨A, n, cap, PA, pn, pcap, h⟩ := h
  have HH := Lib.hid h
  have k2 := h.c2
  clear h
  unfold DSt.rcvE at hv
  rw [hva] at hv
  by_cases h1 : va = 0
  · rw [if_neg (fun q => q h1)] at hv
    subst h1
    clear hva
    cases h3 : hasS d.fmts f
    · rw [if_pos h3] at hv
      subst hv
      have HC := Lib.hid (contains_v false A n cap d.fmts f w HH.out.fm.1 (by have := HH.out.len; have := HH.out.fm.1.1; omega) h3)
      clear h3 h0
      go_enter Try.func17, Try.ntmps17
      go_wp2_with fail
      refine HA.out.mono ?_
      rintro e w' ⟨rfl, rfl⟩
      go_wp2_with fail
      refine HC.out.mono ?_
      rintro e w' ⟨rfl, rfl⟩
      go_wp2
      go_ret2
      exact ⟨rfl, rfl⟩
    · rw [if_neg (fun q => by rw [h3] at q; cases q)] at hv
      by_cases hw : win < 1 ∨ 65536 < win
      · rw [if_pos hw] at hv
        subst hv
        have HC := Lib.hid (contains_v true A n cap d.fmts f w HH.out.fm.1 (by have := HH.out.len; have := HH.out.fm.1.1; omega) h3)
        have HW := Lib.hid (pnew_bad w win hw)
        clear h3 h0 hw
        go_enter Try.func17, Try.ntmps17
        go_wp2_with fail
        refine HA.out.mono ?_
        rintro e w' ⟨rfl, rfl⟩
        go_wp2_with fail
        refine HC.out.mono ?_
        rintro e w' ⟨rfl, rfl⟩
        go_wp2_with fail
        refine HW.out.mono ?_
        rintro e w' ⟨rfl, rfl⟩
        go_wp2
        go_ret2
        exact ⟨rfl, rfl⟩
      · rw [if_neg hw] at hv
        exact absurd hv.symm h0
  · rw [if_pos h1] at hv
    subst hv
    have h1b : (va == 0) = false := by simp [h1]
    have h1c : (va != 0) = true := by simp [h1]
    clear hva h0
    go_enter Try.func17, Try.ntmps17
    go_wp2_with fail
    refine HA.out.mono ?_
    rintro e w' ⟨rfl, rfl⟩
    go_wp2
    go_ret2
    exact ⟨rfl, rfl⟩

theorem DragHd.push {A PA : Option Addr} {n cap pn pcap : Nat} (h : DragHd w b lb R d A n cap PA pn pcap) {w4 w5 : World} {pb gg gcap : Nat} {Rp : Nat → Prop} {q : PSt} (hp : PipeAt w pb Rp q) (hfr : ∀ x, Rp x → ¬ R x ∧ x ≠ lb)
    (k : Chg (fun x => some x = (Value.slice PA pn pcap).ownBlock) w w4) (hown : w4.ownsRow 0 43 1 (.slice (some ⟨gg, 0, none⟩) (pn + 1) gcap) (pn + 1) ((d.flows.drop d.old).map DFlow.ptr ++ [.pointer (some ⟨pb, 0, none⟩)]))
    (hor : (Value.slice PA pn pcap).ownBlock = some gg ∨ w.heap.size ≤ gg) (hgl : gg < w4.heap.size) (k5 : Chg (fun x => x = b) w4 w5)
    (hb : w5.heap[b]? = some (.cells (dcells lb d A n cap (some ⟨gg, 0, none⟩) (pn + 1) gcap).toArray 84 (0, 0))) (hf : d.flows.length < 1000) :
    DragHd w5 b lb (fun x => R x ∨ Rp x ∨ x = gg) { d with flows := d.flows ++ [⟨pb, Rp, q⟩] } A n cap (some ⟨gg, 0, none⟩) (pn + 1) gcap := by
  have hgb : gg ≠ b := by
    rcases hor with e | e
    · exact (h.lo gg e).2.1
    · have := h.lt b h.rb; omega
  have hpg : ¬ Rp gg := by
    intro q
    rcases hor with e | e
    · exact (hfr gg q).1 (h.lo gg e).1
    · have := hp.lt gg q; omega
  have hfg : ∀ x ∈ d.flows, ¬ x.R gg := by
    intro x hx q
    rcases hor with e | e
    · exact (h.lo gg e).2.2 x hx q
    · have := h.lt gg (h.sub x hx gg q).1; omega
  have hmem : ∀ {z : DFlow}, z ∈ d.flows ++ [(⟨pb, Rp, q⟩ : DFlow)] → z ∈ d.flows ∨ z = ⟨pb, Rp, q⟩ := by
    intro z hz
    rcases List.mem_append.1 hz with h1 | h1
    · exact .inl h1
    · exact .inr (by simpa using h1)
  have hsz := k.size
  have hsz5 := k5.size
  refine ⟨hb, ?_, ?_, ?_, ?_, ?_, ?_, ?_, .inl h.rb, ?_, ?_, by have := h.ll; omega, by simp; omega, h.offs, h.len, by have := h.oldl; simp; omega⟩
  · refine (h.fm.chg2 k (fun hn g o hA e => (h.fo hn g o hA).2.2.1 e.symm)).chg2 k5 (fun hn g o hA => (h.fo hn g o hA).2.1)
  · intro hn g o hA
    have h1 := h.fo hn g o hA
    refine ⟨.inl h1.1, h1.2.1, ?_, fun z hz => ?_⟩
    · intro e
      simp only [Value.ownBlock, Option.some.injEq] at e
      subst e
      rcases hor with e | e
      · exact h1.2.2.1 e
      · have := h.lt gg h1.1; omega
    · rcases hmem hz with h2 | rfl
      · exact h1.2.2.2 z h2
      · exact fun q => (hfr g q).1 h1.1
  · show w5.ownsRow 0 43 1 (.slice (some ⟨gg, 0, none⟩) (pn + 1) gcap) (pn + 1) (((d.flows ++ [(⟨pb, Rp, q⟩ : DFlow)]).drop d.old).map DFlow.ptr)
    rw [List.drop_append_of_le_length h.oldl, List.map_append]
    exact row_chg hown k5 (fun x hx e => by simp only [Value.ownBlock, Option.some.injEq] at hx; omega)
  · intro g hg
    simp only [Value.ownBlock, Option.some.injEq] at hg
    subst hg
    refine ⟨.inr (.inr rfl), hgb, fun z hz => ?_⟩
    rcases hmem hz with h2 | rfl
    · exact hfg z h2
    · exact hpg
  · intro z hz
    rcases hmem hz with h2 | rfl
    · exact ((h.pipes z h2).chg k (fun i hi e => (h.lo i e.symm).2.2 z h2 hi)).chg k5 (fun i hi e => (h.sub z h2 i hi).2 e)
    · exact (hp.chg k (fun i hi e => (hfr i hi).1 (h.lo i e.symm).1)).chg k5 (fun i hi e => (hfr i hi).1 (by rw [e]; exact h.rb))
  · intro z hz i hi
    rcases hmem hz with h2 | rfl
    · exact ⟨.inl (h.sub z h2 i hi).1, (h.sub z h2 i hi).2⟩
    · exact ⟨.inr (.inl hi), fun e => (hfr i hi).1 (by rw [e]; exact h.rb)⟩
  · refine List.pairwise_append.2 ⟨h.apart, List.pairwise_singleton _ _, fun x hx y hy i hi => ?_⟩
    obtain rfl : y = ⟨pb, Rp, q⟩ := by simpa using hy
    exact fun q => (hfr i q).1 (h.sub x hx i hi).1
  · intro x hx
    rcases hx with hx | hx | rfl
    · have := h.lt x hx; omega
    · have := hp.lt x hx; omega
    · omega
  · rintro (q | q | q)
    · exact h.rl q
    · exact (hfr lb q).2 rfl
    · rcases hor with e | e
      · exact h.rl (by rw [q]; exact (h.lo gg e).1)
      · have := h.ll; omega
def DROut (b lb : Nat) (R : Nat → Prop) (d : DSt) (win : Int) (w : World) (e : Ending) (w' : World) : Prop :=
  ∃ R' pb Rp, e = .returned (.tuple #[.pointer (some ⟨pb, 0, none⟩), .int .i64 0]) ∧ DragAt w' b lb R' { d with flows := d.flows ++ [⟨pb, Rp, PSt.new win⟩] } ∧ Own R R' w w'
set_option maxHeartbeats 4000000 in
theorem drcv_yes (client win : Int) (f : ByteArray) (h : DragAt w b lb R d) (hv : d.rcvE client f win = 0) (hf : d.flows.length < 1000) :
    Calls Try.prog 17 #[.pointer (some ⟨b, 0, none⟩), .int .i64 client, .string f, .int .i64 win] w (DROut b lb R d win w) := by
  have hfacts : d.acc client 2 = 0 ∧ hasS d.fmts f = true ∧ 1 ≤ win ∧ win ≤ 65536 := by
    unfold DSt.rcvE at hv
    split at hv
    · rename_i q; exact absurd hv q
    · rename_i q0
      split at hv
      · cases hv
      · rename_i q
        split at hv
        · cases hv
        · rename_i q2
          refine ⟨by simpa using q0, by simpa using q, by omega, by omega⟩
  obtain ⟨hva, h3, hw0, hw1⟩ := hfacts
  have HA := Lib.hid (daccess_ok 0 client 2 h hva)
  obtain ⟨A, n, cap, PA, pn, pcap, h⟩ := h
  have HH := Lib.hid h
  have k2 := h.c2
  have HC := Lib.hid (contains_v true A n cap d.fmts f w HH.out.fm.1 (by have := HH.out.len; have := HH.out.fm.1.1; omega) h3)
  have HW := Lib.hid (pnew_ok w win hw0 hw1)
  have hpn : pn ≤ 1000 := by have h1 := h.pl.1; have h2 := h.few; simp at h1; omega
  clear h hva h3 hw0 hw1 hv
  go_enter Try.func17, Try.ntmps17
  go_wp2_with fail
  refine HA.out.mono ?_
  rintro e w' ⟨rfl, rfl⟩
  go_wp2_with fail
  refine HC.out.mono ?_
  rintro e w' ⟨rfl, rfl⟩
  go_wp2_with fail
  refine HW.out.mono ?_
  rintro e w1 ⟨rfl, hp, hk⟩
  have HP := Lib.hid (And.intro hp hk)
  have H1 := Lib.hid (HH.out.chg hk (fun _ _ q => q))
  have k12 := H1.out.c12
  have f1 := H1.out.fr
  clear hp hk k2
  go_wp2_with (at_builtin; go_loud (refine wpl_append1 0 43 _ 1 8 Try.underlying34 infoPipeP rfl (by omega) (.slice PA pn pcap) pn ((d.flows.drop d.old).map DFlow.ptr) (H1.out.pl.alloc _) rfl w1.heap.size 1 [.pointer (some ⟨w.heap.size + 1, 0, none⟩)] rfl (at_new w1 _) rfl (by simp [Value.oneCell']) (by omega) (by omega) (by omega) ?_; intro gg gcap w4 hown hgr hor hgl; have hk4 : Chg (fun x => some x = (Value.slice PA pn pcap).ownBlock) w1 w4 := Chg.grownO (by (repeat (first | (with_reducible refine Chg.drew ?_) | (with_reducible refine Chg.alloc ?_ _))); exact Chg.refl _ _) hgr; have hat4 := hk4.at_ H1.out.at_ (fun e => (H1.out.lo b e.symm).2.1 rfl); have g12 : w4.cell? ⟨b, 12, none⟩ = some (.slice PA pn pcap) := (cell_at hat4 12).trans rfl; have fr4 := frozen_at hat4; have hbl4 := lt_of_at hat4; have HK4 := Lib.hid (And.intro hk4 (And.intro hat4 (And.intro hown (And.intro hor hgl)))); clear hk4 hat4 hown hgr hor hgl))
  obtain ⟨hk4, hat4, hown, hor, hgl⟩ := HK4.out
  have hw1 := HP.out.2.size
  have hor2 : (Value.slice PA pn pcap).ownBlock = some gg ∨ w1.heap.size ≤ gg := hor.imp id (fun e => by simp at e; omega)
  have hpush := H1.out.push (pb := w.heap.size + 1) HP.out.1 (fun x hx => ⟨fun q => by have := HH.out.lt x q; omega, fun e => by have := HH.out.ll; omega⟩) hk4 hown hor2 hgl
    (Chg.setCell (Chg.refl (fun x => x = b) w4) ⟨b, 12, none⟩ (.slice (some ⟨gg, 0, none⟩) (pn + 1) gcap) (fun _ => rfl)) (at_setCell (i := 12) _ hat4) hf
  have HU := Lib.hid (And.intro hpush (And.intro hk4 hor2))
  clear hk4 hat4 hown hor hgl hor2 hpush
  go_ret2
  refine ⟨_, _, _, rfl, ⟨_, _, _, _, _, _, HU.out.1⟩, ((Chg.of_same HP.out.2).trans (HU.out.2.1.mono (fun x _ e => (H1.out.lo x e.symm).1))).setCell ⟨b, 12, none⟩ _ (fun _ => H1.out.rb), fun x hx => ?_⟩
  rcases hx with q | q | q
  · exact .inl q
  · exact .inr (by omega)
  · rcases HU.out.2.2 with e | e
    · exact .inl (by rw [q]; exact (H1.out.lo gg e).1)
    · exact .inr (by omega)
end
end Go.Proofs.Yteolilggeaffaaa

namespace Go.Proofs.Yteolilggeaffaaa
open Go.RowKit

theorem daccept_un (v : Value) (client : Int) (f : ByteArray) (w : World) (h : Calls Try.prog 42 #[v] w fun e w' => e = .returned (.bool false) ∧ w = w') : Calls Try.prog 13 #[v, .int .i64 client, .string f] w fun e w' => e = .returned (.int .i64 1) ∧ Same w w' := by
  have HM := Lib.hid (daccess_no v client 1 w h)
  clear h
  go_enter Try.func13, Try.ntmps13
  go_wp2_with fail
  refine HM.out.mono ?_
  rintro e w' ⟨rfl, rfl⟩
  go_wp2
  go_ret
  exact ⟨rfl, Chg.refl _ _⟩
theorem dsetact_un (v : Value) (client a p : Int) (w : World) (h : Calls Try.prog 42 #[v] w fun e w' => e = .returned (.bool false) ∧ w = w') : Calls Try.prog 14 #[v, .int .i64 client, .int .i64 a, .int .i64 p] w fun e w' => e = .returned (.int .i64 1) ∧ Same w w' := by
  have HM := Lib.hid (daccess_no v client 1 w h)
  clear h
  go_enter Try.func14, Try.ntmps14
  go_wp2_with fail
  refine HM.out.mono ?_
  rintro e w' ⟨rfl, rfl⟩
  go_wp2
  go_ret
  exact ⟨rfl, Chg.refl _ _⟩
theorem dfinish_un (v : Value) (client : Int) (w : World) (h : Calls Try.prog 42 #[v] w fun e w' => e = .returned (.bool false) ∧ w = w') : Calls Try.prog 18 #[v, .int .i64 client] w fun e w' => e = .returned (.int .i64 1) ∧ Same w w' := by
  have HM := Lib.hid (daccess_no v client 2 w h)
  clear h
  go_enter Try.func18, Try.ntmps18
  go_wp2_with fail
  refine HM.out.mono ?_
  rintro e w' ⟨rfl, rfl⟩
  go_wp2
  go_ret
  exact ⟨rfl, Chg.refl _ _⟩
theorem dreceive_un (v : Value) (client win : Int) (f : ByteArray) (w : World) (h : Calls Try.prog 42 #[v] w fun e w' => e = .returned (.bool false) ∧ w = w') : Calls Try.prog 17 #[v, .int .i64 client, .string f, .int .i64 win] w fun e w' => e = .returned (.tuple #[.pointer none, .int .i64 1]) ∧ Same w w' := by
  have HM := Lib.hid (daccess_no v client 2 w h)
  clear h
  go_enter Try.func17, Try.ntmps17
  go_wp2_with fail
  refine HM.out.mono ?_
  rintro e w' ⟨rfl, rfl⟩
  go_wp2
  go_ret2
  exact ⟨rfl, Chg.refl _ _⟩
theorem ddrop_un (v : Value) (w : World) (h : Calls Try.prog 42 #[v] w fun e w' => e = .returned (.bool false) ∧ w = w') : Calls Try.prog 16 #[v] w fun e w' => e = .returned (.tuple #[.slice none 0 0, .bool false]) ∧ Same w w' := by
  have HM := Lib.hid h
  clear h
  go_enter Try.func16, Try.ntmps16
  go_wp2_with fail
  refine HM.out.mono ?_
  rintro e w' ⟨rfl, rfl⟩
  go_wp2
  go_ret2
  exact ⟨rfl, Chg.refl _ _⟩
theorem dcancel_un (v : Value) (w : World) (h : Calls Try.prog 42 #[v] w fun e w' => e = .returned (.bool false) ∧ w = w') : Calls Try.prog 34 #[v] w fun e w' => e = .returned (.slice none 0 0) ∧ Same w w' := by
  have HM := Lib.hid h
  clear h
  go_enter Try.func34, Try.ntmps34
  go_wp2_with fail
  refine HM.out.mono ?_
  rintro e w' ⟨rfl, rfl⟩
  go_wp2
  go_ret
  exact ⟨rfl, Chg.refl _ _⟩
theorem dmove_un (v : Value) (client surface x y t : Int) (w : World) (h : Calls Try.prog 42 #[v] w fun e w' => e = .returned (.bool false) ∧ w = w') : Calls Try.prog 20 #[v, .int .i64 client, .int .i64 surface, .int .i64 x, .int .i64 y, .int .i64 t] w fun e w' => e = .returned (.slice none 0 0) ∧ Same w w' := by
  have HM := Lib.hid h
  clear h
  go_enter Try.func20, Try.ntmps20
  go_wp2_with fail
  refine HM.out.mono ?_
  rintro e w' ⟨rfl, rfl⟩
  go_wp2
  go_ret
  exact ⟨rfl, Chg.refl _ _⟩
end Go.Proofs.Yteolilggeaffaaa

namespace Go.Proofs.Yteolilggeaffaaa
open Go.RowKit

def validD (L : SLog) (client surface n : Int) : Bool := ((L.find n).c != 0) && (((L.find n).f == surface) && ((L.check n client 16 == 0) && (L.latest client 16 == n)))
section
variable {w w' : World} {b lb : Nat} {R : Nat → Prop} {d : DSt} {L : SLog}
set_option maxHeartbeats 4000000 in
theorem dvalid_ok (bv : Bool) (client surface n : Int) (h : DragAt w b lb R d) (hL : LogAt w lb L) (hv : validD L client surface n = bv) :
    Calls Try.prog 59 #[.pointer (some ⟨b, 0, none⟩), .int .i64 client, .int .i64 surface, .int .u32 n] w fun e w' => e = .returned (.bool bv) ∧ Same w w' := by
  obtain ⟨A, m, cap, PA, pn, pcap, h⟩ := h
  subst hv
  have HF := Lib.hid (find_ok lb w n L hL)
  have HL := Lib.hid hL
  have c0 := h.c0
  have hlt := h.lt b h.rb
  clear h hL
  unfold validD
  obtain ⟨vc, hvc⟩ : ∃ vc, L.check n client 16 = vc := ⟨_, rfl⟩
  obtain ⟨vl, hvl⟩ : ∃ vl, L.latest client 16 = vl := ⟨_, rfl⟩
  rw [hvc, hvl]
  have HV := Lib.hid (And.intro hvc hvl)
  clear hvc hvl
  generalize L.find n = x at *
  obtain ⟨s, c, f, k⟩ := x
  simp only [entRes] at HF
  simp only
  cases hc : (c != 0)
  · rw [hc] at HF
    clear hc
    go_enter Try.func59, Try.ntmps59
    go_wp2_with fail
    refine HF.out.mono ?_
    rintro e w1 ⟨rfl, hs⟩
    have HS := Lib.hid hs
    clear hs
    go_wp2
    go_ret
    exact ⟨rfl, HS.out.alloc _⟩
  · rw [hc] at HF
    clear hc
    cases hf : (f == surface)
    · have hf2 : ¬ f = surface := by simpa using hf
      go_enter Try.func59, Try.ntmps59
      go_wp2_with fail
      refine HF.out.mono ?_
      rintro e w1 ⟨rfl, hs⟩
      have HS := Lib.hid hs
      clear hs
      go_wp2
      go_ret
      exact ⟨rfl, HS.out.alloc _⟩
    · obtain rfl : f = surface := by simpa using hf
      cases hk : (vc == 0)
      · have hk2 : ¬ vc = 0 := by simpa using hk
        go_enter Try.func59, Try.ntmps59
        go_wp2_with fail
        refine HF.out.mono ?_
        rintro e w1 ⟨rfl, hs⟩
        have d0 := hs.cell c0 (fun q => q)
        have hlt1 := Nat.lt_of_lt_of_le hlt hs.size
        have HS := Lib.hid hs
        clear hs
        go_wp2_with fail
        refine (check_ok lb _ n client 16 L (HL.out.chg (HS.out.alloc _) (fun q => q))).mono ?_
        rw [HV.out.1]
        rintro e w2 ⟨rfl, hs⟩
        have HS2 := Lib.hid ((HS.out.alloc _).trans hs)
        clear hs
        go_wp2
        go_ret
        exact ⟨rfl, HS2.out⟩
      · obtain rfl : vc = 0 := by simpa using hk
        go_enter Try.func59, Try.ntmps59
        go_wp2_with fail
        refine HF.out.mono ?_
        rintro e w1 ⟨rfl, hs⟩
        have d0 := hs.cell c0 (fun q => q)
        have hlt1 := Nat.lt_of_lt_of_le hlt hs.size
        have HS := Lib.hid hs
        clear hs
        go_wp2_with fail
        refine (check_ok lb _ n client 16 L (HL.out.chg (HS.out.alloc _) (fun q => q))).mono ?_
        rw [HV.out.1]
        rintro e w2 ⟨rfl, hs⟩
        have HS2 := Lib.hid ((HS.out.alloc _).trans hs)
        have d2 := HS2.out.cell c0 (fun q => q)
        clear hs
        go_wp2_with fail
        refine (latest_ok lb _ client 16 L (HL.out.chg HS2.out (fun q => q))).mono ?_
        rw [HV.out.2]
        rintro e w3 ⟨rfl, hs⟩
        have HS3 := Lib.hid (HS2.out.trans hs)
        clear hs
        go_wp2
        go_ret
        exact ⟨by simp, HS3.out⟩
end
end Go.Proofs.Yteolilggeaffaaa
