/- The walk of package transfer's Write, where something is sent. -/
import Derived.Test.YtndldjopgbhphaaPk06
set_option linter.unusedVariables false
set_option linter.unusedSimpArgs false
set_option maxRecDepth 100000
namespace Go.Proofs.Ytndldjopgbhphaa
open Go.RowKit

theorem pwrote_at {w w2 w3 : World} {b c : Nat} {R : Nat → Prop} {q : PSt} {hA : Option Addr} {hn hcap : Nat} {hx : List Int} {vs : List Value} {ps : List (List Int)} {xs : List Int} {N g capg s r : Nat}
    (HH : PipeHd w b c R q hA hn hcap hx vs ps) (ho : q.over = false) (hN : q.wrN xs.length = N) (hN0 : 0 < N) (h2 : Same w w2) (hg : w.heap.size ≤ g) (hg2 : g < w2.heap.size)
    (hown : w2.ownsRow w.heap.size 5 1 (.slice (some ⟨g, 0, none⟩) N capg) N ((xs.take N).map (Value.int .u8))) (h3 : Chg (fun x => x = c) w2 w3)
    (hc3 : w3.heap[c]? = some (.chan q.win.toNat (vs ++ [Value.slice (some ⟨g, 0, none⟩) N capg]).toArray false s r false)) :
    Wrote w b R q xs (.returned (.tuple #[.int .i64 N, .int .i64 0])) ((w3.setCell ⟨b, 1, none⟩ (.int .i64 (q.cr - N))).setCell ⟨b, 2, none⟩ (.int .i64 (q.bs.length + N))) := by
  have hbc := HH.bc
  have hbl := HH.lt b HH.rb
  have hcl := HH.lt c HH.rc
  have hk : Chg (fun x => x = b ∨ x = c) w2 ((w3.setCell ⟨b, 1, none⟩ (.int .i64 (q.cr - N))).setCell ⟨b, 2, none⟩ (.int .i64 (q.bs.length + N))) :=
    ((h3.mono (fun _ _ e => .inr e)).setCell _ _ (fun _ => .inl rfl)).setCell _ _ (fun _ => .inl rfl)
  have hat : w3.heap[b]? = some (.cells (pcells q (some c) (.slice hA hn hcap)).toArray 142 (0, 0)) := h3.at_ (h2.at_ HH.at_ (fun q => q)) hbc
  have hlen : (xs.take N).length = N := by rw [List.length_take]; have := q.wrN_le xs.length; omega
  have e1 : q.write xs = { q with cr := q.cr - N, bs := q.bs ++ xs.take N } := by unfold PSt.write; rw [hN]
  refine ⟨by rw [hN]; unfold PSt.wrE; rw [if_neg (by rw [ho]; simp)], fun x => R x ∨ x = g, .inl ⟨c, hA, hn, hcap, hx, vs ++ [Value.slice (some ⟨g, 0, none⟩) N capg], ps ++ [xs.take N], ?_⟩, ?_, ?_⟩
  · obtain ⟨A', cap', hv, hb⟩ := BytesAt.of_own hown
    cases hv
    refine ⟨PSt.write_ok HH.ok xs, HH.ncn, ?_, .inl HH.rb, .inl HH.rc, ?_, ⟨s, r, at_setCell_other _ (Ne.symm hbc) (at_setCell_other _ (Ne.symm hbc) hc3)⟩, ?_, ?_, ?_⟩
    · intro x hx
      have := hk.size
      rcases hx with hx | hx
      · have := HH.lt x hx; have := h2.size; omega
      · omega
    · rw [e1]
      have := at_setCell (i := 2) (.int .i64 (q.bs.length + N)) (at_setCell (i := 1) (.int .i64 (q.cr - N)) hat)
      rw [this]
      congr 3
      simp [pcells, hlen]
    · exact ((HH.hd.chg h2 (fun _ _ q => q)).chg hk (fun x hx h => h.elim hx.2.1 hx.2.2)).mono (fun x _ hx => ⟨.inl hx.1, hx.2⟩)
    · refine PiecesAt.snoc ?_ ?_ ((HH.pieces.imp (fun _ _ _ _ hb => (hb.chg h2 (fun _ _ q => q)).chg hk (fun x hx h => h.elim hx.2.1 hx.2.2))).imp (fun _ _ _ _ hb => hb.mono (fun x _ hx => ⟨.inl hx.1, hx.2⟩)))
      · intro e; rw [e] at hlen; simp at hlen; omega
      · refine ⟨hb.1, hb.2.1, hb.2.2.1, fun hn => ?_⟩
        obtain ⟨b', o', hA', hb', hlt', hc'⟩ := hb.2.2.2 hn
        cases hA'
        exact ⟨g, 0, rfl, ⟨.inr rfl, by omega, by omega⟩, by have := hk.size; omega, fun j x hj => hk.cell (hc' j x hj) (by omega)⟩
    · rw [e1]
      show q.bs ++ _ = _
      rw [HH.bs]; simp
  · intro x hx
    rcases hx with hx | hx
    · exact .inl hx
    · exact .inr (by omega)
  · exact (Chg.of_same h2).trans (hk.mono (fun x _ h => h.elim (fun e => by rw [e]; exact HH.rb) (fun e => by rw [e]; exact HH.rc)))

theorem pwrite_len (b : Nat) (w : World) (R : Nat → Prop) (q : PSt) (A : Option Addr) (len cap : Nat) (xs : List Int) (h : PipeAt w b R q) (ho : q.over = false) (hx : BytesAt w (fun _ => True) A len cap xs) (h0 : 0 < len) (k : Nat) (hqk : q.cr = k) (h1 : 0 < k) (hle : (len : Int) ≤ k) :
    Calls Try.prog 41 #[.pointer (some ⟨b, 0, none⟩), .slice A len cap] w (Wrote w b R q xs) := by
  have HU := Lib.hid (pusable_at h)
  have hsum := h.ok.sum
  have hwin := h.ok.w1
  have hN : q.wrN xs.length = len := by unfold PSt.wrN; rw [if_neg (by rw [ho]; simp), hx.1]; omega
  have hlc := hx.2.1
  have hcap := hx.2.2.1
  unfold maxLen at hcap
  have c1 := h.c1
  have c2 := h.c2
  have c3 := h.c3
  have c4 := h.c4
  have hov : q.cl = false ∧ q.cn = false := by unfold PSt.over at ho; simpa using ho
  rw [hov.1] at c3
  rw [hov.2] at c4
  rw [hqk] at c1
  have hh : ∃ c hA hn hcap hx vs ps, PipeHd w b c R q hA hn hcap hx vs ps := by
    rcases h with h | h
    · exact h
    · rw [hov.2] at h; exact absurd h.2.1 (by simp)
  obtain ⟨c, hA, hn, hcap', hx', vs, ps, hh⟩ := hh
  have c5 : w.cell? ⟨b, 5, none⟩ = some (.chan (some c)) := by rw [cell_at hh.at_]; rfl
  have hroom : vs.length < q.win.toNat := by
    have h1 := hh.pieces.length
    have h2 := hh.bs
    have h3 : q.bs.length = hx'.length + ps.flatten.length := by rw [h2, List.length_append]
    omega
  have HBC := Lib.hid hh.bc
  have HROOM := Lib.hid hroom
  have HH := Lib.hid hh
  have HX := Lib.hid hx
  have HOV := Lib.hid ho
  have HN := Lib.hid hN
  have HQK := Lib.hid hqk
  have hblt := hh.lt b hh.rb
  have hk6 : k ≤ 65536 := by omega
  have hb6 : (q.bs.length : Int) ≤ 65536 := by omega
  have hb0 : 0 ≤ (q.bs.length : Int) := Int.natCast_nonneg _
  clear h hh hx hov ho hroom hN hqk hsum hwin
  refine calls_of_nwp Try.func41 rfl ?_
  simp only [Try.ntmps41, List.size_toArray, List.length_cons, List.length_nil, Nat.reduceAdd, Nat.reduceSub, Array.replicate_succ, Array.replicate_zero, List.push_toArray, List.append_toArray, List.nil_append, List.cons_append]
  refine nwp_walk fun K hK => ?_
  go_wp2
  refine nwp_walk fun K hK => ?_
  go_wp2_with fail
  refine HU.out.mono ?_
  rintro e w' ⟨rfl, rfl⟩
  go_wp2
  refine nwp_walk fun K hK => ?_
  go_wp2
  refine nwp_walk fun K hK => ?_
  go_wp2
  refine nwp_walk fun K hK => ?_
  go_wp2
  refine nwp_walk fun K hK => ?_
  go_wp2_with (at_builtin; refine wpl_appendB w.heap.size _ 0 [] (World.ownsRow_made w #[] 0 (Nat.le_refl _) (by unfold maxLen; omega) rfl) rfl A len cap (xs.take len) rfl ((HX.out.take (by omega)).chg ((Chg.refl (fun _ => False) w).alloc _) (fun _ _ q => q)) (by omega) (by omega) (by simp) ?_; intro g capg w2 hown hk hg hlt; have HOWN := Lib.hid hown; have HK := Lib.hid hk; have HLT := Lib.hid hlt; clear hown hk hg hlt)
  have hs2 : Same w w2 := ((Chg.refl (fun _ => False) w).alloc _).then_ HK.out (fun i hi e => by simp [Value.ownBlock] at e; omega)
  have hg := (HOWN.out.lt g rfl).1
  obtain ⟨s, r, hch⟩ := HH.out.ch
  have hch2 := hs2.at_ hch (fun q => q)
  have HS2 := Lib.hid hs2
  have HGB := Lib.hid hg
  clear hs2 hg hch
  refine nwp_then fun K hK => ?_
  refine nwp_send _ vs (zero_bytes w2) rfl rfl hch2 HROOM.out fun w3 hc3 hch3 => ?_
  have hat3 := hc3.at_ (HS2.out.at_ HH.out.at_ (fun q => q)) HBC.out
  have d1 : w3.cell? ⟨b, 1, none⟩ = some (.int .i64 k) := by rw [cell_at hat3, ← HQK.out]; rfl
  have d2 : w3.cell? ⟨b, 2, none⟩ = some (.int .i64 q.bs.length) := by rw [cell_at hat3]; rfl
  have fr := frozen_at hat3
  have HC3 := Lib.hid hc3
  have HCH3 := Lib.hid hch3
  clear hc3 hch3 hat3 hch2 c1 c2 c3 c4 c5
  go_wp2
  go_ret2
  have e0 : 0 + len = len := Nat.zero_add _
  have HO := HOWN.out
  rw [List.nil_append, e0] at HO
  have HC := HCH3.out
  rw [e0] at HC
  have hfin := pwrote_at HH.out HOV.out HN.out (by omega) HS2.out HGB.out HLT.out HO HC3.out HC
  rw [HQK.out] at hfin
  exact hfin

theorem pwrite_cr (b : Nat) (w : World) (R : Nat → Prop) (q : PSt) (A : Option Addr) (len cap : Nat) (xs : List Int) (h : PipeAt w b R q) (ho : q.over = false) (hx : BytesAt w (fun _ => True) A len cap xs) (h0 : 0 < len) (k : Nat) (hqk : q.cr = k) (h1 : 0 < k) (hle : (k : Int) < len) :
    Calls Try.prog 41 #[.pointer (some ⟨b, 0, none⟩), .slice A len cap] w (Wrote w b R q xs) := by
  have HU := Lib.hid (pusable_at h)
  have hsum := h.ok.sum
  have hwin := h.ok.w1
  have hN : q.wrN xs.length = k := by unfold PSt.wrN; rw [if_neg (by rw [ho]; simp), hx.1]; omega
  have hlc := hx.2.1
  have hcap := hx.2.2.1
  unfold maxLen at hcap
  have c1 := h.c1
  have c2 := h.c2
  have c3 := h.c3
  have c4 := h.c4
  have hov : q.cl = false ∧ q.cn = false := by unfold PSt.over at ho; simpa using ho
  rw [hov.1] at c3
  rw [hov.2] at c4
  rw [hqk] at c1
  have hh : ∃ c hA hn hcap hx vs ps, PipeHd w b c R q hA hn hcap hx vs ps := by
    rcases h with h | h
    · exact h
    · rw [hov.2] at h; exact absurd h.2.1 (by simp)
  obtain ⟨c, hA, hn, hcap', hx', vs, ps, hh⟩ := hh
  have c5 : w.cell? ⟨b, 5, none⟩ = some (.chan (some c)) := by rw [cell_at hh.at_]; rfl
  have hroom : vs.length < q.win.toNat := by
    have h1 := hh.pieces.length
    have h2 := hh.bs
    have h3 : q.bs.length = hx'.length + ps.flatten.length := by rw [h2, List.length_append]
    omega
  have HBC := Lib.hid hh.bc
  have HROOM := Lib.hid hroom
  have HH := Lib.hid hh
  have HX := Lib.hid hx
  have HOV := Lib.hid ho
  have HN := Lib.hid hN
  have HQK := Lib.hid hqk
  have hblt := hh.lt b hh.rb
  have hk6 : k ≤ 65536 := by omega
  have hb6 : (q.bs.length : Int) ≤ 65536 := by omega
  have hb0 : 0 ≤ (q.bs.length : Int) := Int.natCast_nonneg _
  clear h hh hx hov ho hroom hN hqk hsum hwin
  refine calls_of_nwp Try.func41 rfl ?_
  simp only [Try.ntmps41, List.size_toArray, List.length_cons, List.length_nil, Nat.reduceAdd, Nat.reduceSub, Array.replicate_succ, Array.replicate_zero, List.push_toArray, List.append_toArray, List.nil_append, List.cons_append]
  refine nwp_walk fun K hK => ?_
  go_wp2
  refine nwp_walk fun K hK => ?_
  go_wp2_with fail
  refine HU.out.mono ?_
  rintro e w' ⟨rfl, rfl⟩
  go_wp2
  refine nwp_walk fun K hK => ?_
  go_wp2
  refine nwp_walk fun K hK => ?_
  go_wp2
  refine nwp_walk fun K hK => ?_
  go_wp2
  refine nwp_walk fun K hK => ?_
  go_wp2_with (at_builtin; refine wpl_appendB w.heap.size _ 0 [] (World.ownsRow_made w #[] 0 (Nat.le_refl _) (by unfold maxLen; omega) rfl) rfl A k cap (xs.take k) rfl ((HX.out.take (by omega)).chg ((Chg.refl (fun _ => False) w).alloc _) (fun _ _ q => q)) (by omega) (by omega) (by simp) ?_; intro g capg w2 hown hk hg hlt; have HOWN := Lib.hid hown; have HK := Lib.hid hk; have HLT := Lib.hid hlt; clear hown hk hg hlt)
  have hs2 : Same w w2 := ((Chg.refl (fun _ => False) w).alloc _).then_ HK.out (fun i hi e => by simp [Value.ownBlock] at e; omega)
  have hg := (HOWN.out.lt g rfl).1
  obtain ⟨s, r, hch⟩ := HH.out.ch
  have hch2 := hs2.at_ hch (fun q => q)
  have HS2 := Lib.hid hs2
  have HGB := Lib.hid hg
  clear hs2 hg hch
  refine nwp_then fun K hK => ?_
  refine nwp_send _ vs (zero_bytes w2) rfl rfl hch2 HROOM.out fun w3 hc3 hch3 => ?_
  have hat3 := hc3.at_ (HS2.out.at_ HH.out.at_ (fun q => q)) HBC.out
  have d1 : w3.cell? ⟨b, 1, none⟩ = some (.int .i64 k) := by rw [cell_at hat3, ← HQK.out]; rfl
  have d2 : w3.cell? ⟨b, 2, none⟩ = some (.int .i64 q.bs.length) := by rw [cell_at hat3]; rfl
  have fr := frozen_at hat3
  have HC3 := Lib.hid hc3
  have HCH3 := Lib.hid hch3
  clear hc3 hch3 hat3 hch2 c1 c2 c3 c4 c5
  go_wp2
  go_ret2
  have e0 : 0 + k = k := Nat.zero_add _
  have HO := HOWN.out
  rw [List.nil_append, e0] at HO
  have HC := HCH3.out
  rw [e0] at HC
  have hfin := pwrote_at HH.out HOV.out HN.out (by omega) HS2.out HGB.out HLT.out HO HC3.out HC
  rw [HQK.out, Int.sub_self] at hfin
  exact hfin

theorem pwrite_ok (b : Nat) (w : World) (R : Nat → Prop) (q : PSt) (A : Option Addr) (len cap : Nat) (xs : List Int) (h : PipeAt w b R q) (hx : BytesAt w (fun _ => True) A len cap xs) :
    Calls Try.prog 41 #[.pointer (some ⟨b, 0, none⟩), .slice A len cap] w (Wrote w b R q xs) := by
  by_cases ho : q.over = true
  · exact pwrite_over b w R q A len cap xs h ho
  have ho : q.over = false := by simpa using ho
  by_cases h0 : len = 0 ∨ q.cr = 0
  · exact pwrite_none b w R q A len cap xs h ho hx h0
  have hc := h.ok.c0
  obtain ⟨k, hk⟩ : ∃ k : Nat, q.cr = k := ⟨q.cr.toNat, by omega⟩
  by_cases hle : (len : Int) ≤ k
  · exact pwrite_len b w R q A len cap xs h ho hx (by omega) k hk (by omega) hle
  · exact pwrite_cr b w R q A len cap xs h ho hx (by omega) k hk (by omega) (by omega)
end Go.Proofs.Ytndldjopgbhphaa
