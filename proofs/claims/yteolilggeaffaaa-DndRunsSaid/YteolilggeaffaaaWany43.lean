/- law43.want whatever the call, beside the program's call: each kind. No walk. (Printed by wany.py.) -/
import Derived.Test.YteolilggeaffaaaPk39
import Derived.Test.YteolilggeaffaaaPk40
import Derived.Test.YteolilggeaffaaaPk41
import Derived.Test.YteolilggeaffaaaPk42
import Derived.Test.YteolilggeaffaaaPk43
import Derived.Test.YteolilggeaffaaaPk44
import Derived.Test.YteolilggeaffaaaPk45
import Derived.Test.YteolilggeaffaaaMT43
import Derived.Test.YteolilggeaffaaaMC43
import Derived.Test.YteolilggeaffaaaMP43
import Derived.Test.YteolilggeaffaaaMR43
import Derived.Test.YteolilggeaffaaaMW43
set_option linter.unusedVariables false
set_option linter.unusedSimpArgs false
set_option maxRecDepth 100000
namespace Go.Proofs.Yteolilggeaffaaa
open Go.RowKit

section
variable {w : World} {F : Nat → Prop} {d : DSt} {x : MD} {rs : List RPp} {L : SLog} {N : Nat} {LA : Option Addr} {ln : Nat} {l : List Ent} {last : Int}
theorem wany3 (client surface nn other px py tm back : Int) (fo : ByteArray) (OA : Option Addr) (om oc : Nat) (fs : List ByteArray) (oa : Int) (lc : Nat) (h : WIn w F d L x rs N LA ln l (⟨3, client, surface, nn, other, px, py, tm, back, fo, ⟨OA, om, oc, fs, oa⟩⟩ : DOp)) :
    Calls Try.prog 26 #[.agg x.cells.toArray, .agg #[.int .i64 N, .slice LA ln lc], .int .u32 last, .agg #[.int .i64 3, .int .i64 client, .int .i64 surface, .int .i64 nn, .int .i64 other, .int .i64 px, .int .i64 py, .int .i64 tm, .int .u32 back, .string fo, .slice OA om oc, .int .i64 oa]] w (WantOut (⟨3, client, surface, nn, other, px, py, tm, back, fo, ⟨OA, om, oc, fs, oa⟩⟩ : DOp) d L last F N w) := by
  refine (want_3 x.ph x.src x.cl x.tg x.A x.n x.cap x.acts x.f x.a x.p x.nm x.tm x.la x.PA x.pn x.pc x.fst N LA ln lc last client surface nn other px py tm back fo OA om oc oa w (fun x' er u => WantR (⟨3, client, surface, nn, other, px, py, tm, back, fo, ⟨OA, om, oc, fs, oa⟩⟩ : DOp) d L last (six w F) N x' N LA ln none 0 false er u) (fun _ _ u v q k => q.chg k (fun y hy => .inr hy)) (fun w1 hs hz => ?_)).mono ?_
  · have k := h.six hs hz
    refine (maccept_ok x d.fmts client fo w1 k.rd.fm k.rd.fmn).mono ?_
    rintro e w' ⟨rfl, hs2⟩
    refine ⟨_, _, rfl, fun d' L' last' ds ok' er' hst => ?_, hs2⟩
    obtain ⟨rfl, eL, eT, rfl, rfl, rfl⟩ := step3 hst rfl; obtain rfl := eL.symm; obtain rfl := eT.symm
    have a := rd_accept k.rd client fo
    exact ⟨rfl, rfl, a.1.symm, by omega, DvsF.nil _ _ _, _, _, a.2.same hs2, k.rl.same hs2⟩
  · rintro e w' ⟨x', er, rfl, hq, hs⟩
    exact ⟨x', N, LA, ln, lc, none, 0, 0, false, er, rfl, hq.weak (fun y q => .inl q), hs⟩
theorem wany4 (client surface nn other px py tm back : Int) (fo : ByteArray) (OA : Option Addr) (om oc : Nat) (fs : List ByteArray) (oa : Int) (lc : Nat) (h : WIn w F d L x rs N LA ln l (⟨4, client, surface, nn, other, px, py, tm, back, fo, ⟨OA, om, oc, fs, oa⟩⟩ : DOp)) :
    Calls Try.prog 26 #[.agg x.cells.toArray, .agg #[.int .i64 N, .slice LA ln lc], .int .u32 last, .agg #[.int .i64 4, .int .i64 client, .int .i64 surface, .int .i64 nn, .int .i64 other, .int .i64 px, .int .i64 py, .int .i64 tm, .int .u32 back, .string fo, .slice OA om oc, .int .i64 oa]] w (WantOut (⟨4, client, surface, nn, other, px, py, tm, back, fo, ⟨OA, om, oc, fs, oa⟩⟩ : DOp) d L last F N w) := by
  refine (want_4 x.ph x.src x.cl x.tg x.A x.n x.cap x.acts x.f x.a x.p x.nm x.tm x.la x.PA x.pn x.pc x.fst N LA ln lc last client surface nn other px py tm back fo OA om oc oa w (fun x' er u => WantR (⟨4, client, surface, nn, other, px, py, tm, back, fo, ⟨OA, om, oc, fs, oa⟩⟩ : DOp) d L last (six w F) N x' N LA ln none 0 false er u) (fun _ _ u v q k => q.chg k (fun y hy => .inr hy)) (fun w1 hs hz => ?_)).mono ?_
  · have k := h.six hs hz
    refine (msetact_ok x client nn other w1).mono ?_
    rintro e w' ⟨rfl, hs2⟩
    refine ⟨_, _, rfl, fun d' L' last' ds ok' er' hst => ?_, hs2⟩
    obtain ⟨rfl, eL, eT, rfl, rfl, rfl⟩ := step4 hst rfl; obtain rfl := eL.symm; obtain rfl := eT.symm
    have a := rd_setAct k.rd client nn other
    exact ⟨rfl, rfl, a.1.symm, by omega, DvsF.nil _ _ _, _, _, a.2.same hs2, k.rl.same hs2⟩
  · rintro e w' ⟨x', er, rfl, hq, hs⟩
    exact ⟨x', N, LA, ln, lc, none, 0, 0, false, er, rfl, hq.weak (fun y q => .inl q), hs⟩
theorem wany7 (client surface nn other px py tm back : Int) (fo : ByteArray) (OA : Option Addr) (om oc : Nat) (fs : List ByteArray) (oa : Int) (lc : Nat) (h : WIn w F d L x rs N LA ln l (⟨7, client, surface, nn, other, px, py, tm, back, fo, ⟨OA, om, oc, fs, oa⟩⟩ : DOp)) :
    Calls Try.prog 26 #[.agg x.cells.toArray, .agg #[.int .i64 N, .slice LA ln lc], .int .u32 last, .agg #[.int .i64 7, .int .i64 client, .int .i64 surface, .int .i64 nn, .int .i64 other, .int .i64 px, .int .i64 py, .int .i64 tm, .int .u32 back, .string fo, .slice OA om oc, .int .i64 oa]] w (WantOut (⟨7, client, surface, nn, other, px, py, tm, back, fo, ⟨OA, om, oc, fs, oa⟩⟩ : DOp) d L last F N w) := by
  refine (want_7 x.ph x.src x.cl x.tg x.A x.n x.cap x.acts x.f x.a x.p x.nm x.tm x.la x.PA x.pn x.pc x.fst N LA ln lc last client surface nn other px py tm back fo OA om oc oa w (fun x' er u => WantR (⟨7, client, surface, nn, other, px, py, tm, back, fo, ⟨OA, om, oc, fs, oa⟩⟩ : DOp) d L last (six w F) N x' N LA ln none 0 false er u) (fun _ _ u v q k => q.chg k (fun y hy => .inr hy)) (fun w1 hs hz => ?_)).mono ?_
  · have k := h.six hs hz
    refine (mfinish_ok x client w1 k.pn).mono ?_
    rintro e w' ⟨rfl, hs2⟩
    refine ⟨_, _, rfl, fun d' L' last' ds ok' er' hst => ?_, hs2⟩
    obtain ⟨rfl, eL, eT, rfl, rfl, rfl⟩ := step7 hst rfl; obtain rfl := eL.symm; obtain rfl := eT.symm
    have a := rd_finish k.rd client
    exact ⟨rfl, rfl, a.1.symm, by omega, DvsF.nil _ _ _, _, _, a.2.same hs2, k.rl.same hs2⟩
  · rintro e w' ⟨x', er, rfl, hq, hs⟩
    exact ⟨x', N, LA, ln, lc, none, 0, 0, false, er, rfl, hq.weak (fun y q => .inl q), hs⟩
theorem wany1 (client surface nn other px py tm back : Int) (fo : ByteArray) (OA : Option Addr) (om oc : Nat) (fs : List ByteArray) (oa : Int) (lc : Nat) (h : WIn w F d L x rs N LA ln l (⟨1, client, surface, nn, other, px, py, tm, back, fo, ⟨OA, om, oc, fs, oa⟩⟩ : DOp)) :
    Calls Try.prog 26 #[.agg x.cells.toArray, .agg #[.int .i64 N, .slice LA ln lc], .int .u32 last, .agg #[.int .i64 1, .int .i64 client, .int .i64 surface, .int .i64 nn, .int .i64 other, .int .i64 px, .int .i64 py, .int .i64 tm, .int .u32 back, .string fo, .slice OA om oc, .int .i64 oa]] w (WantOut (⟨1, client, surface, nn, other, px, py, tm, back, fo, ⟨OA, om, oc, fs, oa⟩⟩ : DOp) d L last F N w) := by
  refine (want_1 x.ph x.src x.cl x.tg x.A x.n x.cap x.acts x.f x.a x.p x.nm x.tm x.la x.PA x.pn x.pc x.fst N LA ln lc last client surface nn other px py tm back fo OA om oc oa w (fun x' er u => WantR (⟨1, client, surface, nn, other, px, py, tm, back, fo, ⟨OA, om, oc, fs, oa⟩⟩ : DOp) d L last (six w F) N x' N LA ln none 0 false er u) (fun _ _ u v q k => q.chg k (fun y hy => .inr hy)) (fun w1 hs hz => ?_)).mono ?_
  · have k := h.six hs hz
    have ho : SArg w1 OA om oc fs := k.okw.2.2.2.2.2.2.2.2.2.2.1
    have hz2 : ∀ f ∈ fs, f.size ≤ 140737488351232 := fun f hf => by have : f.size ≤ 100 := k.light.2.2 f hf; omega
    have hom : om ≤ 20 := k.light.2.1
    have he := rd_startE k.rd k.rl.rel client surface other fs oa (IntKind.u32.wrap (last - back))
    by_cases h0 : d.startE L client surface other fs oa (IntKind.u32.wrap (last - back)) = 0
    · have hx0 := he.trans h0
      have hc : ¬ (client < 1 ∨ surface < 1 ∨ other < 0) ∧ x.ph = 0 ∧ checkV fs oa = 0 ∧ rvalidB l client surface (IntKind.u32.wrap (last - back)) = true := by
        unfold MD.startE at hx0
        split at hx0
        · exact absurd hx0 (by decide)
        · rename_i c1
          split at hx0
          · exact absurd hx0 (by decide)
          · rename_i c2
            split at hx0
            · rename_i c3; exact absurd hx0 c3
            · rename_i c3
              split at hx0
              · rename_i c4; exact ⟨c1, Decidable.not_not.1 c2, Decidable.not_not.1 c3, c4⟩
              · exact absurd hx0 (by decide)
      obtain ⟨c1, c2, c3, c4⟩ := hc
      have hpn := k.pn
      obtain ⟨ph, src, cl, tg, A, n, cap, acts, f, a, p, nm, tm2, la, PA, pn, pc, fst⟩ := x
      obtain rfl : ph = 0 := c2
      refine (mstart_yes src cl tg A n cap acts f a p nm tm2 la PA pn pc fst N LA ln lc l client surface other OA om oc fs oa _ w1 k.rl.at_ k.ln k.kinds ho hz2 hpn (by omega) (by omega) (by omega) (by omega) c3 c4).mono ?_
      rintro e w' ⟨A', cap', rfl, hst', hfr, hs2⟩
      refine ⟨_, _, rfl, fun d' L' last' ds ok' er' hst => ?_, hs2⟩
      obtain ⟨rfl, eL, eT, rfl, rfl, rfl⟩ := step1 hst rfl; obtain rfl := eL.symm; obtain rfl := eT.symm
      exact ⟨rfl, rfl, h0, by omega, DvsF.nil _ _ _, _, _, rd_begin (k.rd.same hs2) h0 hst' (fun g o hA hn q => by have := hfr hn g o hA; have := k.lo g q; omega) (by omega), k.rl.same hs2⟩
    · refine (mstart_no x.ph x.src x.cl x.tg x.A x.n x.cap x.acts x.f x.a x.p x.nm x.tm x.la x.PA x.pn x.pc x.fst N LA ln lc l client surface other OA om oc fs oa _ _ w1 k.rl.at_ k.ln k.kinds ho hz2 he h0).mono ?_
      rintro e w' ⟨rfl, hs2⟩
      refine ⟨x, _, rfl, fun d' L' last' ds ok' er' hst => ?_, hs2⟩
      obtain ⟨rfl, eL, eT, rfl, rfl, rfl⟩ := step1 hst rfl; obtain rfl := eL.symm; obtain rfl := eT.symm
      exact ⟨rfl, rfl, rfl, by omega, DvsF.nil _ _ _, _, _, by
        have e : d.start L client surface other fs oa (IntKind.u32.wrap (last - back)) = d := rd_start_no h0
        show RD w' (six w F) (d.start L client surface other fs oa (IntKind.u32.wrap (last - back))) x rs
        rw [e]; exact k.rd.same hs2, k.rl.same hs2⟩
  · rintro e w' ⟨x', er, rfl, hq, hs⟩
    exact ⟨x', N, LA, ln, lc, none, 0, 0, false, er, rfl, hq.weak (fun y q => .inl q), hs⟩
theorem wany0 (client surface nn other px py tm back : Int) (fo : ByteArray) (OA : Option Addr) (om oc : Nat) (fs : List ByteArray) (oa : Int) (lc : Nat) (h : WIn w F d L x rs N LA ln l (⟨0, client, surface, nn, other, px, py, tm, back, fo, ⟨OA, om, oc, fs, oa⟩⟩ : DOp)) :
    Calls Try.prog 26 #[.agg x.cells.toArray, .agg #[.int .i64 N, .slice LA ln lc], .int .u32 last, .agg #[.int .i64 0, .int .i64 client, .int .i64 surface, .int .i64 nn, .int .i64 other, .int .i64 px, .int .i64 py, .int .i64 tm, .int .u32 back, .string fo, .slice OA om oc, .int .i64 oa]] w (WantOut (⟨0, client, surface, nn, other, px, py, tm, back, fo, ⟨OA, om, oc, fs, oa⟩⟩ : DOp) d L last F N w) := by
  refine (want_0 x.ph x.src x.cl x.tg x.A x.n x.cap x.acts x.f x.a x.p x.nm x.tm x.la x.PA x.pn x.pc x.fst N LA ln lc last client surface nn other px py tm back fo OA om oc oa w (fun N' LA' ln' lc' sn u => WantR (⟨0, client, surface, nn, other, px, py, tm, back, fo, ⟨OA, om, oc, fs, oa⟩⟩ : DOp) d L last (six w F) N x N' LA' ln' none 0 false 0 u) (fun _ _ _ _ _ u v q k => q.chg k (fun y hy => .inr hy)) (fun w1 hs hz => ?_)).mono ?_
  · have k := h.six hs hz
    have hc := k.okw.2.1.2
    have hf := k.okw.2.2.1.2
    by_cases hg : good client surface nn = true
    · refine (rIssue_good LA N ln lc 0 l client surface nn w1 k.rl.at_ k.ln (by have := k.few; omega) hg).mono ?_
      rintro e w' ⟨A', n', cap', rfl, hsl, hs2⟩
      refine ⟨N + 1, A', n', cap', _, rfl, fun d' L' last' ds ok' er' hst => ?_, hs2⟩
      obtain ⟨eD, rfl, rfl, rfl, rfl, rfl⟩ := step0 hst rfl; obtain rfl := eD.symm
      exact ⟨rfl, rfl, rfl, by omega, DvsF.nil _ _ _, _, _, k.rd.same hs2, RL.issued k.rl.rel k.few hg hc hf hsl k.lo⟩
    · have hg2 : good client surface nn = false := by simpa using hg
      refine (rIssue_bad LA N ln lc client surface nn w1 hg2).mono ?_
      rintro e w' ⟨rfl, hs2⟩
      refine ⟨N, LA, ln, lc, _, rfl, fun d' L' last' ds ok' er' hst => ?_, hs2⟩
      obtain ⟨eD, rfl, rfl, rfl, rfl, rfl⟩ := step0 hst rfl; obtain rfl := eD.symm
      exact ⟨rfl, rfl, rfl, by omega, DvsF.nil _ _ _, _, _, k.rd.same hs2, by
        have e : L.issue client surface nn = L := if_neg hg
        show RL w' (six w F) (L.issue client surface nn) N LA ln l
        rw [e]; exact k.rl.same hs2⟩
  · rintro e w' ⟨N', LA', ln', lc', sn, rfl, hq, hs⟩
    exact ⟨x, N', LA', ln', lc', none, 0, 0, false, 0, rfl, hq.weak (fun y q => .inl q), hs⟩
theorem wany6 (client surface nn other px py tm back : Int) (fo : ByteArray) (OA : Option Addr) (om oc : Nat) (fs : List ByteArray) (oa : Int) (lc : Nat) (h : WIn w F d L x rs N LA ln l (⟨6, client, surface, nn, other, px, py, tm, back, fo, ⟨OA, om, oc, fs, oa⟩⟩ : DOp)) :
    Calls Try.prog 26 #[.agg x.cells.toArray, .agg #[.int .i64 N, .slice LA ln lc], .int .u32 last, .agg #[.int .i64 6, .int .i64 client, .int .i64 surface, .int .i64 nn, .int .i64 other, .int .i64 px, .int .i64 py, .int .i64 tm, .int .u32 back, .string fo, .slice OA om oc, .int .i64 oa]] w (WantOut (⟨6, client, surface, nn, other, px, py, tm, back, fo, ⟨OA, om, oc, fs, oa⟩⟩ : DOp) d L last F N w) := by
  refine (want_6 x.ph x.src x.cl x.tg x.A x.n x.cap x.acts x.f x.a x.p x.nm x.tm x.la x.PA x.pn x.pc x.fst N LA ln lc last client surface nn other px py tm back fo OA om oc oa w (fun x' ix er u => WantR (⟨6, client, surface, nn, other, px, py, tm, back, fo, ⟨OA, om, oc, fs, oa⟩⟩ : DOp) d L last (six w F) N x' N LA ln none 0 (er == 0) er u) (fun _ _ _ u v q k => q.chg k (fun y hy => .inr hy)) (fun w1 hs hz => ?_)).mono ?_
  · have k := h.six hs hz
    have he := rd_rcvE k.rd client fo nn
    by_cases h0 : d.rcvE client fo nn = 0
    · refine (mreceive_yes x.ph x.src x.cl x.tg x.A x.n x.cap x.acts x.f x.a x.p x.nm x.tm x.la x.PA x.pn x.pc x.fst d.fmts client fo nn rs w1 (six w F) k.rd.fm k.rd.fmn k.rd.row k.lo k.pn (he.trans h0)).mono ?_
      rintro e w' ⟨PA', pc', rfl, hr, hs2⟩
      refine ⟨{ x with PA := PA', pn := x.pn + 1, pc := pc' }, _, _, rfl, fun d' L' last' ds ok' er' hst => ?_, hs2⟩
      obtain ⟨eL, eT, rfl, hst2⟩ := step6 hst rfl; obtain rfl := eL.symm; obtain rfl := eT.symm
      rcases hst2 with ⟨q, _⟩ | ⟨_, rfl, rfl, pb, Rp, rfl⟩
      · exact absurd h0 q
      · exact ⟨rfl, rfl, rfl, by omega, DvsF.nil _ _ _, _, _, rd_rcv (k.rd.same hs2) h0 pb Rp hr, k.rl.same hs2⟩
    · refine (mreceive_no x.ph x.src x.cl x.tg x.A x.n x.cap x.acts x.f x.a x.p x.nm x.tm x.la x.PA x.pn x.pc x.fst d.fmts client fo nn _ w1 k.rd.fm k.rd.fmn he h0).mono ?_
      rintro e w' ⟨rfl, hs2⟩
      refine ⟨x, _, _, rfl, fun d' L' last' ds ok' er' hst => ?_, hs2⟩
      obtain ⟨eL, eT, rfl, hst2⟩ := step6 hst rfl; obtain rfl := eL.symm; obtain rfl := eT.symm
      rcases hst2 with ⟨_, eD, rfl, rfl⟩ | ⟨q, _⟩
      · obtain rfl := eD.symm; exact ⟨rfl, by simp [h0], rfl, by omega, DvsF.nil _ _ _, _, _, k.rd.same hs2, k.rl.same hs2⟩
      · exact absurd q h0
  · rintro e w' ⟨x', ix, er, rfl, hq, hs⟩
    exact ⟨x', N, LA, ln, lc, none, 0, 0, er == 0, er, rfl, hq.weak (fun y q => .inl q), hs⟩
theorem wany8 (client surface nn other px py tm back : Int) (fo : ByteArray) (OA : Option Addr) (om oc : Nat) (fs : List ByteArray) (oa : Int) (lc : Nat) (h : WIn w F d L x rs N LA ln l (⟨8, client, surface, nn, other, px, py, tm, back, fo, ⟨OA, om, oc, fs, oa⟩⟩ : DOp)) :
    Calls Try.prog 26 #[.agg x.cells.toArray, .agg #[.int .i64 N, .slice LA ln lc], .int .u32 last, .agg #[.int .i64 8, .int .i64 client, .int .i64 surface, .int .i64 nn, .int .i64 other, .int .i64 px, .int .i64 py, .int .i64 tm, .int .u32 back, .string fo, .slice OA om oc, .int .i64 oa]] w (WantOut (⟨8, client, surface, nn, other, px, py, tm, back, fo, ⟨OA, om, oc, fs, oa⟩⟩ : DOp) d L last F N w) := by
  refine (want_8 x.ph x.src x.cl x.tg x.A x.n x.cap x.acts x.f x.a x.p x.nm x.tm x.la x.PA x.pn x.pc x.fst N LA ln lc last client surface nn other px py tm back fo OA om oc oa w (fun x' VA vn vc u => WantR (⟨8, client, surface, nn, other, px, py, tm, back, fo, ⟨OA, om, oc, fs, oa⟩⟩ : DOp) d L last (six w F) N x' N LA ln VA vn false 0 u) (fun _ _ _ _ u v q k => q.chg k (fun y hy => .inr hy)) (fun w1 hs hz => ?_)).mono ?_
  · have k := h.six hs hz
    have hcd := rd_cancD k.rd
    have hp := k.rd.ph
    have hst0 := k.rd.st
    have hpn := k.pn
    clear h hs
    obtain ⟨ph, src, cl, tg, A, n, cap, acts, f, a, p, nm, tm2, la, PA, pn, pc, fst⟩ := x
    have hp2 : ph = d.state := hp
    rcases hst0 with h0 | h0 | h0
    · obtain rfl : ph = 0 := by omega
      refine (mcancel_no src cl tg A n cap acts f a p nm tm2 la PA pn pc fst w1).mono ?_
      rintro e w' ⟨rfl, hs2⟩
      refine ⟨⟨0, src, cl, tg, A, n, cap, acts, f, a, p, nm, tm2, la, PA, pn, pc, fst⟩, _, _, _, rfl, fun d' L' last' ds ok' er' hst => ?_, hs2⟩
      obtain ⟨rfl, eL, eT, rfl, rfl, rfl⟩ := step8 hst rfl; obtain rfl := eL.symm; obtain rfl := eT.symm
      have e : d.cancD = [] := if_neg (by omega)
      rw [e]
      exact ⟨rfl, rfl, rfl, by omega, DvsF.nil _ _ _, _, _, rd_canc_no (k.rd.same hs2) h0, k.rl.same hs2⟩
    · obtain rfl : ph = 1 := by omega
      refine (mcancel_1 src cl tg A n cap acts f a p nm tm2 la PA pn pc fst rs d.cancD w1 (six w F) k.rd.row k.lo hpn hcd).mono ?_
      rintro e w' ⟨PA', pc', rs', VA, vc, rfl, hcr, hpr, hout, hs2⟩
      refine ⟨_, VA, _, vc, rfl, fun d' L' last' ds ok' er' hst => ?_, hs2⟩
      obtain ⟨rfl, eL, eT, rfl, rfl, rfl⟩ := step8 hst rfl; obtain rfl := eL.symm; obtain rfl := eT.symm
      exact ⟨rfl, rfl, rfl, by omega, DvsF.out (hout) k.lo, _, _, rd_cancS (k.rd.same hs2) (by have := h0; omega) hcr hpr, k.rl.same hs2⟩
    · obtain rfl : ph = 2 := by omega
      refine (mcancel_2 src cl tg A n cap acts f a p nm tm2 la PA pn pc fst rs d.cancD w1 (six w F) k.rd.row k.lo hpn hcd).mono ?_
      rintro e w' ⟨PA', pc', rs', VA, vc, rfl, hcr, hpr, hout, hs2⟩
      refine ⟨_, VA, _, vc, rfl, fun d' L' last' ds ok' er' hst => ?_, hs2⟩
      obtain ⟨rfl, eL, eT, rfl, rfl, rfl⟩ := step8 hst rfl; obtain rfl := eL.symm; obtain rfl := eT.symm
      exact ⟨rfl, rfl, rfl, by omega, DvsF.out (hout) k.lo, _, _, rd_cancS (k.rd.same hs2) (by have := h0; omega) hcr hpr, k.rl.same hs2⟩
  · rintro e w' ⟨x', VA, vn, vc, rfl, hq, hs⟩
    exact ⟨x', N, LA, ln, lc, VA, vn, vc, false, 0, rfl, hq.weak (fun y q => .inl q), hs⟩
theorem wany5 (client surface nn other px py tm back : Int) (fo : ByteArray) (OA : Option Addr) (om oc : Nat) (fs : List ByteArray) (oa : Int) (lc : Nat) (h : WIn w F d L x rs N LA ln l (⟨5, client, surface, nn, other, px, py, tm, back, fo, ⟨OA, om, oc, fs, oa⟩⟩ : DOp)) :
    Calls Try.prog 26 #[.agg x.cells.toArray, .agg #[.int .i64 N, .slice LA ln lc], .int .u32 last, .agg #[.int .i64 5, .int .i64 client, .int .i64 surface, .int .i64 nn, .int .i64 other, .int .i64 px, .int .i64 py, .int .i64 tm, .int .u32 back, .string fo, .slice OA om oc, .int .i64 oa]] w (WantOut (⟨5, client, surface, nn, other, px, py, tm, back, fo, ⟨OA, om, oc, fs, oa⟩⟩ : DOp) d L last F N w) := by
  refine (want_5 x.ph x.src x.cl x.tg x.A x.n x.cap x.acts x.f x.a x.p x.nm x.tm x.la x.PA x.pn x.pc x.fst N LA ln lc last client surface nn other px py tm back fo OA om oc oa w (fun x' VA vn vc ok u => WantR (⟨5, client, surface, nn, other, px, py, tm, back, fo, ⟨OA, om, oc, fs, oa⟩⟩ : DOp) d L last (six w F) N x' N LA ln VA vn ok 0 u) (fun _ _ _ _ _ u v q k => q.chg k (fun y hy => .inr hy)) (fun w1 hs hz => ?_)).mono ?_
  · have k := h.six hs hz
    have hcd := rd_cancD k.rd
    have hdb := rd_dropB k.rd
    have hac := rd_act k.rd
    have hp := k.rd.ph
    have hpn := k.pn
    clear h hs
    obtain ⟨ph, src, cl, tg, A, n, cap, acts, f, a, p, nm, tm2, la, PA, pn, pc, fst⟩ := x
    have hp2 : ph = d.state := hp
    by_cases h1 : d.state = 1
    · obtain rfl : ph = 1 := by omega
      by_cases g1 : tg = 0
      · subst g1
        refine (mdrop_un1 src cl A n cap acts f a p nm tm2 la PA pn pc fst rs d.cancD w1 (six w F) k.rd.row k.lo hpn hcd).mono ?_
        rintro e w' ⟨PA', pc', rs', VA, vc, rfl, hcr, hpr, hout, hs2⟩
        refine ⟨_, VA, _, vc, false, rfl, fun d' L' last' ds ok' er' hst => ?_, hs2⟩
        obtain ⟨rfl, eL, eT, rfl, rfl, rfl⟩ := step5 hst rfl; obtain rfl := eL.symm; obtain rfl := eT.symm
        have hb : d.dropB = false := by rw [← hdb]; unfold MD.dropB; simp
        have e1 : d.dropD = d.cancD := by unfold DSt.dropD; rw [if_pos h1, hb]; rfl
        have e2 : d.dropS = d.cancS := by unfold DSt.dropS; rw [if_pos h1, hb]; rfl
        rw [e1, e2, hb]
        exact ⟨rfl, rfl, rfl, by omega, DvsF.out hout k.lo, _, _, rd_cancS (k.rd.same hs2) (by omega) hcr hpr, k.rl.same hs2⟩
      · by_cases g2 : f = ByteArray.empty
        · subst g2
          refine (mdrop_un2 src cl tg A n cap acts a p nm tm2 la PA pn pc fst rs d.cancD w1 (six w F) k.rd.row k.lo hpn hcd g1).mono ?_
          rintro e w' ⟨PA', pc', rs', VA, vc, rfl, hcr, hpr, hout, hs2⟩
          refine ⟨_, VA, _, vc, false, rfl, fun d' L' last' ds ok' er' hst => ?_, hs2⟩
          obtain ⟨rfl, eL, eT, rfl, rfl, rfl⟩ := step5 hst rfl; obtain rfl := eL.symm; obtain rfl := eT.symm
          have hb : d.dropB = false := by rw [← hdb]; unfold MD.dropB; simp
          have e1 : d.dropD = d.cancD := by unfold DSt.dropD; rw [if_pos h1, hb]; rfl
          have e2 : d.dropS = d.cancS := by unfold DSt.dropS; rw [if_pos h1, hb]; rfl
          rw [e1, e2, hb]
          exact ⟨rfl, rfl, rfl, by omega, DvsF.out hout k.lo, _, _, rd_cancS (k.rd.same hs2) (by omega) hcr hpr, k.rl.same hs2⟩
        · by_cases g3 : MD.act ⟨1, src, cl, tg, A, n, cap, acts, f, a, p, nm, tm2, la, PA, pn, pc, fst⟩ = 0
          ·
            refine (mdrop_un3 src cl tg A n cap acts f a p nm tm2 la PA pn pc fst rs d.cancD w1 (six w F) k.rd.row k.lo hpn hcd g1 g2 g3).mono ?_
            rintro e w' ⟨PA', pc', rs', VA, vc, rfl, hcr, hpr, hout, hs2⟩
            refine ⟨_, VA, _, vc, false, rfl, fun d' L' last' ds ok' er' hst => ?_, hs2⟩
            obtain ⟨rfl, eL, eT, rfl, rfl, rfl⟩ := step5 hst rfl; obtain rfl := eL.symm; obtain rfl := eT.symm
            have hb : d.dropB = false := by rw [← hdb]; unfold MD.dropB; simp [g3]
            have e1 : d.dropD = d.cancD := by unfold DSt.dropD; rw [if_pos h1, hb]; rfl
            have e2 : d.dropS = d.cancS := by unfold DSt.dropS; rw [if_pos h1, hb]; rfl
            rw [e1, e2, hb]
            exact ⟨rfl, rfl, rfl, by omega, DvsF.out hout k.lo, _, _, rd_cancS (k.rd.same hs2) (by omega) hcr hpr, k.rl.same hs2⟩
          · refine (mdrop_yes src cl tg A n cap acts f a p nm tm2 la PA pn pc fst _ w1 g1 g2 rfl g3).mono ?_
            rintro e w' ⟨VA, vc, rfl, hout, hs2⟩
            refine ⟨⟨2, src, cl, tg, A, n, cap, acts, f, a, p, nm, tm2, la, PA, pn, pc, fst⟩, VA, _, vc, true, rfl, fun d' L' last' ds ok' er' hst => ?_, hs2⟩
            obtain ⟨rfl, eL, eT, rfl, rfl, rfl⟩ := step5 hst rfl; obtain rfl := eL.symm; obtain rfl := eT.symm
            have hb : d.dropB = true := by
              rw [← hdb]
              unfold MD.dropB
              simp [g1, g2, g3]
            have e1 : d.dropD = [⟨cl, tg, 17, 0, 0, 0, 0, 0, 0⟩] := by
              unfold DSt.dropD
              rw [if_pos h1, hb]
              have c1 : cl = d.tc := k.rd.cl
              have c2 : tg = d.ts := k.rd.tg
              rw [c1, c2]
              rfl
            rw [e1, hb]
            exact ⟨rfl, rfl, rfl, by omega, DvsF.out (ds := [⟨cl, tg, 17, 0, 0, 0, 0, 0, 0⟩]) hout k.lo, _, _, rd_drop (k.rd.same hs2) h1 hb, k.rl.same hs2⟩
    · refine (mdrop_no ph src cl tg A n cap acts f a p nm tm2 la PA pn pc fst w1 (by omega)).mono ?_
      rintro e w' ⟨rfl, hs2⟩
      refine ⟨⟨ph, src, cl, tg, A, n, cap, acts, f, a, p, nm, tm2, la, PA, pn, pc, fst⟩, _, _, _, false, rfl, fun d' L' last' ds ok' er' hst => ?_, hs2⟩
      obtain ⟨rfl, eL, eT, rfl, rfl, rfl⟩ := step5 hst rfl; obtain rfl := eL.symm; obtain rfl := eT.symm
      have e1 : d.dropD = [] := if_neg h1
      have e2 : d.dropS = d := if_neg h1
      have hb : d.dropB = false := by unfold DSt.dropB; rw [decide_eq_false h1]; rfl
      rw [e1, e2, hb]
      exact ⟨rfl, rfl, rfl, by omega, DvsF.nil _ _ _, _, _, k.rd.same hs2, k.rl.same hs2⟩
  · rintro e w' ⟨x', VA, vn, vc, ok, rfl, hq, hs⟩
    exact ⟨x', N, LA, ln, lc, VA, vn, vc, ok, 0, rfl, hq.weak (fun y q => .inl q), hs⟩
theorem wany2 (client surface nn other px py tm back : Int) (fo : ByteArray) (OA : Option Addr) (om oc : Nat) (fs : List ByteArray) (oa : Int) (lc : Nat) (h : WIn w F d L x rs N LA ln l (⟨2, client, surface, nn, other, px, py, tm, back, fo, ⟨OA, om, oc, fs, oa⟩⟩ : DOp)) :
    Calls Try.prog 26 #[.agg x.cells.toArray, .agg #[.int .i64 N, .slice LA ln lc], .int .u32 last, .agg #[.int .i64 2, .int .i64 client, .int .i64 surface, .int .i64 nn, .int .i64 other, .int .i64 px, .int .i64 py, .int .i64 tm, .int .u32 back, .string fo, .slice OA om oc, .int .i64 oa]] w (WantOut (⟨2, client, surface, nn, other, px, py, tm, back, fo, ⟨OA, om, oc, fs, oa⟩⟩ : DOp) d L last F N w) := by
  refine (want_2 x.ph x.src x.cl x.tg x.A x.n x.cap x.acts x.f x.a x.p x.nm x.tm x.la x.PA x.pn x.pc x.fst N LA ln lc last client surface nn other px py tm back fo OA om oc oa w (fun x' N' LA' ln' lc' VA vn vc u => WantR (⟨2, client, surface, nn, other, px, py, tm, back, fo, ⟨OA, om, oc, fs, oa⟩⟩ : DOp) d L last (six w F) N x' N' LA' ln' VA vn false 0 u) (fun _ _ _ _ _ _ _ _ u v q k => q.chg k (fun y hy => .inr hy)) (fun w1 hs hz => ?_)).mono ?_
  · have k := h.six hs hz
    have hp := k.rd.ph
    have hln := k.ln
    have hNN := k.few
    have hb1 : client ≤ 9223372036854775807 := k.okw.2.1.2
    have hb2 : surface ≤ 9223372036854775807 := k.okw.2.2.1.2
    have hnm := k.rd.nm
    have hofl := k.off
    clear h hs
    obtain ⟨ph, src, cl, tg, A, n, cap, acts, f, a, p, nm, tm2, la, PA, pn, pc, fst⟩ := x
    have hp2 : ph = d.state := hp
    have hnm2 : nm = (d.offers : Int) := hnm
    by_cases h1 : d.state = 1
    · obtain rfl : ph = 1 := by omega
      have hpos := posCS client surface
      obtain ⟨c, hc⟩ : ∃ c, posC client surface = c := ⟨_, rfl⟩
      obtain ⟨s, hs⟩ : ∃ s, posS client surface = s := ⟨_, rfl⟩
      rw [hc, hs] at hpos
      have hgd : s ≠ 0 → good c s 14 = true := fun q => by
        unfold good
        simp only [Bool.and_eq_true, decide_eq_true_eq]
        omega
      have ho := rd_outCS k.rd k.rl.rel (by omega) c s px py tm h1 (fun q => rel_issueN k.rl.rel (by omega) (hgd q))
      refine (mmove_on src cl tg A n cap acts f a p nm tm2 la PA pn pc fst N LA ln lc l c s client surface px py tm w1 k.rl.at_ hln (by omega) hc hs (by omega) (by omega)).mono ?_
      rintro e w' ⟨N', LA', ln', lc', VA, vc, rfl, hlog, hout, hs2⟩
      refine ⟨_, N', LA', ln', lc', VA, _, vc, rfl, fun d' L' last' ds ok' er' hst => ?_, hs2⟩
      obtain ⟨rfl, rfl, rfl, rfl, rfl, rfl⟩ := step2 hst rfl
      have e1 : d.mv client surface tm = d.moveCS c s tm := by unfold DSt.mv; rw [if_pos h1, hc, hs]
      have e2 : d.mvL L client surface = d.logCS L c s := by unfold DSt.mvL; rw [if_pos h1, hc, hs]
      have e3 : d.mvD L client surface px py tm = d.outD L c s px py tm := by unfold DSt.mvD; rw [if_pos h1, hc, hs]
      show _ = (d.mvD L client surface px py tm).length ∧ _ ∧ _ ∧ _ ∧ DvsF w' (six w F) VA (d.mvD L client surface px py tm) ∧ ∃ rs' l', RD w' (six w F) (d.mv client surface tm) _ rs' ∧ RL w' (six w F) (d.mvL L client surface) N' LA' ln' l'
      rw [e1, e2, e3, ← ho]
      have hRD := rd_mvCS (k.rd.same hs2) c s tm h1 (by rcases hpos with q | q; exact .inl q; exact .inr ⟨q.1, q.2.1⟩)
      have hcl : cl = d.tc := k.rd.cl
      have htg : tg = d.ts := k.rd.tg
      rcases hlog with ⟨rfl, rfl, rfl, hi⟩ | ⟨rfl, hsl, hi⟩
      · have e4 : d.logCS L c s = L := by
          unfold MD.iss at hi
          unfold DSt.logCS
          refine if_pos ?_
          simp at hi
          rw [← hcl, ← htg]
          rcases Decidable.em (s = 0) with q | q
          · exact .inr q
          · exact .inl ⟨by by_cases q1 : c = cl; exact q1; exact absurd (hi (.inl q1)) q, by by_cases q1 : s = tg; exact q1; exact absurd (hi (.inr q1)) q⟩
        rw [e4]
        exact ⟨rfl, rfl, rfl, by omega, DvsF.out hout (fun y hy => by have := k.lo y hy; omega), _, _, hRD, k.rl.same hs2⟩
      · have hi2 : ¬ (c = cl ∧ s = tg) ∧ s ≠ 0 := by
          unfold MD.iss at hi
          simp at hi
          exact ⟨fun q => hi.1.elim (fun a => a q.1) (fun a => a q.2), hi.2⟩
        have e4 : d.logCS L c s = L.issue c s 14 := by
          unfold DSt.logCS
          refine if_neg ?_
          rw [← hcl, ← htg]
          exact fun q => by rcases q with q | q; exact hi2.1 q; exact hi2.2 q
        rw [e4]
        exact ⟨rfl, rfl, rfl, by omega, DvsF.out hout (fun y hy => by have := k.lo y hy; omega), _, _, hRD, RL.issued k.rl.rel k.few (hgd hi2.2) (by omega) (by omega) hsl (fun y hy => by have := k.lo y hy; omega)⟩
    · refine (mmove_no ph src cl tg A n cap acts f a p nm tm2 la PA pn pc fst N LA ln lc client surface px py tm w1 (by omega)).mono ?_
      rintro e w' ⟨rfl, hs2⟩
      refine ⟨⟨ph, src, cl, tg, A, n, cap, acts, f, a, p, nm, tm2, la, PA, pn, pc, fst⟩, N, LA, ln, lc, _, _, _, rfl, fun d' L' last' ds ok' er' hst => ?_, hs2⟩
      obtain ⟨rfl, rfl, rfl, rfl, rfl, rfl⟩ := step2 hst rfl
      have e1 : d.mv client surface tm = d := if_neg h1
      have e2 : d.mvL L client surface = L := if_neg h1
      have e3 : d.mvD L client surface px py tm = [] := if_neg h1
      show _ = (d.mvD L client surface px py tm).length ∧ _ ∧ _ ∧ _ ∧ DvsF w' (six w F) _ (d.mvD L client surface px py tm) ∧ ∃ rs' l', RD w' (six w F) (d.mv client surface tm) _ rs' ∧ RL w' (six w F) (d.mvL L client surface) N LA ln l'
      rw [e1, e2, e3]
      exact ⟨rfl, rfl, rfl, by omega, DvsF.nil _ _ _, _, _, k.rd.same hs2, k.rl.same hs2⟩
  · rintro e w' ⟨x', N', LA', ln', lc', VA, vn, vc, rfl, hq, hs⟩
    exact ⟨x', N', LA', ln', lc', VA, vn, vc, false, 0, rfl, hq.weak (fun y q => .inl q), hs⟩
end
end Go.Proofs.Yteolilggeaffaaa
