/- law43.want whatever the call: where it grants a byte; all kinds. No walk. (Printed by wany.py.) -/
import Derived.Test.YteolilggeaffaaaWany43
import Derived.Test.YteolilggeaffaaaWng43
set_option linter.unusedVariables false
set_option linter.unusedSimpArgs false
set_option maxRecDepth 100000
namespace Go.Proofs.Yteolilggeaffaaa
open Go.RowKit

section
variable {w : World} {F : Nat → Prop} {d : DSt} {x : MD} {rs : List RPp} {L : SLog} {N : Nat} {LA : Option Addr} {ln : Nat} {l : List Ent} {last : Int}
theorem wanyx (kk : Int) (client surface nn other px py tm back : Int) (fo : ByteArray) (OA : Option Addr) (om oc : Nat) (fs : List ByteArray) (oa : Int) (lc : Nat) (h : WIn w F d L x rs N LA ln l (⟨kk, client, surface, nn, other, px, py, tm, back, fo, ⟨OA, om, oc, fs, oa⟩⟩ : DOp)) (hk : kk < 0 ∨ 8 < kk) :
    Calls Try.prog 26 #[.agg x.cells.toArray, .agg #[.int .i64 N, .slice LA ln lc], .int .u32 last, .agg #[.int .i64 kk, .int .i64 client, .int .i64 surface, .int .i64 nn, .int .i64 other, .int .i64 px, .int .i64 py, .int .i64 tm, .int .u32 back, .string fo, .slice OA om oc, .int .i64 oa]] w (WantOut (⟨kk, client, surface, nn, other, px, py, tm, back, fo, ⟨OA, om, oc, fs, oa⟩⟩ : DOp) d L last F N w) := by
  by_cases h1 : nn < 0
  · have q0 := h1
    refine (want_kk_neg kk x.ph x.src x.cl x.tg x.A x.n x.cap x.acts x.f x.a x.p x.nm x.tm x.la x.PA x.pn x.pc x.fst N LA ln lc last client surface nn other px py tm back fo OA om oc oa w hk h1 (fun u => WantR (⟨kk, client, surface, nn, other, px, py, tm, back, fo, ⟨OA, om, oc, fs, oa⟩⟩ : DOp) d L last (six w F) N x N LA ln none 0 false 0 u) (fun u v q k => q.chg k (fun y hy => .inr hy)) (fun w1 hs hz => ?_)).mono ?_
    · have k := h.six hs hz
      refine fun d' L' last' ds ok' er' hst => ?_
      obtain ⟨eL, eT, rfl, rfl, hst2⟩ := stepx hst hk; obtain rfl := eL.symm; obtain rfl := eT.symm
      rcases hst2 with ⟨_, eD, rfl⟩ | ⟨j, z, q, hz2, _⟩
      · obtain rfl := eD.symm; exact ⟨rfl, rfl, rfl, by omega, DvsF.nil _ _ _, _, _, k.rd, k.rl⟩
      · exfalso
        have q2 : nn = (j : Int) := q
        have := (List.getElem?_eq_some_iff.1 hz2).1
        omega
    · rintro e w' ⟨rfl, hq, hs⟩
      exact ⟨x, N, LA, ln, lc, none, 0, 0, false, 0, rfl, hq.weak (fun y q => .inl q), hs⟩
  · by_cases h2 : (x.pn : Int) ≤ nn
    · have q0 := h.rd.pn
      refine (want_kk_far kk x.ph x.src x.cl x.tg x.A x.n x.cap x.acts x.f x.a x.p x.nm x.tm x.la x.PA x.pn x.pc x.fst N LA ln lc last client surface nn other px py tm back fo OA om oc oa w hk h1 h2 (fun u => WantR (⟨kk, client, surface, nn, other, px, py, tm, back, fo, ⟨OA, om, oc, fs, oa⟩⟩ : DOp) d L last (six w F) N x N LA ln none 0 false 0 u) (fun u v q k => q.chg k (fun y hy => .inr hy)) (fun w1 hs hz => ?_)).mono ?_
      · have k := h.six hs hz
        refine fun d' L' last' ds ok' er' hst => ?_
        obtain ⟨eL, eT, rfl, rfl, hst2⟩ := stepx hst hk; obtain rfl := eL.symm; obtain rfl := eT.symm
        rcases hst2 with ⟨_, eD, rfl⟩ | ⟨j, z, q, hz2, _⟩
        · obtain rfl := eD.symm; exact ⟨rfl, rfl, rfl, by omega, DvsF.nil _ _ _, _, _, k.rd, k.rl⟩
        · exfalso
          have q2 : nn = (j : Int) := q
          have := (List.getElem?_eq_some_iff.1 hz2).1
          omega
      · rintro e w' ⟨rfl, hq, hs⟩
        exact ⟨x, N, LA, ln, lc, none, 0, 0, false, 0, rfl, hq.weak (fun y q => .inl q), hs⟩
    · obtain ⟨j, rfl⟩ : ∃ j : Nat, nn = j := ⟨nn.toNat, by omega⟩
      have hpn := h.rd.pn
      obtain ⟨z, hz⟩ : ∃ z, d.flows[j]? = some z := ⟨_, List.getElem?_eq_getElem (by omega)⟩
      obtain ⟨y, hy, hyq⟩ := rd_pipe h.rd hz
      refine (want_grant kk x.ph x.src x.cl x.tg x.A x.n x.cap x.acts x.f x.a x.p x.nm x.tm x.la x.PA x.pn x.pc x.fst N LA ln lc last client surface other px py tm back fo OA om oc oa w j rs y F hk (by omega) h.pn h.rd.row h.lo hy).mono ?_
      rintro e w' ⟨PA', pc', z', er, rfl, hr, hzq, her, hs⟩
      refine ⟨{ x with PA := PA', pc := pc' }, N, LA, ln, lc, none, 0, 0, false, er, rfl, fun d' L' last' ds ok' er' hst => ?_, hs⟩
      obtain ⟨eL, eT, rfl, rfl, hst2⟩ := stepx hst hk; obtain rfl := eL.symm; obtain rfl := eT.symm
      rcases hst2 with ⟨q, _⟩ | ⟨j2, z2, q, hz2, rfl, rfl⟩
      · exfalso
        have q2 : (j : Int) < 0 ∨ (d.flows.length : Int) ≤ (j : Int) := q
        omega
      · have q2 : (j : Int) = (j2 : Int) := q
        obtain rfl : j2 = j := by omega
        rw [hz] at hz2
        cases hz2
        rw [hyq] at hzq her
        exact ⟨rfl, rfl, her.symm, by omega, DvsF.nil _ _ _, _, _, rd_grant (h.rd.same hs) hz hzq hr, h.rl.same hs⟩
theorem want_any (op : DOp) (lc : Nat) (h : WIn w F d L x rs N LA ln l op) :
    Calls Try.prog 26 #[.agg x.cells.toArray, .agg #[.int .i64 N, .slice LA ln lc], .int .u32 last, .agg op.cells.toArray] w (WantOut op d L last F N w) := by
  obtain ⟨kk, client, surface, nn, other, px, py, tm, back, fo, ⟨OA, om, oc, fs, oa⟩⟩ := op
  have hkk : kk = 0 ∨ kk = 1 ∨ kk = 2 ∨ kk = 3 ∨ kk = 4 ∨ kk = 5 ∨ kk = 6 ∨ kk = 7 ∨ kk = 8 ∨ (kk < 0 ∨ 8 < kk) := by omega
  rcases hkk with rfl | rfl | rfl | rfl | rfl | rfl | rfl | rfl | rfl | hk9
  · exact wany0 client surface nn other px py tm back fo OA om oc fs oa lc h
  · exact wany1 client surface nn other px py tm back fo OA om oc fs oa lc h
  · exact wany2 client surface nn other px py tm back fo OA om oc fs oa lc h
  · exact wany3 client surface nn other px py tm back fo OA om oc fs oa lc h
  · exact wany4 client surface nn other px py tm back fo OA om oc fs oa lc h
  · exact wany5 client surface nn other px py tm back fo OA om oc fs oa lc h
  · exact wany6 client surface nn other px py tm back fo OA om oc fs oa lc h
  · exact wany7 client surface nn other px py tm back fo OA om oc fs oa lc h
  · exact wany8 client surface nn other px py tm back fo OA om oc fs oa lc h
  · exact wanyx kk client surface nn other px py tm back fo OA om oc fs oa lc h hk9
end
end Go.Proofs.Yteolilggeaffaaa
