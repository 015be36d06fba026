/- The walk of exampleHolds of compositorlaw43. -/
import Derived.Test.YteolilggeaffaaaEx43
set_option linter.unusedVariables false
set_option linter.unusedSimpArgs false
set_option maxRecDepth 100000
namespace Go.Proofs.Yteolilggeaffaaa
open Go.RowKit

set_option maxHeartbeats 4000000 in
theorem example43_ok (w : World) : Calls Try.prog 11 #[] w fun e w' => e = .returned (.bool true) ∧ Same w w' := by
  go_enter Try.func11, Try.ntmps11
  go_wp2_with fail
  refine (ds_lognew _).mono ?_
  rintro e w1 ⟨rfl, hl1, hs1⟩
  have HL1 := Lib.hid hl1
  have HS1 := Lib.hid hs1
  clear hl1 hs1
  go_wp2_with fail
  refine (ds_new (w0 := w) HL1.out (Nat.le_refl _) HS1.out).mono ?_
  rintro e w2 ⟨b, R, rfl, hses, _, _⟩
  have H2 := Lib.hid hses
  clear hses HL1 HS1
  go_wp2_with fail
  refine (dnew_nil _).mono ?_
  rintro e w3 ⟨rfl, rfl⟩
  go_wp2_with fail
  refine (ds_issue exL 1 1 5 4 H2.out (by omega) (by omega) (by decide +kernel) rfl).mono ?_
  rintro e w3 ⟨rfl, hses, _⟩
  have H3 := Lib.hid hses
  clear hses H2
  go_wp2_with fail
  refine (text_ok 3 _).mono ?_
  rintro e w4 ⟨g4, rfl, hg, hsa, hk⟩
  have HG := Lib.hid (And.intro hg hsa)
  have H4 := Lib.hid (H3.out.keep hk)
  have HN : Hid (¬ R g4) := Lib.hid (fun q => by have := H3.out.lt g4 q; omega)
  clear hg hsa hk H3
  go_wp2_with fail
  refine (ds_start exD1 0 1 5 0 3 1 _ 1 1 [tp] H4.out HG.out.2 (fun _ g o e => by cases e; exact HN.out) ex_a ex_a').mono ?_
  rintro e w5 ⟨R5, rfl, hses, _⟩
  have H5 := Lib.hid hses
  clear hses H4 HG HN
  go_wp2_with fail
  refine (ds_move exD2 exL2 _ 2 7 3 4 10 H5.out (by decide) (by omega) (by omega) ex_b ex_bl ex_bo).mono ?_
  rintro e w6 ⟨v, rfl, hout, hses, _⟩
  obtain ⟨gb, capb, rfl, hgb, _, hcb, hob⟩ := hout.one
  have H6 := Lib.hid hses
  have NB : Hid (¬ R5 gb ∧ ¬ (gb = b ∨ gb = w.heap.size)) := Lib.hid ⟨fun q => by have := H5.out.lt gb q; omega, fun q => by rcases q with q | q; (have := H5.out.lt b H5.out.drag.rb; omega); (have := H5.out.llt; omega)⟩
  have OB := Lib.hid hob
  clear hses H5 hout hob hgb
  go_wp2_with fail
  refine (ds_move exD3 exL2 _ 2 7 4 4 11 H6.out (by decide) (by omega) (by omega) ex_c ex_cl ex_co).mono ?_
  rintro e w7 ⟨v, rfl, hout, hses, hk⟩
  obtain ⟨gc, capc, rfl, hgc, _, hcc, hoc⟩ := hout.one
  have H7 := Lib.hid hses
  have NC : Hid (¬ R5 gc) := Lib.hid (fun q => by have := H6.out.lt gc q; omega)
  have OC := Lib.hid hoc
  have OB := Lib.hid (OB.out.chg hk NB.out.2)
  clear hses H6 hout hoc hgc hk
  go_wp2_with fail
  refine (ds_accept exD3 17 3 tp H7.out ex_e ex_e').mono ?_
  rintro e w8 ⟨rfl, hses, hk⟩
  have H8 := Lib.hid hses
  have OC := Lib.hid (OC.out.chg hk NC.out)
  have OB := Lib.hid (OB.out.chg hk NB.out.1)
  clear hses H7 hk
  go_wp2_with fail
  refine (ds_accept exD4 0 2 tp H8.out ex_f ex_f').mono ?_
  rintro e w9 ⟨rfl, hses, hk⟩
  have H9 := Lib.hid hses
  have OC := Lib.hid (OC.out.chg hk NC.out)
  have OB := Lib.hid (OB.out.chg hk NB.out.1)
  clear hses H8 hk
  go_wp2_with fail
  refine (ds_setact exD5 0 2 6 2 H9.out ex_g ex_g').mono ?_
  rintro e w10 ⟨rfl, hses, hk⟩
  have H10 := Lib.hid hses
  have OC := Lib.hid (OC.out.chg hk NC.out)
  have OB := Lib.hid (OB.out.chg hk NB.out.1)
  clear hses H9 hk
  go_wp2_with fail
  refine (ds_action 2 H10.out ex_act).mono ?_
  rintro e w11 ⟨rfl, hses, hk⟩
  have H11 := Lib.hid hses
  have OC := Lib.hid (OC.out.chg hk (fun q => q))
  have OB := Lib.hid (OB.out.chg hk (fun q => q))
  clear hses H10 hk
  go_wp2_with fail
  refine (ds_drop exD6 _ true H11.out ex_hs ex_ho ex_h).mono ?_
  rintro e w12 ⟨v, rfl, hout, hses, hk⟩
  obtain ⟨gh, caph, rfl, hgh, _, hch, hoh⟩ := hout.one
  have H12 := Lib.hid hses
  have NH : Hid (¬ R5 gh) := Lib.hid (fun q => by have := H11.out.lt gh q; omega)
  have OH := Lib.hid hoh
  have OC := Lib.hid (OC.out.chg hk NC.out)
  have OB := Lib.hid (OB.out.chg hk NB.out.1)
  clear hses H11 hk hout hoh hgh
  go_wp2_with fail
  refine (ds_finish exD6 14 2 H12.out ex_i ex_i').mono ?_
  rintro e w13 ⟨rfl, hses, hk⟩
  have H13 := Lib.hid hses
  have OC := Lib.hid (OC.out.chg hk NC.out)
  have OB := Lib.hid (OB.out.chg hk NB.out.1)
  have OH := Lib.hid (OH.out.chg hk NH.out)
  clear hses H12 hk
  go_wp2_with fail
  refine (ds_rcv 2 100 tp H13.out ex_j (by decide)).mono ?_
  rintro e w14 ⟨R14, pb, Rp, rfl, hses, hk⟩
  have H14 := Lib.hid hses
  have M : Hid (∀ g, One w13 g [] → True) := Lib.hid (fun _ _ => trivial)
  have NB' : Hid (¬ R14 gb) := Lib.hid (fun q => by rcases hk.new gb q with q | q; exact NB.out.1 q; have := OB.out.lt; omega)
  have NC' : Hid (¬ R14 gc) := Lib.hid (fun q => by rcases hk.new gc q with q | q; exact NC.out q; have := OC.out.lt; omega)
  have NH' : Hid (¬ R14 gh) := Lib.hid (fun q => by rcases hk.new gh q with q | q; exact NH.out q; have := OH.out.lt; omega)
  have OC := Lib.hid (OC.out.chg hk.chg NC.out)
  have OB := Lib.hid (OB.out.chg hk.chg NB.out.1)
  have OH := Lib.hid (OH.out.chg hk.chg NH.out)
  clear hses H13 hk M
  go_wp2_with fail
  refine (ds_finish _ 0 2 H14.out (ex_k _) (ex_k' _)).mono ?_
  rintro e w15 ⟨rfl, hses, hk⟩
  have H15 := Lib.hid hses
  have OC := (OC.out.chg hk NC'.out)
  have OB := (OB.out.chg hk NB'.out)
  have OH := (OH.out.chg hk NH'.out)
  obtain ⟨p0, p1, p2, p3, p4, p5, p6, p7, p8⟩ := OB.cells
  obtain ⟨q0, q1, q2, q3, q4, q5, q6, q7, q8⟩ := OC.cells
  have r2 := OH.cells.2.2.1
  have hlb := OB.lt
  have hlc := OC.lt
  have hlh := OH.lt
  have e1 := eql_deliv 2 7 14 0 3 4 1 0 2
  have e2 := eql_deliv 2 7 15 11 4 4 0 0 0
  clear hses H14 hk OB OC OH
  go_wp2_with fail
  refine (ds_state 0 H15.out rfl).mono ?_
  rintro e w16 ⟨rfl, rfl⟩
  go_wp2
  go_ret
  exact ⟨rfl, H15.out.same⟩
end Go.Proofs.Yteolilggeaffaaa
