/- The walk of package clipboard's Gone. -/
import Derived.Test.YtndldjopgbhphaaClipZ
set_option linter.unusedVariables false
set_option linter.unusedSimpArgs false
set_option maxRecDepth 100000
namespace Go.Proofs.Ytndldjopgbhphaa
open Go.RowKit

theorem zeroFlow (w : World) : (zeroValue 128).run Try.prog w = .ok (.agg #[.pointer none, .int .i64 0, .int .i64 0]) w := by kernel_rfl
theorem goneFlows_zero (c : CSt) (cl : Int) : c.goneFlows cl 0 = c.flows := by simp [CSt.goneFlows]
theorem goneFlows_all (c : CSt) (cl : Int) : c.goneFlows cl c.flows.length = c.flows.map (CFlow.gone cl) := by simp [CSt.goneFlows]
theorem goneFlows_len (c : CSt) (cl : Int) (k : Nat) : (c.goneFlows cl k).length = c.flows.length := by
  simp [CSt.goneFlows]; omega
theorem goneFlows_at (c : CSt) (cl : Int) (k : Nat) (x : CFlow) (hx : c.flows[k]? = some x) : (c.goneFlows cl k)[k]? = some x := by
  have hk := (List.getElem?_eq_some_iff.1 hx).1
  unfold CSt.goneFlows
  rw [List.getElem?_append_right (by simp; omega), List.length_map, List.length_take, Nat.min_eq_left (by omega), Nat.sub_self, List.getElem?_drop, Nat.add_zero]
  exact hx
theorem goneFlows_succ (c : CSt) (cl : Int) (k : Nat) (x : CFlow) (hx : c.flows[k]? = some x) : c.goneFlows cl (k + 1) = (c.goneFlows cl k).set k (x.gone cl) := by
  have hk := (List.getElem?_eq_some_iff.1 hx).1
  have hxe : c.flows[k] = x := (List.getElem?_eq_some_iff.1 hx).2
  unfold CSt.goneFlows
  rw [List.take_succ_eq_append_getElem hk, hxe, List.map_append, List.append_assoc]
  rw [List.set_append_right _ _ (by simp; omega)]
  have : k - (List.map (CFlow.gone cl) (List.take k c.flows)).length = 0 := by simp; omega
  rw [this, List.drop_eq_getElem_cons hk]
  rfl
theorem goneFlows_stay (c : CSt) (cl : Int) (k : Nat) (x : CFlow) (hx : c.flows[k]? = some x) (hh : x.hit cl = false) : c.goneFlows cl (k + 1) = c.goneFlows cl k := by
  rw [goneFlows_succ c cl k x hx, show x.gone cl = x by unfold CFlow.gone; rw [hh]; rfl]
  apply List.ext_getElem?
  intro j
  rw [List.getElem?_set]
  split
  · rename_i e
    subst e
    rw [goneFlows_at c cl k x hx, if_pos (by rw [goneFlows_len]; exact (List.getElem?_eq_some_iff.1 hx).1)]
  · rfl

/-- Where the loop of Gone stands. -/
structure GoneS (w wr : World) (b lb : Nat) (R : Nat → Prop) (c : CSt) (cl : Int) (k : Nat) (A : Option Addr) (n cap mb : Nat) (R' : Nat → Prop) : Prop where
  hd : ClipHd wr b lb R' { c with flows := c.goneFlows cl k } A n cap mb
  own : Own R R' w wr
theorem GoneS.next {w wr w1 w2 : World} {b lb : Nat} {R R' : Nat → Prop} {c : CSt} {cl : Int} {k : Nat} {A : Option Addr} {n cap mb : Nat} (h : GoneS w wr b lb R c cl k A n cap mb R') {x : CFlow} (hx : c.flows[k]? = some x) (hh : x.hit cl = true)
    (hp : PipeAt w1 x.pb x.R x.q.cancel) (k1 : Chg (fun j => j = x.pb) wr w1) (hm : MapIs w2 mb (fun j => if j = (k : Int) + 1 then none else flowMap (c.goneFlows cl k) j)) (k2 : Chg (fun j => j = mb) w1 w2) :
    ∃ R2, GoneS w w2 b lb R c cl (k + 1) A n cap mb R2 := by
  have hat := goneFlows_at c cl k x hx
  have hxm : x ∈ c.goneFlows cl k := List.mem_of_getElem? hat
  have hrb := (h.hd.pipes x hxm).rb
  have h1 := h.hd.setFlow (i := k) hat (k1.mono (fun j _ e => by subst e; exact hrb)) hp (fun j q => .inl q)
  have hlen : k < (c.goneFlows cl k).length := (List.getElem?_eq_some_iff.1 hat).1
  have h2 := h1.dropFlow (i := k) (x := { x with q := x.q.cancel }) (by rw [List.getElem?_set_self hlen]) k2 (hm.congr (fun j => by rw [flowMap_set _ _ x { x with q := x.q.cancel } hat rfl rfl]))
  have e : ((c.goneFlows cl k).set k { x with q := x.q.cancel }).set k { x with q := x.q.cancel, live := false } = c.goneFlows cl (k + 1) := by
    rw [List.set_set, goneFlows_succ c cl k x hx, show x.gone cl = { x with q := x.q.cancel, live := false } by unfold CFlow.gone; rw [hh]; rfl]
  refine ⟨fun j => R' j ∨ x.R j, ⟨?_, ?_⟩⟩
  · have h3 := h2
    simp only at h3
    rw [e] at h3
    exact h3
  · refine h.own.trans ⟨?_, fun j q => ?_⟩
    · refine (Chg.mono (R := R') k1 (fun j _ e => by subst e; exact (h.hd.sub x hxm _ hrb).1)).then_ k2 (fun j _ e => by subst e; exact h.hd.rm)
    · rcases q with q | q
      · exact .inl q
      · exact .inl (h.hd.sub x hxm j q).1
theorem GoneS.stay {w wr w1 : World} {b lb : Nat} {R R' : Nat → Prop} {c : CSt} {cl : Int} {k : Nat} {A : Option Addr} {n cap mb : Nat} (h : GoneS w wr b lb R c cl k A n cap mb R') {x : CFlow} (hx : c.flows[k]? = some x) (hh : x.hit cl = false) (k1 : Same wr w1) :
    ∃ R2, GoneS w w1 b lb R c cl (k + 1) A n cap mb R2 := by
  refine ⟨R', ⟨?_, h.own.same k1⟩⟩
  rw [goneFlows_stay c cl k x hx hh]
  exact h.hd.chg k1 (fun _ _ q => q)
def GoneOut (b lb : Nat) (R : Nat → Prop) (c' : CSt) (w : World) (e : Ending) (w' : World) : Prop :=
  e = .returned (.tuple #[]) ∧ ∃ R', ClipAt w' b lb R' c' ∧ Own R R' w w'
theorem cgone_nil (client : Int) (w : World) : Calls Try.prog 32 #[.pointer none, .int .i64 client] w fun e w' => e = .returned (.tuple #[]) ∧ w = w' := by
  go_enter Try.func32, Try.ntmps32
  go_wp2_with fail
  refine (made_nil _).mono ?_
  rintro e w' ⟨rfl, rfl⟩
  go_wp2
  exact bodyPost_ret (v := .tuple #[]) (by simp [results, Try.results32, go_sem]) rfl ⟨rfl, rfl⟩
set_option maxHeartbeats 4000000 in
theorem cgone_ok {w : World} {b lb : Nat} {R : Nat → Prop} {c : CSt} (client : Int) (h : ClipAt w b lb R c) :
    Calls Try.prog 32 #[.pointer (some ⟨b, 0, none⟩), .int .i64 client] w (GoneOut b lb R (c.gone client) w) := by
  obtain ⟨A, n, cap, mb, h⟩ := h
  have HM := Lib.hid (made_at h)
  by_cases h1 : client < 1
  · have e : c.gone client = c := by unfold CSt.gone; rw [if_pos h1]
    rw [e]
    have HH := Lib.hid h
    clear h e
    go_enter Try.func32, Try.ntmps32
    go_wp2_with fail
    refine HM.out.mono ?_
    rintro e w1 ⟨rfl, rfl⟩
    go_wp2
    go_end0
    exact ⟨rfl, R, ⟨A, n, cap, mb, HH.out⟩, Own.refl _ _⟩
  · have e : c.gone client = { c with flows := c.flows.map (CFlow.gone client), owner := if c.owner = client then 0 else c.owner, fmts := if c.owner = client then [] else c.fmts, focus := if c.focus = client then 0 else c.focus } := by unfold CSt.gone; rw [if_neg h1]
    have GE := Lib.hid e
    generalize c.gone client = c' at GE ⊢
    obtain ⟨N, hN⟩ : ∃ N, c.flows.length = N := ⟨_, rfl⟩
    have hfew : N ≤ 1000 := by rw [← hN]; exact h.few
    have HN := Lib.hid hN
    have HST : Hid (∃ R', GoneS w w b lb R c client 0 A n cap mb R') := Lib.hid ⟨R, ⟨by rw [goneFlows_zero]; exact h, Own.refl _ _⟩⟩
    clear h e hN
    go_enter Try.func32, Try.ntmps32
    go_wp2_with fail
    refine HM.out.mono ?_
    rintro e w1 ⟨rfl, rfl⟩
    go_wp2
    go_loopg [4] N (fun g v4 wr => ∃ (k : Nat), k ≤ N ∧ g = N - k ∧ v4 = .int .i64 ((k : Int) + 1) ∧ ∃ R', GoneS w wr b lb R c client k A n cap mb R')
    case atStart => exact ⟨0, by omega, by omega, rfl, HST.out⟩
    case round =>
      obtain ⟨k, hk, hg, rfl, R', hst⟩ := hrel
      have HG := Lib.hid hg
      have HS := Lib.hid hst
      have c7 := hst.hd.c7
      have c8 := hst.hd.c8
      simp only [goneFlows_len, HN.out] at c7
      have hbl := hst.hd.lt b hst.hd.rb
      have hml := hst.hd.lt mb hst.hd.rm
      have s1 : IntKind.i64.wrap ((k : Int) + 1 + 1) = (k : Int) + 1 + 1 := IntWalk.i64_in _ (by omega)
      clear hg hst
      by_cases hlt : k < N
      · obtain ⟨x, hx⟩ : ∃ x, c.flows[k]? = some x := ⟨_, List.getElem?_eq_getElem (by rw [HN.out]; exact hlt)⟩
        have hlook := fun z (hz : (zeroValue 128).run Try.prog wr = .ok z wr) => HS.out.hd.mp.look Try.underlying117 Try.underlying3 hz ((k : Int) + 1) true
        have hlk := hlook _ (zeroFlow wr)
        clear hlook
        rw [if_pos rfl, flowMap_at _ _ _ (goneFlows_at c client k x hx)] at hlk
        have hle : (k : Int) + 1 ≤ (N : Int) := by omega
        have HX := Lib.hid hx
        clear hx
        obtain ⟨pb, Rp, q, src, rdr, live⟩ := x
        have hpipe := HS.out.hd.pipes _ (List.mem_of_getElem? (goneFlows_at c client k _ HX.out))
        have hsub := HS.out.hd.sub _ (List.mem_of_getElem? (goneFlows_at c client k _ HX.out))
        simp only at hpipe hsub
        have HP := Lib.hid hpipe
        have hpb := hpipe.blt
        have hbp : b ≠ pb := fun e => (hsub pb hpipe.rb).2.1 e.symm
        have hmp : mb ≠ pb := fun e => (hsub pb hpipe.rb).2.2 e.symm
        have HBP := Lib.hid (And.intro hbp hmp)
        clear hpipe hsub hbp hmp
        cases live
        · simp only [Bool.false_eq_true, if_false, Option.getD_none, Option.isSome_none] at hlk
          as_aux_lemma =>
            go_wp2
            go_roundg (N - (k + 1))
            case measure => have := HG.out; omega
            case rel => exact ⟨k + 1, by omega, by rfl, by go_num, HS.out.stay HX.out (by rfl) ((Chg.refl _ _).alloc _)⟩
        · simp only [if_true, Option.getD_some, Option.isSome_some, CFlow.val] at hlk
          cases h2 : (src == client)
          · cases h3 : (rdr == client)
            · have hnh : CFlow.hit client ⟨pb, Rp, q, src, rdr, true⟩ = false := by unfold CFlow.hit; simp only [h2, h3]; rfl
              have HNH := Lib.hid hnh
              clear hnh
              as_aux_lemma =>
                go_wp2
                go_roundg (N - (k + 1))
                case measure => have := HG.out; omega
                case rel => exact ⟨k + 1, by omega, by rfl, by go_num, HS.out.stay HX.out HNH.out ((Chg.refl _ _).alloc _)⟩
            · have hnh : CFlow.hit client ⟨pb, Rp, q, src, rdr, true⟩ = true := by unfold CFlow.hit; simp only [h2, h3]; rfl
              have HNH := Lib.hid hnh
              clear hnh
              as_aux_lemma =>
                go_wp2_with fail
                refine (pcancel_ok pb _ Rp q (HP.out.chg ((Chg.refl (fun _ => False) wr).alloc _) (fun _ _ q => q))).mono ?_
                rintro e w1 ⟨rfl, hp1, hk1⟩
                have hkk : Chg (fun j => j = pb) wr w1 := ((Chg.refl (fun j => j = pb) wr).alloc _).trans hk1
                have d8 := hkk.cell c8 HBP.out.1
                have HK := Lib.hid hkk
                have HP1 := Lib.hid hp1
                clear hk1 hp1 hkk hlk
                go_wp2_with (at_delete; refine wpl_mapDrop (b := mb) (f := flowMap (c.goneFlows client k)) (HS.out.hd.mp.chg HK.out HBP.out.2) Try.underlying117 Try.underlying3 _ _ ((k : Int) + 1) rfl rfl ?_; intro w2 hm2 hk2; have HM2 := Lib.hid hm2; have HK2 := Lib.hid hk2; clear hm2 hk2)
                go_roundg (N - (k + 1))
                case measure => have := HG.out; omega
                case rel => exact ⟨k + 1, by omega, by rfl, by go_num, HS.out.next HX.out HNH.out HP1.out HK.out HM2.out HK2.out⟩
          · have hnh : CFlow.hit client ⟨pb, Rp, q, src, rdr, true⟩ = true := by unfold CFlow.hit; simp only [h2]; rfl
            have HNH := Lib.hid hnh
            clear hnh
            as_aux_lemma =>
              go_wp2_with fail
              refine (pcancel_ok pb _ Rp q (HP.out.chg ((Chg.refl (fun _ => False) wr).alloc _) (fun _ _ q => q))).mono ?_
              rintro e w1 ⟨rfl, hp1, hk1⟩
              have hkk : Chg (fun j => j = pb) wr w1 := ((Chg.refl (fun j => j = pb) wr).alloc _).trans hk1
              have d8 := hkk.cell c8 HBP.out.1
              have HK := Lib.hid hkk
              have HP1 := Lib.hid hp1
              clear hk1 hp1 hkk hlk
              go_wp2_with (at_delete; refine wpl_mapDrop (b := mb) (f := flowMap (c.goneFlows client k)) (HS.out.hd.mp.chg HK.out HBP.out.2) Try.underlying117 Try.underlying3 _ _ ((k : Int) + 1) rfl rfl ?_; intro w2 hm2 hk2; have HM2 := Lib.hid hm2; have HK2 := Lib.hid hk2; clear hm2 hk2)
              go_roundg (N - (k + 1))
              case measure => have := HG.out; omega
              case rel => exact ⟨k + 1, by omega, by rfl, by go_num, HS.out.next HX.out HNH.out HP1.out HK.out HM2.out HK2.out⟩
      · have hle : ¬ (k : Int) + 1 ≤ (N : Int) := by omega
        obtain rfl : k = N := by omega
        have HE : Hid (c.goneFlows client k = c.flows.map (CFlow.gone client)) := Lib.hid (by rw [← HN.out]; exact goneFlows_all c client)
        have c1 := HS.out.hd.c1
        have c2 := HS.out.hd.c2
        have c3 := HS.out.hd.c3
        have fr := HS.out.hd.fr
        simp only at c1 c2 c3
        cases h2 : (c.owner == client)
        · have e2 : ¬ c.owner = client := by simpa using h2
          have E2 := Lib.hid e2
          clear e2
          cases h3 : (c.focus == client)
          · have E3 := Lib.hid (show ¬ c.focus = client by simpa using h3)
            as_aux_lemma =>
              go_wp2
              go_end0
              refine ⟨rfl, R', ⟨A, n, cap, mb, ?_⟩, HS.out.own⟩
              rw [GE.out, if_neg E2.out, if_neg E2.out, if_neg E3.out, ← HE.out]
              exact HS.out.hd
          · have E3 := Lib.hid (show c.focus = client by simpa using h3)
            as_aux_lemma =>
              go_wp2
              go_end0
              rw [GE.out, if_neg E2.out, if_neg E2.out, if_pos E3.out, ← HE.out]
              have kk : Chg (fun x => x = b) wr (wr.setCell ⟨b, 3, none⟩ (.int .i64 0)) := Chg.set1 (S := fun x => x = b) (Chg.refl _ _) b 3 _ rfl
              refine ⟨rfl, R', ⟨A, n, cap, mb, HS.out.hd.upd _ rfl rfl HS.out.hd.offs kk (at_setCell (i := 3) _ HS.out.hd.at_)⟩, HS.out.own.trans ⟨kk.mono (fun x _ e => by subst e; exact HS.out.hd.rb), fun _ q => .inl q⟩⟩
        · have e2 : c.owner = client := by simpa using h2
          have E2 := Lib.hid e2
          clear e2
          have fin : ∀ _ : Unit, ∃ R2, ClipAt ((wr.setCell ⟨b, 1, none⟩ (.int .i64 0)).setCell ⟨b, 2, none⟩ (.slice none 0 0)) b lb R2 { c with flows := c.goneFlows client k, owner := 0, fmts := [] } ∧ Own R R2 w ((wr.setCell ⟨b, 1, none⟩ (.int .i64 0)).setCell ⟨b, 2, none⟩ (.slice none 0 0)) := by
            intro _
            have kk : Chg (fun x => x = b) wr ((wr.setCell ⟨b, 1, none⟩ (.int .i64 0)).setCell ⟨b, 2, none⟩ (.slice none 0 0)) := Chg.set2 (S := fun x => x = b) (Chg.refl _ _) b 1 2 _ _ rfl
            refine ⟨_, ⟨none, 0, 0, mb, ClipHd.updF HS.out.hd { c with flows := c.goneFlows client k, owner := 0, fmts := [] } rfl HS.out.hd.offs (by simp) kk (at_setCell (i := 2) _ (at_setCell (i := 1) _ HS.out.hd.at_)) (SArg.nil _) (fun hn => absurd hn (by omega))⟩, HS.out.own.trans ⟨kk.mono (fun x _ e => by subst e; exact HS.out.hd.rb), fun x hx => ?_⟩⟩
            rcases hx with hx | hx
            · exact .inl hx
            · exact .inr hx.1
          have FIN := Lib.hid (fin ())
          clear fin
          cases h3 : (c.focus == client)
          · have E3 := Lib.hid (show ¬ c.focus = client by simpa using h3)
            as_aux_lemma =>
              go_wp2
              go_end0
              rw [GE.out, if_pos E2.out, if_pos E2.out, if_neg E3.out, ← HE.out]
              exact ⟨rfl, FIN.out⟩
          · have E3 := Lib.hid (show c.focus = client by simpa using h3)
            as_aux_lemma =>
              go_wp2
              go_end0
              rw [GE.out, if_pos E2.out, if_pos E2.out, if_pos E3.out, ← HE.out]
              obtain ⟨R2, ⟨A2, n2, cap2, mb2, hd2⟩, hown⟩ := FIN.out
              have kk : Chg (fun x => x = b) ((wr.setCell ⟨b, 1, none⟩ (.int .i64 0)).setCell ⟨b, 2, none⟩ (.slice none 0 0)) (((wr.setCell ⟨b, 1, none⟩ (.int .i64 0)).setCell ⟨b, 2, none⟩ (.slice none 0 0)).setCell ⟨b, 3, none⟩ (.int .i64 0)) := Chg.set1 (S := fun x => x = b) (Chg.refl _ _) b 3 _ rfl
              exact ⟨rfl, R2, ⟨A2, n2, cap2, mb2, hd2.upd { c with flows := c.goneFlows client k, owner := 0, fmts := [], focus := 0 } rfl rfl hd2.offs kk (at_setCell (i := 3) _ hd2.at_)⟩, hown.trans ⟨kk.mono (fun x _ e => by subst e; exact hd2.rb), fun _ q => .inl q⟩⟩
end Go.Proofs.Ytndldjopgbhphaa
