/- Trees of subsurfaces: Commit. -/
import Derived.Test.YtehcfeibfpgamaaSubV
set_option linter.unusedVariables false
set_option linter.unusedSimpArgs false
set_option maxRecDepth 100000
namespace Go.Proofs.Ytehcfeibfpgamaa
open Go.RowKit

def comR (S : Fo) (i : Int) : Fo × List Int × Int :=
  if hasB S i = true then (if synB S i = true then (cchS S i, [], 0) else ((visS 10 (aplS S i) i).1, i :: (visS 10 (aplS S i) i).2, 0)) else (S, [], 8)
/-- What Commit leaves. -/
def COut (w : World) (b bm : Nat) (R : Nat → Prop) (r : Fo × List Int × Int) (e : Ending) (w' : World) : Prop :=
  ∃ v nb R', e = .returned (.tuple #[v, .int .i64 r.2.2]) ∧ TAt w' b bm nb R' r.1 ∧ Own R R' w w' ∧ w'.ownsRow w.heap.size 3 1 v r.2.1.length (ints r.2.1) ∧ ∀ z, v.ownBlock = some z → ¬ R' z
section
variable {w w' : World} {b bm : Nat} {nb : Int → Nat} {R R' Q : Nat → Prop} {S : Fo} {i p : Int} {n : Nd}
theorem comR_len (h : S.ok) (hi : hasB S i = true) (k : Nat) : (visS k (aplS S i) i).2.length ≤ S.length := by
  have hA := Keeps.apl h i
  have := visS_len k (i := i) hA.ok (by rw [hasB_ids hA.ids]; exact hi)
  have e : (aplS S i).length = S.length := by unfold aplS; rw [List.length_map]
  omega
set_option maxHeartbeats 4000000 in
theorem ycommit (h : TAt w b bm nb R S) (i : Int) :
    Calls Try.prog 14 #[.pointer (some ⟨b, 0, none⟩), .int .i64 i] w (COut w b bm R (comR S i)) := by
  have HC := Lib.hid (ycheck1 h i)
  have HS := Lib.hid ((Chg.refl (fun _ => False) w).alloc (.cells #[.int .i64 i] 3))
  have H := Lib.hid h
  have T := h.same HS.out
  unfold comR
  generalize hW1 : w.alloc (.cells #[.int .i64 i] 3) = W1 at *
  cases hi : hasB S i with
  | false =>
    rw [hi, if_neg (by simp)] at HC
    rw [if_neg (by simp)]
    clear T h hi
    go_enter Try.func14, Try.ntmps14
    go_wp2_with fail
    refine HC.out.mono ?_
    rintro e w1 ⟨rfl, rfl⟩
    go_wp2
    go_ret2
    exact ⟨_, nb, R, rfl, H.out.same HS.out, Own.of_same HS.out fun _ q => .inl q, World.ownsRow_nil _ _ _ _, fun z hz => by simp [Value.ownBlock] at hz⟩
  | true =>
    rw [hi, if_pos rfl] at HC
    rw [if_pos rfl]
    have HSY := Lib.hid (ysync T i hi)
    have HI := Lib.hid hi
    have HT := Lib.hid T
    cases hsy : synB S i with
    | true =>
      rw [hsy] at HSY
      rw [if_pos rfl]
      clear T h hi hsy
      go_enter Try.func14, Try.ntmps14
      go_wp2_with fail
      refine HC.out.mono ?_
      rintro e w1 ⟨rfl, rfl⟩
      go_wp2_with fail
      refine HSY.out.mono ?_
      rintro e w2 ⟨rfl, hs2⟩
      have T2 := HT.out.same hs2
      have c1 := T2.c1
      have l2 := T2.look1 HI.out
      have k2 := T2.cch HI.out
      have f2 := T2.fr HI.out
      have lt2 := T2.nlt HI.out
      have HT2 := Lib.hid T2
      have HS2 := Lib.hid (HS.out.trans hs2)
      clear T2 hs2
      go_wp2_with (refine wpl_lookup _ _ _ l2 ?_)
      go_ret2
      have kk : Chg (fun x => x = nb i) w2 (w2.setCell ⟨nb i, 2, none⟩ (.bool true)) := (Chg.refl _ w2).set1 (nb i) 2 _ rfl
      refine ⟨_, nb, R, rfl, HT2.out.putU HI.out _ (fun n => rfl) kk (fun _ q => q) (fun x hx => Nat.lt_of_lt_of_le (HT2.out.lt x hx) kk.size) (cch_ok H.out.ok) ?_, ⟨(Chg.of_same (S := R) HS2.out).set1 (nb i) 2 _ (H.out.rn _ HI.out), fun _ q => .inl q⟩, World.ownsRow_nil _ _ _ _, fun z hz => by simp [Value.ownBlock] at hz⟩
      intro n hn
      obtain ⟨vp, vc, ha, h1, h2⟩ := HT2.out.nd hn
      have hint := HT2.out.nd_int HI.out
      exact ⟨vp, vc, at_setCell (i := 2) _ ha, h1.other kk hint, h2.other kk hint⟩
    | false =>
      rw [hsy] at HSY
      rw [if_neg (by simp)]
      clear T h hi hsy
      go_enter Try.func14, Try.ntmps14
      go_wp2_with fail
      refine HC.out.mono ?_
      rintro e w1 ⟨rfl, rfl⟩
      go_wp2_with fail
      refine HSY.out.mono ?_
      rintro e w2 ⟨rfl, hs2⟩
      have T2 := HT.out.same hs2
      have HAP := Lib.hid (yapply T2 i HI.out)
      have HS2 := Lib.hid (HS.out.trans hs2)
      have HT2 := Lib.hid T2
      clear T2 hs2
      go_wp2_with fail
      refine HAP.out.mono ?_
      rintro e w3 ⟨rfl, R2, hT3, hk3, hr1, hr2⟩
      have hhA : hasB (aplS S i) i = true := by rw [hasB_ids (Keeps.apl H.out.ok i).ids]; exact HI.out
      have hw2 := HS2.out.size
      have hw3 := hk3.size
      have hk4 : Same w3 (w3.alloc (.cells #[.int .i64 i] 3)) := (Chg.refl _ w3).alloc _
      have hnr : ∀ z, (Value.slice (some ⟨w3.heap.size, 0, none⟩) 1 1).ownBlock = some z → ¬ R2 z := fun z hz q => by
        simp [Value.ownBlock] at hz
        subst hz
        have := hT3.lt _ q
        omega
      have hrec := ydescend w.heap.size 10 (w3.alloc (.cells #[.int .i64 i] 3)) R2 (aplS S i) i (.slice (some ⟨w3.heap.size, 0, none⟩) 1 1) [i] (hT3.same hk4) hhA (by omega)
        (World.ownsRow_lit w3 #[.int .i64 i] 1 (by omega) (by unfold maxLen; omega) rfl) hnr (by simp; omega) (by
          have := comR_len H.out.ok HI.out 10
          have := H.out.few
          simp
          omega)
      have HREC := Lib.hid hrec
      have H3 := Lib.hid (And.intro hk3 (And.intro hr1 hr2))
      clear hT3 hk3 hr1 hr2 hrec hnr hk4
      go_wp2_with fail
      refine HREC.out.mono ?_
      rintro e w5 ⟨v', R', rfl, e2, e3, e4, e5, e6, e7, e8⟩
      have HE := Lib.hid (And.intro e2 (And.intro e3 (And.intro e4 (And.intro e5 (And.intro e6 (And.intro e7 e8))))))
      clear e2 e3 e4 e5 e6 e7 e8
      go_wp2
      go_ret2
      obtain ⟨e2, e3, e4, e5, e6, e7, e8⟩ := HE.out
      obtain ⟨hk3, hr1, hr2⟩ := H3.out
      refine ⟨v', nb, R', rfl, e2, ⟨?_, ?_⟩, e3, e4⟩
      · refine (((Chg.of_same (S := R) HS2.out).then_ hk3 (fun x _ q => nb_R HT2.out x q)).alloc _).then_ e5 (fun x hx q => ?_)
        rcases q with q | q
        · rw [NB_keeps (Keeps.apl H.out.ok i)] at q
          exact nb_R HT2.out x q
        · simp [Value.ownBlock] at q; omega
      · intro x hx
        rcases e7 x hx with q | q
        · rcases hr2 x q with p | p
          · exact .inl p
          · exact .inr (by omega)
        · simp at q; exact .inr (by omega)
end
end Go.Proofs.Ytehcfeibfpgamaa
