/- Trees of subsurfaces: child, SetSync, SetPosition. -/
import Derived.Test.YtehcfeibfpgamaaSubC
set_option linter.unusedVariables false
set_option linter.unusedSimpArgs false
set_option maxRecDepth 100000
namespace Go.Proofs.Ytehcfeibfpgamaa
open Go.RowKit

def childE (S : Fo) (i : Int) : Int := if hasB S i = true then (if parOf S i = 0 then 16 else 0) else 8
def synR (S : Fo) (i : Int) (b : Bool) : Fo × Int := if childE S i = 0 then (synS S i b, 0) else (S, childE S i)
def posR (S : Fo) (i x y : Int) : Fo × Int := if childE S i = 0 then (if max x y > 16384 ∨ min x y < -16384 then (S, 6) else (posS S i x y, 0)) else (S, childE S i)
/-- What a call leaves: the tree, and v as its result. -/
def YOut (w : World) (b bm : Nat) (R : Nat → Prop) (S : Fo) (v : Value) (e : Ending) (w' : World) : Prop :=
  e = .returned v ∧ ∃ nb R', TAt w' b bm nb R' S ∧ Own R R' w w'

section
variable {w w' : World} {b bm : Nat} {nb : Int → Nat} {R R' : Nat → Prop} {S : Fo} {i : Int}
theorem TAt.putU (h : TAt w b bm nb R S) (hi : hasB S i = true) (g : Nd → Nd) (hid : ∀ n, (g n).id = n.id) (k : Chg (fun x => x = nb i) w w') (hr : ∀ x, R x → R' x) (hl : ∀ x, R' x → x < w'.heap.size)
    (hok : Fo.ok (upd S i g)) (hn : ∀ n, get S i = some n → NdAt w' R' (nb i) (g n)) : TAt w' b bm nb R' (upd S i g) :=
  h.put hi _ (fun n => by split; exact hid n; rfl) k hr hl hok (fun n _ e => if_neg e) (fun n q => by rw [if_pos (get_some q).2]; exact hn n q)
theorem TAt.fr (h : TAt w b bm nb R S) (hi : hasB S i = true) (j : Nat) : w.frozen? ⟨nb i, j, none⟩ = false := by
  obtain ⟨n, hn⟩ := has_get hi
  obtain ⟨_, _, ha, _⟩ := h.nd hn
  exact frozen_at ha j
theorem TAt.nlt (h : TAt w b bm nb R S) (hi : hasB S i = true) : nb i < w.heap.size := h.lt _ (h.rn _ hi)
theorem childE_ok (h : childE S i = 0) : hasB S i = true ∧ parOf S i ≠ 0 := by
  unfold childE at h
  split at h
  · rename_i q
    split at h
    · omega
    · rename_i p; exact ⟨q, p⟩
  · omega
theorem ychild (h : TAt w b bm nb R S) (i : Int) :
    Calls Try.prog 52 #[.pointer (some ⟨b, 0, none⟩), .int .i64 i] w fun e w' => e = .returned (.tuple #[if childE S i = 0 then .pointer (some ⟨nb i, 0, none⟩) else .pointer none, .int .i64 (childE S i)]) ∧ Same w w' := by
  have HC := Lib.hid (ycheck1 h i)
  have HS := Lib.hid ((Chg.refl (fun _ => False) w).alloc (.cells #[.int .i64 i] 3))
  have T := h.same HS.out
  have c1 := T.c1
  unfold childE
  cases hi : hasB S i with
  | false =>
    rw [hi, if_neg (by simp)] at HC
    rw [if_neg (by simp), if_neg (by simp)]
    clear T h hi
    go_enter Try.func52, Try.ntmps52
    go_wp2_with fail
    refine HC.out.mono ?_
    rintro e w1 ⟨rfl, rfl⟩
    go_wp2
    go_ret2
    exact ⟨rfl, HS.out⟩
  | true =>
    rw [hi, if_pos rfl] at HC
    rw [if_pos rfl]
    have hl := T.look1 hi
    have hp := T.par hi
    by_cases h0 : parOf S i = 0
    · rw [if_pos h0, if_neg (by omega)]
      rw [h0] at hp
      clear T h hi h0
      go_enter Try.func52, Try.ntmps52
      go_wp2_with fail
      refine HC.out.mono ?_
      rintro e w1 ⟨rfl, rfl⟩
      go_wp2_with (refine wpl_lookup _ _ _ hl ?_)
      go_ret2
      exact ⟨rfl, HS.out⟩
    · rw [if_neg h0, if_pos rfl]
      have hz : (parOf S i == 0) = false := beq_eq_false_iff_ne.2 h0
      clear T h hi h0
      go_enter Try.func52, Try.ntmps52
      go_wp2_with fail
      refine HC.out.mono ?_
      rintro e w1 ⟨rfl, rfl⟩
      go_wp2_with (refine wpl_lookup _ _ _ hl ?_)
      go_ret2
      exact ⟨rfl, HS.out⟩
theorem ysetsync (h : TAt w b bm nb R S) (i : Int) (y : Bool) :
    Calls Try.prog 41 #[.pointer (some ⟨b, 0, none⟩), .int .i64 i, .bool y] w (YOut w b bm R (synR S i y).1 (.int .i64 (synR S i y).2)) := by
  have HC := Lib.hid (ychild h i)
  have H := Lib.hid h
  unfold synR
  by_cases h0 : childE S i = 0
  · rw [if_pos h0]
    rw [h0, if_pos rfl] at HC
    have hh := childE_ok h0
    have HH := Lib.hid hh
    clear h hh h0
    go_enter Try.func41, Try.ntmps41
    go_wp2_with fail
    refine HC.out.mono ?_
    rintro e w1 ⟨rfl, hs⟩
    have T := H.out.same hs
    have f1 := T.fr HH.out.1
    have hlt := T.nlt HH.out.1
    have k1 := T.syn HH.out.1
    have HT := Lib.hid T
    have HS := Lib.hid hs
    clear T hs
    go_wp2
    go_ret
    have kk : Chg (fun x => x = nb i) w1 (w1.setCell ⟨nb i, 1, none⟩ (.bool y)) := (Chg.refl _ w1).set1 (nb i) 1 _ rfl
    refine ⟨rfl, nb, R, HT.out.putU HH.out.1 _ (fun n => rfl) kk (fun _ q => q) (fun x hx => Nat.lt_of_lt_of_le (HT.out.lt x hx) kk.size) (syn_ok H.out.ok y) ?_, ⟨(Chg.of_same (S := R) HS.out).set1 (nb i) 1 _ (H.out.rn _ HH.out.1), fun _ q => .inl q⟩⟩
    intro n hn
    obtain ⟨vp, vc, ha, h1, h2⟩ := HT.out.nd hn
    have hint := HT.out.nd_int HH.out.1
    exact ⟨vp, vc, at_setCell (i := 1) _ ha, h1.other kk hint, h2.other kk hint⟩
  · rw [if_neg h0]
    rw [if_neg h0] at HC
    have hz : (childE S i != 0) = true := bne_iff_ne.2 h0
    clear h h0
    go_enter Try.func41, Try.ntmps41
    go_wp2_with fail
    refine HC.out.mono ?_
    rintro e w1 ⟨rfl, hs⟩
    have HS := Lib.hid hs
    clear hs
    go_wp2
    go_ret
    exact ⟨rfl, nb, R, H.out.same HS.out, Own.of_same HS.out fun _ q => .inl q⟩
theorem ysetpos (h : TAt w b bm nb R S) (i x y : Int) :
    Calls Try.prog 27 #[.pointer (some ⟨b, 0, none⟩), .int .i64 i, .int .i64 x, .int .i64 y] w (YOut w b bm R (posR S i x y).1 (.int .i64 (posR S i x y).2)) := by
  have HC := Lib.hid (ychild h i)
  have H := Lib.hid h
  unfold posR
  by_cases h0 : childE S i = 0
  · rw [if_pos h0]
    rw [h0, if_pos rfl] at HC
    have hh := childE_ok h0
    have HH := Lib.hid hh
    clear h hh h0
    by_cases hb : max x y > 16384 ∨ min x y < -16384
    · rw [if_pos hb]
      by_cases hb1 : 16384 < max x y
      · clear hb
        go_enter Try.func27, Try.ntmps27
        go_wp2_with fail
        refine HC.out.mono ?_
        rintro e w1 ⟨rfl, hs⟩
        have HS := Lib.hid hs
        clear hs
        go_wp2
        go_ret
        exact ⟨rfl, nb, R, H.out.same HS.out, Own.of_same HS.out fun _ q => .inl q⟩
      · have hb2 : min x y < -16384 := hb.resolve_left hb1
        clear hb
        go_enter Try.func27, Try.ntmps27
        go_wp2_with fail
        refine HC.out.mono ?_
        rintro e w1 ⟨rfl, hs⟩
        have HS := Lib.hid hs
        clear hs
        go_wp2
        go_ret
        exact ⟨rfl, nb, R, H.out.same HS.out, Own.of_same HS.out fun _ q => .inl q⟩
    · rw [if_neg hb]
      have hb1 : ¬ 16384 < max x y := fun q => hb (.inl q)
      have hb2 : ¬ min x y < -16384 := fun q => hb (.inr q)
      clear hb
      go_enter Try.func27, Try.ntmps27
      go_wp2_with fail
      refine HC.out.mono ?_
      rintro e w1 ⟨rfl, hs⟩
      have T := H.out.same hs
      have f1 := T.fr HH.out.1
      have hlt := T.nlt HH.out.1
      obtain ⟨n, hn⟩ := has_get HH.out.1
      obtain ⟨vp, vc, ha, h1, h2⟩ := T.nd hn
      have k3 := cell_at ha 3
      have k4 := cell_at ha 4
      simp only [ncells, List.getElem?_cons_succ, List.getElem?_cons_zero] at k3 k4
      have HA := Lib.hid (And.intro ha (And.intro h1 h2))
      have HN := Lib.hid hn
      have HT := Lib.hid T
      have HS := Lib.hid hs
      clear T hs ha h1 h2 hn
      go_wp2
      go_ret
      have kk : Chg (fun z => z = nb i) w1 ((w1.setCell ⟨nb i, 3, none⟩ (.int .i64 x)).setCell ⟨nb i, 4, none⟩ (.int .i64 y)) := (Chg.refl _ w1).set2 (nb i) 3 4 _ _ rfl
      refine ⟨rfl, nb, R, HT.out.putU HH.out.1 _ (fun n => rfl) kk (fun _ q => q) (fun x hx => Nat.lt_of_lt_of_le (HT.out.lt x hx) kk.size) (pos_ok H.out.ok x y) ?_, ⟨(Chg.of_same (S := R) HS.out).set2 (nb i) 3 4 _ _ (H.out.rn _ HH.out.1), fun _ q => .inl q⟩⟩
      intro n' hn'
      rw [HN.out] at hn'
      cases hn'
      obtain ⟨ha, h1, h2⟩ := HA.out
      have hint := HT.out.nd_int HH.out.1
      exact ⟨vp, vc, at_setCell (i := 4) _ (at_setCell (i := 3) _ ha), h1.other kk hint, h2.other kk hint⟩
  · rw [if_neg h0]
    rw [if_neg h0] at HC
    have hz : (childE S i != 0) = true := bne_iff_ne.2 h0
    clear h h0
    go_enter Try.func27, Try.ntmps27
    go_wp2_with fail
    refine HC.out.mono ?_
    rintro e w1 ⟨rfl, hs⟩
    have HS := Lib.hid hs
    clear hs
    go_wp2
    go_ret
    exact ⟨rfl, nb, R, H.out.same HS.out, Own.of_same HS.out fun _ q => .inl q⟩
end
end Go.Proofs.Ytehcfeibfpgamaa
