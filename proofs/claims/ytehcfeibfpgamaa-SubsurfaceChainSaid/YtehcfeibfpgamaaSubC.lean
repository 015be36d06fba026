/- Trees of subsurfaces: children, height. -/
import Derived.Test.YtehcfeibfpgamaaSubK
set_option linter.unusedVariables false
set_option linter.unusedSimpArgs false
set_option maxRecDepth 100000
namespace Go.Proofs.Ytehcfeibfpgamaa
open Go.RowKit

/-- How many of S meet f and are still to come. -/
def cntL (left : Int → Bool) (f : Nd → Bool) (S : List Nd) : Nat := S.countP fun n => left n.id && f n
theorem cntL_all {left : Int → Bool} {f : Nd → Bool} {S : List Nd} (h : ∀ n ∈ S, left n.id = true) : cntL left f S = S.countP f := by
  unfold cntL
  exact List.countP_congr fun n hn => by rw [h n hn]; simp
theorem cntL_none {left : Int → Bool} {f : Nd → Bool} {S : List Nd} (h : ∀ k, left k = false) : cntL left f S = 0 := by
  unfold cntL
  exact List.countP_eq_zero.2 fun n hn => by rw [h]; simp
theorem cntL_step {left : Int → Bool} {f : Nd → Bool} {k : Int} (hk : left k = true) : ∀ {S : List Nd} {n : Nd}, (S.map Nd.id).Nodup → get S k = some n → cntL left f S = cntL (fun x => left x && !(x == k)) f S + (if f n = true then 1 else 0)
  | [], n, _, h => by simp [get] at h
  | a :: l, n, hnd, h => by
    simp only [List.map_cons, List.nodup_cons] at hnd
    unfold get at h
    rw [List.find?_cons] at h
    unfold cntL
    rw [List.countP_cons, List.countP_cons]
    by_cases e : a.id = k
    · have eb : (a.id == k) = true := by simpa using e
      rw [eb] at h
      cases h
      have hc : l.countP (fun n => left n.id && f n) = l.countP (fun n => (left n.id && !(n.id == k)) && f n) := List.countP_congr fun m hm => by
        have : (m.id == k) = false := beq_eq_false_iff_ne.2 fun q => hnd.1 (by rw [e, ← q]; exact List.mem_map_of_mem hm)
        rw [this]; simp
      rw [hc, e, hk]
      dsimp only
      simp [hk]
    · have eb : (a.id == k) = false := by simpa using e
      rw [eb] at h
      have ih := cntL_step (f := f) hk hnd.2 h
      unfold cntL at ih
      rw [ih]
      simp only [eb, Bool.not_false, Bool.and_true]
      omega

section
variable {w : World} {b bm : Nat} {nb : Int → Nat} {R : Nat → Prop} {S : Fo}
theorem tmap_some {k : Int} {v : Value} (h : tmap S nb k = some v) : hasB S k = true ∧ v = ptrOf nb k := by
  unfold tmap at h
  split at h
  · rename_i q; exact ⟨q, (Option.some.inj h).symm⟩
  · cases h
theorem tmap_is {k : Int} (h : hasB S k = true) : (tmap S nb k).isSome = true := by unfold tmap; rw [if_pos h]; rfl
theorem kids_le (S : Fo) (i : Int) : kids S i ≤ S.length := List.countP_le_length
theorem ychildren (h : TAt w b bm nb R S) (i : Int) :
    Calls Try.prog 31 #[.pointer (some ⟨b, 0, none⟩), .int .i64 i] w fun e w' => e = .returned (.int .i64 (kids S i)) ∧ Same w w' := by
  have c1 := h.c1
  have hm := h.map
  have hf : kids S i ≤ 1000 := Nat.le_trans (kids_le S i) h.few
  have H := Lib.hid h
  have HF := Lib.hid hf
  clear h hf
  go_enter Try.func31, Try.ntmps31
  go_wp2_with (refine wpl_range hm Try.underlying60 _ rfl ?_)
  intro w1 cnt hR hS hz
  have HR := Lib.hid hR
  have HS := Lib.hid hS
  clear hR hS
  go_wp2
  go_frame
  go_loopw [5] (fun v5 wr => Same w wr ∧ ∃ left cnt, RngIs wr bm w.heap.size (tmap S nb) left cnt ∧ ∃ k : Nat, v5 = .int .i64 k ∧ k + cntL left (fun n => n.par == i) S = kids S i) (fun v5 wr => wr.rangeLeft bm w.heap.size)
  case atStart => exact ⟨HS.out, _, _, HR.out, 0, rfl, by rw [cntL_all (fun n hn => tmap_is (hasB_iff.2 (List.mem_map_of_mem hn)))]; unfold kids; omega⟩
  case round =>
    obtain ⟨hsm, left, cnt2, hr2, k, rfl, hk⟩ := hrel
    rename_i wr _
    have HS2 := Lib.hid hsm
    have HR2 := Lib.hid hr2
    have HK := Lib.hid hk
    clear hsm hk
    go_wp2_with (refine wpl_next hr2 _ rfl ?_ ?_)
    · intro hno
      have HN := Lib.hid hno
      clear hno
      go_wp2
      go_ret
      refine ⟨?_, HS2.out⟩
      have := HK.out
      rw [cntL_none HN.out, Nat.add_zero] at this
      rw [← this]; rfl
    · intro z v w2 cnt3 hl hv hr3 hlt hc3 hs3 hent
      obtain ⟨hz2, rfl⟩ := tmap_some hv
      have hsame : Same w w2 := HS2.out.then_ hc3 (fun x hx e => by omega)
      obtain ⟨n, hn⟩ := has_get hz2
      have hp := (H.out.same hsame).par hz2
      have hstep := cntL_step (f := fun n => n.par == i) hl H.out.ok.ids hn
      have hk2 : (k : Int) ≤ 1000 := by have := HK.out; have := HF.out; omega
      have e1 := HR2.out.left_eq
      have e2 := hr3.left_eq
      have HST := Lib.hid hstep
      have HSM := Lib.hid hsame
      have HR3 := Lib.hid hr3
      have HLT := Lib.hid hlt
      have hpn := parOf_get hn
      rw [hpn] at hp
      clear hstep hsame hr3 hc3 hs3 hv hz2 hl hlt hn hpn
      unfold ptrOf at *
      by_cases hpi : (n.par == i) = true
      · rw [show n.par = i by simpa using hpi] at hp
        have HPI := Lib.hid hpi
        clear hpi
        go_wp2
        exact ⟨⟨HSM.out, _, _, HR3.out, k + 1, by go_num, by have := HST.out; have := HK.out; rw [if_pos HPI.out] at *; omega⟩, by rw [e1, e2]; exact HLT.out⟩
      · have hne : (n.par == i) = false := by simpa using hpi
        have HPI := Lib.hid hpi
        clear hpi
        go_wp2
        exact ⟨⟨HSM.out, _, _, HR3.out, k, rfl, by have := HST.out; have := HK.out; rw [if_neg HPI.out] at *; omega⟩, by rw [e1, e2]; exact HLT.out⟩
theorem heightL_le (S : Fo) (i : Int) : ∀ (l : List Nd) (m : Nat), (∀ n ∈ l, inP (parOf S) n.id i = true → depth S n.id - depth S i ≤ m) → heightL S i l ≤ m
  | [], m, _ => Nat.zero_le _
  | a :: l, m, h => by
    have ih := heightL_le S i l m (fun n hn => h n (List.mem_cons_of_mem _ hn))
    unfold heightL
    by_cases e : inP (parOf S) a.id i = true
    · rw [if_pos e]
      have := h a (by simp) e
      omega
    · rw [if_neg e]
      omega
theorem height_le (hS : (S.map Nd.id).Nodup) {m : Nat} {i : Int} (h : ∀ k, hasB S k = true → inP (parOf S) k i = true → depth S k - depth S i ≤ m) : height S i ≤ m :=
  heightL_le S i S m fun n hn => h n.id (hasB_iff.2 (List.mem_map_of_mem hn))
theorem le_height {k i : Int} (hk : hasB S k = true) (h : inP (parOf S) k i = true) : depth S k - depth S i ≤ height S i := by
  obtain ⟨n, hn⟩ := has_get hk
  obtain ⟨hm, rfl⟩ := get_some hn
  exact heightL_ge S i S n hm h
theorem yheight (h : TAt w b bm nb R S) (i : Int) (hi : hasB S i = true) :
    Calls Try.prog 33 #[.pointer (some ⟨b, 0, none⟩), .int .i64 i] w fun e w' => e = .returned (.int .i64 (height S i)) ∧ Same w w' := by
  have c1 := h.c1
  have hm := h.map
  have hd := h.ok.deep.len (parOf S i)
  have hi0 := h.ok.has_ne hi
  have H := Lib.hid h
  have HI := Lib.hid hi
  have HI0 := Lib.hid hi0
  have HD := Lib.hid hd
  clear h hi hi0 hd
  go_enter Try.func33, Try.ntmps33
  go_wp2_with (refine wpl_range hm Try.underlying60 _ rfl ?_)
  intro w1 cnt hR hS hz
  have HR := Lib.hid hR
  have HS := Lib.hid hS
  clear hR hS
  go_wp2
  go_frame
  go_loopw [5] (fun v5 wr => Same w wr ∧ ∃ left cnt, RngIs wr bm w.heap.size (tmap S nb) left cnt ∧ ∃ k : Nat, v5 = .int .i64 k ∧ k ≤ height S i ∧ k ≤ 9 ∧ ∀ x, hasB S x = true → left x = false → inP (parOf S) x i = true → depth S x - depth S i ≤ k) (fun v5 wr => wr.rangeLeft bm w.heap.size)
  case atStart => exact ⟨HS.out, _, _, HR.out, 0, rfl, by omega, by omega, fun x hx hl => by rw [tmap_is hx] at hl; cases hl⟩
  case round =>
    obtain ⟨hsm, left, cnt2, hr2, k, rfl, hk, hk9, hk3⟩ := hrel
    rename_i wr _
    have HS2 := Lib.hid hsm
    have HR2 := Lib.hid hr2
    have HK := Lib.hid hk
    have HK3 := Lib.hid hk3
    clear hsm hk hk3
    go_wp2_with (refine wpl_next hr2 _ rfl ?_ ?_)
    · intro hno
      have HN := Lib.hid hno
      clear hno
      go_wp2
      go_ret
      refine ⟨?_, HS2.out⟩
      have : height S i = k := Nat.le_antisymm (height_le H.out.ok.ids fun x hx => HK3.out x hx (HN.out x)) HK.out
      rw [this]; rfl
    · intro z v w2 cnt3 hl hv hr3 hlt hc3 hs3 hent
      obtain ⟨hz2, rfl⟩ := tmap_some hv
      have hsame : Same w w2 := HS2.out.then_ hc3 (fun x hx e => by omega)
      have T := H.out.same hsame
      have HW := Lib.hid (ywithin T z i hz2 HI0.out)
      have HDZ := Lib.hid (ydepth T z hz2)
      have HDI := Lib.hid (ydepth T i HI.out)
      have hdz : depth S z ≤ 9 := T.ok.deep.len _
      have hdi : depth S i ≤ 9 := T.ok.deep.len _
      have e1 := HR2.out.left_eq
      have e2 := hr3.left_eq
      have HSM := Lib.hid hsame
      have HR3 := Lib.hid hr3
      have HLT := Lib.hid hlt
      have HZ := Lib.hid hz2
      clear hsame hr3 hc3 hs3 hv hz2 hl hlt T
      unfold ptrOf at *
      go_wp2_with fail
      refine HW.out.mono ?_
      rintro e w3 ⟨rfl, rfl⟩
      cases hin : inP (parOf S) z i with
      | false =>
        have HIN := Lib.hid hin
        clear hin
        go_wp2_with fail
        exact ⟨⟨HSM.out, _, _, HR3.out, k, rfl, HK.out, hk9, fun x hx hl hi => by
          by_cases e : x = z
          · subst e; rw [HIN.out] at hi; cases hi
          · exact HK3.out x hx (by rw [show (x == z) = false from beq_eq_false_iff_ne.2 e] at hl; simpa using hl) hi⟩, by rw [e1, e2]; exact HLT.out⟩
      | true =>
        have HIN := Lib.hid hin
        clear hin
        go_wp2_with fail
        refine HDZ.out.mono ?_
        rintro e w3 ⟨rfl, rfl⟩
        go_wp2_with fail
        refine HDI.out.mono ?_
        rintro e w3 ⟨rfl, rfl⟩
        go_wp2
        refine ⟨⟨HSM.out, _, _, HR3.out, max k (depth S z - depth S i), ?vv, by have := HK.out; have := le_height HZ.out HIN.out; omega, by omega, fun x hx hl hi => by
          by_cases e : x = z
          · subst e; omega
          · have := HK3.out x hx (by rw [show (x == z) = false from beq_eq_false_iff_ne.2 e] at hl; simpa using hl) hi
            omega⟩, by rw [e1, e2]; exact HLT.out⟩
        congr 1
        omega
end
end Go.Proofs.Ytehcfeibfpgamaa
