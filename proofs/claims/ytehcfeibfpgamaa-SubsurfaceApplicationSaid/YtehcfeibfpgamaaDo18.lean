/- law18.do, law18.build. -/
import Derived.Test.YtehcfeibfpgamaaEx18
import Derived.Test.YtehcfeibfpgamaaArg18
set_option linter.unusedVariables false
set_option linter.unusedSimpArgs false
set_option maxRecDepth 100000
namespace Go.Proofs.Ytehcfeibfpgamaa
open Go.RowKit

def doS (S : Fo) (x : YOp) : Fo × List Int × Int :=
  if x.kind = 1 then ((addR S x.id).1, [], (addR S x.id).2) else if x.kind = 2 then ((attR S x.id x.a).1, [], (attR S x.id x.a).2) else if x.kind = 3 then ((detR S x.id).1, [], (detR S x.id).2)
  else if x.kind = 4 then ((plcR S x.id x.a x.on).1, [], (plcR S x.id x.a x.on).2) else if x.kind = 5 then ((posR S x.id x.a x.b).1, [], (posR S x.id x.a x.b).2) else if x.kind = 6 then ((synR S x.id x.on).1, [], (synR S x.id x.on).2) else comR S x.id
def YOp.val (x : YOp) : Value := .agg #[.int .i64 x.kind, .int .i64 x.id, .int .i64 x.a, .int .i64 x.b, .bool x.on]
section
variable {w0 w w' : World} {b : Nat} {R : Nat → Prop} {S : Fo}
theorem hi_nil (w : World) (R : Nat → Prop) : HI w R none [] := ⟨⟨rfl, fun q => absurd q (by simp)⟩, fun a h => by cases h⟩
theorem co_nil {T : Fo} {er : Int} {w1 : World} (h1 : Same w w1) {e : Ending} (hy : ∃ R', Yt w0 w' b R' T ∧ Own R R' w1 w') (he : e = .returned (.tuple #[.slice none 0 0, .int .i64 er])) : CO w0 w b R T [] 0 er e w' := by
  obtain ⟨R', hy, ho⟩ := hy
  exact ⟨none, 0, R', he, hy, (Own.of_same h1 fun _ q => .inl q).trans ho, hi_nil _ _⟩
set_option maxHeartbeats 4000000 in
theorem do_v (h : Yt w0 w b R S) (hf : S.length < 1000) (x : YOp) :
    Calls Try.prog 18 #[.pointer (some ⟨b, 0, none⟩), x.val] w (CO w0 w b R (doS S x).1 (doS S x).2.1 (doS S x).2.1.length (doS S x).2.2) := by
  obtain ⟨k, i, a, bb, on⟩ := x
  unfold doS YOp.val
  dsimp only
  have HS := Lib.hid ((Chg.refl (fun _ => False) w).alloc (.cells #[.int .i64 k, .int .i64 i, .int .i64 a, .int .i64 bb, .bool on] 42))
  have H := Lib.hid (h.same HS.out)
  generalize hW : w.alloc (.cells #[.int .i64 k, .int .i64 i, .int .i64 a, .int .i64 bb, .bool on] 42) = W at *
  have hb : W.heap[w.heap.size]? = some (.cells [.int .i64 k, .int .i64 i, .int .i64 a, .int .i64 bb, .bool on].toArray 42 (0, 0)) := by rw [← hW]; exact at_new _ _
  have q0 := cell_at hb 0
  have q1 := cell_at hb 1
  have q2 := cell_at hb 2
  have q3 := cell_at hb 3
  have q4 := cell_at hb 4
  simp only [List.getElem?_cons_succ, List.getElem?_cons_zero] at q0 q1 q2 q3 q4
  have HW := Lib.hid hW
  clear hb h
  by_cases h1 : k = 1
  · subst h1
    rw [if_pos rfl]
    go_enter Try.func18, Try.ntmps18
    go_wp2_with fail
    refine (yadd_v H.out i hf (S' := (addR S i).1) (er := (addR S i).2) rfl).mono ?_
    rintro e w2 ⟨rfl, hy⟩
    have HY := Lib.hid hy
    clear hy q0 q1 q2 q3 q4
    go_wp2
    go_ret2
    exact co_nil HS.out HY.out rfl
  by_cases h2 : k = 2
  · subst h2
    rw [if_neg (by omega), if_pos rfl]
    go_enter Try.func18, Try.ntmps18
    go_wp2_with fail
    refine (yattach_v H.out i a (S' := (attR S i a).1) (er := (attR S i a).2) rfl).mono ?_
    rintro e w2 ⟨rfl, hy⟩
    have HY := Lib.hid hy
    clear hy q0 q1 q2 q3 q4
    go_wp2
    go_ret2
    exact co_nil HS.out HY.out rfl
  by_cases h3 : k = 3
  · subst h3
    rw [if_neg (by omega), if_neg (by omega), if_pos rfl]
    go_enter Try.func18, Try.ntmps18
    go_wp2_with fail
    refine (ydetach_v H.out i (S' := (detR S i).1) (er := (detR S i).2) rfl).mono ?_
    rintro e w2 ⟨rfl, hy⟩
    have HY := Lib.hid hy
    clear hy q0 q1 q2 q3 q4
    go_wp2
    go_ret2
    exact co_nil HS.out HY.out rfl
  by_cases h4 : k = 4
  · subst h4
    rw [if_neg (by omega), if_neg (by omega), if_neg (by omega), if_pos rfl]
    go_enter Try.func18, Try.ntmps18
    go_wp2_with fail
    refine (yplace_v H.out i a on (S' := (plcR S i a on).1) (er := (plcR S i a on).2) rfl).mono ?_
    rintro e w2 ⟨rfl, hy⟩
    have HY := Lib.hid hy
    clear hy q0 q1 q2 q3 q4
    go_wp2
    go_ret2
    exact co_nil HS.out HY.out rfl
  by_cases h5 : k = 5
  · subst h5
    rw [if_neg (by omega), if_neg (by omega), if_neg (by omega), if_neg (by omega), if_pos rfl]
    go_enter Try.func18, Try.ntmps18
    go_wp2_with fail
    refine (ysetpos_v H.out i a bb (S' := (posR S i a bb).1) (er := (posR S i a bb).2) rfl).mono ?_
    rintro e w2 ⟨rfl, hy⟩
    have HY := Lib.hid hy
    clear hy q0 q1 q2 q3 q4
    go_wp2
    go_ret2
    exact co_nil HS.out HY.out rfl
  by_cases h6 : k = 6
  · subst h6
    rw [if_neg (by omega), if_neg (by omega), if_neg (by omega), if_neg (by omega), if_neg (by omega), if_pos rfl]
    go_enter Try.func18, Try.ntmps18
    go_wp2_with fail
    refine (ysetsync_v H.out i on (S' := (synR S i on).1) (er := (synR S i on).2) rfl).mono ?_
    rintro e w2 ⟨rfl, hy⟩
    have HY := Lib.hid hy
    clear hy q0 q1 q2 q3 q4
    go_wp2
    go_ret2
    exact co_nil HS.out HY.out rfl
  rw [if_neg h1, if_neg h2, if_neg h3, if_neg h4, if_neg h5, if_neg h6]
  have b1 : (k == 1) = false := beq_eq_false_iff_ne.2 h1
  have b2 : (k == 2) = false := beq_eq_false_iff_ne.2 h2
  have b3 : (k == 3) = false := beq_eq_false_iff_ne.2 h3
  have b4 : (k == 4) = false := beq_eq_false_iff_ne.2 h4
  have b5 : (k == 5) = false := beq_eq_false_iff_ne.2 h5
  have b6 : (k == 6) = false := beq_eq_false_iff_ne.2 h6
  clear h1 h2 h3 h4 h5 h6
  go_enter Try.func18, Try.ntmps18
  go_wp2_with fail
  refine (ycommit_v H.out i (S' := (comR S i).1) (l := (comR S i).2.1) (er := (comR S i).2.2) rfl rfl).mono ?_
  rintro e w2 ⟨A, c, R', rfl, hy, ho, hi⟩
  have HY := Lib.hid (And.intro hy (And.intro ho hi))
  clear hy ho hi q0 q1 q2 q3 q4
  go_wp2
  go_ret2
  exact ⟨A, c, R', rfl, HY.out.1, (Own.of_same HS.out fun _ q => .inl q).trans HY.out.2.1, HY.out.2.2⟩
theorem keeps_len {T : Fo} (h : Keeps S T) : T.length = S.length := by
  have := congrArg List.length h.ids
  simpa using this
theorem doS_len (h : S.ok) (x : YOp) : (doS S x).1.length ≤ S.length + 1 := by
  unfold doS
  split
  · unfold addR
    split
    · exact Nat.le_succ _
    · split
      · exact Nat.le_succ _
      · simp [addS]
  · split
    · unfold attR
      split
      · split
        · exact Nat.le_succ _
        · split
          · exact Nat.le_succ _
          · simp [attS]
      · exact Nat.le_succ _
    · split
      · unfold detR; split <;> simp [detS]
      · split
        · unfold plcR
          split
          · split
            · exact Nat.le_succ _
            · simp [plcS, upd]
          · exact Nat.le_succ _
        · split
          · unfold posR
            split
            · split
              · exact Nat.le_succ _
              · simp [posS, upd]
            · exact Nat.le_succ _
          · split
            · unfold synR; split <;> simp [synS, upd]
            · unfold comR
              split
              · split
                · simp [cchS, upd]
                · have h1 := Keeps.apl h x.id
                  have := keeps_len (h1.trans (visS_keeps 10 _ x.id h1.ok))
                  dsimp only
                  omega
              · exact Nat.le_succ _
def buildS (l : List YOp) : Fo := l.foldl (fun S x => (doS S x).1) []
set_option maxHeartbeats 4000000 in
theorem build_v (A : Option Addr) (n cap : Nat) (l : List YOp) (w : World) (h : OArg w A n l) (hn : n ≤ 60) :
    Calls Try.prog 16 #[.slice A n cap] w fun e w' => ∃ b R, e = .returned (.tuple #[.pointer (some ⟨b, 0, none⟩), .bool true]) ∧ Yt w w' b R (buildS l) ∧ (buildS l).length ≤ 60 := by
  have HA := Lib.hid h
  clear h
  go_enter Try.func16, Try.ntmps16
  go_wp2_with fail
  refine (ynew_v w).mono ?_
  rintro e w1 ⟨b, R1, rfl, h1⟩
  have H1 := Lib.hid h1
  clear h1
  go_wp2_with fail
  go_loopw [5] (fun v5 wr => ∃ (k : Nat) (R : Nat → Prop), v5 = .int .i64 k ∧ k ≤ n ∧ Yt w wr b R (buildS (l.take k)) ∧ (buildS (l.take k)).length ≤ k) (fun v5 wr => n - (intOf v5).toNat)
  case atStart => exact ⟨0, R1, rfl, by omega, H1.out, Nat.le_refl _⟩
  case round =>
    obtain ⟨k, R, rfl, hk, hy, hlen⟩ := hrel
    by_cases hlt : k < n
    · obtain ⟨bb, o, x, rfl, hbw, hx, q0, q1, q2, q3, q4⟩ := (HA.out.same hy.s0).at_ hlt
      have hz : (k : Int) < n := by omega
      have hbt : buildS (l.take (k + 1)) = (doS (buildS (l.take k)) x).1 := by
        unfold buildS
        rw [List.take_add_one, hx, List.foldl_append]; rfl
      have hdl := doS_len hy.ok x
      have HY := Lib.hid (And.intro hy (And.intro hbt hdl))
      clear hy hx hbt hdl
      go_wp2_with fail
      refine (do_v HY.out.1 (by omega) x).mono ?_
      rintro e w2 ⟨A2, c2, R2, rfl, h2, _, _⟩
      have H2 := Lib.hid h2
      clear h2 q0 q1 q2 q3 q4
      go_wp2
      go_roundw
      case rel => exact ⟨k + 1, R2, by go_num, by omega, by rw [HY.out.2.1]; exact H2.out, by rw [HY.out.2.1]; have := HY.out.2.2; omega⟩
      case measure => simp [intOf]; omega
    · obtain rfl : k = n := by omega
      have hz : ¬ (k : Int) < k := by omega
      have ht : l.take k = l := List.take_of_length_le (by rw [HA.out.1.1]; omega)
      rw [ht] at hy hlen
      have HY := Lib.hid hy
      clear hy
      go_wp2
      go_ret2
      exact ⟨b, rfl, ⟨R, HY.out⟩, by omega⟩
end
end Go.Proofs.Ytehcfeibfpgamaa
