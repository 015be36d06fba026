/- Parts of the walk, packed: KF42, KB42. -/
import Derived.Test.YtndldjopgbhphaaPk37
import Derived.WalkMore
import Derived.Deep.DeepCutAuto
import Derived.Great.BuildSlice
set_option linter.unusedVariables false
set_option linter.unusedSimpArgs false
set_option maxRecDepth 100000
namespace Go.Proofs.Ytndldjopgbhphaa
open Go.RowKit

set_option maxHeartbeats 4000000 in
theorem kfocus_0 (ho wa : Int) (A : Option Addr) (n cap : Nat) (acts : Int) (us : Bool) (la nu : Int) (PA : Option Addr) (pn pc : Nat) (client : Int) (w : World) (h1 : client < 1) :
    Calls Try.prog 28 #[.agg #[.bool true, .int .i64 ho, .int .i64 wa, .slice A n cap, .int .i64 acts, .bool us, .int .u32 la, .int .i64 nu, .slice PA pn pc], .int .i64 client] w fun e w' => e = .returned (.tuple #[.agg (KC.foc ⟨ho, wa, A, n, cap, acts, us, la, nu, PA, pn, pc⟩ client).cells.toArray, .slice none 0 0]) ∧ Same w w' := by
  have hm : max 0 client = 0 := by omega
  have e : KC.foc ⟨ho, wa, A, n, cap, acts, us, la, nu, PA, pn, pc⟩ client = ⟨ho, 0, A, n, cap, acts, us, la, nu, PA, pn, pc⟩ := by
    unfold KC.foc
    simp only [hm, h1, true_or, if_true]
  rw [e]
  clear e
  go_enter Try.func28, Try.ntmps28
  go_wp2
  refine bodyPost_ret (results_cell_tmp Try.results28 rfl (run_load_kc (x := ⟨ho, 0, A, n, cap, acts, us, la, nu, PA, pn, pc⟩) (VarAt.newk (by simp)))) rfl ⟨rfl, ?_⟩
  repeat (first | (with_reducible refine Chg.drew ?_) | (with_reducible refine Chg.drewN ?_ _) | (with_reducible refine Chg.alloc ?_ _) | (with_reducible refine Chg.setCell ?_ _ _ ?_; rotate_left 1; · (intro q; first | (simp; done) | (exfalso; revert q; simp; done) | (exfalso; revert q; simp; omega) | (simp; omega))))
  exact (Chg.refl _ _)
def FocOut (w : World) (x : KC) (client : Int) (e : Ending) (w' : World) : Prop :=
  ∃ g, e = .returned (.tuple #[.agg (x.foc client).cells.toArray, .slice (some ⟨g, 0, none⟩) 1 1]) ∧ w'.heap[g]? = some (.cells (delivCells client 0 18 0 0 0 x.code 0 0).toArray 44 (0, 0)) ∧ w.heap.size ≤ g ∧ Same w w'
set_option maxHeartbeats 4000000 in
theorem kfocus_1 (ho wa : Int) (A : Option Addr) (n cap : Nat) (acts : Int) (us : Bool) (la nu : Int) (PA : Option Addr) (pn pc : Nat) (client : Int) (w : World) (h1 : ¬ client < 1) (h0 : ho = 0) :
    Calls Try.prog 28 #[.agg #[.bool true, .int .i64 ho, .int .i64 wa, .slice A n cap, .int .i64 acts, .bool us, .int .u32 la, .int .i64 nu, .slice PA pn pc], .int .i64 client] w (FocOut w ⟨ho, wa, A, n, cap, acts, us, la, nu, PA, pn, pc⟩ client) := by
  have hm : max 0 client = client := by omega
  have hc0 : (client == 0) = false := by simp; omega
  subst h0
  have e : KC.foc ⟨0, wa, A, n, cap, acts, us, la, nu, PA, pn, pc⟩ client = ⟨0, client, A, n, cap, acts, us, la, nu, PA, pn, pc⟩ := by
    unfold KC.foc
    simp only [hm, or_true, if_true]
  have e2 : KC.code ⟨0, wa, A, n, cap, acts, us, la, nu, PA, pn, pc⟩ = 0 := if_pos rfl
  unfold FocOut
  rw [e, e2]
  clear e e2
  go_enter Try.func28, Try.ntmps28
  go_wp2
  go_region
  all_goals
    go_wp2
    refine bodyPost_ret (results_cell_tmp Try.results28 rfl (run_load_kc (x := ⟨0, client, A, n, cap, acts, us, la, nu, PA, pn, pc⟩) (((VarAt.newk (by simp)).alloc _).alloc _))) rfl ⟨w.heap.size + 1 + 1 + 1, rfl, VarAt.newk (by simp), by omega, ?_⟩
    repeat (first | (with_reducible refine Chg.drew ?_) | (with_reducible refine Chg.drewN ?_ _) | (with_reducible refine Chg.alloc ?_ _) | (with_reducible refine Chg.setCell ?_ _ _ ?_; rotate_left 1; · (intro q; first | (simp; done) | (exfalso; revert q; simp; done) | (exfalso; revert q; simp; omega) | (simp; omega))))
    exact (Chg.refl _ _)
set_option maxHeartbeats 4000000 in
theorem kfocus_2 (ho wa : Int) (A : Option Addr) (n cap : Nat) (acts : Int) (us : Bool) (la nu : Int) (PA : Option Addr) (pn pc : Nat) (client : Int) (w : World) (h1 : ¬ client < 1) (h0 : ho ≠ 0) (hn : 0 ≤ nu ∧ nu ≤ 1000000) :
    Calls Try.prog 28 #[.agg #[.bool true, .int .i64 ho, .int .i64 wa, .slice A n cap, .int .i64 acts, .bool us, .int .u32 la, .int .i64 nu, .slice PA pn pc], .int .i64 client] w (FocOut w ⟨ho, wa, A, n, cap, acts, us, la, nu, PA, pn, pc⟩ client) := by
  have hm : max 0 client = client := by omega
  have hc0 : (client == 0) = false := by simp; omega
  have hb1 : (ho == 0) = false := by simp [h0]
  have hb2 : (ho != 0) = true := by simp [h0]
  have s1 : IntKind.i64.wrap (nu + 1) = nu + 1 := IntWalk.i64_in _ (by omega)
  have e : KC.foc ⟨ho, wa, A, n, cap, acts, us, la, nu, PA, pn, pc⟩ client = ⟨ho, client, A, n, cap, acts, us, la, nu + 1, PA, pn, pc⟩ := by
    unfold KC.foc
    simp only [hm, h0, h1, or_self, if_false]
  have e2 : KC.code ⟨ho, wa, A, n, cap, acts, us, la, nu, PA, pn, pc⟩ = nu + 1 := if_neg h0
  unfold FocOut
  rw [e, e2]
  clear e e2 h0
  go_enter Try.func28, Try.ntmps28
  go_wp2
  go_region
  all_goals
    go_wp2
    refine bodyPost_ret (results_cell_tmp Try.results28 rfl (run_load_kc (x := ⟨ho, client, A, n, cap, acts, us, la, nu + 1, PA, pn, pc⟩) (((VarAt.newk (by simp)).alloc _).alloc _))) rfl ⟨w.heap.size + 1 + 1 + 1, rfl, VarAt.newk (by simp), by omega, ?_⟩
    repeat (first | (with_reducible refine Chg.drew ?_) | (with_reducible refine Chg.drewN ?_ _) | (with_reducible refine Chg.alloc ?_ _) | (with_reducible refine Chg.setCell ?_ _ _ ?_; rotate_left 1; · (intro q; first | (simp; done) | (exfalso; revert q; simp; done) | (exfalso; revert q; simp; omega) | (simp; omega))))
    exact (Chg.refl _ _)
/-! ### Formats -/
set_option maxHeartbeats 4000000 in
theorem kformats_no (ho wa : Int) (A : Option Addr) (n cap : Nat) (acts : Int) (us : Bool) (la nu : Int) (PA : Option Addr) (pn pc : Nat) (client : Int) (w : World) (h : client < 1 ∨ wa ≠ client ∨ ho = 0) :
    Calls Try.prog 36 #[.agg #[.bool true, .int .i64 ho, .int .i64 wa, .slice A n cap, .int .i64 acts, .bool us, .int .u32 la, .int .i64 nu, .slice PA pn pc], .int .i64 client] w fun e w' => e = .returned (.slice none 0 0) ∧ Same w w' := by
  by_cases h1 : client < 1
  · go_enter Try.func36, Try.ntmps36
    go_wp2
    go_ret
    exact ⟨rfl, (Chg.refl _ _).alloc _⟩
  · by_cases h2 : wa ≠ client
    · have b1 : (wa != client) = true := by simp [h2]
      have b2 : (wa == client) = false := by simp [h2]
      clear h h2
      go_enter Try.func36, Try.ntmps36
      go_wp2
      go_ret
      exact ⟨rfl, (Chg.refl _ _).alloc _⟩
    · obtain rfl : wa = client := Decidable.not_not.1 h2
      obtain rfl : ho = 0 := by omega
      clear h h2
      go_enter Try.func36, Try.ntmps36
      go_wp2
      go_ret
      exact ⟨rfl, (Chg.refl _ _).alloc _⟩
set_option maxHeartbeats 4000000 in
theorem kformats_yes (ho wa : Int) (A : Option Addr) (n cap : Nat) (acts : Int) (us : Bool) (la nu : Int) (PA : Option Addr) (pn pc : Nat) (client : Int) (fs : List ByteArray) (w : World) (h1 : ¬ client < 1) (h2 : wa = client) (h3 : ho ≠ 0) (h : StrsAt w A n fs) (hn : n ≤ 1000) :
    Calls Try.prog 36 #[.agg #[.bool true, .int .i64 ho, .int .i64 wa, .slice A n cap, .int .i64 acts, .bool us, .int .u32 la, .int .i64 nu, .slice PA pn pc], .int .i64 client] w fun e w' => ∃ A' cap', e = .returned (.slice A' n cap') ∧ StrsAt w' A' n fs ∧ Same w w' := by
  subst h2
  have b1 : (ho == 0) = false := by simp [h3]
  have HH := Lib.hid h
  have HL := Lib.hid h.1
  clear h h3
  go_enter Try.func36, Try.ntmps36
  go_upto_region 3 with (fail)
  have hC := VarAt.new w 63 #[.bool true, .int .i64 ho, .int .i64 wa, .slice A n cap, .int .i64 acts, .bool us, .int .u32 la, .int .i64 nu, .slice PA pn pc]
  have hs1 : Same w (w.alloc (.cells #[.bool true, .int .i64 ho, .int .i64 wa, .slice A n cap, .int .i64 acts, .bool us, .int .u32 la, .int .i64 nu, .slice PA pn pc] 63)) := (Chg.refl _ _).alloc _
  have hlt : w.heap.size < (w.alloc (.cells #[.bool true, .int .i64 ho, .int .i64 wa, .slice A n cap, .int .i64 acts, .bool us, .int .u32 la, .int .i64 nu, .slice PA pn pc] 63)).heap.size := by simp
  generalize w.alloc (.cells #[.bool true, .int .i64 ho, .int .i64 wa, .slice A n cap, .int .i64 acts, .bool us, .int .u32 la, .int .i64 nu, .slice PA pn pc] 63) = w1 at *
  have p3 : w1.cell? ⟨w.heap.size, 3, none⟩ = some (.slice A n cap) := cell_at (C := [.bool true, .int .i64 ho, .int .i64 wa, .slice A n cap, .int .i64 acts, .bool us, .int .u32 la, .int .i64 nu, .slice PA pn pc]) hC 3
  have HS1 := Lib.hid hs1
  clear hC hs1
  go_wp2_with (at_builtin; refine wpl_appendSl w1.heap.size 9 _ 1 16 Try.underlying34 infoStr rfl (by omega) _ 0 [] (World.ownsRow_made w1 #[] 0 (Nat.le_refl _) (by unfold maxLen; omega) rfl) rfl A n cap (strVals fs) rfl (by unfold strVals; rw [List.length_map, HL.out, Nat.mul_one]) (fun hp => (HH.out.same (HS1.out.alloc _)).src hp) (strVals_one fs) (by omega) (by omega) (by simp) ?_; intro A' cap' w5 hown hgrow; have HOWN := Lib.hid hown; have HS5 : Hid (Same w w5) := Lib.hid ((HS1.out.alloc (.cells #[] 9)).then_ (Chg.grownO (Chg.refl _ _) hgrow) (fun i hi e => by simp [Value.ownBlock] at e; omega)); clear hown hgrow)
  go_ret
  have e0 : 0 + n = n := Nat.zero_add n
  have HO := HOWN.out
  rw [e0, List.nil_append] at HO
  obtain ⟨A2, cap2, hv, hsa⟩ := StrsAt.of_own HO
  cases hv
  exact ⟨A', ⟨cap', rfl⟩, hsa.1, HS5.out⟩
end Go.Proofs.Ytndldjopgbhphaa

namespace Go.Proofs.Ytndldjopgbhphaa
open Go.RowKit

theorem row_chg {w0 w1 : World} {base e size n : Nat} {v : Value} {ys : List Value} {S : Nat → Prop} (h : w0.ownsRow base e size v n ys) (k : Chg S w0 w1) (hs : ∀ x, v.ownBlock = some x → ¬ S x) : w1.ownsRow base e size v n ys := by
  refine ⟨h.1, ?_⟩
  rcases h.2 with hn | ⟨g, cap, cur, rfl, hb, hgg, rest⟩
  · exact .inl hn
  · exact .inr ⟨g, cap, cur, rfl, hb, k.at_ hgg (hs g rfl), rest⟩
theorem info_flow : (Try.prog.info? 132).map (fun i => (i.zero, i.size, i.bytes)) = some (some (.agg #[.int .i64 0, .int .i64 0, .int .i64 0, .int .i64 0, .slice none 0 0, .bool false, .bool false]), 7, 64) := by kernel_rfl
section
variable {ops : Array Oper} {Q : Exit → Act → World → Prop} {rest : List Oper} {a : Act} {w : World} {d : Option Tmp} {ty : TypeId} {ps : String} {ed : Array Edge}
theorem wpl_mk0 (base : Nat) (hb : base ≤ w.heap.size) (h : ∀ u b, Same w u → u.ownsRow base 132 7 (.slice (some ⟨b, 0, none⟩) 0 0) 0 [] → w.heap.size ≤ b → b < u.heap.size → wpList Try.prog ops Q rest (a.put d (.slice (some ⟨b, 0, none⟩) 0 0)) u) :
    wpList Try.prog ops Q (⟨d, .buildSlice 61 0 #[], ty, ps, ed, none⟩ :: rest) a w := by
  refine wpl_ok (w' := w.alloc (.cells #[] 132)) (.slice (some ⟨w.heap.size, 0, none⟩) 0 0) rfl ?_ (h _ w.heap.size ((Chg.refl _ _).alloc _) (World.ownsRow_made w #[] 0 hb (by unfold maxLen; omega) rfl) (Nat.le_refl _) (by simp))
  go_simp
theorem fill_fl (a1 a2 a3 a4 : Int) (A : Option Addr) (n c : Nat) (b1 b2 : Bool) : Instr.fill (fun i => some (i * 7, 7)) ((Array.range (1 * 7)).map ((Value.agg #[.int .i64 0, .int .i64 0, .int .i64 0, .int .i64 0, .slice none 0 0, .bool false, .bool false]).cells[· % (Value.agg #[.int .i64 0, .int .i64 0, .int .i64 0, .int .i64 0, .slice none 0 0, .bool false, .bool false]).cells.size]!)) [(0, .agg #[.int .i64 a1, .int .i64 a2, .int .i64 a3, .int .i64 a4, .slice A n c, .bool b1, .bool b2])] = some #[.int .i64 a1, .int .i64 a2, .int .i64 a3, .int .i64 a4, .slice A n c, .bool b1, .bool b2] := by kernel_rfl
theorem wpl_mk1 {x : Operand} (a1 a2 a3 a4 : Int) (A : Option Addr) (n c : Nat) (b1 b2 : Bool)
    (hx : a.eval x = .agg #[.int .i64 a1, .int .i64 a2, .int .i64 a3, .int .i64 a4, .slice A n c, .bool b1, .bool b2])
    (h : ∀ u g, Same w u → VarAt u g 132 #[.int .i64 a1, .int .i64 a2, .int .i64 a3, .int .i64 a4, .slice A n c, .bool b1, .bool b2] → w.heap.size ≤ g → g < u.heap.size → wpList Try.prog ops Q rest (a.put d (.slice (some ⟨g, 0, none⟩) 1 1)) u) :
    wpList Try.prog ops Q (⟨d, .buildSlice 61 1 #[(0, x)], ty, ps, ed, none⟩ :: rest) a w := by
  obtain ⟨i, hi0, hz0, hz1, hz2⟩ := info_parts info_flow
  refine wpList_buildSlice rfl 61 132 1 #[(0, x)] rfl _ i _ Try.underlying61 hi0 hz0 (by rw [hz1]; decide) (by rw [hz1]; decide) ?_ (h _ w.heap.size ((Chg.refl _ _).alloc _) (VarAt.new _ _ _) (Nat.le_refl _) (by simp))
  rw [hz1]
  have e : ((#[(0, x)] : Array (Nat × Operand)).map fun (i, x) => (i, a.eval x)).toList = [(0, a.eval x)] := by simp
  rw [e, hx]
  exact fill_fl a1 a2 a3 a4 A n c b1 b2
end
theorem exec_build {P : Program} {a : Act} {w : World} {d : Option Tmp} {ty t : TypeId} {ps : String} {ed : Array Edge} {parts : Array (Nat × Operand)} {cells : Array Value} (hc : P.built t (parts.map fun (i, x) => (i, a.eval x)).toList = some cells) :
    (execOp a.eval ⟨d, .build t parts, ty, ps, ed, none⟩).run P w = .ok (.value (.agg cells)) w := by
  unfold execOp
  simp only [Sem.run_bind, run_build w t _ cells hc, Result.andThen_ok]
  rfl
theorem built_flow (a1 a2 a3 a4 : Int) (A : Option Addr) (n c : Nat) (b1 b2 : Bool) : Try.prog.built 132 [(0, .int .i64 a1), (1, .int .i64 a2), (2, .agg #[.int .i64 a3, .int .i64 a4, .slice A n c, .bool b1, .bool b2])] = some #[.int .i64 a1, .int .i64 a2, .int .i64 a3, .int .i64 a4, .slice A n c, .bool b1, .bool b2] := by kernel_rfl
theorem tree_next {P : Program} {ops : Array Oper} {Q : Exit → Act → World → Prop} {S : World → Prop} {last i : Nat} {K : Act → World → Prop} {a : Act} {w : World} (hS : i = last ∨ S w) (h : K a w) : wpList P ops (Exit.then (fun a' w' => (i = last ∨ S w') ∧ K a' w') Q) [] a w := ⟨hS, h⟩
/-- A row grows: what lies below it stays. -/
theorem grow_same {u v w : World} {base e size n : Nat} {s : Value} {xs : List Value} (o : v.ownsRow base e size s n xs) (hb : u.heap.size ≤ base) (h : Same u v) (hg : v.grownBy w s.ownBlock) : Same u w :=
  h.then_ (Chg.grownO (Chg.refl _ _) hg) (fun i hi q => by have := (o.lt i q.symm).1; omega)
end Go.Proofs.Ytndldjopgbhphaa
