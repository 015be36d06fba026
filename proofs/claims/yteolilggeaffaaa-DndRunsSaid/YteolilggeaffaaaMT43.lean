/- compositorref43: Start where the drag begins (printed by mstart.py). -/
import Derived.Test.YteolilggeaffaaaMS43
set_option linter.unusedVariables false
set_option linter.unusedSimpArgs false
set_option maxRecDepth 100000
namespace Go.Proofs.Yteolilggeaffaaa
open Go.RowKit

set_option maxHeartbeats 4000000 in
theorem mstart_yes (src cl tg : Int) (A : Option Addr) (n cap : Nat) (acts : Int) (f : ByteArray) (a p nm : Int) (tm : Bool) (la : Int) (PA : Option Addr) (pn pc : Nat) (fst : Int) (N : Nat) (LA : Option Addr) (ln lc : Nat) (l : List Ent) (client surface icon : Int) (Ao : Option Addr) (no co : Nat) (fs : List ByteArray) (oa s : Int) (w : World)
    (h : SlotsAt w 0 LA ln l) (hn : ln ≤ 1000) (hk : ∀ e ∈ l, 0 ≤ e.k ∧ e.k ≤ 62) (ho : SArg w Ao no co fs) (hz : ∀ f ∈ fs, f.size ≤ 140737488351232) (hpn : pn ≤ 1000) (hno : no ≤ 1000)
    (c1 : ¬ client < 1) (c2 : ¬ surface < 1) (c3 : ¬ icon < 0) (h1 : checkV fs oa = 0) (h2 : rvalidB l client surface s = true) :
    Calls Try.prog 49 #[.agg #[.int .i64 0, .int .i64 src, .int .i64 cl, .int .i64 tg, .slice A n cap, .int .i64 acts, .string f, .int .i64 a, .int .i64 p, .int .i64 nm, .bool tm, .int .i64 la, .slice PA pn pc, .int .i64 fst], .agg #[.int .i64 N, .slice LA ln lc], .int .i64 client, .int .i64 surface, .int .i64 icon, .agg #[.slice Ao no co, .int .i64 oa], .int .u32 s] w
      fun e w' => ∃ A' cap', e = .returned (.tuple #[.agg (MD.begin ⟨0, src, cl, tg, A, n, cap, acts, f, a, p, nm, tm, la, PA, pn, pc, fst⟩ client oa A' no cap').cells.toArray, .int .i64 0]) ∧ StrsAt w' A' no fs ∧ (0 < no → ∀ g o, A' = some ⟨g, o, none⟩ → w.heap.size + 4 ≤ g) ∧ Same w w' := by
  have HA := Lib.hid (And.intro h (And.intro hk (And.intro ho (And.intro hz (And.intro h1 h2)))))
  have HL := Lib.hid ho.1.1
  clear h hk ho hz h1 h2
  have HX : Hid (VarAt ((((w.alloc (.cells #[.int .i64 0, .int .i64 src, .int .i64 cl, .int .i64 tg, .slice A n cap, .int .i64 acts, .string f, .int .i64 a, .int .i64 p, .int .i64 nm, .bool tm, .int .i64 la, .slice PA pn pc, .int .i64 fst] 56)).alloc (.cells #[.int .i64 N, .slice LA ln lc] 60)).alloc (.cells #[.slice Ao no co, .int .i64 oa] 24)).alloc (.cells #[.int .i64 0, .int .i64 0, .int .i64 0, .int .i64 0, .slice none 0 0, .int .i64 0, .string ⟨#[]⟩, .int .i64 0, .int .i64 0, .int .i64 0, .bool false, .int .i64 0, .slice none 0 0, .int .i64 0] 56)) w.heap.size 56 #[.int .i64 0, .int .i64 src, .int .i64 cl, .int .i64 tg, .slice A n cap, .int .i64 acts, .string f, .int .i64 a, .int .i64 p, .int .i64 nm, .bool tm, .int .i64 la, .slice PA pn pc, .int .i64 fst] ∧ VarAt ((((w.alloc (.cells #[.int .i64 0, .int .i64 src, .int .i64 cl, .int .i64 tg, .slice A n cap, .int .i64 acts, .string f, .int .i64 a, .int .i64 p, .int .i64 nm, .bool tm, .int .i64 la, .slice PA pn pc, .int .i64 fst] 56)).alloc (.cells #[.int .i64 N, .slice LA ln lc] 60)).alloc (.cells #[.slice Ao no co, .int .i64 oa] 24)).alloc (.cells #[.int .i64 0, .int .i64 0, .int .i64 0, .int .i64 0, .slice none 0 0, .int .i64 0, .string ⟨#[]⟩, .int .i64 0, .int .i64 0, .int .i64 0, .bool false, .int .i64 0, .slice none 0 0, .int .i64 0] 56)) (w.heap.size + 1 + 1 + 1) 56 #[.int .i64 0, .int .i64 0, .int .i64 0, .int .i64 0, .slice none 0 0, .int .i64 0, .string ⟨#[]⟩, .int .i64 0, .int .i64 0, .int .i64 0, .bool false, .int .i64 0, .slice none 0 0, .int .i64 0] ∧ VarAt ((((w.alloc (.cells #[.int .i64 0, .int .i64 src, .int .i64 cl, .int .i64 tg, .slice A n cap, .int .i64 acts, .string f, .int .i64 a, .int .i64 p, .int .i64 nm, .bool tm, .int .i64 la, .slice PA pn pc, .int .i64 fst] 56)).alloc (.cells #[.int .i64 N, .slice LA ln lc] 60)).alloc (.cells #[.slice Ao no co, .int .i64 oa] 24)).alloc (.cells #[.int .i64 0, .int .i64 0, .int .i64 0, .int .i64 0, .slice none 0 0, .int .i64 0, .string ⟨#[]⟩, .int .i64 0, .int .i64 0, .int .i64 0, .bool false, .int .i64 0, .slice none 0 0, .int .i64 0] 56)) (w.heap.size + 1) 60 #[.int .i64 N, .slice LA ln lc] ∧ VarAt ((((w.alloc (.cells #[.int .i64 0, .int .i64 src, .int .i64 cl, .int .i64 tg, .slice A n cap, .int .i64 acts, .string f, .int .i64 a, .int .i64 p, .int .i64 nm, .bool tm, .int .i64 la, .slice PA pn pc, .int .i64 fst] 56)).alloc (.cells #[.int .i64 N, .slice LA ln lc] 60)).alloc (.cells #[.slice Ao no co, .int .i64 oa] 24)).alloc (.cells #[.int .i64 0, .int .i64 0, .int .i64 0, .int .i64 0, .slice none 0 0, .int .i64 0, .string ⟨#[]⟩, .int .i64 0, .int .i64 0, .int .i64 0, .bool false, .int .i64 0, .slice none 0 0, .int .i64 0] 56)) (w.heap.size + 1 + 1) 24 #[.slice Ao no co, .int .i64 oa] ∧ Same w ((((w.alloc (.cells #[.int .i64 0, .int .i64 src, .int .i64 cl, .int .i64 tg, .slice A n cap, .int .i64 acts, .string f, .int .i64 a, .int .i64 p, .int .i64 nm, .bool tm, .int .i64 la, .slice PA pn pc, .int .i64 fst] 56)).alloc (.cells #[.int .i64 N, .slice LA ln lc] 60)).alloc (.cells #[.slice Ao no co, .int .i64 oa] 24)).alloc (.cells #[.int .i64 0, .int .i64 0, .int .i64 0, .int .i64 0, .slice none 0 0, .int .i64 0, .string ⟨#[]⟩, .int .i64 0, .int .i64 0, .int .i64 0, .bool false, .int .i64 0, .slice none 0 0, .int .i64 0] 56)) ∧ ((((w.alloc (.cells #[.int .i64 0, .int .i64 src, .int .i64 cl, .int .i64 tg, .slice A n cap, .int .i64 acts, .string f, .int .i64 a, .int .i64 p, .int .i64 nm, .bool tm, .int .i64 la, .slice PA pn pc, .int .i64 fst] 56)).alloc (.cells #[.int .i64 N, .slice LA ln lc] 60)).alloc (.cells #[.slice Ao no co, .int .i64 oa] 24)).alloc (.cells #[.int .i64 0, .int .i64 0, .int .i64 0, .int .i64 0, .slice none 0 0, .int .i64 0, .string ⟨#[]⟩, .int .i64 0, .int .i64 0, .int .i64 0, .bool false, .int .i64 0, .slice none 0 0, .int .i64 0] 56)).heap.size = w.heap.size + 4) :=
    Lib.hid ⟨(((VarAt.new _ _ _).alloc _).alloc _).alloc _, VarAt.newk (by simp), ((VarAt.newk (by simp)).alloc _).alloc _, (VarAt.newk (by simp)).alloc _, ((((Chg.refl _ _).alloc _).alloc _).alloc _).alloc _, by simp⟩
  go_enter Try.func49, Try.ntmps49
  go_wp2_with fail
  refine (ucheck_vs 0 Ao no co fs oa _ (HA.out.2.2.1.same HX.out.2.2.2.2.1) HA.out.2.2.2.1 HA.out.2.2.2.2.1).mono ?_
  rintro e w2 ⟨rfl, hs⟩
  have hld := VarAt.ldL (N := N) (HX.out.2.2.1.same hs)
  unfold lgc at hld
  have HB := Lib.hid (And.intro (HX.out.1.same hs) (And.intro (HX.out.2.1.same hs) (HX.out.2.2.2.1.same hs)))
  have HS := Lib.hid (HX.out.2.2.2.2.1.trans hs)
  have hz2 : w.heap.size + 4 ≤ w2.heap.size := by rw [← HX.out.2.2.2.2.2]; exact hs.size
  clear hs
  go_wp2_with (refine wpl_loadv _ _ _ rfl hld ?_)
  refine (mvalid_ok true LA N ln lc l client surface s _ (HA.out.1.same HS.out) hn HA.out.2.1 HA.out.2.2.2.2.2).mono ?_
  rintro e w3 ⟨rfl, hs⟩
  have hz3 : w.heap.size + 4 ≤ w3.heap.size := Nat.le_trans hz2 hs.size
  have h7 := HB.out.1.same hs
  have h14 := HB.out.2.1.same hs
  have h12 := HB.out.2.2.same hs
  have HS3 := Lib.hid (HS.out.trans hs)
  have p0 := cell_at (C := [.int .i64 0, .int .i64 src, .int .i64 cl, .int .i64 tg, .slice A n cap, .int .i64 acts, .string f, .int .i64 a, .int .i64 p, .int .i64 nm, .bool tm, .int .i64 la, .slice PA pn pc, .int .i64 fst]) h7 0
  have p1 := cell_at (C := [.int .i64 0, .int .i64 src, .int .i64 cl, .int .i64 tg, .slice A n cap, .int .i64 acts, .string f, .int .i64 a, .int .i64 p, .int .i64 nm, .bool tm, .int .i64 la, .slice PA pn pc, .int .i64 fst]) h7 1
  simp only [List.getElem?_cons_zero, List.getElem?_cons_succ] at p0 p1
  have f0 := frozen_at h7 0
  have f1 := frozen_at h7 1
  have hlt : w.heap.size < w3.heap.size := by omega
  clear hs hld
  have h7' : VarAt ((w3.setCell ⟨w.heap.size, 0, none⟩ (.int .i64 1)).setCell ⟨w.heap.size, 1, none⟩ (.int .i64 client)) w.heap.size 56 ([.int .i64 1, .int .i64 client, .int .i64 cl, .int .i64 tg, .slice A n cap, .int .i64 acts, .string f, .int .i64 a, .int .i64 p, .int .i64 nm, .bool tm, .int .i64 la, .slice PA pn pc, .int .i64 fst]).toArray := at_setCell (i := 1) _ (at_setCell (i := 0) (C := [.int .i64 0, .int .i64 src, .int .i64 cl, .int .i64 tg, .slice A n cap, .int .i64 acts, .string f, .int .i64 a, .int .i64 p, .int .i64 nm, .bool tm, .int .i64 la, .slice PA pn pc, .int .i64 fst]) _ h7)
  have h14' : VarAt ((w3.setCell ⟨w.heap.size, 0, none⟩ (.int .i64 1)).setCell ⟨w.heap.size, 1, none⟩ (.int .i64 client)) (w.heap.size + 1 + 1 + 1) 56 #[.int .i64 0, .int .i64 0, .int .i64 0, .int .i64 0, .slice none 0 0, .int .i64 0, .string ⟨#[]⟩, .int .i64 0, .int .i64 0, .int .i64 0, .bool false, .int .i64 0, .slice none 0 0, .int .i64 0] := at_setCell_other _ (by omega) (at_setCell_other _ (by omega) h14)
  have h12' : VarAt ((w3.setCell ⟨w.heap.size, 0, none⟩ (.int .i64 1)).setCell ⟨w.heap.size, 1, none⟩ (.int .i64 client)) (w.heap.size + 1 + 1) 24 #[.slice Ao no co, .int .i64 oa] := at_setCell_other _ (by omega) (at_setCell_other _ (by omega) h12)
  have hs4 : Same w ((w3.setCell ⟨w.heap.size, 0, none⟩ (.int .i64 1)).setCell ⟨w.heap.size, 1, none⟩ (.int .i64 client)) := (HS3.out.setCell _ _ (fun q => by have q2 : w.heap.size < w.heap.size := q; omega)).setCell _ _ (fun q => by have q2 : w.heap.size < w.heap.size := q; omega)
  have hz4 : ((w3.setCell ⟨w.heap.size, 0, none⟩ (.int .i64 1)).setCell ⟨w.heap.size, 1, none⟩ (.int .i64 client)).heap.size = w3.heap.size := by simp
  have HQ := Lib.hid (And.intro h7' (And.intro h14' (And.intro h12' (And.intro hs4 hz4))))
  clear h7 h14 h12 h7' h14' h12' hs4 hz4
  go_wp2_with fail
  have HQ := HQ
  clear p0 p1 f0 f1 hlt
  generalize (w3.setCell ⟨w.heap.size, 0, none⟩ (.int .i64 1)).setCell ⟨w.heap.size, 1, none⟩ (.int .i64 client) = w4 at *
  have q0 := (Chg.refl (fun _ => False) w4).drew.cell (cell_at (C := [.slice Ao no co, .int .i64 oa]) HQ.out.2.2.1 0) (fun q => q)
  have q1 := (Chg.refl (fun _ => False) w4).drew.cell (cell_at (C := [.slice Ao no co, .int .i64 oa]) HQ.out.2.2.1 1) (fun q => q)
  have q0 : w4.drew.cell? ⟨w.heap.size + 1 + 1, 0, none⟩ = some (.slice Ao no co) := q0
  have q1 : w4.drew.cell? ⟨w.heap.size + 1 + 1, 1, none⟩ = some (.int .i64 oa) := q1
  have HQQ := Lib.hid (And.intro q0 q1)
  have hz4 : w.heap.size + 4 ≤ w4.heap.size := by rw [HQ.out.2.2.2.2]; exact hz3
  refine region_path (S := (fun w' => w'.cell? ⟨w.heap.size + 1 + 1, 0, none⟩ = some (.slice Ao no co) ∧ w'.cell? ⟨w.heap.size + 1 + 1, 1, none⟩ = some (.int .i64 oa))) 99 [(1, true), (2, true), (4, true), (5, true), (0, false), (3, false), (6, true), (7, true), (8, false)] (by kernel_rfl) (by kernel_rfl) (by kernel_rfl) (⟨q0, q1⟩) ?_
  refine path_read (i := 1) (v := ?v8_1) rfl (by rfl) (fun _ _ _ h => h) ?hy8_1 ?_
  case hy8_1 => ((intro w hSw; (try dsimp only at hSw); go_simp) <;> (try with_reducible rfl))
  try simp only [Act.put, List.setIfInBounds_toArray, List.set_cons_zero, List.set_cons_succ]
  refine path_read (i := 2) (v := ?v8_2) rfl (by rfl) (fun _ _ _ h => h) ?hy8_2 ?_
  case hy8_2 => ((intro w hSw; (try dsimp only at hSw); go_simp) <;> (try with_reducible rfl))
  try simp only [Act.put, List.setIfInBounds_toArray, List.set_cons_zero, List.set_cons_succ]
  refine path_read (i := 4) (v := ?v8_4) rfl (by rfl) (fun _ _ _ h => h) ?hy8_4 ?_
  case hy8_4 => ((intro w hSw; (try dsimp only at hSw); go_simp) <;> (try with_reducible rfl))
  try simp only [Act.put, List.setIfInBounds_toArray, List.set_cons_zero, List.set_cons_succ]
  refine path_read (i := 5) (v := ?v8_5) rfl (by rfl) (fun _ _ _ h => h) ?hy8_5 ?_
  case hy8_5 => ((intro w hSw; (try dsimp only at hSw); go_simp) <;> (try with_reducible rfl))
  try simp only [Act.put, List.setIfInBounds_toArray, List.set_cons_zero, List.set_cons_succ]
  refine path_do (i := 0) rfl ?_
  go_wp2_with (fail)
  (first | refine ⟨.inr ?keep8_0, ?_⟩ | refine ⟨?keep8_0, ?_⟩)
  case keep8_0 => (first | exact ⟨HQQ.out.1, HQQ.out.2⟩ | (have hk := (Chg.refl (fun _ => False) w4.drew).alloc (.cells #[] 9); exact ⟨hk.cell HQQ.out.1 (fun q => q), hk.cell HQQ.out.2 (fun q => q)⟩) | (have hk := ((Chg.refl (fun x => x = w.heap.size) w5).setCell ⟨w.heap.size, 4, none⟩ (.slice A' no cap') (fun _ => rfl)).setCell ⟨w.heap.size, 5, none⟩ (.int .i64 oa) (fun _ => rfl); exact ⟨hk.cell (HS45.out.cell HQQ.out.1 (fun q => q)) (fun q => by have q2 : w.heap.size + 1 + 1 = w.heap.size := q; omega), hk.cell (HS45.out.cell HQQ.out.2 (fun q => q)) (fun q => by have q2 : w.heap.size + 1 + 1 = w.heap.size := q; omega)⟩))
  try simp only [Act.put, List.setIfInBounds_toArray, List.set_cons_zero, List.set_cons_succ]
  refine path_do (i := 3) rfl ?_
  refine wpl_appendSl w4.heap.size 9 _ 1 16 Try.underlying22 infoStr rfl (by omega) _ 0 [] (World.ownsRow_made w4.drew #[] 0 (Nat.le_refl _) (by unfold maxLen; omega) rfl) rfl Ao no co (strVals fs) rfl (by unfold strVals; rw [List.length_map, HL.out, Nat.mul_one]) (fun hp => (((HA.out.2.2.1.1.same HQ.out.2.2.2.1).same ((Chg.refl _ _).drew)).alloc _).src hp) (strVals_one fs) (by omega) (by omega) (by simp) ?_; intro A' cap' w5 hown hgrow; have HOWN := Lib.hid hown; have HS45 : Hid (Same w4.drew w5) := Lib.hid (((Chg.refl (fun _ => False) w4.drew).alloc (.cells #[] 9)).then_ (Chg.grownO (Chg.refl _ _) hgrow) (fun i hi e => by simp [Value.ownBlock] at e; simp at hi; omega)); have hz5 : w.heap.size + 4 ≤ w5.heap.size := Nat.le_trans hz4 HS45.out.size; have h75 := ((HQ.out.1).drew).same HS45.out; have p4 : w5.cell? ⟨w.heap.size, 4, none⟩ = some (.slice A n cap) := cell_at (C := [.int .i64 1, .int .i64 client, .int .i64 cl, .int .i64 tg, .slice A n cap, .int .i64 acts, .string f, .int .i64 a, .int .i64 p, .int .i64 nm, .bool tm, .int .i64 la, .slice PA pn pc, .int .i64 fst]) h75 4; have p5 : w5.cell? ⟨w.heap.size, 5, none⟩ = some (.int .i64 acts) := cell_at (C := [.int .i64 1, .int .i64 client, .int .i64 cl, .int .i64 tg, .slice A n cap, .int .i64 acts, .string f, .int .i64 a, .int .i64 p, .int .i64 nm, .bool tm, .int .i64 la, .slice PA pn pc, .int .i64 fst]) h75 5; have p12 : w5.cell? ⟨w.heap.size, 12, none⟩ = some (.slice PA pn pc) := cell_at (C := [.int .i64 1, .int .i64 client, .int .i64 cl, .int .i64 tg, .slice A n cap, .int .i64 acts, .string f, .int .i64 a, .int .i64 p, .int .i64 nm, .bool tm, .int .i64 la, .slice PA pn pc, .int .i64 fst]) h75 12; have p13 : w5.cell? ⟨w.heap.size, 13, none⟩ = some (.int .i64 fst) := cell_at (C := [.int .i64 1, .int .i64 client, .int .i64 cl, .int .i64 tg, .slice A n cap, .int .i64 acts, .string f, .int .i64 a, .int .i64 p, .int .i64 nm, .bool tm, .int .i64 la, .slice PA pn pc, .int .i64 fst]) h75 13; have f4 := frozen_at h75 4; have f5 := frozen_at h75 5; have f13 := frozen_at h75 13; have hlt : w.heap.size < w5.heap.size := (by omega); have H75 := Lib.hid h75; clear hown hgrow h75
  refine path_next (.inr ?keep8_3) ?_
  case keep8_3 => (exact ⟨HS45.out.cell HQQ.out.1 (fun q => q), HS45.out.cell HQQ.out.2 (fun q => q)⟩)
  try simp only [Act.put, List.setIfInBounds_toArray, List.set_cons_zero, List.set_cons_succ]
  refine path_read (i := 6) (v := ?v8_6) rfl (by rfl) (fun _ _ _ h => h) ?hy8_6 ?_
  case hy8_6 => ((intro w hSw; (try dsimp only at hSw); go_simp) <;> (try with_reducible rfl))
  try simp only [Act.put, List.setIfInBounds_toArray, List.set_cons_zero, List.set_cons_succ]
  refine path_read (i := 7) (v := ?v8_7) rfl (by rfl) (fun _ _ _ h => h) ?hy8_7 ?_
  case hy8_7 => ((intro w hSw; (try dsimp only at hSw); go_simp) <;> (try with_reducible rfl))
  try simp only [Act.put, List.setIfInBounds_toArray, List.set_cons_zero, List.set_cons_succ]
  refine path_do (i := 8) rfl ?_
  go_wp2_with (fail)
  (first | refine ⟨.inr ?keep8_8, ?_⟩ | refine ⟨?keep8_8, ?_⟩)
  case keep8_8 => (first | exact ⟨HQQ.out.1, HQQ.out.2⟩ | (have hk := (Chg.refl (fun _ => False) w4.drew).alloc (.cells #[] 9); exact ⟨hk.cell HQQ.out.1 (fun q => q), hk.cell HQQ.out.2 (fun q => q)⟩) | (have hk := ((Chg.refl (fun x => x = w.heap.size) w5).setCell ⟨w.heap.size, 4, none⟩ (.slice A' no cap') (fun _ => rfl)).setCell ⟨w.heap.size, 5, none⟩ (.int .i64 oa) (fun _ => rfl); exact ⟨hk.cell (HS45.out.cell HQQ.out.1 (fun q => q)) (fun q => by have q2 : w.heap.size + 1 + 1 = w.heap.size := q; omega), hk.cell (HS45.out.cell HQQ.out.2 (fun q => q)) (fun q => by have q2 : w.heap.size + 1 + 1 = w.heap.size := q; omega)⟩))
  try simp only [Act.put, List.setIfInBounds_toArray, List.set_cons_zero, List.set_cons_succ]
  refine path_end ?_
  have h7a : VarAt (((w5.setCell ⟨w.heap.size, 4, none⟩ (.slice A' no cap')).setCell ⟨w.heap.size, 5, none⟩ (.int .i64 oa)).setCell ⟨w.heap.size, 13, none⟩ (.int .i64 pn)) w.heap.size 56 (MD.cells ⟨1, client, cl, tg, A', no, cap', oa, f, a, p, nm, tm, la, PA, pn, pc, pn⟩).toArray := by
    have := at_setCell (i := 13) (.int .i64 (pn : Int)) (at_setCell (i := 5) (.int .i64 oa) (at_setCell (i := 4) (C := [.int .i64 1, .int .i64 client, .int .i64 cl, .int .i64 tg, .slice A n cap, .int .i64 acts, .string f, .int .i64 a, .int .i64 p, .int .i64 nm, .bool tm, .int .i64 la, .slice PA pn pc, .int .i64 fst]) (.slice A' no cap') H75.out))
    exact this
  have h14a : VarAt (((w5.setCell ⟨w.heap.size, 4, none⟩ (.slice A' no cap')).setCell ⟨w.heap.size, 5, none⟩ (.int .i64 oa)).setCell ⟨w.heap.size, 13, none⟩ (.int .i64 pn)) (w.heap.size + 1 + 1 + 1) 56 #[.int .i64 0, .int .i64 0, .int .i64 0, .int .i64 0, .slice none 0 0, .int .i64 0, .string ⟨#[]⟩, .int .i64 0, .int .i64 0, .int .i64 0, .bool false, .int .i64 0, .slice none 0 0, .int .i64 0] := at_setCell_other _ (by omega) (at_setCell_other _ (by omega) (at_setCell_other _ (by omega) ((HQ.out.2.1.drew).same HS45.out)))
  have HSA : Hid (Same w (((w5.setCell ⟨w.heap.size, 4, none⟩ (.slice A' no cap')).setCell ⟨w.heap.size, 5, none⟩ (.int .i64 oa)).setCell ⟨w.heap.size, 13, none⟩ (.int .i64 pn))) := Lib.hid ((((HQ.out.2.2.2.1.drew.trans HS45.out).setCell _ _ (fun q => by have q2 : w.heap.size < w.heap.size := q; omega)).setCell _ _ (fun q => by have q2 : w.heap.size < w.heap.size := q; omega)).setCell _ _ (fun q => by have q2 : w.heap.size < w.heap.size := q; omega))
  have HSZ : Hid ((((w5.setCell ⟨w.heap.size, 4, none⟩ (.slice A' no cap')).setCell ⟨w.heap.size, 5, none⟩ (.int .i64 oa)).setCell ⟨w.heap.size, 13, none⟩ (.int .i64 pn)).heap.size = w5.heap.size) := Lib.hid (by simp)
  have hld := VarAt.ldD (x := ⟨1, client, cl, tg, A', no, cap', oa, f, a, p, nm, tm, la, PA, pn, pc, pn⟩) h7a
  have H14 := Lib.hid h14a
  clear h7a h14a
  go_wp2_with (refine wpl_loadv _ _ _ rfl hld ?_)
  refine (muntargeted_ok ⟨1, client, cl, tg, A', no, cap', oa, f, a, p, nm, tm, la, PA, pn, pc, pn⟩ 0 0 _).mono ?_
  rintro e w6 ⟨rfl, rfl⟩
  have h14 := ((H14.out.alloc (.cells (MD.aim ⟨1, client, cl, tg, A', no, cap', oa, f, a, p, nm, tm, la, PA, pn, pc, pn⟩ 0 0).cells.toArray 56)).alloc (.cells (MD.aim ⟨1, client, cl, tg, A', no, cap', oa, f, a, p, nm, tm, la, PA, pn, pc, pn⟩ 0 0).cells.toArray 56))
  go_wp2_with (refine wpl_storeRow _ rfl rfl h14 (by kernel_rfl) rfl (MD.one _) ?_)
  have e0 : 0 + no = no := Nat.zero_add no
  have HO := HOWN.out
  rw [e0, List.nil_append] at HO
  obtain ⟨A2, cap2, hv, hsa⟩ := StrsAt.of_own HO
  cases hv
  refine bodyPost_ret (results_cell_tmp Try.results49 rfl (VarAt.ldD (x := MD.begin ⟨0, src, cl, tg, A, n, cap, acts, f, a, p, nm, tm, la, PA, pn, pc, fst⟩ client oa A' no cap') (h14.put _))) rfl ⟨A', cap', rfl, ?_, fun hp g o hA => ?_, ?_⟩
  · refine hsa.1.chg2 (S := fun x => x < w4.heap.size) ?_ (fun hp b o hA q => ?_)
    · exact ((((((Chg.refl _ _).setCell _ _ (fun _ => by show w.heap.size < _; omega)).setCell _ _ (fun _ => by show w.heap.size < _; omega)).setCell _ _ (fun _ => by show w.heap.size < _; omega)).alloc _).alloc _).setRow _ _ (fun _ => by omega)
    · subst hA
      have := HO.lt b (by
        rcases HO.2 with ⟨q, _⟩ | ⟨g', cap', cur, hq, _⟩
        · cases q
        · cases hq; rfl)
      omega
  · subst hA
    have := HO.lt g (by
      rcases HO.2 with ⟨q, _⟩ | ⟨g', cap', cur, hq, _⟩
      · cases q
      · cases hq; rfl)
    omega
  · exact ((HSA.out.alloc _).alloc _).setRow _ _ (fun q => by omega)
end Go.Proofs.Yteolilggeaffaaa
