/- The walk of compositorref41.Write. -/
import Derived.Test.YtndldjopgbhphaaR41
set_option linter.unusedVariables false
set_option linter.unusedSimpArgs false
set_option maxRecDepth 100000
namespace Go.Proofs.Ytndldjopgbhphaa
open Go.RowKit
theorem heap_alloc3_0 (w : World) (a b c : Obj) : (((w.alloc a).alloc b).alloc c).heap[w.heap.size]? = some a :=
  at_alloc (at_alloc (at_new w a))
set_option maxRecDepth 100000 in
set_option maxHeartbeats 1000000 in
theorem qwrite_len (q : PSt) (R : Nat → Prop) (A : Option Addr) (n cap : Nat) (A1 : Option Addr) (n1 cap1 : Nat) (xs : List Int) (w : World) (h : BytesAt w R A n cap q.bs) (h1 : BytesAt w (fun _ => True) A1 n1 cap1 xs) (ho : q.over = false) (k : Nat) (hk : q.cr = k) (hk6 : k ≤ 65536) (hn6 : n ≤ 65536) (hle : (n1 : Int) ≤ k) :
    Calls Try.prog 40 #[rpv q A n cap, .slice A1 n1 cap1] w (QRet w (fun x => R x ∨ w.heap.size ≤ x) (q.write xs) [.int .i64 (q.wrN xs.length), .int .i64 q.wrE]) := by
  have hz : q.wrN xs.length = n1 := by unfold PSt.wrN; rw [if_neg (by rw [ho]; simp), h1.1]; omega
  have e1 : q.write xs = { q with cr := q.cr - n1, bs := q.bs ++ xs.take n1 } := by unfold PSt.write; rw [hz]
  have e2 : q.wrE = 0 := by unfold PSt.wrE; rw [if_neg (by rw [ho]; simp)]
  rw [hz, e1, e2]
  have HB := Lib.hid h
  have H1 := Lib.hid h1
  have HO := Lib.hid (fun w => qover_ok q A n cap w)
  rw [ho] at HO
  have hcp := h.2.1
  have hcm : cap ≤ 9223372036854775807 := by have := h.2.2.1; unfold maxLen at this; omega
  have hcp1 := h1.2.1
  have hcm1 : cap1 ≤ 9223372036854775807 := by have := h1.2.2.1; unfold maxLen at this; omega
  clear h h1 ho hz e1 e2
  unfold rpv at HO ⊢
  rw [hk] at HO
  simp only [hk]
  have HK := Lib.hid hk
  clear hk
  go_enter Try.func40, Try.ntmps40
  go_wp2_with fail
  refine (HO.out _).mono ?_
  rintro e w1 ⟨rfl, rfl⟩
  go_wp2_with fail
  have hb1 := heap_alloc3_0 w (.cells #[.int .i64 q.win, .int .i64 k, .slice A n cap, .bool q.cl, .bool q.cn] 83) (.cells #[.int .i64 0, .int .i64 0, .slice none 0 0, .bool false, .bool false] 83) (.cells #[.int .i64 q.win, .int .i64 k, .slice A n cap, .bool q.cl, .bool q.cn] 83)
  have ht1 := heap_alloc3_1 w (.cells #[.int .i64 q.win, .int .i64 k, .slice A n cap, .bool q.cl, .bool q.cn] 83) (.cells #[.int .i64 0, .int .i64 0, .slice none 0 0, .bool false, .bool false] 83) (.cells #[.int .i64 q.win, .int .i64 k, .slice A n cap, .bool q.cl, .bool q.cn] 83)
  have hs1 := same_alloc3 w (.cells #[.int .i64 q.win, .int .i64 k, .slice A n cap, .bool q.cl, .bool q.cn] 83) (.cells #[.int .i64 0, .int .i64 0, .slice none 0 0, .bool false, .bool false] 83) (.cells #[.int .i64 q.win, .int .i64 k, .slice A n cap, .bool q.cl, .bool q.cn] 83)
  have hz1 : (((w.alloc (.cells #[.int .i64 q.win, .int .i64 k, .slice A n cap, .bool q.cl, .bool q.cn] 83)).alloc (.cells #[.int .i64 0, .int .i64 0, .slice none 0 0, .bool false, .bool false] 83)).alloc (.cells #[.int .i64 q.win, .int .i64 k, .slice A n cap, .bool q.cl, .bool q.cn] 83)).heap.size = w.heap.size + 3 := by simp
  generalize (((w.alloc (.cells #[.int .i64 q.win, .int .i64 k, .slice A n cap, .bool q.cl, .bool q.cn] 83)).alloc (.cells #[.int .i64 0, .int .i64 0, .slice none 0 0, .bool false, .bool false] 83)).alloc (.cells #[.int .i64 q.win, .int .i64 k, .slice A n cap, .bool q.cl, .bool q.cn] 83)) = W1 at *
  have p1 : W1.cell? ⟨w.heap.size, 2, none⟩ = some (.slice A n cap) := by rw [cell_of_row W1 _ 2 _ _ _ hb1]; rfl
  have HS1 := Lib.hid hs1
  have HB1 := Lib.hid hb1
  have HT1 := Lib.hid ht1
  have HZ1 := Lib.hid hz1
  clear hs1 hb1 ht1 hz1
  refine region_path (S := (fun w' => w'.cell? ⟨w.heap.size, 2, none⟩ = some (.slice A n cap))) 9 [(0, true), (1, true), (2, true), (4, true), (5, true), (6, true), (3, false), (7, false), (8, true), (9, false)] (by kernel_rfl) (by kernel_rfl) (by kernel_rfl) p1 ?_
  refine path_read (i := 0) (v := ?v131_0) rfl (by rfl) (fun _ _ _ h => h) ?hy131_0 ?_
  case hy131_0 => ((intro w hSw; (try dsimp only at hSw); go_simp) <;> (try with_reducible rfl))
  try simp only [Act.put, List.setIfInBounds_toArray, List.set_cons_zero, List.set_cons_succ]
  refine path_read (i := 1) (v := ?v131_1) rfl (by rfl) (fun _ _ _ h => h) ?hy131_1 ?_
  case hy131_1 => ((intro w hSw; (try dsimp only at hSw); go_simp) <;> (try with_reducible rfl))
  try simp only [Act.put, List.setIfInBounds_toArray, List.set_cons_zero, List.set_cons_succ]
  refine path_read (i := 2) (v := ?v131_2) rfl (by rfl) (fun _ _ _ h => h) ?hy131_2 ?_
  case hy131_2 => ((intro w hSw; (try dsimp only at hSw); go_simp) <;> (try with_reducible rfl))
  try simp only [Act.put, List.setIfInBounds_toArray, List.set_cons_zero, List.set_cons_succ]
  refine path_read (i := 4) (v := ?v131_4) rfl (by rfl) (fun _ _ _ h => h) ?hy131_4 ?_
  case hy131_4 => ((intro w hSw; (try dsimp only at hSw); go_simp) <;> (try with_reducible rfl))
  try simp only [Act.put, List.setIfInBounds_toArray, List.set_cons_zero, List.set_cons_succ]
  refine path_read (i := 5) (v := ?v131_5) rfl (by rfl) (fun _ _ _ h => h) ?hy131_5 ?_
  case hy131_5 => ((intro w hSw; (try dsimp only at hSw); go_simp) <;> (try with_reducible rfl))
  try simp only [Act.put, List.setIfInBounds_toArray, List.set_cons_zero, List.set_cons_succ]
  refine path_read (i := 6) (v := ?v131_6) rfl (by rfl) (fun _ _ _ h => h) ?hy131_6 ?_
  case hy131_6 => ((intro w hSw; (try dsimp only at hSw); go_simp) <;> (try with_reducible rfl))
  try simp only [Act.put, List.setIfInBounds_toArray, List.set_cons_zero, List.set_cons_succ]
  refine path_do (i := 3) rfl ?_
  (first | (refine wpl_appendAny (w.heap.size + 3) (.slice none 0 0) 0 [] (World.ownsRow_nil _ _ _ _) rfl A n cap q.bs rfl ((HB.out.chg HS1.out (fun _ _ q => q)).chg (Chg.refl (fun _ => False) W1).drew (fun _ _ q => q)) (by omega) (by have := HZ1.out; simp; omega) ?_; intro A3 c3 w3 hown3 hk3; have HO3 := Lib.hid hown3; have HK3 := Lib.hid (((Chg.refl (fun _ => False) W1).drew.trans (hk3.mono (fun x _ e => by cases e)))); have p3 := HK3.out.cell p1 (fun q => q); clear hown3 hk3) | (refine wpl_appendAny (w.heap.size + 3) (.slice A3 (0 + n) c3) (0 + n) ([] ++ q.bs) HO3.out rfl A1 n1 cap1 (xs.take n1) rfl ((((H1.out.take (by omega)).chg HS1.out (fun _ _ q => q))).chg HK3.out (fun _ _ q => q)) (by omega) (by have := HZ1.out; have := HK3.out.size; omega) ?_; intro A7 c7 w7 hown7 hk7; have HO7 := Lib.hid hown7; have HK7 := Lib.hid (HK3.out.then_ (hk7.mono (fun x _ e => (HO3.out.lt x e).1)) (fun i hi e => by have := HZ1.out; omega)); have p7 := HK7.out.cell p1 (fun q => q); have HB7 := Lib.hid (HK7.out.at_ HB1.out (fun q => q)); have fB7 := (fun i => frozen_of_row w7 w.heap.size i _ _ HB7.out); clear hown7 hk7))
  refine path_next (.inr ?keep131_3) ?_
  case keep131_3 => ((first | exact p3 | exact p7))
  try simp only [Act.put, List.setIfInBounds_toArray, List.set_cons_zero, List.set_cons_succ]
  refine path_do (i := 7) rfl ?_
  (first | (refine wpl_appendAny (w.heap.size + 3) (.slice none 0 0) 0 [] (World.ownsRow_nil _ _ _ _) rfl A n cap q.bs rfl ((HB.out.chg HS1.out (fun _ _ q => q)).chg (Chg.refl (fun _ => False) W1).drew (fun _ _ q => q)) (by omega) (by have := HZ1.out; simp; omega) ?_; intro A3 c3 w3 hown3 hk3; have HO3 := Lib.hid hown3; have HK3 := Lib.hid (((Chg.refl (fun _ => False) W1).drew.trans (hk3.mono (fun x _ e => by cases e)))); have p3 := HK3.out.cell p1 (fun q => q); clear hown3 hk3) | (refine wpl_appendAny (w.heap.size + 3) (.slice A3 (0 + n) c3) (0 + n) ([] ++ q.bs) HO3.out rfl A1 n1 cap1 (xs.take n1) rfl ((((H1.out.take (by omega)).chg HS1.out (fun _ _ q => q))).chg HK3.out (fun _ _ q => q)) (by omega) (by have := HZ1.out; have := HK3.out.size; omega) ?_; intro A7 c7 w7 hown7 hk7; have HO7 := Lib.hid hown7; have HK7 := Lib.hid (HK3.out.then_ (hk7.mono (fun x _ e => (HO3.out.lt x e).1)) (fun i hi e => by have := HZ1.out; omega)); have p7 := HK7.out.cell p1 (fun q => q); have HB7 := Lib.hid (HK7.out.at_ HB1.out (fun q => q)); have fB7 := (fun i => frozen_of_row w7 w.heap.size i _ _ HB7.out); clear hown7 hk7))
  refine path_next (.inr ?keep131_7) ?_
  case keep131_7 => ((first | exact p3 | exact p7))
  try simp only [Act.put, List.setIfInBounds_toArray, List.set_cons_zero, List.set_cons_succ]
  refine path_read (i := 8) (v := ?v131_8) rfl (by rfl) (fun _ _ _ h => h) ?hy131_8 ?_
  case hy131_8 => ((intro w hSw; (try dsimp only at hSw); go_simp) <;> (try with_reducible rfl))
  try simp only [Act.put, List.setIfInBounds_toArray, List.set_cons_zero, List.set_cons_succ]
  refine path_do (i := 9) rfl ?_
  go_wp2_with ((first | (refine wpl_appendAny (w.heap.size + 3) (.slice none 0 0) 0 [] (World.ownsRow_nil _ _ _ _) rfl A n cap q.bs rfl ((HB.out.chg HS1.out (fun _ _ q => q)).chg (Chg.refl (fun _ => False) W1).drew (fun _ _ q => q)) (by omega) (by have := HZ1.out; simp; omega) ?_; intro A3 c3 w3 hown3 hk3; have HO3 := Lib.hid hown3; have HK3 := Lib.hid (((Chg.refl (fun _ => False) W1).drew.trans (hk3.mono (fun x _ e => by cases e)))); have p3 := HK3.out.cell p1 (fun q => q); clear hown3 hk3) | (refine wpl_appendAny (w.heap.size + 3) (.slice A3 (0 + n) c3) (0 + n) ([] ++ q.bs) HO3.out rfl A1 n1 cap1 (xs.take n1) rfl ((((H1.out.take (by omega)).chg HS1.out (fun _ _ q => q))).chg HK3.out (fun _ _ q => q)) (by omega) (by have := HZ1.out; have := HK3.out.size; omega) ?_; intro A7 c7 w7 hown7 hk7; have HO7 := Lib.hid hown7; have HK7 := Lib.hid (HK3.out.then_ (hk7.mono (fun x _ e => (HO3.out.lt x e).1)) (fun i hi e => by have := HZ1.out; omega)); have p7 := HK7.out.cell p1 (fun q => q); have HB7 := Lib.hid (HK7.out.at_ HB1.out (fun q => q)); have fB7 := (fun i => frozen_of_row w7 w.heap.size i _ _ HB7.out); clear hown7 hk7)))
  refine ⟨.inl (by first | rfl | trivial), ?_⟩
  refine path_end ?_
  have HT7 := Lib.hid (at_setCell_other (i := 2) (.slice A7 (n + n1) c7) (show w.heap.size + 1 ≠ w.heap.size by omega) (HK7.out.at_ HT1.out (fun q => q)))
  have HBX := Lib.hid (at_setCell (i := 2) (C := [.int .i64 q.win, .int .i64 k, .slice A n cap, .bool q.cl, .bool q.cn]) (.slice A7 (n + n1) c7) HB7.out)
  have HKX := Lib.hid ((HS1.out.trans HK7.out).then_ ((Chg.refl (fun x => x = w.heap.size) w7).setCell ⟨w.heap.size, 2, none⟩ (.slice A7 (n + n1) c7) (fun _ => rfl)) (fun i hi e => by omega))
  have HOX := Lib.hid (HO7.out.chg ((Chg.refl (fun x => x = w.heap.size) w7).setCell ⟨w.heap.size, 2, none⟩ (.slice A7 (n + n1) c7) (fun _ => rfl)) (fun x hx e => by have := (HO7.out.lt x hx).1; omega))
  generalize w7.setCell ⟨w.heap.size, 2, none⟩ (.slice A7 (n + n1) c7) = w8 at *
  have q0 := cell_at HBX.out 0
  have q1 := cell_at HBX.out 1
  have q2 := cell_at HBX.out 2
  have q3 := cell_at HBX.out 3
  have q4 := cell_at HBX.out 4
  have z0 := cell_of_row w8 (w.heap.size + 1) 0 _ _ _ HT7.out
  have z1 := cell_of_row w8 (w.heap.size + 1) 1 _ _ _ HT7.out
  have z2 := cell_of_row w8 (w.heap.size + 1) 2 _ _ _ HT7.out
  have z3 := cell_of_row w8 (w.heap.size + 1) 3 _ _ _ HT7.out
  have z4 := cell_of_row w8 (w.heap.size + 1) 4 _ _ _ HT7.out
  have fb := frozen_at HBX.out
  have ft := fun i => frozen_of_row w8 (w.heap.size + 1) i _ _ HT7.out
  simp only [List.set_cons_succ, List.set_cons_zero, List.getElem?_cons_zero, List.getElem?_cons_succ, List.getElem?_toArray] at q0 q1 q2 q3 q4 z0 z1 z2 z3 z4
  clear p1 p3 p7 fB7
  go_wp2
  have hT := at_setCell (i := 4) (.bool q.cn) (at_setCell (i := 3) (.bool q.cl) (at_setCell (i := 2) (.slice A7 (n + n1) c7) (at_setCell (i := 1) (.int .i64 ((k : Int) - n1)) (at_setCell (i := 0) (.int .i64 q.win) (at_setCell_other (i := 1) (.int .i64 ((k : Int) - n1)) (show w.heap.size + 1 ≠ w.heap.size by omega) HT7.out)))))
  have hO := HOX.out
  rw [List.nil_append, Nat.zero_add] at hO
  obtain ⟨A', cap', hv, hb⟩ := BytesAt.of_own hO
  cases hv
  have hk9 : Chg (fun x => x = w.heap.size ∨ x = w.heap.size + 1) w8 ((((((w8.setCell ⟨w.heap.size, 1, none⟩ (.int .i64 ((k : Int) - n1))).setCell ⟨w.heap.size + 1, 0, none⟩ (.int .i64 q.win)).setCell ⟨w.heap.size + 1, 1, none⟩ (.int .i64 ((k : Int) - n1))).setCell ⟨w.heap.size + 1, 2, none⟩ (.slice A7 (n + n1) c7)).setCell ⟨w.heap.size + 1, 3, none⟩ (.bool q.cl)).setCell ⟨w.heap.size + 1, 4, none⟩ (.bool q.cn)) := by
    refine Chg.setCell (Chg.setCell (Chg.setCell (Chg.setCell (Chg.setCell (Chg.setCell (Chg.refl _ _) _ _ ?_) _ _ ?_) _ _ ?_) _ _ ?_) _ _ ?_) _ _ ?_
    all_goals
      intro _
      first
        | exact .inl rfl
        | exact .inr rfl
  refine bodyPost_ret (results_cell_tmp2 Try.results40 rfl (run_load_rp hT)) rfl ⟨A7, n + n1, c7, rfl, (hb.chg hk9 (fun x hx e => by omega)).mono (fun x _ hx => .inr (by omega)), HKX.out.then_ hk9 (fun i hi e => by omega)⟩
set_option maxRecDepth 100000 in
set_option maxHeartbeats 1000000 in
theorem qwrite_cr (q : PSt) (R : Nat → Prop) (A : Option Addr) (n cap : Nat) (A1 : Option Addr) (n1 cap1 : Nat) (xs : List Int) (w : World) (h : BytesAt w R A n cap q.bs) (h1 : BytesAt w (fun _ => True) A1 n1 cap1 xs) (ho : q.over = false) (k : Nat) (hk : q.cr = k) (hk6 : k ≤ 65536) (hn6 : n ≤ 65536) (hle : (k : Int) < n1) :
    Calls Try.prog 40 #[rpv q A n cap, .slice A1 n1 cap1] w (QRet w (fun x => R x ∨ w.heap.size ≤ x) (q.write xs) [.int .i64 (q.wrN xs.length), .int .i64 q.wrE]) := by
  have hz : q.wrN xs.length = k := by unfold PSt.wrN; rw [if_neg (by rw [ho]; simp), h1.1]; omega
  have e1 : q.write xs = { q with cr := q.cr - k, bs := q.bs ++ xs.take k } := by unfold PSt.write; rw [hz]
  have e2 : q.wrE = 0 := by unfold PSt.wrE; rw [if_neg (by rw [ho]; simp)]
  rw [hz, e1, e2]
  have HB := Lib.hid h
  have H1 := Lib.hid h1
  have HO := Lib.hid (fun w => qover_ok q A n cap w)
  rw [ho] at HO
  have hcp := h.2.1
  have hcm : cap ≤ 9223372036854775807 := by have := h.2.2.1; unfold maxLen at this; omega
  have hcp1 := h1.2.1
  have hkc : k ≤ cap1 := by omega
  have hcm1 : cap1 ≤ 9223372036854775807 := by have := h1.2.2.1; unfold maxLen at this; omega
  clear h h1 ho hz e1 e2
  unfold rpv at HO ⊢
  rw [hk] at HO
  simp only [hk, Int.sub_self]
  have HK := Lib.hid hk
  clear hk
  go_enter Try.func40, Try.ntmps40
  go_wp2_with fail
  refine (HO.out _).mono ?_
  rintro e w1 ⟨rfl, rfl⟩
  go_wp2_with fail
  have hb1 := heap_alloc3_0 w (.cells #[.int .i64 q.win, .int .i64 k, .slice A n cap, .bool q.cl, .bool q.cn] 83) (.cells #[.int .i64 0, .int .i64 0, .slice none 0 0, .bool false, .bool false] 83) (.cells #[.int .i64 q.win, .int .i64 k, .slice A n cap, .bool q.cl, .bool q.cn] 83)
  have ht1 := heap_alloc3_1 w (.cells #[.int .i64 q.win, .int .i64 k, .slice A n cap, .bool q.cl, .bool q.cn] 83) (.cells #[.int .i64 0, .int .i64 0, .slice none 0 0, .bool false, .bool false] 83) (.cells #[.int .i64 q.win, .int .i64 k, .slice A n cap, .bool q.cl, .bool q.cn] 83)
  have hs1 := same_alloc3 w (.cells #[.int .i64 q.win, .int .i64 k, .slice A n cap, .bool q.cl, .bool q.cn] 83) (.cells #[.int .i64 0, .int .i64 0, .slice none 0 0, .bool false, .bool false] 83) (.cells #[.int .i64 q.win, .int .i64 k, .slice A n cap, .bool q.cl, .bool q.cn] 83)
  have hz1 : (((w.alloc (.cells #[.int .i64 q.win, .int .i64 k, .slice A n cap, .bool q.cl, .bool q.cn] 83)).alloc (.cells #[.int .i64 0, .int .i64 0, .slice none 0 0, .bool false, .bool false] 83)).alloc (.cells #[.int .i64 q.win, .int .i64 k, .slice A n cap, .bool q.cl, .bool q.cn] 83)).heap.size = w.heap.size + 3 := by simp
  generalize (((w.alloc (.cells #[.int .i64 q.win, .int .i64 k, .slice A n cap, .bool q.cl, .bool q.cn] 83)).alloc (.cells #[.int .i64 0, .int .i64 0, .slice none 0 0, .bool false, .bool false] 83)).alloc (.cells #[.int .i64 q.win, .int .i64 k, .slice A n cap, .bool q.cl, .bool q.cn] 83)) = W1 at *
  have p1 : W1.cell? ⟨w.heap.size, 2, none⟩ = some (.slice A n cap) := by rw [cell_of_row W1 _ 2 _ _ _ hb1]; rfl
  have HS1 := Lib.hid hs1
  have HB1 := Lib.hid hb1
  have HT1 := Lib.hid ht1
  have HZ1 := Lib.hid hz1
  clear hs1 hb1 ht1 hz1
  refine region_path (S := (fun w' => w'.cell? ⟨w.heap.size, 2, none⟩ = some (.slice A n cap))) 9 [(0, true), (1, true), (2, true), (4, true), (5, true), (6, true), (3, false), (7, false), (8, true), (9, false)] (by kernel_rfl) (by kernel_rfl) (by kernel_rfl) p1 ?_
  refine path_read (i := 0) (v := ?v132_0) rfl (by rfl) (fun _ _ _ h => h) ?hy132_0 ?_
  case hy132_0 => ((intro w hSw; (try dsimp only at hSw); go_simp) <;> (try with_reducible rfl))
  try simp only [Act.put, List.setIfInBounds_toArray, List.set_cons_zero, List.set_cons_succ]
  refine path_read (i := 1) (v := ?v132_1) rfl (by rfl) (fun _ _ _ h => h) ?hy132_1 ?_
  case hy132_1 => ((intro w hSw; (try dsimp only at hSw); go_simp) <;> (try with_reducible rfl))
  try simp only [Act.put, List.setIfInBounds_toArray, List.set_cons_zero, List.set_cons_succ]
  refine path_read (i := 2) (v := ?v132_2) rfl (by rfl) (fun _ _ _ h => h) ?hy132_2 ?_
  case hy132_2 => ((intro w hSw; (try dsimp only at hSw); go_simp) <;> (try with_reducible rfl))
  try simp only [Act.put, List.setIfInBounds_toArray, List.set_cons_zero, List.set_cons_succ]
  refine path_read (i := 4) (v := ?v132_4) rfl (by rfl) (fun _ _ _ h => h) ?hy132_4 ?_
  case hy132_4 => ((intro w hSw; (try dsimp only at hSw); go_simp) <;> (try with_reducible rfl))
  try simp only [Act.put, List.setIfInBounds_toArray, List.set_cons_zero, List.set_cons_succ]
  refine path_read (i := 5) (v := ?v132_5) rfl (by rfl) (fun _ _ _ h => h) ?hy132_5 ?_
  case hy132_5 => ((intro w hSw; (try dsimp only at hSw); go_simp) <;> (try with_reducible rfl))
  try simp only [Act.put, List.setIfInBounds_toArray, List.set_cons_zero, List.set_cons_succ]
  refine path_read (i := 6) (v := ?v132_6) rfl (by rfl) (fun _ _ _ h => h) ?hy132_6 ?_
  case hy132_6 => ((intro w hSw; (try dsimp only at hSw); go_simp) <;> (try with_reducible rfl))
  try simp only [Act.put, List.setIfInBounds_toArray, List.set_cons_zero, List.set_cons_succ]
  refine path_do (i := 3) rfl ?_
  (first | (refine wpl_appendAny (w.heap.size + 3) (.slice none 0 0) 0 [] (World.ownsRow_nil _ _ _ _) rfl A n cap q.bs rfl ((HB.out.chg HS1.out (fun _ _ q => q)).chg (Chg.refl (fun _ => False) W1).drew (fun _ _ q => q)) (by omega) (by have := HZ1.out; simp; omega) ?_; intro A3 c3 w3 hown3 hk3; have HO3 := Lib.hid hown3; have HK3 := Lib.hid (((Chg.refl (fun _ => False) W1).drew.trans (hk3.mono (fun x _ e => by cases e)))); have p3 := HK3.out.cell p1 (fun q => q); clear hown3 hk3) | (refine wpl_appendAny (w.heap.size + 3) (.slice A3 (0 + n) c3) (0 + n) ([] ++ q.bs) HO3.out rfl A1 k cap1 (xs.take k) rfl ((((H1.out.take (by omega)).chg HS1.out (fun _ _ q => q))).chg HK3.out (fun _ _ q => q)) (by omega) (by have := HZ1.out; have := HK3.out.size; omega) ?_; intro A7 c7 w7 hown7 hk7; have HO7 := Lib.hid hown7; have HK7 := Lib.hid (HK3.out.then_ (hk7.mono (fun x _ e => (HO3.out.lt x e).1)) (fun i hi e => by have := HZ1.out; omega)); have p7 := HK7.out.cell p1 (fun q => q); have HB7 := Lib.hid (HK7.out.at_ HB1.out (fun q => q)); have fB7 := (fun i => frozen_of_row w7 w.heap.size i _ _ HB7.out); clear hown7 hk7))
  refine path_next (.inr ?keep132_3) ?_
  case keep132_3 => ((first | exact p3 | exact p7))
  try simp only [Act.put, List.setIfInBounds_toArray, List.set_cons_zero, List.set_cons_succ]
  refine path_do (i := 7) rfl ?_
  (first | (refine wpl_appendAny (w.heap.size + 3) (.slice none 0 0) 0 [] (World.ownsRow_nil _ _ _ _) rfl A n cap q.bs rfl ((HB.out.chg HS1.out (fun _ _ q => q)).chg (Chg.refl (fun _ => False) W1).drew (fun _ _ q => q)) (by omega) (by have := HZ1.out; simp; omega) ?_; intro A3 c3 w3 hown3 hk3; have HO3 := Lib.hid hown3; have HK3 := Lib.hid (((Chg.refl (fun _ => False) W1).drew.trans (hk3.mono (fun x _ e => by cases e)))); have p3 := HK3.out.cell p1 (fun q => q); clear hown3 hk3) | (refine wpl_appendAny (w.heap.size + 3) (.slice A3 (0 + n) c3) (0 + n) ([] ++ q.bs) HO3.out rfl A1 k cap1 (xs.take k) rfl ((((H1.out.take (by omega)).chg HS1.out (fun _ _ q => q))).chg HK3.out (fun _ _ q => q)) (by omega) (by have := HZ1.out; have := HK3.out.size; omega) ?_; intro A7 c7 w7 hown7 hk7; have HO7 := Lib.hid hown7; have HK7 := Lib.hid (HK3.out.then_ (hk7.mono (fun x _ e => (HO3.out.lt x e).1)) (fun i hi e => by have := HZ1.out; omega)); have p7 := HK7.out.cell p1 (fun q => q); have HB7 := Lib.hid (HK7.out.at_ HB1.out (fun q => q)); have fB7 := (fun i => frozen_of_row w7 w.heap.size i _ _ HB7.out); clear hown7 hk7))
  refine path_next (.inr ?keep132_7) ?_
  case keep132_7 => ((first | exact p3 | exact p7))
  try simp only [Act.put, List.setIfInBounds_toArray, List.set_cons_zero, List.set_cons_succ]
  refine path_read (i := 8) (v := ?v132_8) rfl (by rfl) (fun _ _ _ h => h) ?hy132_8 ?_
  case hy132_8 => ((intro w hSw; (try dsimp only at hSw); go_simp) <;> (try with_reducible rfl))
  try simp only [Act.put, List.setIfInBounds_toArray, List.set_cons_zero, List.set_cons_succ]
  refine path_do (i := 9) rfl ?_
  go_wp2_with ((first | (refine wpl_appendAny (w.heap.size + 3) (.slice none 0 0) 0 [] (World.ownsRow_nil _ _ _ _) rfl A n cap q.bs rfl ((HB.out.chg HS1.out (fun _ _ q => q)).chg (Chg.refl (fun _ => False) W1).drew (fun _ _ q => q)) (by omega) (by have := HZ1.out; simp; omega) ?_; intro A3 c3 w3 hown3 hk3; have HO3 := Lib.hid hown3; have HK3 := Lib.hid (((Chg.refl (fun _ => False) W1).drew.trans (hk3.mono (fun x _ e => by cases e)))); have p3 := HK3.out.cell p1 (fun q => q); clear hown3 hk3) | (refine wpl_appendAny (w.heap.size + 3) (.slice A3 (0 + n) c3) (0 + n) ([] ++ q.bs) HO3.out rfl A1 k cap1 (xs.take k) rfl ((((H1.out.take (by omega)).chg HS1.out (fun _ _ q => q))).chg HK3.out (fun _ _ q => q)) (by omega) (by have := HZ1.out; have := HK3.out.size; omega) ?_; intro A7 c7 w7 hown7 hk7; have HO7 := Lib.hid hown7; have HK7 := Lib.hid (HK3.out.then_ (hk7.mono (fun x _ e => (HO3.out.lt x e).1)) (fun i hi e => by have := HZ1.out; omega)); have p7 := HK7.out.cell p1 (fun q => q); have HB7 := Lib.hid (HK7.out.at_ HB1.out (fun q => q)); have fB7 := (fun i => frozen_of_row w7 w.heap.size i _ _ HB7.out); clear hown7 hk7)))
  refine ⟨.inl (by first | rfl | trivial), ?_⟩
  refine path_end ?_
  have HT7 := Lib.hid (at_setCell_other (i := 2) (.slice A7 (n + k) c7) (show w.heap.size + 1 ≠ w.heap.size by omega) (HK7.out.at_ HT1.out (fun q => q)))
  have HBX := Lib.hid (at_setCell (i := 2) (C := [.int .i64 q.win, .int .i64 k, .slice A n cap, .bool q.cl, .bool q.cn]) (.slice A7 (n + k) c7) HB7.out)
  have HKX := Lib.hid ((HS1.out.trans HK7.out).then_ ((Chg.refl (fun x => x = w.heap.size) w7).setCell ⟨w.heap.size, 2, none⟩ (.slice A7 (n + k) c7) (fun _ => rfl)) (fun i hi e => by omega))
  have HOX := Lib.hid (HO7.out.chg ((Chg.refl (fun x => x = w.heap.size) w7).setCell ⟨w.heap.size, 2, none⟩ (.slice A7 (n + k) c7) (fun _ => rfl)) (fun x hx e => by have := (HO7.out.lt x hx).1; omega))
  generalize w7.setCell ⟨w.heap.size, 2, none⟩ (.slice A7 (n + k) c7) = w8 at *
  have q0 := cell_at HBX.out 0
  have q1 := cell_at HBX.out 1
  have q2 := cell_at HBX.out 2
  have q3 := cell_at HBX.out 3
  have q4 := cell_at HBX.out 4
  have z0 := cell_of_row w8 (w.heap.size + 1) 0 _ _ _ HT7.out
  have z1 := cell_of_row w8 (w.heap.size + 1) 1 _ _ _ HT7.out
  have z2 := cell_of_row w8 (w.heap.size + 1) 2 _ _ _ HT7.out
  have z3 := cell_of_row w8 (w.heap.size + 1) 3 _ _ _ HT7.out
  have z4 := cell_of_row w8 (w.heap.size + 1) 4 _ _ _ HT7.out
  have fb := frozen_at HBX.out
  have ft := fun i => frozen_of_row w8 (w.heap.size + 1) i _ _ HT7.out
  simp only [List.set_cons_succ, List.set_cons_zero, List.getElem?_cons_zero, List.getElem?_cons_succ, List.getElem?_toArray] at q0 q1 q2 q3 q4 z0 z1 z2 z3 z4
  clear p1 p3 p7 fB7
  go_wp2
  have hT := at_setCell (i := 4) (.bool q.cn) (at_setCell (i := 3) (.bool q.cl) (at_setCell (i := 2) (.slice A7 (n + k) c7) (at_setCell (i := 1) (.int .i64 0) (at_setCell (i := 0) (.int .i64 q.win) (at_setCell_other (i := 1) (.int .i64 0) (show w.heap.size + 1 ≠ w.heap.size by omega) HT7.out)))))
  have hO := HOX.out
  rw [List.nil_append, Nat.zero_add] at hO
  obtain ⟨A', cap', hv, hb⟩ := BytesAt.of_own hO
  cases hv
  have hk9 : Chg (fun x => x = w.heap.size ∨ x = w.heap.size + 1) w8 ((((((w8.setCell ⟨w.heap.size, 1, none⟩ (.int .i64 0)).setCell ⟨w.heap.size + 1, 0, none⟩ (.int .i64 q.win)).setCell ⟨w.heap.size + 1, 1, none⟩ (.int .i64 0)).setCell ⟨w.heap.size + 1, 2, none⟩ (.slice A7 (n + k) c7)).setCell ⟨w.heap.size + 1, 3, none⟩ (.bool q.cl)).setCell ⟨w.heap.size + 1, 4, none⟩ (.bool q.cn)) := by
    refine Chg.setCell (Chg.setCell (Chg.setCell (Chg.setCell (Chg.setCell (Chg.setCell (Chg.refl _ _) _ _ ?_) _ _ ?_) _ _ ?_) _ _ ?_) _ _ ?_) _ _ ?_
    all_goals
      intro _
      first
        | exact .inl rfl
        | exact .inr rfl
  refine bodyPost_ret (results_cell_tmp2 Try.results40 rfl (run_load_rp hT)) rfl ⟨A7, n + k, c7, rfl, (hb.chg hk9 (fun x hx e => by omega)).mono (fun x _ hx => .inr (by omega)), HKX.out.then_ hk9 (fun i hi e => by omega)⟩

theorem qwrite_ok (q : PSt) (R : Nat → Prop) (A : Option Addr) (n cap : Nat) (A1 : Option Addr) (n1 cap1 : Nat) (xs : List Int) (w : World) (h : BytesAt w R A n cap q.bs) (h1 : BytesAt w (fun _ => True) A1 n1 cap1 xs) (hok : q.ok) :
    Calls Try.prog 40 #[rpv q A n cap, .slice A1 n1 cap1] w (QRet w (fun x => R x ∨ w.heap.size ≤ x) (q.write xs) [.int .i64 (q.wrN xs.length), .int .i64 q.wrE]) := by
  have hsum := hok.sum
  have hw1 := hok.w1
  have hc0 := hok.c0
  have hl := h.1
  by_cases ho : q.over = true
  · exact qwrite_over q R A n cap A1 n1 cap1 xs w h ho
  have ho : q.over = false := by simpa using ho
  obtain ⟨k, hk⟩ : ∃ k : Nat, q.cr = k := ⟨q.cr.toNat, by omega⟩
  by_cases hle : (n1 : Int) ≤ k
  · exact qwrite_len q R A n cap A1 n1 cap1 xs w h h1 ho k hk (by omega) (by omega) hle
  · exact qwrite_cr q R A n cap A1 n1 cap1 xs w h h1 ho k hk (by omega) (by omega) (by omega)
end Go.Proofs.Ytndldjopgbhphaa
