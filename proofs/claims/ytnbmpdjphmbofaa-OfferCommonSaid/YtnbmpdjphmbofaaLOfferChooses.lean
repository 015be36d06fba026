/- The walk of OfferChooses: for all arguments it returns true and leaves what was there as it was. -/
import Derived.Test.YtnbmpdjphmbofaaLOfferChecks
import Derived.Test.YtnbmpdjphmbofaaUCom40
import Derived.Test.YtnbmpdjphmbofaaUSame
set_option linter.unusedVariables false
set_option linter.unusedSimpArgs false
set_option maxRecDepth 100000
namespace Go.Proofs.Ytnbmpdjphmbofaa
open Go.RowKit

theorem uchoose_v (t : ByteArray) (b : Bool) (A : Option Addr) (n cap : Nat) (fs : List ByteArray) (acts : Int) (B : Option Addr) (m cb : Nat) (ws : List ByteArray) (w : World) (h : StrsAt w A n fs) (hn : n ≤ 1000000) (hb : StrsAt w B m ws) (hm : m ≤ 1000000) (hv : chooseV fs ws = (t, b)) :
    Calls Try.prog 21 #[.agg #[.slice A n cap, .int .i64 acts], .slice B m cb] w fun e w' => e = .returned (.tuple #[.string t, .bool b]) ∧ Same w w' := by
  refine (uchoose_ok A n cap fs acts B m cb ws w h hn hb hm).mono ?_
  rw [hv]
  exact fun e w' h => h
/-- The two boxes. -/
def twoW (w : World) (A : Option Addr) (n cap : Nat) (aA : Int) (B : Option Addr) (m cb : Nat) (aB : Int) : World := (w.alloc (offBox A n cap aA)).alloc (offBox B m cb aB)
theorem two_box {w w' : World} {A : Option Addr} {n cap : Nat} {aA : Int} {B : Option Addr} {m cb : Nat} {aB : Int} (h : Same (twoW w A n cap aA B m cb aB) w') :
    (w'.cell? ⟨w.heap.size, 0, none⟩ = some (.slice A n cap) ∧ w'.cell? ⟨w.heap.size, 1, none⟩ = some (.int .i64 aA) ∧ (loadVar 24 ⟨w.heap.size, 0, none⟩).run Try.prog w' = .ok (.agg #[.slice A n cap, .int .i64 aA]) w') ∧
    w'.cell? ⟨w.heap.size + 1, 0, none⟩ = some (.slice B m cb) ∧ w'.cell? ⟨w.heap.size + 1, 1, none⟩ = some (.int .i64 aB) ∧ (loadVar 24 ⟨w.heap.size + 1, 0, none⟩).run Try.prog w' = .ok (.agg #[.slice B m cb, .int .i64 aB]) w' := by
  have h1 := off_box (((Chg.refl (fun _ => False) (w.alloc (offBox A n cap aA))).alloc _).trans h)
  have hz : (w.alloc (offBox A n cap aA)).heap.size = w.heap.size + 1 := by simp
  have h2 := off_box h
  rw [hz] at h2
  exact ⟨⟨h1.1, h1.2.1, h1.2.2⟩, h2.1, h2.2.1, h2.2.2⟩

set_option maxRecDepth 100000 in
set_option maxHeartbeats 4000000 in
theorem chooses_far (A : Option Addr) (n cap : Nat) (fs : List ByteArray) (aA : Int) (B : Option Addr) (m cb : Nat) (gs : List ByteArray) (aB : Int) (w : World) (h : SArg w A n cap fs) (hw : SArg w B m cb gs) (hb : lightB fs = false ∨ (lightB fs = true ∧ lightB gs = false)) :
    Calls Try.prog 8 #[.agg #[.slice A n cap, .int .i64 aA], .agg #[.slice B m cb, .int .i64 aB]] w fun e w' => e = .returned (.bool true) ∧ Same w w' := by
  have hs0 : Same w (twoW w A n cap aA B m cb aB) := ((Chg.refl (fun _ => False) w).alloc _).alloc _
  have HA : Hid (SArg (twoW w A n cap aA B m cb aB) A n cap fs) := Lib.hid ⟨h.1.same hs0, h.2⟩
  have HW : Hid (SArg (twoW w A n cap aA B m cb aB) B m cb gs) := Lib.hid ⟨hw.1.same hs0, hw.2⟩
  have HS0 := Lib.hid hs0
  clear h hw hs0
  rcases hb with hb | ⟨hb, hb2⟩
  · have HB := Lib.hid hb
    clear hb
    go_enter Try.func8, Try.ntmps8
    go_wp2_with fail
    refine (light_v _ A n cap fs _ HA.out HB.out).mono ?_
    rintro e w' ⟨rfl, rfl⟩
    go_wp2_with fail
    refine (example40_ok _).mono ?_
    rintro e w2 ⟨rfl, hs2⟩
    have HS2 := Lib.hid hs2
    clear hs2
    go_wp2
    go_ret
    exact ⟨rfl, HS0.out.trans HS2.out⟩
  · have HB := Lib.hid hb
    have HB2 := Lib.hid hb2
    clear hb hb2
    go_enter Try.func8, Try.ntmps8
    go_wp2_with fail
    refine (light_v _ A n cap fs _ HA.out HB.out).mono ?_
    rintro e w' ⟨rfl, rfl⟩
    have hbb := (two_box (Chg.refl (fun _ => False) (twoW w A n cap aA B m cb aB))).2.1
    go_wp2_with fail
    refine (light_v _ B m cb gs _ HW.out HB2.out).mono ?_
    rintro e w' ⟨rfl, rfl⟩
    go_wp2_with fail
    refine (example40_ok _).mono ?_
    rintro e w2 ⟨rfl, hs2⟩
    have HS2 := Lib.hid hs2
    clear hs2
    go_wp2
    go_ret
    exact ⟨rfl, HS0.out.trans HS2.out⟩

theorem comFrom_length (gs : List ByteArray) : ∀ (fs out : List ByteArray), (comFrom gs out fs).length ≤ out.length + fs.length
  | [], out => by simp [comFrom]
  | f :: fs, out => by
    rw [comFrom_cons]
    have h1 := comFrom_length gs fs (comStep gs out f)
    have h2 := comStep_length gs out f
    rw [List.length_cons]
    omega
set_option maxRecDepth 100000 in
set_option maxHeartbeats 8000000 in
theorem chooses_near (A : Option Addr) (n cap : Nat) (fs : List ByteArray) (aA : Int) (B : Option Addr) (m cb : Nat) (gs : List ByteArray) (aB : Int) (w : World) (h : SArg w A n cap fs) (hw : SArg w B m cb gs) (hb : lightB fs = true) (hb2 : lightB gs = true) :
    Calls Try.prog 8 #[.agg #[.slice A n cap, .int .i64 aA], .agg #[.slice B m cb, .int .i64 aB]] w fun e w' => e = .returned (.bool true) ∧ Same w w' := by
  have hs0 : Same w (twoW w A n cap aA B m cb aB) := ((Chg.refl (fun _ => False) w).alloc _).alloc _
  have HA : Hid (SArg (twoW w A n cap aA B m cb aB) A n cap fs) := Lib.hid ⟨h.1.same hs0, h.2⟩
  have HW : Hid (SArg (twoW w A n cap aA B m cb aB) B m cb gs) := Lib.hid ⟨hw.1.same hs0, hw.2⟩
  have HS0 := Lib.hid hs0
  have HC := Lib.hid (fun (w' : World) (h : Same (twoW w A n cap aA B m cb aB) w') => two_box h)
  have hn : n ≤ 40 := by have := (light_len hb).1; rw [h.1.1] at this; exact this
  have hm : m ≤ 40 := by have := (light_len hb2).1; rw [hw.1.1] at this; exact this
  have HB := Lib.hid hb
  have HB2 := Lib.hid hb2
  have HCL : Hid ((comV fs gs).length ≤ 40) := Lib.hid (by have h1 := comFrom_length gs fs []; have h2 := (light_len hb).1; unfold comV; simp at h1; omega)
  obtain ⟨st, ok, hch⟩ : ∃ st ok, chooseV fs gs = (st, ok) := ⟨_, _, rfl⟩
  have HCH := Lib.hid hch
  clear h hw hs0 hb hb2 hch
  go_enter Try.func8, Try.ntmps8
  go_wp2_with fail
  refine (light_v _ A n cap fs _ HA.out HB.out).mono ?_
  rintro e w' ⟨rfl, rfl⟩
  have hbb := (HC.out _ (Chg.refl _ _)).2.1
  go_wp2_with fail
  refine (light_v _ B m cb gs _ HW.out HB2.out).mono ?_
  rintro e w' ⟨rfl, rfl⟩
  clear hbb
  go_wp2_with fail
  refine region_path (S := (fun w' => (w'.cell? ⟨w.heap.size, 0, none⟩ = some (.slice A n cap) ∧ w'.cell? ⟨w.heap.size, 1, none⟩ = some (.int .i64 aA) ∧ (loadVar 24 ⟨w.heap.size, 0, none⟩).run Try.prog w' = .ok (.agg #[.slice A n cap, .int .i64 aA]) w') ∧ w'.cell? ⟨w.heap.size + 1, 0, none⟩ = some (.slice B m cb) ∧ w'.cell? ⟨w.heap.size + 1, 1, none⟩ = some (.int .i64 aB) ∧ (loadVar 24 ⟨w.heap.size + 1, 0, none⟩).run Try.prog w' = .ok (.agg #[.slice B m cb, .int .i64 aB]) w')) 99 [(0, true), (2, true), (3, true), (1, false), (4, false), (5, true), (6, true), (7, true), (8, true), (9, true)] (by kernel_rfl) (by kernel_rfl) (by kernel_rfl) (HC.out _ (Chg.refl _ _).drew) ?_
  refine path_read (i := 0) (v := ?v1_0) rfl (by rfl) (fun _ _ _ h => h) ?hy1_0 ?_
  case hy1_0 => ((intro w hSw; (try dsimp only at hSw); go_simp) <;> (try with_reducible rfl))
  try simp only [Act.put, List.setIfInBounds_toArray, List.set_cons_zero, List.set_cons_succ]
  refine path_read (i := 2) (v := ?v1_2) rfl (by rfl) (fun _ _ _ h => h) ?hy1_2 ?_
  case hy1_2 => ((intro w hSw; (try dsimp only at hSw); go_simp) <;> (try with_reducible rfl))
  try simp only [Act.put, List.setIfInBounds_toArray, List.set_cons_zero, List.set_cons_succ]
  refine path_read (i := 3) (v := ?v1_3) rfl (by rfl) (fun _ _ _ h => h) ?hy1_3 ?_
  case hy1_3 => ((intro w hSw; (try dsimp only at hSw); go_simp) <;> (try with_reducible rfl))
  try simp only [Act.put, List.setIfInBounds_toArray, List.set_cons_zero, List.set_cons_succ]
  refine path_do (i := 1) rfl ?_
  go_wp2_with ((first | (go_at_call 13; refine (prog_ok _ _ _ _ _).mono ?_; rintro e w1 ⟨rfl, hs1⟩; have HS : Hid (Same (twoW w A n cap aA B m cb aB) w1) := Lib.hid (((Chg.refl (fun _ => False) (twoW w A n cap aA B m cb aB)).drew).trans hs1)) | (go_at_call 19; refine (choose_v st ok A n cap fs aA B m cb gs _ (HA.out.1.same HS.out) (by omega) (HW.out.1.same HS.out) (by omega) HCH.out).mono ?_; rintro e w2 ⟨rfl, hs2⟩; have HS := Lib.hid (HS.out.trans hs2))))
  (first | refine ⟨.inr ?keep1_1, ?_⟩ | refine ⟨?keep1_1, ?_⟩)
  case keep1_1 => ((exact HC.out _ HS.out))
  try simp only [Act.put, List.setIfInBounds_toArray, List.set_cons_zero, List.set_cons_succ]
  refine path_do (i := 4) rfl ?_
  go_wp2_with ((first | (go_at_call 13; refine (prog_ok _ _ _ _ _).mono ?_; rintro e w1 ⟨rfl, hs1⟩; have HS : Hid (Same (twoW w A n cap aA B m cb aB) w1) := Lib.hid (((Chg.refl (fun _ => False) (twoW w A n cap aA B m cb aB)).drew).trans hs1)) | (go_at_call 19; refine (choose_v st ok A n cap fs aA B m cb gs _ (HA.out.1.same HS.out) (by omega) (HW.out.1.same HS.out) (by omega) HCH.out).mono ?_; rintro e w2 ⟨rfl, hs2⟩; have HS := Lib.hid (HS.out.trans hs2))))
  (first | refine ⟨.inr ?keep1_4, ?_⟩ | refine ⟨?keep1_4, ?_⟩)
  case keep1_4 => ((exact HC.out _ HS.out))
  try simp only [Act.put, List.setIfInBounds_toArray, List.set_cons_zero, List.set_cons_succ]
  refine path_read (i := 5) (v := ?v1_5) rfl (by rfl) (fun _ _ _ h => h) ?hy1_5 ?_
  case hy1_5 => ((intro w hSw; (try dsimp only at hSw); go_simp) <;> (try with_reducible rfl))
  try simp only [Act.put, List.setIfInBounds_toArray, List.set_cons_zero, List.set_cons_succ]
  refine path_read (i := 6) (v := ?v1_6) rfl (by rfl) (fun _ _ _ h => h) ?hy1_6 ?_
  case hy1_6 => ((intro w hSw; (try dsimp only at hSw); go_simp) <;> (try with_reducible rfl))
  try simp only [Act.put, List.setIfInBounds_toArray, List.set_cons_zero, List.set_cons_succ]
  refine path_read (i := 7) (v := ?v1_7) rfl (by rfl) (fun _ _ _ h => h) ?hy1_7 ?_
  case hy1_7 => ((intro w hSw; (try dsimp only at hSw); go_simp) <;> (try with_reducible rfl))
  try simp only [Act.put, List.setIfInBounds_toArray, List.set_cons_zero, List.set_cons_succ]
  refine path_read (i := 8) (v := ?v1_8) rfl (by rfl) (fun _ _ _ h => h) ?hy1_8 ?_
  case hy1_8 => ((intro w hSw; (try dsimp only at hSw); go_simp) <;> (try with_reducible rfl))
  try simp only [Act.put, List.setIfInBounds_toArray, List.set_cons_zero, List.set_cons_succ]
  refine path_read (i := 9) (v := ?v1_9) rfl (by rfl) (fun _ _ _ h => h) ?hy1_9 ?_
  case hy1_9 => ((intro w hSw; (try dsimp only at hSw); go_simp) <;> (try with_reducible rfl))
  try simp only [Act.put, List.setIfInBounds_toArray, List.set_cons_zero, List.set_cons_succ]
  refine path_end ?_
  have hld := (HC.out _ HS.out).1.2.2
  have hcb := (HC.out _ HS.out).2.1
  go_wp2_with (refine wpl_loadv _ _ _ rfl hld ?_)
  refine (uchoose_v st ok A n cap fs aA B m cb gs _ (HA.out.1.same HS.out) (by omega) (HW.out.1.same HS.out) (by omega) HCH.out).mono ?_
  rintro e w3 ⟨rfl, hs3⟩
  have HS := Lib.hid ((HS.out.trans hs3).drew)
  clear hs3 hld hcb
  go_wp2_with fail
  refine region_path (S := (fun w' => (w'.cell? ⟨w.heap.size, 0, none⟩ = some (.slice A n cap) ∧ w'.cell? ⟨w.heap.size, 1, none⟩ = some (.int .i64 aA) ∧ (loadVar 24 ⟨w.heap.size, 0, none⟩).run Try.prog w' = .ok (.agg #[.slice A n cap, .int .i64 aA]) w') ∧ w'.cell? ⟨w.heap.size + 1, 0, none⟩ = some (.slice B m cb) ∧ w'.cell? ⟨w.heap.size + 1, 1, none⟩ = some (.int .i64 aB) ∧ (loadVar 24 ⟨w.heap.size + 1, 0, none⟩).run Try.prog w' = .ok (.agg #[.slice B m cb, .int .i64 aB]) w')) 99 [(0, true), (1, true), (2, true), (3, true), (4, true), (5, true), (6, true), (7, true), (8, true), (9, true), (11, true), (15, true), (16, true), (10, false), (12, false), (13, false), (14, false), (17, false), (18, false), (19, true), (20, true), (21, false), (22, true), (23, true)] (by kernel_rfl) (by kernel_rfl) (by kernel_rfl) (HC.out _ HS.out) ?_
  refine path_read (i := 0) (v := ?v2_0) rfl (by rfl) (fun _ _ _ h => h) ?hy2_0 ?_
  case hy2_0 => ((intro w hSw; (try dsimp only at hSw); go_simp) <;> (try with_reducible rfl))
  try simp only [Act.put, List.setIfInBounds_toArray, List.set_cons_zero, List.set_cons_succ]
  refine path_read (i := 1) (v := ?v2_1) rfl (by rfl) (fun _ _ _ h => h) ?hy2_1 ?_
  case hy2_1 => ((intro w hSw; (try dsimp only at hSw); go_simp) <;> (try with_reducible rfl))
  try simp only [Act.put, List.setIfInBounds_toArray, List.set_cons_zero, List.set_cons_succ]
  refine path_read (i := 2) (v := ?v2_2) rfl (by rfl) (fun _ _ _ h => h) ?hy2_2 ?_
  case hy2_2 => ((intro w hSw; (try dsimp only at hSw); go_simp) <;> (try with_reducible rfl))
  try simp only [Act.put, List.setIfInBounds_toArray, List.set_cons_zero, List.set_cons_succ]
  refine path_read (i := 3) (v := ?v2_3) rfl (by rfl) (fun _ _ _ h => h) ?hy2_3 ?_
  case hy2_3 => ((intro w hSw; (try dsimp only at hSw); go_simp) <;> (try with_reducible rfl))
  try simp only [Act.put, List.setIfInBounds_toArray, List.set_cons_zero, List.set_cons_succ]
  refine path_read (i := 4) (v := ?v2_4) rfl (by rfl) (fun _ _ _ h => h) ?hy2_4 ?_
  case hy2_4 => ((intro w hSw; (try dsimp only at hSw); go_simp) <;> (try with_reducible rfl))
  try simp only [Act.put, List.setIfInBounds_toArray, List.set_cons_zero, List.set_cons_succ]
  refine path_read (i := 5) (v := ?v2_5) rfl (by rfl) (fun _ _ _ h => h) ?hy2_5 ?_
  case hy2_5 => ((intro w hSw; (try dsimp only at hSw); go_simp) <;> (try with_reducible rfl))
  try simp only [Act.put, List.setIfInBounds_toArray, List.set_cons_zero, List.set_cons_succ]
  refine path_read (i := 6) (v := ?v2_6) rfl (by rfl) (fun _ _ _ h => h) ?hy2_6 ?_
  case hy2_6 => ((intro w hSw; (try dsimp only at hSw); go_simp) <;> (try with_reducible rfl))
  try simp only [Act.put, List.setIfInBounds_toArray, List.set_cons_zero, List.set_cons_succ]
  refine path_read (i := 7) (v := ?v2_7) rfl (by rfl) (fun _ _ _ h => h) ?hy2_7 ?_
  case hy2_7 => ((intro w hSw; (try dsimp only at hSw); go_simp) <;> (try with_reducible rfl))
  try simp only [Act.put, List.setIfInBounds_toArray, List.set_cons_zero, List.set_cons_succ]
  refine path_read (i := 8) (v := ?v2_8) rfl (by rfl) (fun _ _ _ h => h) ?hy2_8 ?_
  case hy2_8 => ((intro w hSw; (try dsimp only at hSw); go_simp) <;> (try with_reducible rfl))
  try simp only [Act.put, List.setIfInBounds_toArray, List.set_cons_zero, List.set_cons_succ]
  refine path_read (i := 9) (v := ?v2_9) rfl (by rfl) (fun _ _ _ h => h) ?hy2_9 ?_
  case hy2_9 => ((intro w hSw; (try dsimp only at hSw); go_simp) <;> (try with_reducible rfl))
  try simp only [Act.put, List.setIfInBounds_toArray, List.set_cons_zero, List.set_cons_succ]
  refine path_read (i := 11) (v := ?v2_11) rfl (by rfl) (fun _ _ _ h => h) ?hy2_11 ?_
  case hy2_11 => ((intro w hSw; (try dsimp only at hSw); go_simp) <;> (try with_reducible rfl))
  try simp only [Act.put, List.setIfInBounds_toArray, List.set_cons_zero, List.set_cons_succ]
  refine path_read (i := 15) (v := ?v2_15) rfl (by rfl) (fun _ _ _ h => h) ?hy2_15 ?_
  case hy2_15 => ((intro w hSw; (try dsimp only at hSw); go_simp) <;> (try with_reducible rfl))
  try simp only [Act.put, List.setIfInBounds_toArray, List.set_cons_zero, List.set_cons_succ]
  refine path_read (i := 16) (v := ?v2_16) rfl (by rfl) (fun _ _ _ h => h) ?hy2_16 ?_
  case hy2_16 => ((intro w hSw; (try dsimp only at hSw); go_simp) <;> (try with_reducible rfl))
  try simp only [Act.put, List.setIfInBounds_toArray, List.set_cons_zero, List.set_cons_succ]
  refine path_do (i := 10) rfl ?_
  go_wp2_with ((first | (go_at_call 13; refine (prog_ok _ _ _ _ _).mono ?_; rintro e w1 ⟨rfl, hs1⟩; have HS := Lib.hid (HS.out.trans hs1)) | (go_at_call 24; refine (common_ok A n cap fs aA B m cb gs aB _ (HA.out.1.same HS.out) hn (HW.out.1.same HS.out) hm).mono ?_; rintro e w3 ⟨A7, n7, c7, rfl, hsg7, hs3⟩; have HS := Lib.hid (HS.out.trans hs3); have H7 := Lib.hid hsg7; clear hsg7) | (go_at_call 23; refine (want_ok _ _ _ _ _).mono ?_; rintro e w4 ⟨rfl, hs4⟩; have HS := Lib.hid (HS.out.trans hs4); have H7 : Hid (SArg w4 A7 n7 c7 (comV fs gs)) := Lib.hid ⟨H7.out.1.same hs4, H7.out.2⟩) | (go_at_call 25; refine (ucommon_ok A n cap fs aA B m cb gs aB _ (HA.out.1.same HS.out) hn (HW.out.1.same HS.out) hm).mono ?_; rintro e w5 ⟨A8, n8, c8, rfl, hsg8, hs5⟩; have HS := Lib.hid (HS.out.trans hs5); have H7 : Hid (SArg w5 A7 n7 c7 (comV fs gs)) := Lib.hid ⟨H7.out.1.same hs5, H7.out.2⟩; have H8 := Lib.hid hsg8; clear hsg8) | (go_at_call 22; refine (usame_ok A7 n7 c7 (comV fs gs) _ A8 n8 c8 _ H7.out.1 (by have := HCL.out; have h1 := H7.out.1.1; omega) H8.out.1).mono ?_; rintro e w6 ⟨rfl, hs6⟩; have HS := Lib.hid (HS.out.trans hs6)) | (go_at_call 11; refine (example40_ok _).mono ?_; rintro e w9 ⟨rfl, hs9⟩; have HS := Lib.hid (HS.out.trans hs9))))
  (first | refine ⟨.inr ?keep2_10, ?_⟩ | refine ⟨?keep2_10, ?_⟩)
  case keep2_10 => ((exact HC.out _ HS.out))
  try simp only [Act.put, List.setIfInBounds_toArray, List.set_cons_zero, List.set_cons_succ]
  refine path_do (i := 12) rfl ?_
  go_wp2_with ((first | (go_at_call 13; refine (prog_ok _ _ _ _ _).mono ?_; rintro e w1 ⟨rfl, hs1⟩; have HS := Lib.hid (HS.out.trans hs1)) | (go_at_call 24; refine (common_ok A n cap fs aA B m cb gs aB _ (HA.out.1.same HS.out) hn (HW.out.1.same HS.out) hm).mono ?_; rintro e w3 ⟨A7, n7, c7, rfl, hsg7, hs3⟩; have HS := Lib.hid (HS.out.trans hs3); have H7 := Lib.hid hsg7; clear hsg7) | (go_at_call 23; refine (want_ok _ _ _ _ _).mono ?_; rintro e w4 ⟨rfl, hs4⟩; have HS := Lib.hid (HS.out.trans hs4); have H7 : Hid (SArg w4 A7 n7 c7 (comV fs gs)) := Lib.hid ⟨H7.out.1.same hs4, H7.out.2⟩) | (go_at_call 25; refine (ucommon_ok A n cap fs aA B m cb gs aB _ (HA.out.1.same HS.out) hn (HW.out.1.same HS.out) hm).mono ?_; rintro e w5 ⟨A8, n8, c8, rfl, hsg8, hs5⟩; have HS := Lib.hid (HS.out.trans hs5); have H7 : Hid (SArg w5 A7 n7 c7 (comV fs gs)) := Lib.hid ⟨H7.out.1.same hs5, H7.out.2⟩; have H8 := Lib.hid hsg8; clear hsg8) | (go_at_call 22; refine (usame_ok A7 n7 c7 (comV fs gs) _ A8 n8 c8 _ H7.out.1 (by have := HCL.out; have h1 := H7.out.1.1; omega) H8.out.1).mono ?_; rintro e w6 ⟨rfl, hs6⟩; have HS := Lib.hid (HS.out.trans hs6)) | (go_at_call 11; refine (example40_ok _).mono ?_; rintro e w9 ⟨rfl, hs9⟩; have HS := Lib.hid (HS.out.trans hs9))))
  (first | refine ⟨.inr ?keep2_12, ?_⟩ | refine ⟨?keep2_12, ?_⟩)
  case keep2_12 => ((exact HC.out _ HS.out))
  try simp only [Act.put, List.setIfInBounds_toArray, List.set_cons_zero, List.set_cons_succ]
  refine path_do (i := 13) rfl ?_
  go_wp2_with ((first | (go_at_call 13; refine (prog_ok _ _ _ _ _).mono ?_; rintro e w1 ⟨rfl, hs1⟩; have HS := Lib.hid (HS.out.trans hs1)) | (go_at_call 24; refine (common_ok A n cap fs aA B m cb gs aB _ (HA.out.1.same HS.out) hn (HW.out.1.same HS.out) hm).mono ?_; rintro e w3 ⟨A7, n7, c7, rfl, hsg7, hs3⟩; have HS := Lib.hid (HS.out.trans hs3); have H7 := Lib.hid hsg7; clear hsg7) | (go_at_call 23; refine (want_ok _ _ _ _ _).mono ?_; rintro e w4 ⟨rfl, hs4⟩; have HS := Lib.hid (HS.out.trans hs4); have H7 : Hid (SArg w4 A7 n7 c7 (comV fs gs)) := Lib.hid ⟨H7.out.1.same hs4, H7.out.2⟩) | (go_at_call 25; refine (ucommon_ok A n cap fs aA B m cb gs aB _ (HA.out.1.same HS.out) hn (HW.out.1.same HS.out) hm).mono ?_; rintro e w5 ⟨A8, n8, c8, rfl, hsg8, hs5⟩; have HS := Lib.hid (HS.out.trans hs5); have H7 : Hid (SArg w5 A7 n7 c7 (comV fs gs)) := Lib.hid ⟨H7.out.1.same hs5, H7.out.2⟩; have H8 := Lib.hid hsg8; clear hsg8) | (go_at_call 22; refine (usame_ok A7 n7 c7 (comV fs gs) _ A8 n8 c8 _ H7.out.1 (by have := HCL.out; have h1 := H7.out.1.1; omega) H8.out.1).mono ?_; rintro e w6 ⟨rfl, hs6⟩; have HS := Lib.hid (HS.out.trans hs6)) | (go_at_call 11; refine (example40_ok _).mono ?_; rintro e w9 ⟨rfl, hs9⟩; have HS := Lib.hid (HS.out.trans hs9))))
  (first | refine ⟨.inr ?keep2_13, ?_⟩ | refine ⟨?keep2_13, ?_⟩)
  case keep2_13 => ((exact HC.out _ HS.out))
  try simp only [Act.put, List.setIfInBounds_toArray, List.set_cons_zero, List.set_cons_succ]
  refine path_do (i := 14) rfl ?_
  go_wp2_with ((first | (go_at_call 13; refine (prog_ok _ _ _ _ _).mono ?_; rintro e w1 ⟨rfl, hs1⟩; have HS := Lib.hid (HS.out.trans hs1)) | (go_at_call 24; refine (common_ok A n cap fs aA B m cb gs aB _ (HA.out.1.same HS.out) hn (HW.out.1.same HS.out) hm).mono ?_; rintro e w3 ⟨A7, n7, c7, rfl, hsg7, hs3⟩; have HS := Lib.hid (HS.out.trans hs3); have H7 := Lib.hid hsg7; clear hsg7) | (go_at_call 23; refine (want_ok _ _ _ _ _).mono ?_; rintro e w4 ⟨rfl, hs4⟩; have HS := Lib.hid (HS.out.trans hs4); have H7 : Hid (SArg w4 A7 n7 c7 (comV fs gs)) := Lib.hid ⟨H7.out.1.same hs4, H7.out.2⟩) | (go_at_call 25; refine (ucommon_ok A n cap fs aA B m cb gs aB _ (HA.out.1.same HS.out) hn (HW.out.1.same HS.out) hm).mono ?_; rintro e w5 ⟨A8, n8, c8, rfl, hsg8, hs5⟩; have HS := Lib.hid (HS.out.trans hs5); have H7 : Hid (SArg w5 A7 n7 c7 (comV fs gs)) := Lib.hid ⟨H7.out.1.same hs5, H7.out.2⟩; have H8 := Lib.hid hsg8; clear hsg8) | (go_at_call 22; refine (usame_ok A7 n7 c7 (comV fs gs) _ A8 n8 c8 _ H7.out.1 (by have := HCL.out; have h1 := H7.out.1.1; omega) H8.out.1).mono ?_; rintro e w6 ⟨rfl, hs6⟩; have HS := Lib.hid (HS.out.trans hs6)) | (go_at_call 11; refine (example40_ok _).mono ?_; rintro e w9 ⟨rfl, hs9⟩; have HS := Lib.hid (HS.out.trans hs9))))
  (first | refine ⟨.inr ?keep2_14, ?_⟩ | refine ⟨?keep2_14, ?_⟩)
  case keep2_14 => ((exact HC.out _ HS.out))
  try simp only [Act.put, List.setIfInBounds_toArray, List.set_cons_zero, List.set_cons_succ]
  refine path_do (i := 17) rfl ?_
  go_wp2_with ((first | (go_at_call 13; refine (prog_ok _ _ _ _ _).mono ?_; rintro e w1 ⟨rfl, hs1⟩; have HS := Lib.hid (HS.out.trans hs1)) | (go_at_call 24; refine (common_ok A n cap fs aA B m cb gs aB _ (HA.out.1.same HS.out) hn (HW.out.1.same HS.out) hm).mono ?_; rintro e w3 ⟨A7, n7, c7, rfl, hsg7, hs3⟩; have HS := Lib.hid (HS.out.trans hs3); have H7 := Lib.hid hsg7; clear hsg7) | (go_at_call 23; refine (want_ok _ _ _ _ _).mono ?_; rintro e w4 ⟨rfl, hs4⟩; have HS := Lib.hid (HS.out.trans hs4); have H7 : Hid (SArg w4 A7 n7 c7 (comV fs gs)) := Lib.hid ⟨H7.out.1.same hs4, H7.out.2⟩) | (go_at_call 25; refine (ucommon_ok A n cap fs aA B m cb gs aB _ (HA.out.1.same HS.out) hn (HW.out.1.same HS.out) hm).mono ?_; rintro e w5 ⟨A8, n8, c8, rfl, hsg8, hs5⟩; have HS := Lib.hid (HS.out.trans hs5); have H7 : Hid (SArg w5 A7 n7 c7 (comV fs gs)) := Lib.hid ⟨H7.out.1.same hs5, H7.out.2⟩; have H8 := Lib.hid hsg8; clear hsg8) | (go_at_call 22; refine (usame_ok A7 n7 c7 (comV fs gs) _ A8 n8 c8 _ H7.out.1 (by have := HCL.out; have h1 := H7.out.1.1; omega) H8.out.1).mono ?_; rintro e w6 ⟨rfl, hs6⟩; have HS := Lib.hid (HS.out.trans hs6)) | (go_at_call 11; refine (example40_ok _).mono ?_; rintro e w9 ⟨rfl, hs9⟩; have HS := Lib.hid (HS.out.trans hs9))))
  (first | refine ⟨.inr ?keep2_17, ?_⟩ | refine ⟨?keep2_17, ?_⟩)
  case keep2_17 => ((exact HC.out _ HS.out))
  try simp only [Act.put, List.setIfInBounds_toArray, List.set_cons_zero, List.set_cons_succ]
  refine path_do (i := 18) rfl ?_
  go_wp2_with ((first | (go_at_call 13; refine (prog_ok _ _ _ _ _).mono ?_; rintro e w1 ⟨rfl, hs1⟩; have HS := Lib.hid (HS.out.trans hs1)) | (go_at_call 24; refine (common_ok A n cap fs aA B m cb gs aB _ (HA.out.1.same HS.out) hn (HW.out.1.same HS.out) hm).mono ?_; rintro e w3 ⟨A7, n7, c7, rfl, hsg7, hs3⟩; have HS := Lib.hid (HS.out.trans hs3); have H7 := Lib.hid hsg7; clear hsg7) | (go_at_call 23; refine (want_ok _ _ _ _ _).mono ?_; rintro e w4 ⟨rfl, hs4⟩; have HS := Lib.hid (HS.out.trans hs4); have H7 : Hid (SArg w4 A7 n7 c7 (comV fs gs)) := Lib.hid ⟨H7.out.1.same hs4, H7.out.2⟩) | (go_at_call 25; refine (ucommon_ok A n cap fs aA B m cb gs aB _ (HA.out.1.same HS.out) hn (HW.out.1.same HS.out) hm).mono ?_; rintro e w5 ⟨A8, n8, c8, rfl, hsg8, hs5⟩; have HS := Lib.hid (HS.out.trans hs5); have H7 : Hid (SArg w5 A7 n7 c7 (comV fs gs)) := Lib.hid ⟨H7.out.1.same hs5, H7.out.2⟩; have H8 := Lib.hid hsg8; clear hsg8) | (go_at_call 22; refine (usame_ok A7 n7 c7 (comV fs gs) _ A8 n8 c8 _ H7.out.1 (by have := HCL.out; have h1 := H7.out.1.1; omega) H8.out.1).mono ?_; rintro e w6 ⟨rfl, hs6⟩; have HS := Lib.hid (HS.out.trans hs6)) | (go_at_call 11; refine (example40_ok _).mono ?_; rintro e w9 ⟨rfl, hs9⟩; have HS := Lib.hid (HS.out.trans hs9))))
  (first | refine ⟨.inr ?keep2_18, ?_⟩ | refine ⟨?keep2_18, ?_⟩)
  case keep2_18 => ((exact HC.out _ HS.out))
  try simp only [Act.put, List.setIfInBounds_toArray, List.set_cons_zero, List.set_cons_succ]
  refine path_read (i := 19) (v := ?v2_19) rfl (by rfl) (fun _ _ _ h => h) ?hy2_19 ?_
  case hy2_19 => ((intro w hSw; (try dsimp only at hSw); go_simp) <;> (try with_reducible rfl))
  try simp only [Act.put, List.setIfInBounds_toArray, List.set_cons_zero, List.set_cons_succ]
  refine path_read (i := 20) (v := ?v2_20) rfl (by rfl) (fun _ _ _ h => h) ?hy2_20 ?_
  case hy2_20 => ((intro w hSw; (try dsimp only at hSw); go_simp) <;> (try with_reducible rfl))
  try simp only [Act.put, List.setIfInBounds_toArray, List.set_cons_zero, List.set_cons_succ]
  refine path_do (i := 21) rfl ?_
  go_wp2_with ((first | (go_at_call 13; refine (prog_ok _ _ _ _ _).mono ?_; rintro e w1 ⟨rfl, hs1⟩; have HS := Lib.hid (HS.out.trans hs1)) | (go_at_call 24; refine (common_ok A n cap fs aA B m cb gs aB _ (HA.out.1.same HS.out) hn (HW.out.1.same HS.out) hm).mono ?_; rintro e w3 ⟨A7, n7, c7, rfl, hsg7, hs3⟩; have HS := Lib.hid (HS.out.trans hs3); have H7 := Lib.hid hsg7; clear hsg7) | (go_at_call 23; refine (want_ok _ _ _ _ _).mono ?_; rintro e w4 ⟨rfl, hs4⟩; have HS := Lib.hid (HS.out.trans hs4); have H7 : Hid (SArg w4 A7 n7 c7 (comV fs gs)) := Lib.hid ⟨H7.out.1.same hs4, H7.out.2⟩) | (go_at_call 25; refine (ucommon_ok A n cap fs aA B m cb gs aB _ (HA.out.1.same HS.out) hn (HW.out.1.same HS.out) hm).mono ?_; rintro e w5 ⟨A8, n8, c8, rfl, hsg8, hs5⟩; have HS := Lib.hid (HS.out.trans hs5); have H7 : Hid (SArg w5 A7 n7 c7 (comV fs gs)) := Lib.hid ⟨H7.out.1.same hs5, H7.out.2⟩; have H8 := Lib.hid hsg8; clear hsg8) | (go_at_call 22; refine (usame_ok A7 n7 c7 (comV fs gs) _ A8 n8 c8 _ H7.out.1 (by have := HCL.out; have h1 := H7.out.1.1; omega) H8.out.1).mono ?_; rintro e w6 ⟨rfl, hs6⟩; have HS := Lib.hid (HS.out.trans hs6)) | (go_at_call 11; refine (example40_ok _).mono ?_; rintro e w9 ⟨rfl, hs9⟩; have HS := Lib.hid (HS.out.trans hs9))))
  (first | refine ⟨.inr ?keep2_21, ?_⟩ | refine ⟨?keep2_21, ?_⟩)
  case keep2_21 => ((exact HC.out _ HS.out))
  try simp only [Act.put, List.setIfInBounds_toArray, List.set_cons_zero, List.set_cons_succ]
  refine path_read (i := 22) (v := ?v2_22) rfl (by rfl) (fun _ _ _ h => h) ?hy2_22 ?_
  case hy2_22 => ((intro w hSw; (try dsimp only at hSw); go_simp) <;> (try with_reducible rfl))
  try simp only [Act.put, List.setIfInBounds_toArray, List.set_cons_zero, List.set_cons_succ]
  refine path_read (i := 23) (v := ?v2_23) rfl (by rfl) (fun _ _ _ h => h) ?hy2_23 ?_
  case hy2_23 => ((intro w hSw; (try dsimp only at hSw); go_simp) <;> (try with_reducible rfl))
  try simp only [Act.put, List.setIfInBounds_toArray, List.set_cons_zero, List.set_cons_succ]
  refine path_end ?_
  go_wp2
  go_ret
  exact ⟨rfl, HS0.out.trans HS.out⟩

theorem OfferChooses_walk (x y : OArg) (w : World) (h : x.ok w) (hw : y.ok w) :
    Calls Try.prog 8 #[.agg x.cells.toArray, .agg y.cells.toArray] w fun e w' => e = .returned (.bool true) ∧ Same w w' := by
  obtain ⟨A, n, cap, fs, aA⟩ := x
  obtain ⟨B, m, cb, gs, aB⟩ := y
  cases hb : lightB fs
  · exact chooses_far A n cap fs aA B m cb gs aB w h hw (.inl hb)
  · cases hb2 : lightB gs
    · exact chooses_far A n cap fs aA B m cb gs aB w h hw (.inr ⟨hb, hb2⟩)
    · exact chooses_near A n cap fs aA B m cb gs aB w h hw hb hb2
end Go.Proofs.Ytnbmpdjphmbofaa
