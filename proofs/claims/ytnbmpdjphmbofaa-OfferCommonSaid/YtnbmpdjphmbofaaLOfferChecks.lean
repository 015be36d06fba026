/- The walk of OfferChecks: for all arguments it returns true and leaves what was there as it was. -/
import Derived.Test.YtnbmpdjphmbofaaLight40
import Derived.Test.YtnbmpdjphmbofaaUCheck
set_option linter.unusedVariables false
set_option linter.unusedSimpArgs false
set_option maxRecDepth 100000
namespace Go.Proofs.Ytnbmpdjphmbofaa
open Go.RowKit

theorem ucheck_v (v : Int) (A : Option Addr) (n cap : Nat) (fs : List ByteArray) (acts : Int) (w : World) (h : StrsAt w A n fs) (hc : n ≤ cap) (hm : cap ≤ maxLen) (hz : ∀ f ∈ fs, f.size ≤ 140737488351232) (hv : checkV fs acts = v) :
    Calls Try.prog 14 #[.agg #[.slice A n cap, .int .i64 acts]] w fun e w' => e = .returned (.int .i64 v) ∧ Same w w' := by
  subst hv
  exact ucheck_ok A n cap fs acts w h hc hm hz
def offBox (A : Option Addr) (n cap : Nat) (acts : Int) : Obj := .cells #[.slice A n cap, .int .i64 acts] 24
theorem off_box {w w' : World} {A : Option Addr} {n cap : Nat} {acts : Int} (h : Same (w.alloc (offBox A n cap acts)) w') :
    w'.cell? ⟨w.heap.size, 0, none⟩ = some (.slice A n cap) ∧ w'.cell? ⟨w.heap.size, 1, none⟩ = some (.int .i64 acts) ∧ (loadVar 24 ⟨w.heap.size, 0, none⟩).run Try.prog w' = .ok (.agg #[.slice A n cap, .int .i64 acts]) w' := by
  have h0 := h.at_ (at_new w (.cells #[.slice A n cap, .int .i64 acts] 24)) (fun q => q)
  refine ⟨?_, ?_, run_load_uof h0⟩
  · rw [cell_of_row w' _ 0 _ _ _ h0]; rfl
  · rw [cell_of_row w' _ 1 _ _ _ h0]; rfl

set_option maxRecDepth 100000 in
set_option maxHeartbeats 4000000 in
theorem checks_far (A : Option Addr) (n cap : Nat) (fs : List ByteArray) (acts : Int) (s : ByteArray) (w : World) (h : SArg w A n cap fs) (hs : s.size ≤ 140737488351232) (hb : lightB fs = false ∨ (lightB fs = true ∧ 300 < s.size)) :
    Calls Try.prog 3 #[.agg #[.slice A n cap, .int .i64 acts], .string s] w fun e w' => e = .returned (.bool true) ∧ Same w w' := by
  have HA : Hid (SArg (w.alloc (offBox A n cap acts)) A n cap fs) := Lib.hid ⟨h.1.same ((Chg.refl (fun _ => False) w).alloc _), h.2⟩
  clear h
  rcases hb with hb | ⟨hb, hs3⟩
  · have HB := Lib.hid hb
    clear hb
    go_enter Try.func3, Try.ntmps3
    go_wp2_with fail
    refine (light_v _ A n cap fs _ HA.out HB.out).mono ?_
    rintro e w' ⟨rfl, rfl⟩
    go_wp2_with fail
    refine (example40_ok _).mono ?_
    rintro e w2 ⟨rfl, hs2⟩
    have HS2 := Lib.hid hs2
    clear hs2
    go_wp2
    go_ret
    exact ⟨rfl, ((Chg.refl (fun _ => False) w).alloc _).trans HS2.out⟩
  · have HB := Lib.hid hb
    have hs4 : (300 : Int) < s.size := by omega
    clear hb
    go_enter Try.func3, Try.ntmps3
    go_wp2_with fail
    refine (light_v _ A n cap fs _ HA.out HB.out).mono ?_
    rintro e w' ⟨rfl, rfl⟩
    go_wp2_with fail
    refine (example40_ok _).mono ?_
    rintro e w2 ⟨rfl, hs2⟩
    have HS2 := Lib.hid hs2
    clear hs2
    go_wp2
    go_ret
    exact ⟨rfl, ((Chg.refl (fun _ => False) w).alloc _).trans HS2.out⟩

set_option maxRecDepth 100000 in
set_option maxHeartbeats 4000000 in
theorem checks_near (A : Option Addr) (n cap : Nat) (fs : List ByteArray) (acts : Int) (s : ByteArray) (w : World) (h : SArg w A n cap fs) (hs : ¬ 300 < s.size) (hb : lightB fs = true) :
    Calls Try.prog 3 #[.agg #[.slice A n cap, .int .i64 acts], .string s] w fun e w' => e = .returned (.bool true) ∧ Same w w' := by
  have HA : Hid (SArg (w.alloc (offBox A n cap acts)) A n cap fs) := Lib.hid ⟨h.1.same ((Chg.refl (fun _ => False) w).alloc _), h.2⟩
  have hs4 : ¬ (300 : Int) < s.size := by omega
  have HZ : Hid (∀ f ∈ fs, f.size ≤ 140737488351232) := Lib.hid (fun f hf => by have := (light_len hb).2 f hf; omega)
  have HB := Lib.hid hb
  have HC := Lib.hid (fun (w' : World) (h : Same (w.alloc (offBox A n cap acts)) w') => off_box h)
  obtain ⟨v, hv⟩ : ∃ v, checkV fs acts = v := ⟨_, rfl⟩
  obtain ⟨u, hu⟩ : ∃ u, validB s = u := ⟨_, rfl⟩
  have HV := Lib.hid hv
  have HU := Lib.hid hu
  clear h hb hv hu
  go_enter Try.func3, Try.ntmps3
  go_wp2_with fail
  refine (light_v _ A n cap fs _ HA.out HB.out).mono ?_
  rintro e w' ⟨rfl, rfl⟩
  go_wp2_with fail
  refine region_path (S := (fun w' => w'.cell? ⟨w.heap.size, 0, none⟩ = some (.slice A n cap) ∧ w'.cell? ⟨w.heap.size, 1, none⟩ = some (.int .i64 acts) ∧ (loadVar 24 ⟨w.heap.size, 0, none⟩).run Try.prog w' = .ok (.agg #[.slice A n cap, .int .i64 acts]) w')) 99 [(0, true), (3, true), (1, false), (2, false), (4, false), (5, true), (6, true), (7, true), (9, true), (8, false), (10, false), (11, true), (12, true), (13, true), (14, false), (15, true), (16, true)] (by kernel_rfl) (by kernel_rfl) (by kernel_rfl) (HC.out _ (Chg.refl _ _).drew) ?_
  refine path_read (i := 0) (v := ?v1_0) rfl (by rfl) (fun _ _ _ h => h) ?hy1_0 ?_
  case hy1_0 => ((intro w hSw; (try dsimp only at hSw); go_simp) <;> (try with_reducible rfl))
  try simp only [Act.put, List.setIfInBounds_toArray, List.set_cons_zero, List.set_cons_succ]
  refine path_read (i := 3) (v := ?v1_3) rfl (by rfl) (fun _ _ _ h => h) ?hy1_3 ?_
  case hy1_3 => ((intro w hSw; (try dsimp only at hSw); go_simp) <;> (try with_reducible rfl))
  try simp only [Act.put, List.setIfInBounds_toArray, List.set_cons_zero, List.set_cons_succ]
  refine path_do (i := 1) rfl ?_
  go_wp2_with ((first | (go_at_call 13; refine (prog_ok A n cap acts _).mono ?_; rintro e w1 ⟨rfl, hs1⟩; have HS : Hid (Same (w.alloc (offBox A n cap acts)) w1) := Lib.hid (((Chg.refl (fun _ => False) (w.alloc (offBox A n cap acts))).drew).trans hs1)) | (go_at_call 12; refine (ocheck_v v A n cap fs acts _ (HA.out.1.same HS.out) HA.out.2.1 HA.out.2.2 HV.out).mono ?_; rintro e w2 ⟨rfl, hs2⟩; have HS := Lib.hid (HS.out.trans hs2)) | (go_at_call 14; refine (ucheck_v v A n cap fs acts _ (HA.out.1.same HS.out) HA.out.2.1 HA.out.2.2 HZ.out HV.out).mono ?_; rintro e w2 ⟨rfl, hs2⟩; have HS := Lib.hid (HS.out.trans hs2)) | (go_at_call 15; refine (valid_v s u _ HU.out).mono ?_; rintro e w8 ⟨rfl, rfl⟩) | (go_at_call 16; refine (uvalid_v u s (by omega) _ HU.out).mono ?_; rintro e w8 ⟨rfl, rfl⟩) | (go_at_call 11; refine (example40_ok _).mono ?_; rintro e w2 ⟨rfl, hs2⟩; have HS := Lib.hid (HS.out.trans hs2))))
  (first | refine ⟨.inr ?keep1_1, ?_⟩ | refine ⟨?keep1_1, ?_⟩)
  case keep1_1 => ((exact HC.out _ HS.out))
  try simp only [Act.put, List.setIfInBounds_toArray, List.set_cons_zero, List.set_cons_succ]
  refine path_do (i := 2) rfl ?_
  go_wp2_with ((first | (go_at_call 13; refine (prog_ok A n cap acts _).mono ?_; rintro e w1 ⟨rfl, hs1⟩; have HS : Hid (Same (w.alloc (offBox A n cap acts)) w1) := Lib.hid (((Chg.refl (fun _ => False) (w.alloc (offBox A n cap acts))).drew).trans hs1)) | (go_at_call 12; refine (ocheck_v v A n cap fs acts _ (HA.out.1.same HS.out) HA.out.2.1 HA.out.2.2 HV.out).mono ?_; rintro e w2 ⟨rfl, hs2⟩; have HS := Lib.hid (HS.out.trans hs2)) | (go_at_call 14; refine (ucheck_v v A n cap fs acts _ (HA.out.1.same HS.out) HA.out.2.1 HA.out.2.2 HZ.out HV.out).mono ?_; rintro e w2 ⟨rfl, hs2⟩; have HS := Lib.hid (HS.out.trans hs2)) | (go_at_call 15; refine (valid_v s u _ HU.out).mono ?_; rintro e w8 ⟨rfl, rfl⟩) | (go_at_call 16; refine (uvalid_v u s (by omega) _ HU.out).mono ?_; rintro e w8 ⟨rfl, rfl⟩) | (go_at_call 11; refine (example40_ok _).mono ?_; rintro e w2 ⟨rfl, hs2⟩; have HS := Lib.hid (HS.out.trans hs2))))
  (first | refine ⟨.inr ?keep1_2, ?_⟩ | refine ⟨?keep1_2, ?_⟩)
  case keep1_2 => ((exact HC.out _ HS.out))
  try simp only [Act.put, List.setIfInBounds_toArray, List.set_cons_zero, List.set_cons_succ]
  refine path_do (i := 4) rfl ?_
  go_wp2_with ((first | (go_at_call 13; refine (prog_ok A n cap acts _).mono ?_; rintro e w1 ⟨rfl, hs1⟩; have HS : Hid (Same (w.alloc (offBox A n cap acts)) w1) := Lib.hid (((Chg.refl (fun _ => False) (w.alloc (offBox A n cap acts))).drew).trans hs1)) | (go_at_call 12; refine (ocheck_v v A n cap fs acts _ (HA.out.1.same HS.out) HA.out.2.1 HA.out.2.2 HV.out).mono ?_; rintro e w2 ⟨rfl, hs2⟩; have HS := Lib.hid (HS.out.trans hs2)) | (go_at_call 14; refine (ucheck_v v A n cap fs acts _ (HA.out.1.same HS.out) HA.out.2.1 HA.out.2.2 HZ.out HV.out).mono ?_; rintro e w2 ⟨rfl, hs2⟩; have HS := Lib.hid (HS.out.trans hs2)) | (go_at_call 15; refine (valid_v s u _ HU.out).mono ?_; rintro e w8 ⟨rfl, rfl⟩) | (go_at_call 16; refine (uvalid_v u s (by omega) _ HU.out).mono ?_; rintro e w8 ⟨rfl, rfl⟩) | (go_at_call 11; refine (example40_ok _).mono ?_; rintro e w2 ⟨rfl, hs2⟩; have HS := Lib.hid (HS.out.trans hs2))))
  (first | refine ⟨.inr ?keep1_4, ?_⟩ | refine ⟨?keep1_4, ?_⟩)
  case keep1_4 => ((exact HC.out _ HS.out))
  try simp only [Act.put, List.setIfInBounds_toArray, List.set_cons_zero, List.set_cons_succ]
  refine path_read (i := 5) (v := ?v1_5) rfl (by rfl) (fun _ _ _ h => h) ?hy1_5 ?_
  case hy1_5 => ((intro w hSw; (try dsimp only at hSw); go_simp) <;> (try with_reducible rfl))
  try simp only [Act.put, List.setIfInBounds_toArray, List.set_cons_zero, List.set_cons_succ]
  refine path_read (i := 6) (v := ?v1_6) rfl (by rfl) (fun _ _ _ h => h) ?hy1_6 ?_
  case hy1_6 => ((intro w hSw; (try dsimp only at hSw); go_simp) <;> (try with_reducible rfl))
  try simp only [Act.put, List.setIfInBounds_toArray, List.set_cons_zero, List.set_cons_succ]
  refine path_read (i := 7) (v := ?v1_7) rfl (by rfl) (fun _ _ _ h => h) ?hy1_7 ?_
  case hy1_7 => ((intro w hSw; (try dsimp only at hSw); go_simp) <;> (try with_reducible rfl))
  try simp only [Act.put, List.setIfInBounds_toArray, List.set_cons_zero, List.set_cons_succ]
  refine path_read (i := 9) (v := ?v1_9) rfl (by rfl) (fun _ _ _ h => h) ?hy1_9 ?_
  case hy1_9 => ((intro w hSw; (try dsimp only at hSw); go_simp) <;> (try with_reducible rfl))
  try simp only [Act.put, List.setIfInBounds_toArray, List.set_cons_zero, List.set_cons_succ]
  refine path_do (i := 8) rfl ?_
  go_wp2_with ((first | (go_at_call 13; refine (prog_ok A n cap acts _).mono ?_; rintro e w1 ⟨rfl, hs1⟩; have HS : Hid (Same (w.alloc (offBox A n cap acts)) w1) := Lib.hid (((Chg.refl (fun _ => False) (w.alloc (offBox A n cap acts))).drew).trans hs1)) | (go_at_call 12; refine (ocheck_v v A n cap fs acts _ (HA.out.1.same HS.out) HA.out.2.1 HA.out.2.2 HV.out).mono ?_; rintro e w2 ⟨rfl, hs2⟩; have HS := Lib.hid (HS.out.trans hs2)) | (go_at_call 14; refine (ucheck_v v A n cap fs acts _ (HA.out.1.same HS.out) HA.out.2.1 HA.out.2.2 HZ.out HV.out).mono ?_; rintro e w2 ⟨rfl, hs2⟩; have HS := Lib.hid (HS.out.trans hs2)) | (go_at_call 15; refine (valid_v s u _ HU.out).mono ?_; rintro e w8 ⟨rfl, rfl⟩) | (go_at_call 16; refine (uvalid_v u s (by omega) _ HU.out).mono ?_; rintro e w8 ⟨rfl, rfl⟩) | (go_at_call 11; refine (example40_ok _).mono ?_; rintro e w2 ⟨rfl, hs2⟩; have HS := Lib.hid (HS.out.trans hs2))))
  (first | refine ⟨.inr ?keep1_8, ?_⟩ | refine ⟨?keep1_8, ?_⟩)
  case keep1_8 => ((exact HC.out _ HS.out))
  try simp only [Act.put, List.setIfInBounds_toArray, List.set_cons_zero, List.set_cons_succ]
  refine path_do (i := 10) rfl ?_
  go_wp2_with ((first | (go_at_call 13; refine (prog_ok A n cap acts _).mono ?_; rintro e w1 ⟨rfl, hs1⟩; have HS : Hid (Same (w.alloc (offBox A n cap acts)) w1) := Lib.hid (((Chg.refl (fun _ => False) (w.alloc (offBox A n cap acts))).drew).trans hs1)) | (go_at_call 12; refine (ocheck_v v A n cap fs acts _ (HA.out.1.same HS.out) HA.out.2.1 HA.out.2.2 HV.out).mono ?_; rintro e w2 ⟨rfl, hs2⟩; have HS := Lib.hid (HS.out.trans hs2)) | (go_at_call 14; refine (ucheck_v v A n cap fs acts _ (HA.out.1.same HS.out) HA.out.2.1 HA.out.2.2 HZ.out HV.out).mono ?_; rintro e w2 ⟨rfl, hs2⟩; have HS := Lib.hid (HS.out.trans hs2)) | (go_at_call 15; refine (valid_v s u _ HU.out).mono ?_; rintro e w8 ⟨rfl, rfl⟩) | (go_at_call 16; refine (uvalid_v u s (by omega) _ HU.out).mono ?_; rintro e w8 ⟨rfl, rfl⟩) | (go_at_call 11; refine (example40_ok _).mono ?_; rintro e w2 ⟨rfl, hs2⟩; have HS := Lib.hid (HS.out.trans hs2))))
  (first | refine ⟨.inr ?keep1_10, ?_⟩ | refine ⟨?keep1_10, ?_⟩)
  case keep1_10 => ((exact HC.out _ HS.out))
  try simp only [Act.put, List.setIfInBounds_toArray, List.set_cons_zero, List.set_cons_succ]
  refine path_read (i := 11) (v := ?v1_11) rfl (by rfl) (fun _ _ _ h => h) ?hy1_11 ?_
  case hy1_11 => ((intro w hSw; (try dsimp only at hSw); go_simp) <;> (try with_reducible rfl))
  try simp only [Act.put, List.setIfInBounds_toArray, List.set_cons_zero, List.set_cons_succ]
  refine path_read (i := 12) (v := ?v1_12) rfl (by rfl) (fun _ _ _ h => h) ?hy1_12 ?_
  case hy1_12 => ((intro w hSw; (try dsimp only at hSw); go_simp) <;> (try with_reducible rfl))
  try simp only [Act.put, List.setIfInBounds_toArray, List.set_cons_zero, List.set_cons_succ]
  refine path_read (i := 13) (v := ?v1_13) rfl (by rfl) (fun _ _ _ h => h) ?hy1_13 ?_
  case hy1_13 => ((intro w hSw; (try dsimp only at hSw); go_simp) <;> (try with_reducible rfl))
  try simp only [Act.put, List.setIfInBounds_toArray, List.set_cons_zero, List.set_cons_succ]
  refine path_do (i := 14) rfl ?_
  go_wp2_with ((first | (go_at_call 13; refine (prog_ok A n cap acts _).mono ?_; rintro e w1 ⟨rfl, hs1⟩; have HS : Hid (Same (w.alloc (offBox A n cap acts)) w1) := Lib.hid (((Chg.refl (fun _ => False) (w.alloc (offBox A n cap acts))).drew).trans hs1)) | (go_at_call 12; refine (ocheck_v v A n cap fs acts _ (HA.out.1.same HS.out) HA.out.2.1 HA.out.2.2 HV.out).mono ?_; rintro e w2 ⟨rfl, hs2⟩; have HS := Lib.hid (HS.out.trans hs2)) | (go_at_call 14; refine (ucheck_v v A n cap fs acts _ (HA.out.1.same HS.out) HA.out.2.1 HA.out.2.2 HZ.out HV.out).mono ?_; rintro e w2 ⟨rfl, hs2⟩; have HS := Lib.hid (HS.out.trans hs2)) | (go_at_call 15; refine (valid_v s u _ HU.out).mono ?_; rintro e w8 ⟨rfl, rfl⟩) | (go_at_call 16; refine (uvalid_v u s (by omega) _ HU.out).mono ?_; rintro e w8 ⟨rfl, rfl⟩) | (go_at_call 11; refine (example40_ok _).mono ?_; rintro e w2 ⟨rfl, hs2⟩; have HS := Lib.hid (HS.out.trans hs2))))
  (first | refine ⟨.inr ?keep1_14, ?_⟩ | refine ⟨?keep1_14, ?_⟩)
  case keep1_14 => ((exact HC.out _ HS.out))
  try simp only [Act.put, List.setIfInBounds_toArray, List.set_cons_zero, List.set_cons_succ]
  refine path_read (i := 15) (v := ?v1_15) rfl (by rfl) (fun _ _ _ h => h) ?hy1_15 ?_
  case hy1_15 => ((intro w hSw; (try dsimp only at hSw); go_simp) <;> (try with_reducible rfl))
  try simp only [Act.put, List.setIfInBounds_toArray, List.set_cons_zero, List.set_cons_succ]
  refine path_read (i := 16) (v := ?v1_16) rfl (by rfl) (fun _ _ _ h => h) ?hy1_16 ?_
  case hy1_16 => ((intro w hSw; (try dsimp only at hSw); go_simp) <;> (try with_reducible rfl))
  try simp only [Act.put, List.setIfInBounds_toArray, List.set_cons_zero, List.set_cons_succ]
  refine path_end ?_
  go_wp2
  go_ret
  exact ⟨rfl, ((Chg.refl (fun _ => False) w).alloc _).trans HS.out⟩

theorem OfferChecks_walk (x : OArg) (s : ByteArray) (w : World) (h : x.ok w) (hs : s.size ≤ 140737488351232) :
    Calls Try.prog 3 #[.agg x.cells.toArray, .string s] w fun e w' => e = .returned (.bool true) ∧ Same w w' := by
  obtain ⟨A, n, cap, fs, acts⟩ := x
  cases hb : lightB fs
  · exact checks_far A n cap fs acts s w h hs (.inl hb)
  · by_cases h3 : 300 < s.size
    · exact checks_far A n cap fs acts s w h hs (.inr ⟨hb, h3⟩)
    · exact checks_near A n cap fs acts s w h h3 hb
end Go.Proofs.Ytnbmpdjphmbofaa
