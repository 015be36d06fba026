/- Parts of the walk, packed: M43a, M43b, M43c. -/
import Derived.Test.YteolilggeaffaaaSess43
set_option linter.unusedVariables false
set_option linter.unusedSimpArgs false
set_option maxRecDepth 100000
namespace Go.Proofs.Yteolilggeaffaaa
open Go.RowKit

/-- The reference's Drag. -/
structure MD where
  ph : Int
  src : Int
  cl : Int
  tg : Int
  A : Option Addr
  n : Nat
  cap : Nat
  acts : Int
  f : ByteArray
  a : Int
  p : Int
  nm : Int
  tm : Bool
  la : Int
  PA : Option Addr
  pn : Nat
  pc : Nat
  fst : Int
def MD.cells (x : MD) : List Value := [.int .i64 x.ph, .int .i64 x.src, .int .i64 x.cl, .int .i64 x.tg, .slice x.A x.n x.cap, .int .i64 x.acts, .string x.f, .int .i64 x.a, .int .i64 x.p, .int .i64 x.nm, .bool x.tm, .int .i64 x.la, .slice x.PA x.pn x.pc, .int .i64 x.fst]
theorem infoMD : (Try.prog.info? 56).map (fun i => i.size) = some 14 := by kernel_rfl
theorem run_load_md {w : World} {g : Nat} {x : MD} (h : w.heap[g]? = some (.cells x.cells.toArray 56 (0, 0))) : (loadVar 56 ⟨g, 0, none⟩).run Try.prog w = .ok (.agg x.cells.toArray) w :=
  run_loadMid (P := Try.prog) (C := x.cells) 56 0 14 _ h infoMD Try.underlying56 rfl (by simp [MD.cells])
theorem mstate_ok (v : Int) (x : MD) (w : World) (hv : x.ph = v) : Calls Try.prog 29 #[.agg x.cells.toArray] w fun e w' => e = .returned (.int .i64 v) ∧ Same w w' := by
  subst hv
  obtain ⟨ph, src, cl, tg, A, n, cap, acts, f, a, p, nm, tm, la, PA, pn, pc, fst⟩ := x
  unfold MD.cells
  go_enter Try.func29, Try.ntmps29
  go_wp2
  go_ret
  exact ⟨rfl, (Chg.refl _ _).alloc _⟩
def MD.act (x : MD) : Int := if x.ph = 0 ∨ x.tg = 0 then 0 else actionV x.acts x.a x.p 0
theorem maction_ok (v : Int) (x : MD) (w : World) (hv : x.act = v) : Calls Try.prog 30 #[.agg x.cells.toArray] w fun e w' => e = .returned (.int .i64 v) ∧ Same w w' := by
  subst hv
  obtain ⟨ph, src, cl, tg, A, n, cap, acts, f, a, p, nm, tm, la, PA, pn, pc, fst⟩ := x
  by_cases h1 : ph = 0
  · have e : MD.act ⟨ph, src, cl, tg, A, n, cap, acts, f, a, p, nm, tm, la, PA, pn, pc, fst⟩ = 0 := if_pos (.inl h1)
    rw [e]
    subst h1
    clear e
    unfold MD.cells
    go_enter Try.func30, Try.ntmps30
    go_wp2
    go_ret
    exact ⟨rfl, (Chg.refl _ _).alloc _⟩
  · have b1 : (ph == 0) = false := by simp [h1]
    by_cases h2 : tg = 0
    · have e : MD.act ⟨ph, src, cl, tg, A, n, cap, acts, f, a, p, nm, tm, la, PA, pn, pc, fst⟩ = 0 := if_pos (.inr h2)
      rw [e]
      subst h2
      clear e h1
      unfold MD.cells
      go_enter Try.func30, Try.ntmps30
      go_wp2
      go_ret
      exact ⟨rfl, (Chg.refl _ _).alloc _⟩
    · have b2 : (tg == 0) = false := by simp [h2]
      have e : MD.act ⟨ph, src, cl, tg, A, n, cap, acts, f, a, p, nm, tm, la, PA, pn, pc, fst⟩ = actionV acts a p 0 := if_neg (fun q => by rcases q with q | q; exact h1 q; exact h2 q)
      rw [e]
      clear e h1 h2
      unfold MD.cells
      go_enter Try.func30, Try.ntmps30
      go_wp2_with fail
      refine (uaction_ok acts a p 0 _).mono ?_
      rintro e w2 ⟨rfl, rfl⟩
      go_wp2
      go_ret
      exact ⟨rfl, (Chg.refl _ _).alloc _⟩
def MD.acc (x : MD) (ph client : Int) : Int := if x.ph ≠ ph then 14 else if client < 1 ∨ x.cl ≠ client then 17 else 0
theorem maccess_ok (v : Int) (x : MD) (st client : Int) (w : World) (hv : x.acc st client = v) : Calls Try.prog 74 #[.agg x.cells.toArray, .int .i64 st, .int .i64 client] w fun e w' => e = .returned (.int .i64 v) ∧ w' = w.alloc (.cells x.cells.toArray 56) := by
  subst hv
  obtain ⟨ph, src, cl, tg, A, n, cap, acts, f, a, p, nm, tm, la, PA, pn, pc, fst⟩ := x
  by_cases h1 : ph = st
  · have b1 : (ph != st) = false := by simp [h1]
    have b1' : (ph == st) = true := by simp [h1]
    by_cases h2 : client < 1
    · have e : MD.acc ⟨ph, src, cl, tg, A, n, cap, acts, f, a, p, nm, tm, la, PA, pn, pc, fst⟩ st client = 17 := by unfold MD.acc; rw [if_neg (fun q => q h1), if_pos (.inl h2)]
      rw [e]
      clear e h1
      unfold MD.cells
      go_enter Try.func74, Try.ntmps74
      go_wp2
      go_ret
      exact ⟨rfl, rfl⟩
    · by_cases h3 : cl = client
      · have b3 : (cl != client) = false := by simp [h3]
        have b3' : (cl == client) = true := by simp [h3]
        have e : MD.acc ⟨ph, src, cl, tg, A, n, cap, acts, f, a, p, nm, tm, la, PA, pn, pc, fst⟩ st client = 0 := by unfold MD.acc; rw [if_neg (fun q => q h1), if_neg (fun q => by rcases q with q | q; exact h2 q; exact q h3)]
        rw [e]
        clear e h1 h3
        unfold MD.cells
        go_enter Try.func74, Try.ntmps74
        go_wp2
        go_ret
        exact ⟨rfl, rfl⟩
      · have b3 : (cl != client) = true := by simp [h3]
        have b3' : (cl == client) = false := by simp [h3]
        have e : MD.acc ⟨ph, src, cl, tg, A, n, cap, acts, f, a, p, nm, tm, la, PA, pn, pc, fst⟩ st client = 17 := by unfold MD.acc; rw [if_neg (fun q => q h1), if_pos (.inr h3)]
        rw [e]
        clear e h1 h3
        unfold MD.cells
        go_enter Try.func74, Try.ntmps74
        go_wp2
        go_ret
        exact ⟨rfl, rfl⟩
  · have b1 : (ph != st) = true := by simp [h1]
    have b1' : (ph == st) = false := by simp [h1]
    have e : MD.acc ⟨ph, src, cl, tg, A, n, cap, acts, f, a, p, nm, tm, la, PA, pn, pc, fst⟩ st client = 14 := by unfold MD.acc; rw [if_pos h1]
    rw [e]
    clear e h1
    unfold MD.cells
    go_enter Try.func74, Try.ntmps74
    go_wp2
    go_ret
    exact ⟨rfl, rfl⟩
def MD.aim (x : MD) (c s : Int) : MD := { x with cl := c, tg := s, f := ⟨#[]⟩, a := 0, p := 0 }
theorem muntargeted_ok (x : MD) (c s : Int) (w : World) : Calls Try.prog 72 #[.agg x.cells.toArray, .int .i64 c, .int .i64 s] w fun e w' => e = .returned (.agg (x.aim c s).cells.toArray) ∧ w' = (w.alloc (.cells (x.aim c s).cells.toArray 56)).alloc (.cells (x.aim c s).cells.toArray 56) := by
  obtain ⟨ph, src, cl, tg, A, n, cap, acts, f, a, p, nm, tm, la, PA, pn, pc, fst⟩ := x
  unfold MD.cells
  go_enter Try.func72, Try.ntmps72
  go_wp2
  exact bodyPost_ret (results_cell1 Try.results72 rfl (run_load_md (x := MD.aim ⟨ph, src, cl, tg, A, n, cap, acts, f, a, p, nm, tm, la, PA, pn, pc, fst⟩ c s) (at_new2 _ _ _))) rfl ⟨rfl, rfl⟩
def MD.left (x : MD) : List Dv := if x.tg = 0 then [] else [⟨x.cl, x.tg, 16, 0, 0, 0, 0, 0, 0⟩]
theorem mleave_ok (l : List Dv) (x : MD) (w : World) (hl : x.left = l) : Calls Try.prog 73 #[.agg x.cells.toArray] w (DOut w (l.map Dv.cells)) := by
  subst hl
  obtain ⟨ph, src, cl, tg, A, n, cap, acts, f, a, p, nm, tm, la, PA, pn, pc, fst⟩ := x
  by_cases h1 : tg = 0
  · have e : MD.left ⟨ph, src, cl, tg, A, n, cap, acts, f, a, p, nm, tm, la, PA, pn, pc, fst⟩ = [] := if_pos h1
    rw [e]
    subst h1
    clear e
    unfold MD.cells
    go_enter Try.func73, Try.ntmps73
    go_wp2
    go_ret
    exact ⟨_, rfl, World.ownsRow_nil _ _ _ _, (Chg.refl _ _).alloc _⟩
  · have b1 : (tg == 0) = false := by simp [h1]
    have e : MD.left ⟨ph, src, cl, tg, A, n, cap, acts, f, a, p, nm, tm, la, PA, pn, pc, fst⟩ = [⟨cl, tg, 16, 0, 0, 0, 0, 0, 0⟩] := if_neg h1
    rw [e]
    clear e h1
    have hz : w.heap.size ≤ (w.alloc (.cells (MD.cells ⟨ph, src, cl, tg, A, n, cap, acts, f, a, p, nm, tm, la, PA, pn, pc, fst⟩).toArray 56)).heap.size := by simp
    have HO := Lib.hid (World.ownsRow.mono (out_one (w.alloc (.cells (MD.cells ⟨ph, src, cl, tg, A, n, cap, acts, f, a, p, nm, tm, la, PA, pn, pc, fst⟩).toArray 56)) cl tg 16 0 0 0 0 0 0) hz)
    unfold MD.cells at *
    go_enter Try.func73, Try.ntmps73
    go_wp2
    go_ret
    have h := HO.out
    have hs : (w.alloc (.cells [.int .i64 ph, .int .i64 src, .int .i64 cl, .int .i64 tg, .slice A n cap, .int .i64 acts, .string f, .int .i64 a, .int .i64 p, .int .i64 nm, .bool tm, .int .i64 la, .slice PA pn pc, .int .i64 fst].toArray 56)).heap.size = w.heap.size + 1 := by simp
    rw [hs] at h
    exact ⟨_, rfl, h, ((Chg.refl _ _).alloc _).alloc _⟩
end Go.Proofs.Yteolilggeaffaaa

namespace Go.Proofs.Yteolilggeaffaaa
open Go.RowKit

def MD.acceptE (x : MD) (fs : List ByteArray) (client : Int) (f : ByteArray) : Int := if x.acc 1 client ≠ 0 then x.acc 1 client else if f ≠ ByteArray.empty ∧ hasS fs f = false then 8 else 0
def MD.accept (x : MD) (fs : List ByteArray) (client : Int) (f : ByteArray) : MD := if x.acceptE fs client f = 0 then { x with f := f } else x
theorem at_new3' (w : World) (o1 o2 o3 : Obj) : (((w.alloc o1).alloc o2).alloc o3).heap[w.heap.size + 1]? = some o2 := (((Chg.refl (fun _ => False) _).alloc o3)).at_ (at_new2 w o1 o2) (fun q => q)
set_option maxHeartbeats 4000000 in
theorem maccept_ok (x : MD) (fs : List ByteArray) (client : Int) (f : ByteArray) (w : World) (h : StrsAt w x.A x.n fs) (hn : x.n ≤ 1000) :
    Calls Try.prog 51 #[.agg x.cells.toArray, .int .i64 client, .string f] w fun e w' => e = .returned (.tuple #[.agg (x.accept fs client f).cells.toArray, .int .i64 (x.acceptE fs client f)]) ∧ Same w w' := by
  obtain ⟨va, hva⟩ : ∃ va, x.acc 1 client = va := ⟨_, rfl⟩
  have HA := Lib.hid (fun w => maccess_ok va x 1 client w hva)
  have HH := Lib.hid (fun (w' : World) (k : Same w w') => h.same k)
  obtain ⟨ph, src, cl, tg, A, n, cap, acts, g, a, p, nm, tm, la, PA, pn, pc, fst⟩ := x
  have hn' : n ≤ 1000 := hn
  clear h hn
  by_cases h0 : va = 0
  · by_cases hf : f = ByteArray.empty
    · have e1 : MD.acceptE ⟨ph, src, cl, tg, A, n, cap, acts, g, a, p, nm, tm, la, PA, pn, pc, fst⟩ fs client f = 0 := by unfold MD.acceptE; rw [hva, if_neg (fun q => q h0), if_neg (fun q => q.1 hf)]
      have e2 : MD.accept ⟨ph, src, cl, tg, A, n, cap, acts, g, a, p, nm, tm, la, PA, pn, pc, fst⟩ fs client f = ⟨ph, src, cl, tg, A, n, cap, acts, f, a, p, nm, tm, la, PA, pn, pc, fst⟩ := by unfold MD.accept; rw [if_pos e1]
      rw [e1, e2]
      clear e1 e2 hva
      subst h0 hf
      have hem : ByteArray.empty.toList = [] := toList_nil
      unfold MD.cells at *
      go_enter Try.func51, Try.ntmps51
      go_wp2_with fail
      refine (HA.out _).mono ?_
      rintro e w2 ⟨rfl, rfl⟩
      go_wp2
      refine bodyPost_ret (results_cell_tmp Try.results51 rfl (run_load_md (x := ⟨ph, src, cl, tg, A, n, cap, acts, ByteArray.empty, a, p, nm, tm, la, PA, pn, pc, fst⟩) (at_new3' _ _ _ _))) rfl ⟨rfl, (((Chg.refl _ _).alloc _).alloc _).alloc _⟩
    · have h2e : ¬ f = ⟨#[]⟩ := hf
      have hne := toList_ne h2e
      have hne2 : ¬ f.toList = [] := toList_cons h2e
      have hne4 : f.toList.isEmpty = false := toList_emp h2e
      cases h3 : hasS fs f
      · have e1 : MD.acceptE ⟨ph, src, cl, tg, A, n, cap, acts, g, a, p, nm, tm, la, PA, pn, pc, fst⟩ fs client f = 8 := by unfold MD.acceptE; rw [hva, if_neg (fun q => q h0), if_pos ⟨hf, h3⟩]
        have e2 : MD.accept ⟨ph, src, cl, tg, A, n, cap, acts, g, a, p, nm, tm, la, PA, pn, pc, fst⟩ fs client f = ⟨ph, src, cl, tg, A, n, cap, acts, g, a, p, nm, tm, la, PA, pn, pc, fst⟩ := by unfold MD.accept; rw [if_neg (by rw [e1]; decide)]
        rw [e1, e2]
        clear e1 e2 hva
        subst h0
        have H3 := Lib.hid h3
        clear h3
        unfold MD.cells at *
        go_enter Try.func51, Try.ntmps51
        go_wp2_with fail
        refine (HA.out _).mono ?_
        rintro e w2 ⟨rfl, rfl⟩
        go_wp2_with fail
        refine (uhas_v false A n cap fs f _ (HH.out _ ((((Chg.refl _ _).alloc _).alloc _).alloc _)) (by omega) H3.out).mono ?_
        rintro e w3 ⟨rfl, rfl⟩
        go_wp2
        refine bodyPost_ret (results_cell_tmp Try.results51 rfl (run_load_md (x := ⟨ph, src, cl, tg, A, n, cap, acts, g, a, p, nm, tm, la, PA, pn, pc, fst⟩) (at_new3' _ _ _ _))) rfl ⟨rfl, (((Chg.refl _ _).alloc _).alloc _).alloc _⟩
      · have e1 : MD.acceptE ⟨ph, src, cl, tg, A, n, cap, acts, g, a, p, nm, tm, la, PA, pn, pc, fst⟩ fs client f = 0 := by unfold MD.acceptE; rw [hva, if_neg (fun q => q h0), if_neg (fun q => by rw [h3] at q; cases q.2)]
        have e2 : MD.accept ⟨ph, src, cl, tg, A, n, cap, acts, g, a, p, nm, tm, la, PA, pn, pc, fst⟩ fs client f = ⟨ph, src, cl, tg, A, n, cap, acts, f, a, p, nm, tm, la, PA, pn, pc, fst⟩ := by unfold MD.accept; rw [if_pos e1]
        rw [e1, e2]
        clear e1 e2 hva
        subst h0
        have H3 := Lib.hid h3
        clear h3
        unfold MD.cells at *
        go_enter Try.func51, Try.ntmps51
        go_wp2_with fail
        refine (HA.out _).mono ?_
        rintro e w2 ⟨rfl, rfl⟩
        go_wp2_with fail
        refine (uhas_v true A n cap fs f _ (HH.out _ ((((Chg.refl _ _).alloc _).alloc _).alloc _)) (by omega) H3.out).mono ?_
        rintro e w3 ⟨rfl, rfl⟩
        go_wp2
        refine bodyPost_ret (results_cell_tmp Try.results51 rfl (run_load_md (x := ⟨ph, src, cl, tg, A, n, cap, acts, f, a, p, nm, tm, la, PA, pn, pc, fst⟩) (at_new3' _ _ _ _))) rfl ⟨rfl, (((Chg.refl _ _).alloc _).alloc _).alloc _⟩
  · have e1 : MD.acceptE ⟨ph, src, cl, tg, A, n, cap, acts, g, a, p, nm, tm, la, PA, pn, pc, fst⟩ fs client f = va := by unfold MD.acceptE; rw [hva, if_pos h0]
    have e2 : MD.accept ⟨ph, src, cl, tg, A, n, cap, acts, g, a, p, nm, tm, la, PA, pn, pc, fst⟩ fs client f = ⟨ph, src, cl, tg, A, n, cap, acts, g, a, p, nm, tm, la, PA, pn, pc, fst⟩ := by unfold MD.accept; rw [if_neg (by rw [e1]; exact h0)]
    have b1 : (va == 0) = false := by simp [h0]
    have b2 : (va != 0) = true := by simp [h0]
    rw [e1, e2]
    clear e1 e2 hva h0
    unfold MD.cells at *
    go_enter Try.func51, Try.ntmps51
    go_wp2_with fail
    refine (HA.out _).mono ?_
    rintro e w2 ⟨rfl, rfl⟩
    go_wp2
    refine bodyPost_ret (results_cell_tmp Try.results51 rfl (run_load_md (x := ⟨ph, src, cl, tg, A, n, cap, acts, g, a, p, nm, tm, la, PA, pn, pc, fst⟩) (at_new3' _ _ _ _))) rfl ⟨rfl, (((Chg.refl _ _).alloc _).alloc _).alloc _⟩
end Go.Proofs.Yteolilggeaffaaa

namespace Go.Proofs.Yteolilggeaffaaa
open Go.RowKit

def MD.finE (x : MD) (client : Int) : Int := if x.acc 2 client ≠ 0 then x.acc 2 client else if (x.pn : Int) = x.fst then 14 else 0
def MD.fin (x : MD) (client : Int) : MD := if x.finE client = 0 then { x with ph := 0 }.aim 0 0 else x
theorem at_new5' (w : World) (o1 o2 o3 o4 o5 : Obj) : (((((w.alloc o1).alloc o2).alloc o3).alloc o4).alloc o5).heap[w.heap.size + 1]? = some o2 := (((Chg.refl (fun _ => False) _).alloc o4).alloc o5).at_ (at_new3' w o1 o2 o3) (fun q => q)
set_option maxHeartbeats 4000000 in
theorem mfinish_ok (x : MD) (client : Int) (w : World) (hn : x.pn ≤ 1000) :
    Calls Try.prog 55 #[.agg x.cells.toArray, .int .i64 client] w fun e w' => e = .returned (.tuple #[.agg (x.fin client).cells.toArray, .int .i64 (x.finE client)]) ∧ Same w w' := by
  obtain ⟨va, hva⟩ : ∃ va, x.acc 2 client = va := ⟨_, rfl⟩
  have HA := Lib.hid (fun w => maccess_ok va x 2 client w hva)
  obtain ⟨ph, src, cl, tg, A, n, cap, acts, g, a, p, nm, tm, la, PA, pn, pc, fst⟩ := x
  have hn' : pn ≤ 1000 := hn
  clear hn
  by_cases h0 : va = 0
  · by_cases hf : (pn : Int) = fst
    · have e1 : MD.finE ⟨ph, src, cl, tg, A, n, cap, acts, g, a, p, nm, tm, la, PA, pn, pc, fst⟩ client = 14 := by unfold MD.finE; rw [hva, if_neg (fun q => q h0), if_pos hf]
      have e2 : MD.fin ⟨ph, src, cl, tg, A, n, cap, acts, g, a, p, nm, tm, la, PA, pn, pc, fst⟩ client = ⟨ph, src, cl, tg, A, n, cap, acts, g, a, p, nm, tm, la, PA, pn, pc, fst⟩ := by unfold MD.fin; rw [if_neg (by rw [e1]; decide)]
      have b1 : ((pn : Int) == fst) = true := by simp [hf]
      rw [e1, e2]
      clear e1 e2 hva hf
      subst h0
      unfold MD.cells at *
      go_enter Try.func55, Try.ntmps55
      go_wp2_with fail
      refine (HA.out _).mono ?_
      rintro e w2 ⟨rfl, rfl⟩
      go_wp2
      refine bodyPost_ret (results_cell_tmp Try.results55 rfl (run_load_md (x := ⟨ph, src, cl, tg, A, n, cap, acts, g, a, p, nm, tm, la, PA, pn, pc, fst⟩) (at_new3' _ _ _ _))) rfl ⟨rfl, (((Chg.refl _ _).alloc _).alloc _).alloc _⟩
    · have e1 : MD.finE ⟨ph, src, cl, tg, A, n, cap, acts, g, a, p, nm, tm, la, PA, pn, pc, fst⟩ client = 0 := by unfold MD.finE; rw [hva, if_neg (fun q => q h0), if_neg hf]
      have e2 : MD.fin ⟨ph, src, cl, tg, A, n, cap, acts, g, a, p, nm, tm, la, PA, pn, pc, fst⟩ client = (MD.aim ⟨0, src, cl, tg, A, n, cap, acts, g, a, p, nm, tm, la, PA, pn, pc, fst⟩ 0 0) := by unfold MD.fin; rw [if_pos e1]
      have b1 : ((pn : Int) == fst) = false := by simp [hf]
      rw [e1, e2]
      clear e1 e2 hva hf
      subst h0
      have HU := Lib.hid (fun w => muntargeted_ok ⟨0, src, cl, tg, A, n, cap, acts, g, a, p, nm, tm, la, PA, pn, pc, fst⟩ 0 0 w)
      unfold MD.cells at *
      go_enter Try.func55, Try.ntmps55
      go_wp2_with fail
      refine (HA.out _).mono ?_
      rintro e w2 ⟨rfl, rfl⟩
      go_wp2_with fail
      refine (HU.out _).mono ?_
      rintro e w3 ⟨rfl, rfl⟩
      go_wp2
      refine bodyPost_ret (results_cell_tmp Try.results55 rfl (run_load_md (x := MD.aim ⟨0, src, cl, tg, A, n, cap, acts, g, a, p, nm, tm, la, PA, pn, pc, fst⟩ 0 0) (at_new5' _ _ _ _ _ _))) rfl ⟨rfl, (((((Chg.refl _ _).alloc _).alloc _).alloc _).alloc _).alloc _⟩
  · have e1 : MD.finE ⟨ph, src, cl, tg, A, n, cap, acts, g, a, p, nm, tm, la, PA, pn, pc, fst⟩ client = va := by unfold MD.finE; rw [hva, if_pos h0]
    have e2 : MD.fin ⟨ph, src, cl, tg, A, n, cap, acts, g, a, p, nm, tm, la, PA, pn, pc, fst⟩ client = ⟨ph, src, cl, tg, A, n, cap, acts, g, a, p, nm, tm, la, PA, pn, pc, fst⟩ := by unfold MD.fin; rw [if_neg (by rw [e1]; exact h0)]
    have b1 : (va == 0) = false := by simp [h0]
    have b2 : (va != 0) = true := by simp [h0]
    rw [e1, e2]
    clear e1 e2 hva h0
    unfold MD.cells at *
    go_enter Try.func55, Try.ntmps55
    go_wp2_with fail
    refine (HA.out _).mono ?_
    rintro e w2 ⟨rfl, rfl⟩
    go_wp2
    refine bodyPost_ret (results_cell_tmp Try.results55 rfl (run_load_md (x := ⟨ph, src, cl, tg, A, n, cap, acts, g, a, p, nm, tm, la, PA, pn, pc, fst⟩) (at_new3' _ _ _ _))) rfl ⟨rfl, (((Chg.refl _ _).alloc _).alloc _).alloc _⟩
end Go.Proofs.Yteolilggeaffaaa
