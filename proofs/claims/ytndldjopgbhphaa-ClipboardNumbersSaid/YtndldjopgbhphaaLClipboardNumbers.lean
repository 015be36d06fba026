/- The walk of ClipboardNumbers: for all arguments it returns true and leaves what was there as it was. -/
import Derived.Test.YtndldjopgbhphaaEx42
import Derived.Test.YtndldjopgbhphaaArgI
import Derived.Test.YtndldjopgbhphaaPath
import Derived.Deep.LoopGhost
set_option linter.unusedVariables false
set_option linter.unusedSimpArgs false
set_option maxRecDepth 100000
namespace Go.Proofs.Ytndldjopgbhphaa
open Go.RowKit

def numC (s : Bool) (f : Int) (nr : Nat) : CSt := if s then ⟨9, [tp], f, nr, true, 1, []⟩ else ⟨0, [], f, 0, false, 0, []⟩
def numL (s : Bool) : SLog := if s then SLog.new.issue 9 1 4 else SLog.new
theorem num_n : SLog.new.issueN 9 1 4 = 1 := by decide +kernel
theorem num_v : CSt.validB ⟨0, [], 0, 0, false, 0, []⟩ (SLog.new.issue 9 1 4) 9 1 = true := by decide +kernel
theorem num_k : checkV [tp] 1 = 0 := by decide +kernel
theorem num_a (f : Int) : CSt.setE (numC false f 0) (numL true) 9 [tp] 1 1 = 0 ∧ CSt.set (numC false f 0) (numL true) 9 [tp] 1 1 = numC true f 0 := by
  have e : CSt.setE (numC false f 0) (numL true) 9 [tp] 1 1 = 0 := by
    unfold CSt.setE
    rw [if_neg (by omega), num_k, if_neg (by decide), show (numC false f 0).validB (numL true) 9 1 = true from num_v, if_pos rfl]
  exact ⟨e, by unfold CSt.set; rw [if_pos e]; rfl⟩
theorem num_foc (s : Bool) (f : Int) (nr : Nat) (client : Int) (h : 1 ≤ client) : (numC s f nr).foc client = numC s client (if s then nr + 1 else nr) := by
  unfold CSt.foc
  rw [show max client 0 = client by omega]
  cases s
  · show (⟨0, [], client, if client < 1 ∨ (0 : Int) = 0 then 0 else 0 + 1, false, 0, []⟩ : CSt) = _
    rw [if_pos (.inr rfl)]; rfl
  · show (⟨9, [tp], client, if client < 1 ∨ (9 : Int) = 0 then nr else nr + 1, true, 1, []⟩ : CSt) = _
    rw [if_neg (by omega)]; rfl
theorem num_foc0 (s : Bool) (f : Int) (nr : Nat) (client : Int) (h : client < 1) : (numC s f nr).foc client = numC s 0 nr := by
  unfold CSt.foc
  rw [show max client 0 = 0 by omega, if_pos (.inl h)]
  cases s <;> rfl
theorem num_code (s : Bool) (f : Int) (nr : Nat) : (numC s f nr).focCode = if s then (nr : Int) + 1 else 0 := by
  cases s <;> rfl
theorem num_offers (s : Bool) (f : Int) (nr : Nat) (h : nr ≤ 100) : (numC s f nr).offers < 1000000 := by
  cases s
  · show 0 < 1000000; omega
  · show nr < 1000000; omega

/-- Where the loop stands. -/
structure NumS (w wr : World) (lb b : Nat) (from_ : Int) (i nr : Nat) (R : Nat → Prop) (s : Bool) (f : Int) : Prop where
  ses : Ses w wr lb b R (numL s) (numC s f nr)
  le : nr ≤ i
  off : s = false → nr = 0
  set : s = decide (from_ < i)

set_option maxHeartbeats 8000000 in
theorem ClipboardNumbers_walk (A : Option Addr) (len cap : Nat) (l : List Int) (from_ : Int) (w : World) (h : IntsAt w A len l) (hf0 : 0 ≤ from_) (hf1 : from_ ≤ 255) :
    Calls Try.prog 4 #[.slice A len cap, .int .u8 from_] w fun e w' => e = .returned (.bool true) ∧ Same w w' := by
  have HI := Lib.hid h
  have hlm := h.2.2
  unfold maxLen at hlm
  clear h
  by_cases hl : 100 < (len : Int)
  · go_enter Try.func4, Try.ntmps4
    go_wp2_with fail
    refine (example42_ok _).mono ?_
    rintro e w1 ⟨rfl, hs⟩
    have HS := Lib.hid hs
    clear hs
    go_wp2
    go_ret
    exact ⟨rfl, HS.out⟩
  · have hl' : len ≤ 100 := by omega
    clear hlm
    go_enter Try.func4, Try.ntmps4
    go_wp2_with fail
    refine (ses_lognew _).mono ?_
    rintro e w1 ⟨rfl, hl1, hs1⟩
    have HL1 := Lib.hid hl1
    have HS1 := Lib.hid hs1
    clear hl1 hs1
    go_wp2_with fail
    refine (ses_new (w0 := w) HL1.out (Nat.le_refl _) HS1.out).mono ?_
    rintro e w2 ⟨b, R2, rfl, hses, _, _⟩
    have H2 : Hid (Ses w w2 w.heap.size b R2 (numL false) (numC false 0 0)) := Lib.hid hses
    clear hses HL1 HS1
    go_wp2
    go_loopg [7, 8] len (fun g v7 v8 wr => ∃ (i nr : Nat), i ≤ len ∧ g = len - i ∧ v8 = .int .i64 i ∧ v7 = .int .i64 nr ∧ ∃ R s f, NumS w wr w.heap.size b from_ i nr R s f)
    case atStart => exact ⟨0, 0, by omega, by omega, rfl, rfl, R2, false, 0, H2.out, by omega, fun _ => rfl, by simp; omega⟩
    case round =>
      obtain ⟨i, nr, hi, hg, rfl, rfl, R, s, f, hst⟩ := hrel
      have HG := Lib.hid hg
      have HS := Lib.hid hst
      have hnr := hst.le
      clear hg hst
      by_cases hlt : i < len
      · have hii : (i : Int) < len := by omega
        obtain ⟨ab, ao, cl, rfl, hab, _, hcl, hcell⟩ := HI.out.at_ hlt
        have HCL := Lib.hid hcl
        have HC0 := Lib.hid hcell
        have hcr := HS.out.ses.same.cell hcell (fun q => q)
        clear hcl hcell
        have hprep : (from_ = (i : Int) ∧ s = false ∧ nr = 0) ∨ (from_ < (i : Int) ∧ s = true) ∨ ((i : Int) < from_ ∧ s = false ∧ nr = 0) := by
          have h1 := HS.out.set
          have h2 := HS.out.off
          rcases Int.lt_trichotomy from_ i with q | q | q
          · rw [decide_eq_true q] at h1; exact .inr (.inl ⟨q, h1⟩)
          · rw [decide_eq_false (by omega)] at h1; exact .inl ⟨q, h1, h2 h1⟩
          · rw [decide_eq_false (by omega)] at h1; exact .inr (.inr ⟨q, h1, h2 h1⟩)
        rcases hprep with ⟨rfl, rfl, hnr0⟩ | ⟨hfi, rfl⟩ | ⟨hfi, rfl, hnr0⟩
        · have H := Lib.hid HS.out.ses
          have HNR := Lib.hid hnr0
          clear hf0 hf1 hnr0
          as_aux_lemma =>
            go_wp2_with fail
            refine (plain_ok _).mono ?_
            rintro e w4 ⟨g4, rfl, hg, hsa, hk⟩
            have HG4 := Lib.hid (And.intro hg hsa)
            have H4 := Lib.hid (H.out.keep hk)
            have HN : Hid (¬ R g4) := Lib.hid (fun q => by have := H.out.clip.lt g4 q; omega)
            have hgn : g4 ≠ w.heap.size := by have := H.out.llt; omega
            clear hg hk hsa H
            go_wp2_with fail
            refine (ses_issue (numL true) 1 9 1 4 H4.out (by omega) (by omega) num_n rfl).mono ?_
            rintro e w3 ⟨rfl, hses, hk⟩
            have H3 := Lib.hid hses
            have HSA : Hid (SArg w3 (some ⟨g4, 0, none⟩) 1 1 [tp]) := Lib.hid (HG4.out.2.chg2 hk (fun _ g o e => by cases e; exact hgn))
            clear hses hk H4
            go_wp2_with fail
            refine (ses_set (numC true f 0) 0 9 1 1 _ 1 1 [tp] H3.out HSA.out (fun _ g o e => by cases e; exact HN.out) (num_a f).1 (num_a f).2).mono ?_
            rintro e w5 ⟨R5, rfl, hses, _⟩
            rw [← HNR.out] at hses
            have H := Lib.hid hses
            have hcell := H.out.same.cell HC0.out (fun q => q)
            clear hses H3 HG4 HN HSA hgn hcr
            have s1 : IntKind.i64.wrap ((nr : Int) + 1) = (nr : Int) + 1 := IntWalk.i64_in _ (by omega)
            by_cases hc1 : cl < 1
            · go_wp2_with fail
              refine (ses_focus0 _ cl H.out (num_offers _ _ _ (by omega)) hc1 (num_foc0 true f nr cl hc1)).mono ?_
              rintro e w6 ⟨R6, rfl, hses, _⟩
              have H6 := Lib.hid hses
              have hcell6 := H6.out.same.cell HC0.out (fun q => q)
              clear hses
              go_wp2
              go_roundg (len - (i + 1))
              case measure => have := HG.out; omega
              case rel => exact ⟨i + 1, nr, by omega, by rfl, by go_num, by go_num, R6, true, 0, H6.out, by omega, (fun q => by cases q), (decide_eq_true (by omega)).symm⟩
            · have hc2 : 1 ≤ cl := by omega
              go_wp2_with fail
              refine (ses_focus _ cl _ H.out (num_offers _ _ _ (by omega)) hc2 (num_code true f nr) (num_foc true f nr cl hc2)).mono ?_
              rintro e w6 ⟨R6, g6, rfl, hat, hg, hng, hses, _⟩
              have H6 := Lib.hid hses
              have hcell6 := H6.out.same.cell HC0.out (fun q => q)
              have hne6 := fun W => neq_deliv cl 0 18 0 0 0 ((nr : Int) + 1) ((nr : Int) + 1) 0 0 W
              simp only [delivCells, bne_self_eq_false] at hne6
              have HAT : Hid (w6.heap[g6]? = some (.cells (delivCells cl 0 18 0 0 0 ((nr : Int) + 1) 0 0).toArray 44 (0, 0))) := Lib.hid hat
              have hab6 := H6.out.same.size
              have HNG := Lib.hid (And.intro hg hng)
              clear hses hat hg hng
              go_wp2_with fail
              have hk6 : Same w6 (w6.alloc (.cells (delivCells cl 0 18 0 0 0 ((nr : Int) + 1) 0 0).toArray 44)) := (Chg.refl _ _).alloc _
              have l1 := deliv_cells ((hk6.drew).at_ HAT.out (fun q => q))
              have l2 : _ ∧ _ := deliv_cells (w := (w6.alloc (.cells (delivCells cl 0 18 0 0 0 ((nr : Int) + 1) 0 0).toArray 44)).drew) (at_new w6 (.cells (delivCells cl 0 18 0 0 0 ((nr : Int) + 1) 0 0).toArray 44))
              refine region_path (S := (fun w' => (w'.cell? ⟨g6, 0, none⟩ = some (.int .i64 cl) ∧ w'.cell? ⟨g6, 1, none⟩ = some (.int .i64 0) ∧ w'.cell? ⟨g6, 2, none⟩ = some (.int .i64 18) ∧ w'.cell? ⟨g6, 3, none⟩ = some (.int .i64 0) ∧ w'.cell? ⟨g6, 4, none⟩ = some (.int .i64 0) ∧ w'.cell? ⟨g6, 5, none⟩ = some (.int .i64 0) ∧ w'.cell? ⟨g6, 6, none⟩ = some (.int .i64 ((nr : Int) + 1)) ∧ w'.cell? ⟨g6, 7, none⟩ = some (.int .i64 0) ∧ w'.cell? ⟨g6, 8, none⟩ = some (.int .u32 0)) ∧ (w'.cell? ⟨w6.heap.size, 0, none⟩ = some (.int .i64 cl) ∧ w'.cell? ⟨w6.heap.size, 1, none⟩ = some (.int .i64 0) ∧ w'.cell? ⟨w6.heap.size, 2, none⟩ = some (.int .i64 18) ∧ w'.cell? ⟨w6.heap.size, 3, none⟩ = some (.int .i64 0) ∧ w'.cell? ⟨w6.heap.size, 4, none⟩ = some (.int .i64 0) ∧ w'.cell? ⟨w6.heap.size, 5, none⟩ = some (.int .i64 0) ∧ w'.cell? ⟨w6.heap.size, 6, none⟩ = some (.int .i64 ((nr : Int) + 1)) ∧ w'.cell? ⟨w6.heap.size, 7, none⟩ = some (.int .i64 0) ∧ w'.cell? ⟨w6.heap.size, 8, none⟩ = some (.int .u32 0)))) 99 [(0, true), (1, true), (2, true), (3, true), (4, true), (5, true), (6, true), (7, true), (8, true), (9, true)] (by kernel_rfl) (by kernel_rfl) (by kernel_rfl) ⟨l1, l2⟩ ?_
              refine path_read (i := 0) (v := ?v1_0) rfl (by rfl) (fun _ _ _ h => h) ?hy1_0 ?_
              case hy1_0 => ((intro w hSw; (try dsimp only at hSw); go_simp) <;> (try with_reducible rfl))
              try simp only [Act.put, List.setIfInBounds_toArray, List.set_cons_zero, List.set_cons_succ]
              refine path_read (i := 1) (v := ?v1_1) rfl (by rfl) (fun _ _ _ h => h) ?hy1_1 ?_
              case hy1_1 => ((intro w hSw; (try dsimp only at hSw); go_simp) <;> (try with_reducible rfl))
              try simp only [Act.put, List.setIfInBounds_toArray, List.set_cons_zero, List.set_cons_succ]
              refine path_read (i := 2) (v := ?v1_2) rfl (by rfl) (fun _ _ _ h => h) ?hy1_2 ?_
              case hy1_2 => ((intro w hSw; (try dsimp only at hSw); go_simp) <;> (try with_reducible rfl))
              try simp only [Act.put, List.setIfInBounds_toArray, List.set_cons_zero, List.set_cons_succ]
              refine path_read (i := 3) (v := ?v1_3) rfl (by rfl) (fun _ _ _ h => h) ?hy1_3 ?_
              case hy1_3 => ((intro w hSw; (try dsimp only at hSw); go_simp) <;> (try with_reducible rfl))
              try simp only [Act.put, List.setIfInBounds_toArray, List.set_cons_zero, List.set_cons_succ]
              refine path_read (i := 4) (v := ?v1_4) rfl (by rfl) (fun _ _ _ h => h) ?hy1_4 ?_
              case hy1_4 => ((intro w hSw; (try dsimp only at hSw); go_simp) <;> (try with_reducible rfl))
              try simp only [Act.put, List.setIfInBounds_toArray, List.set_cons_zero, List.set_cons_succ]
              refine path_read (i := 5) (v := ?v1_5) rfl (by rfl) (fun _ _ _ h => h) ?hy1_5 ?_
              case hy1_5 => ((intro w hSw; (try dsimp only at hSw); go_simp) <;> (try with_reducible rfl))
              try simp only [Act.put, List.setIfInBounds_toArray, List.set_cons_zero, List.set_cons_succ]
              refine path_read (i := 6) (v := ?v1_6) rfl (by rfl) (fun _ _ _ h => h) ?hy1_6 ?_
              case hy1_6 => ((intro w hSw; (try dsimp only at hSw); go_simp) <;> (try with_reducible rfl))
              try simp only [Act.put, List.setIfInBounds_toArray, List.set_cons_zero, List.set_cons_succ]
              refine path_read (i := 7) (v := ?v1_7) rfl (by rfl) (fun _ _ _ h => h) ?hy1_7 ?_
              case hy1_7 => ((intro w hSw; (try dsimp only at hSw); go_simp) <;> (try with_reducible rfl))
              try simp only [Act.put, List.setIfInBounds_toArray, List.set_cons_zero, List.set_cons_succ]
              refine path_read (i := 8) (v := ?v1_8) rfl (by rfl) (fun _ _ _ h => h) ?hy1_8 ?_
              case hy1_8 => ((intro w hSw; (try dsimp only at hSw); go_simp) <;> (try with_reducible rfl))
              try simp only [Act.put, List.setIfInBounds_toArray, List.set_cons_zero, List.set_cons_succ]
              refine path_read (i := 9) (v := ?v1_9) rfl (by rfl) (fun _ _ _ h => h) ?hy1_9 ?_
              case hy1_9 => ((intro w hSw; (try dsimp only at hSw); go_simp) <;> (try with_reducible rfl))
              try simp only [Act.put, List.setIfInBounds_toArray, List.set_cons_zero, List.set_cons_succ]
              refine path_end ?_
              go_wp2
              go_roundg (len - (i + 1))
              case measure => have := HG.out; omega
              case rel => exact ⟨i + 1, nr + 1, by omega, by rfl, by go_num, by go_num, R6, true, cl, H6.out.keep ((Chg.refl _ _).alloc _).drew, by omega, (fun q => by cases q), (decide_eq_true (by omega)).symm⟩
        · have H := Lib.hid HS.out.ses
          have hne : ((i : Int) == from_) = false := by simp; omega
          have hge : from_ ≤ (i : Int) := by omega
          have hcell := H.out.same.cell HC0.out (fun q => q)
          clear hcr
          have s1 : IntKind.i64.wrap ((nr : Int) + 1) = (nr : Int) + 1 := IntWalk.i64_in _ (by omega)
          as_aux_lemma =>
            by_cases hc1 : cl < 1
            · go_wp2_with fail
              refine (ses_focus0 _ cl H.out (num_offers _ _ _ (by omega)) hc1 (num_foc0 true f nr cl hc1)).mono ?_
              rintro e w6 ⟨R6, rfl, hses, _⟩
              have H6 := Lib.hid hses
              have hcell6 := H6.out.same.cell HC0.out (fun q => q)
              clear hses
              go_wp2
              go_roundg (len - (i + 1))
              case measure => have := HG.out; omega
              case rel => exact ⟨i + 1, nr, by omega, by rfl, by go_num, by go_num, R6, true, 0, H6.out, by omega, (fun q => by cases q), (decide_eq_true (by omega)).symm⟩
            · have hc2 : 1 ≤ cl := by omega
              go_wp2_with fail
              refine (ses_focus _ cl _ H.out (num_offers _ _ _ (by omega)) hc2 (num_code true f nr) (num_foc true f nr cl hc2)).mono ?_
              rintro e w6 ⟨R6, g6, rfl, hat, hg, hng, hses, _⟩
              have H6 := Lib.hid hses
              have hcell6 := H6.out.same.cell HC0.out (fun q => q)
              have hne6 := fun W => neq_deliv cl 0 18 0 0 0 ((nr : Int) + 1) ((nr : Int) + 1) 0 0 W
              simp only [delivCells, bne_self_eq_false] at hne6
              have HAT : Hid (w6.heap[g6]? = some (.cells (delivCells cl 0 18 0 0 0 ((nr : Int) + 1) 0 0).toArray 44 (0, 0))) := Lib.hid hat
              have hab6 := H6.out.same.size
              have HNG := Lib.hid (And.intro hg hng)
              clear hses hat hg hng
              go_wp2_with fail
              have hk6 : Same w6 (w6.alloc (.cells (delivCells cl 0 18 0 0 0 ((nr : Int) + 1) 0 0).toArray 44)) := (Chg.refl _ _).alloc _
              have l1 := deliv_cells ((hk6.drew).at_ HAT.out (fun q => q))
              have l2 : _ ∧ _ := deliv_cells (w := (w6.alloc (.cells (delivCells cl 0 18 0 0 0 ((nr : Int) + 1) 0 0).toArray 44)).drew) (at_new w6 (.cells (delivCells cl 0 18 0 0 0 ((nr : Int) + 1) 0 0).toArray 44))
              refine region_path (S := (fun w' => (w'.cell? ⟨g6, 0, none⟩ = some (.int .i64 cl) ∧ w'.cell? ⟨g6, 1, none⟩ = some (.int .i64 0) ∧ w'.cell? ⟨g6, 2, none⟩ = some (.int .i64 18) ∧ w'.cell? ⟨g6, 3, none⟩ = some (.int .i64 0) ∧ w'.cell? ⟨g6, 4, none⟩ = some (.int .i64 0) ∧ w'.cell? ⟨g6, 5, none⟩ = some (.int .i64 0) ∧ w'.cell? ⟨g6, 6, none⟩ = some (.int .i64 ((nr : Int) + 1)) ∧ w'.cell? ⟨g6, 7, none⟩ = some (.int .i64 0) ∧ w'.cell? ⟨g6, 8, none⟩ = some (.int .u32 0)) ∧ (w'.cell? ⟨w6.heap.size, 0, none⟩ = some (.int .i64 cl) ∧ w'.cell? ⟨w6.heap.size, 1, none⟩ = some (.int .i64 0) ∧ w'.cell? ⟨w6.heap.size, 2, none⟩ = some (.int .i64 18) ∧ w'.cell? ⟨w6.heap.size, 3, none⟩ = some (.int .i64 0) ∧ w'.cell? ⟨w6.heap.size, 4, none⟩ = some (.int .i64 0) ∧ w'.cell? ⟨w6.heap.size, 5, none⟩ = some (.int .i64 0) ∧ w'.cell? ⟨w6.heap.size, 6, none⟩ = some (.int .i64 ((nr : Int) + 1)) ∧ w'.cell? ⟨w6.heap.size, 7, none⟩ = some (.int .i64 0) ∧ w'.cell? ⟨w6.heap.size, 8, none⟩ = some (.int .u32 0)))) 99 [(0, true), (1, true), (2, true), (3, true), (4, true), (5, true), (6, true), (7, true), (8, true), (9, true)] (by kernel_rfl) (by kernel_rfl) (by kernel_rfl) ⟨l1, l2⟩ ?_
              refine path_read (i := 0) (v := ?v2_0) rfl (by rfl) (fun _ _ _ h => h) ?hy2_0 ?_
              case hy2_0 => ((intro w hSw; (try dsimp only at hSw); go_simp) <;> (try with_reducible rfl))
              try simp only [Act.put, List.setIfInBounds_toArray, List.set_cons_zero, List.set_cons_succ]
              refine path_read (i := 1) (v := ?v2_1) rfl (by rfl) (fun _ _ _ h => h) ?hy2_1 ?_
              case hy2_1 => ((intro w hSw; (try dsimp only at hSw); go_simp) <;> (try with_reducible rfl))
              try simp only [Act.put, List.setIfInBounds_toArray, List.set_cons_zero, List.set_cons_succ]
              refine path_read (i := 2) (v := ?v2_2) rfl (by rfl) (fun _ _ _ h => h) ?hy2_2 ?_
              case hy2_2 => ((intro w hSw; (try dsimp only at hSw); go_simp) <;> (try with_reducible rfl))
              try simp only [Act.put, List.setIfInBounds_toArray, List.set_cons_zero, List.set_cons_succ]
              refine path_read (i := 3) (v := ?v2_3) rfl (by rfl) (fun _ _ _ h => h) ?hy2_3 ?_
              case hy2_3 => ((intro w hSw; (try dsimp only at hSw); go_simp) <;> (try with_reducible rfl))
              try simp only [Act.put, List.setIfInBounds_toArray, List.set_cons_zero, List.set_cons_succ]
              refine path_read (i := 4) (v := ?v2_4) rfl (by rfl) (fun _ _ _ h => h) ?hy2_4 ?_
              case hy2_4 => ((intro w hSw; (try dsimp only at hSw); go_simp) <;> (try with_reducible rfl))
              try simp only [Act.put, List.setIfInBounds_toArray, List.set_cons_zero, List.set_cons_succ]
              refine path_read (i := 5) (v := ?v2_5) rfl (by rfl) (fun _ _ _ h => h) ?hy2_5 ?_
              case hy2_5 => ((intro w hSw; (try dsimp only at hSw); go_simp) <;> (try with_reducible rfl))
              try simp only [Act.put, List.setIfInBounds_toArray, List.set_cons_zero, List.set_cons_succ]
              refine path_read (i := 6) (v := ?v2_6) rfl (by rfl) (fun _ _ _ h => h) ?hy2_6 ?_
              case hy2_6 => ((intro w hSw; (try dsimp only at hSw); go_simp) <;> (try with_reducible rfl))
              try simp only [Act.put, List.setIfInBounds_toArray, List.set_cons_zero, List.set_cons_succ]
              refine path_read (i := 7) (v := ?v2_7) rfl (by rfl) (fun _ _ _ h => h) ?hy2_7 ?_
              case hy2_7 => ((intro w hSw; (try dsimp only at hSw); go_simp) <;> (try with_reducible rfl))
              try simp only [Act.put, List.setIfInBounds_toArray, List.set_cons_zero, List.set_cons_succ]
              refine path_read (i := 8) (v := ?v2_8) rfl (by rfl) (fun _ _ _ h => h) ?hy2_8 ?_
              case hy2_8 => ((intro w hSw; (try dsimp only at hSw); go_simp) <;> (try with_reducible rfl))
              try simp only [Act.put, List.setIfInBounds_toArray, List.set_cons_zero, List.set_cons_succ]
              refine path_read (i := 9) (v := ?v2_9) rfl (by rfl) (fun _ _ _ h => h) ?hy2_9 ?_
              case hy2_9 => ((intro w hSw; (try dsimp only at hSw); go_simp) <;> (try with_reducible rfl))
              try simp only [Act.put, List.setIfInBounds_toArray, List.set_cons_zero, List.set_cons_succ]
              refine path_end ?_
              go_wp2
              go_roundg (len - (i + 1))
              case measure => have := HG.out; omega
              case rel => exact ⟨i + 1, nr + 1, by omega, by rfl, by go_num, by go_num, R6, true, cl, H6.out.keep ((Chg.refl _ _).alloc _).drew, by omega, (fun q => by cases q), (decide_eq_true (by omega)).symm⟩
        · have H := Lib.hid HS.out.ses
          have HNR := Lib.hid hnr0
          have hne : ((i : Int) == from_) = false := by simp; omega
          have hge : ¬ from_ ≤ (i : Int) := by omega
          have hcell := H.out.same.cell HC0.out (fun q => q)
          clear hcr hnr0
          as_aux_lemma =>
            by_cases hc1 : cl < 1
            · go_wp2_with fail
              refine (ses_focus0 _ cl H.out (num_offers _ _ _ (by omega)) hc1 (num_foc0 false f nr cl hc1)).mono ?_
              rintro e w6 ⟨R6, rfl, hses, _⟩
              have H6 := Lib.hid hses
              have hcell6 := H6.out.same.cell HC0.out (fun q => q)
              clear hses
              go_wp2
              go_roundg (len - (i + 1))
              case measure => have := HG.out; omega
              case rel => exact ⟨i + 1, nr, by omega, by rfl, by go_num, by go_num, R6, false, 0, H6.out, by omega, (fun _ => HNR.out), (decide_eq_false (by omega)).symm⟩
            · have hc2 : 1 ≤ cl := by omega
              go_wp2_with fail
              refine (ses_focus _ cl _ H.out (num_offers _ _ _ (by omega)) hc2 (num_code false f nr) (num_foc false f nr cl hc2)).mono ?_
              rintro e w6 ⟨R6, g6, rfl, hat, hg, hng, hses, _⟩
              have H6 := Lib.hid hses
              have hcell6 := H6.out.same.cell HC0.out (fun q => q)
              have hne6 := fun W => neq_deliv cl 0 18 0 0 0 0 0 0 0 W
              simp only [delivCells, bne_self_eq_false] at hne6
              have HAT : Hid (w6.heap[g6]? = some (.cells (delivCells cl 0 18 0 0 0 0 0 0).toArray 44 (0, 0))) := Lib.hid hat
              have hab6 := H6.out.same.size
              have HNG := Lib.hid (And.intro hg hng)
              clear hses hat hg hng
              go_wp2_with fail
              have hk6 : Same w6 (w6.alloc (.cells (delivCells cl 0 18 0 0 0 0 0 0).toArray 44)) := (Chg.refl _ _).alloc _
              have l1 := deliv_cells ((hk6.drew).at_ HAT.out (fun q => q))
              have l2 : _ ∧ _ := deliv_cells (w := (w6.alloc (.cells (delivCells cl 0 18 0 0 0 0 0 0).toArray 44)).drew) (at_new w6 (.cells (delivCells cl 0 18 0 0 0 0 0 0).toArray 44))
              refine region_path (S := (fun w' => (w'.cell? ⟨g6, 0, none⟩ = some (.int .i64 cl) ∧ w'.cell? ⟨g6, 1, none⟩ = some (.int .i64 0) ∧ w'.cell? ⟨g6, 2, none⟩ = some (.int .i64 18) ∧ w'.cell? ⟨g6, 3, none⟩ = some (.int .i64 0) ∧ w'.cell? ⟨g6, 4, none⟩ = some (.int .i64 0) ∧ w'.cell? ⟨g6, 5, none⟩ = some (.int .i64 0) ∧ w'.cell? ⟨g6, 6, none⟩ = some (.int .i64 0) ∧ w'.cell? ⟨g6, 7, none⟩ = some (.int .i64 0) ∧ w'.cell? ⟨g6, 8, none⟩ = some (.int .u32 0)) ∧ (w'.cell? ⟨w6.heap.size, 0, none⟩ = some (.int .i64 cl) ∧ w'.cell? ⟨w6.heap.size, 1, none⟩ = some (.int .i64 0) ∧ w'.cell? ⟨w6.heap.size, 2, none⟩ = some (.int .i64 18) ∧ w'.cell? ⟨w6.heap.size, 3, none⟩ = some (.int .i64 0) ∧ w'.cell? ⟨w6.heap.size, 4, none⟩ = some (.int .i64 0) ∧ w'.cell? ⟨w6.heap.size, 5, none⟩ = some (.int .i64 0) ∧ w'.cell? ⟨w6.heap.size, 6, none⟩ = some (.int .i64 0) ∧ w'.cell? ⟨w6.heap.size, 7, none⟩ = some (.int .i64 0) ∧ w'.cell? ⟨w6.heap.size, 8, none⟩ = some (.int .u32 0)))) 99 [(0, true), (1, true), (2, true), (3, true), (4, true), (5, true), (6, true), (7, true), (8, true), (9, true)] (by kernel_rfl) (by kernel_rfl) (by kernel_rfl) ⟨l1, l2⟩ ?_
              refine path_read (i := 0) (v := ?v3_0) rfl (by rfl) (fun _ _ _ h => h) ?hy3_0 ?_
              case hy3_0 => ((intro w hSw; (try dsimp only at hSw); go_simp) <;> (try with_reducible rfl))
              try simp only [Act.put, List.setIfInBounds_toArray, List.set_cons_zero, List.set_cons_succ]
              refine path_read (i := 1) (v := ?v3_1) rfl (by rfl) (fun _ _ _ h => h) ?hy3_1 ?_
              case hy3_1 => ((intro w hSw; (try dsimp only at hSw); go_simp) <;> (try with_reducible rfl))
              try simp only [Act.put, List.setIfInBounds_toArray, List.set_cons_zero, List.set_cons_succ]
              refine path_read (i := 2) (v := ?v3_2) rfl (by rfl) (fun _ _ _ h => h) ?hy3_2 ?_
              case hy3_2 => ((intro w hSw; (try dsimp only at hSw); go_simp) <;> (try with_reducible rfl))
              try simp only [Act.put, List.setIfInBounds_toArray, List.set_cons_zero, List.set_cons_succ]
              refine path_read (i := 3) (v := ?v3_3) rfl (by rfl) (fun _ _ _ h => h) ?hy3_3 ?_
              case hy3_3 => ((intro w hSw; (try dsimp only at hSw); go_simp) <;> (try with_reducible rfl))
              try simp only [Act.put, List.setIfInBounds_toArray, List.set_cons_zero, List.set_cons_succ]
              refine path_read (i := 4) (v := ?v3_4) rfl (by rfl) (fun _ _ _ h => h) ?hy3_4 ?_
              case hy3_4 => ((intro w hSw; (try dsimp only at hSw); go_simp) <;> (try with_reducible rfl))
              try simp only [Act.put, List.setIfInBounds_toArray, List.set_cons_zero, List.set_cons_succ]
              refine path_read (i := 5) (v := ?v3_5) rfl (by rfl) (fun _ _ _ h => h) ?hy3_5 ?_
              case hy3_5 => ((intro w hSw; (try dsimp only at hSw); go_simp) <;> (try with_reducible rfl))
              try simp only [Act.put, List.setIfInBounds_toArray, List.set_cons_zero, List.set_cons_succ]
              refine path_read (i := 6) (v := ?v3_6) rfl (by rfl) (fun _ _ _ h => h) ?hy3_6 ?_
              case hy3_6 => ((intro w hSw; (try dsimp only at hSw); go_simp) <;> (try with_reducible rfl))
              try simp only [Act.put, List.setIfInBounds_toArray, List.set_cons_zero, List.set_cons_succ]
              refine path_read (i := 7) (v := ?v3_7) rfl (by rfl) (fun _ _ _ h => h) ?hy3_7 ?_
              case hy3_7 => ((intro w hSw; (try dsimp only at hSw); go_simp) <;> (try with_reducible rfl))
              try simp only [Act.put, List.setIfInBounds_toArray, List.set_cons_zero, List.set_cons_succ]
              refine path_read (i := 8) (v := ?v3_8) rfl (by rfl) (fun _ _ _ h => h) ?hy3_8 ?_
              case hy3_8 => ((intro w hSw; (try dsimp only at hSw); go_simp) <;> (try with_reducible rfl))
              try simp only [Act.put, List.setIfInBounds_toArray, List.set_cons_zero, List.set_cons_succ]
              refine path_read (i := 9) (v := ?v3_9) rfl (by rfl) (fun _ _ _ h => h) ?hy3_9 ?_
              case hy3_9 => ((intro w hSw; (try dsimp only at hSw); go_simp) <;> (try with_reducible rfl))
              try simp only [Act.put, List.setIfInBounds_toArray, List.set_cons_zero, List.set_cons_succ]
              refine path_end ?_
              go_wp2
              go_roundg (len - (i + 1))
              case measure => have := HG.out; omega
              case rel => exact ⟨i + 1, nr, by omega, by rfl, by go_num, by go_num, R6, false, cl, H6.out.keep ((Chg.refl _ _).alloc _).drew, by omega, (fun _ => HNR.out), (decide_eq_false (by omega)).symm⟩
      · have hii : ¬ (i : Int) < len := by omega
        go_wp2_with fail
        refine (example42_ok _).mono ?_
        rintro e w3 ⟨rfl, hk⟩
        have HS := Lib.hid (HS.out.ses.same.trans hk)
        clear hk
        go_wp2
        go_ret
        exact ⟨rfl, HS.out⟩
end Go.Proofs.Ytndldjopgbhphaa
