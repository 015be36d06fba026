/- The walk of ClipboardClear: for all arguments it returns true and leaves what was there as it was. -/
import Derived.Test.YtndldjopgbhphaaEx42
set_option linter.unusedVariables false
set_option linter.unusedSimpArgs false
set_option maxRecDepth 100000
namespace Go.Proofs.Ytndldjopgbhphaa
open Go.RowKit

def clL1 : SLog := SLog.new.issue 4 1 11
theorem cl_n : SLog.new.issueN 4 1 11 = 1 := by decide +kernel
theorem cl_n4 : clL1.issueN 4 1 9 = 2 := by decide +kernel
theorem cl_n5 : clL1.issueN 5 1 9 = 2 := by decide +kernel
def clC1 : CSt := ⟨4, [tp], 0, 0, true, 1, []⟩
theorem cl_a : CSt.setE CSt.new clL1 4 [tp] 1 1 = 0 := by decide +kernel
theorem cl_a' : CSt.set CSt.new clL1 4 [tp] 1 1 = clC1 := by unfold CSt.set; rw [if_pos cl_a]; rfl
def clF (q : PSt) (pb : Nat) (Rp : Nat → Prop) : CSt := ⟨4, [tp], 4, 1, true, 1, [⟨pb, Rp, q, 4, 4, true⟩]⟩
theorem cl_no {q : PSt} {pb : Nat} {Rp : Nat → Prop} (L : SLog) (client : Int) (h : client ≠ 4) : (clF q pb Rp).clrE L client 2 = 17 ∧ (clF q pb Rp).clear L client 2 = clF q pb Rp := by
  have e : (clF q pb Rp).clrE L client 2 = 17 := by unfold CSt.clrE; exact if_pos (.inr h)
  exact ⟨e, by unfold CSt.clear; rw [e]; rfl⟩
theorem cl_v5 : CSt.validB ⟨4, [tp], 4, 1, true, 1, []⟩ (clL1.issue 5 1 9) 4 2 = false := by decide +kernel
theorem cl_v4 : CSt.validB ⟨4, [tp], 4, 1, true, 1, []⟩ (clL1.issue 4 1 9) 4 2 = true := by decide +kernel
theorem cl_for {q : PSt} {pb : Nat} {Rp : Nat → Prop} : (clF q pb Rp).clrE (clL1.issue 5 1 9) 4 2 = 13 ∧ (clF q pb Rp).clear (clL1.issue 5 1 9) 4 2 = clF q pb Rp := by
  have e : (clF q pb Rp).clrE (clL1.issue 5 1 9) 4 2 = 13 := by
    unfold CSt.clrE; rw [if_neg (by unfold clF; simp), show (clF q pb Rp).validB (clL1.issue 5 1 9) 4 2 = false from cl_v5]; rfl
  exact ⟨e, by unfold CSt.clear; rw [e]; rfl⟩
theorem cl_own {q : PSt} {pb : Nat} {Rp : Nat → Prop} : (clF q pb Rp).clrE (clL1.issue 4 1 9) 4 2 = 0 ∧ (clF q pb Rp).clear (clL1.issue 4 1 9) 4 2 = ⟨0, [], 4, 1, true, 2, [⟨pb, Rp, q, 4, 4, true⟩]⟩ := by
  have e : (clF q pb Rp).clrE (clL1.issue 4 1 9) 4 2 = 0 := by
    unfold CSt.clrE; rw [if_neg (by unfold clF; simp), show (clF q pb Rp).validB (clL1.issue 4 1 9) 4 2 = true from cl_v4]; rfl
  exact ⟨e, by unfold CSt.clear; rw [if_pos e]; rfl⟩
def clQ : PSt := (PSt.new 8).grant 8
theorem clq_e : (PSt.new 8).grE 8 = 0 := by decide +kernel

set_option maxHeartbeats 4000000 in
theorem ClipboardClear_walk (client : Int) (foreign : Bool) (w : World) :
    Calls Try.prog 9 #[.int .i64 client, .bool foreign] w fun e w' => e = .returned (.bool true) ∧ Same w w' := by
  go_enter Try.func9, Try.ntmps9
  go_wp2_with fail
  refine (ses_lognew _).mono ?_
  rintro e w1 ⟨rfl, hl1, hs1⟩
  have HL1 := Lib.hid hl1
  have HS1 := Lib.hid hs1
  clear hl1 hs1
  go_wp2_with fail
  refine (ses_new (w0 := w) HL1.out (Nat.le_refl _) HS1.out).mono ?_
  rintro e w2 ⟨b, R2, rfl, hses, _, _⟩
  have H2 := Lib.hid hses
  clear hses HL1 HS1
  go_wp2_with fail
  refine (plain_ok _).mono ?_
  rintro e w4 ⟨g4, rfl, hg, hsa, hk⟩
  have HG := Lib.hid (And.intro hg hsa)
  have H4 := Lib.hid (H2.out.keep hk)
  have HN : Hid (¬ R2 g4) := Lib.hid (fun q => by have := H2.out.clip.lt g4 q; omega)
  have hll2 := H2.out.llt
  clear hg hk H2
  have hgl : g4 < w4.heap.size := by obtain ⟨b', o', e, hlt, _⟩ := hsa.1.2 (by omega); cases e; exact hlt
  have hgn : g4 ≠ w.heap.size := by have := HG.out.1; omega
  clear hsa hll2
  go_wp2_with fail
  refine (ses_issue clL1 1 4 1 11 H4.out (by omega) (by omega) cl_n rfl).mono ?_
  rintro e w3 ⟨rfl, hses, hk⟩
  have H3 := Lib.hid hses
  have HSA : Hid (SArg w3 (some ⟨g4, 0, none⟩) 1 1 [tp]) := Lib.hid (HG.out.2.chg2 hk (fun _ g o e => by cases e; exact hgn))
  clear hses hk H4
  go_wp2_with fail
  refine (ses_set clC1 0 4 1 1 _ 1 1 [tp] H3.out HSA.out (fun _ g o e => by cases e; exact HN.out) cl_a cl_a').mono ?_
  rintro e w5 ⟨R5, rfl, hses, _⟩
  have H5 := Lib.hid hses
  clear hses H3 HG HN HSA hgl hgn
  go_wp2_with fail
  refine (ses_focus ⟨4, [tp], 4, 1, true, 1, []⟩ 4 1 H5.out (by decide) (by omega) rfl rfl).mono ?_
  rintro e w6 ⟨R6, g6, rfl, _, _, _, hses, _⟩
  have H6 := Lib.hid hses
  clear hses H5
  go_wp2_with fail
  refine (ses_rcv 4 8 tp H6.out (by decide +kernel) (by decide)).mono ?_
  rintro e w7 ⟨R7, pb, Rp, rfl, hses, _⟩
  have H7 : Hid (Ses w w7 w.heap.size b R7 clL1 (clF (PSt.new 8) pb Rp)) := Lib.hid hses
  clear hses H6
  go_wp2_with fail
  refine (pgrant_v clQ 0 8 (H7.out.pipe (i := 0) rfl) (by omega) clq_e rfl).mono ?_
  rintro e w8 ⟨rfl, hp, hk⟩
  obtain ⟨R8, hses, _⟩ := H7.out.used (i := 0) rfl hk hp.pipe (fun j q => .inl q)
  have H8 : Hid (Ses w w8 w.heap.size b R8 clL1 (clF clQ pb Rp)) := Lib.hid hses
  clear hses hp hk H7
  by_cases h4 : client = 4
  · subst h4
    cases foreign
    · go_wp2_with fail
      refine (ses_issue (clL1.issue 4 1 9) 2 4 1 9 H8.out (by omega) (by omega) cl_n4 rfl).mono ?_
      rintro e w9 ⟨rfl, hses, _⟩
      have H9 := Lib.hid hses
      clear hses H8
      go_wp2_with fail
      refine (ses_clear _ 0 4 2 H9.out cl_own.1 cl_own.2).mono ?_
      rintro e w10 ⟨R10, rfl, hses, _⟩
      have H10 := Lib.hid hses
      clear hses H9
      go_wp2_with fail
      refine (pwrite_v (clQ.write [1, 2]) 2 0 _ 2 2 [1, 2] ((H10.out.keep ((Chg.refl _ _).alloc _)).pipe (i := 0) rfl) (bytes_new _ _ _ 2 [1, 2] _ rfl rfl (by unfold maxLen; omega)) (show (clQ.wrN 2 : Int) = 2 by decide +kernel) (show clQ.wrE = 0 by decide +kernel) rfl).mono ?_
      rintro e w11 ⟨rfl, Rq, hp, hRq, hk⟩
      obtain ⟨R11, hses, _⟩ := (H10.out.keep ((Chg.refl _ _).alloc _)).used (i := 0) rfl hk hp.pipe hRq
      have H11 := Lib.hid hses
      clear hses hp hk H10
      go_wp2_with fail
      refine (ses_owner 0 H11.out rfl).mono ?_
      rintro e w12 ⟨rfl, rfl⟩
      go_wp2_with fail
      refine (ses_formats [] 4 0 H11.out rfl rfl).mono ?_
      rintro e w12 ⟨A12, cap12, rfl, _, hk, _⟩
      have HS := Lib.hid (H11.out.same.trans hk)
      clear hk
      go_wp2_with fail
      refine (example42_ok _).mono ?_
      rintro e w13 ⟨rfl, hk⟩
      have HS := Lib.hid (HS.out.trans hk)
      clear hk
      go_wp2
      go_ret
      exact ⟨rfl, HS.out⟩
    · go_wp2_with fail
      refine (ses_issue (clL1.issue 5 1 9) 2 5 1 9 H8.out (by omega) (by omega) cl_n5 rfl).mono ?_
      rintro e w9 ⟨rfl, hses, _⟩
      have H9 := Lib.hid hses
      clear hses H8
      go_wp2_with fail
      refine (ses_clear _ 13 4 2 H9.out cl_for.1 cl_for.2).mono ?_
      rintro e w10 ⟨R10, rfl, hses, _⟩
      have H10 := Lib.hid hses
      clear hses H9
      go_wp2_with fail
      refine (ses_owner 4 H10.out rfl).mono ?_
      rintro e w12 ⟨rfl, rfl⟩
      go_wp2_with fail
      refine (example42_ok _).mono ?_
      rintro e w13 ⟨rfl, hk⟩
      have HS := Lib.hid (H10.out.same.trans hk)
      clear hk
      go_wp2
      go_ret
      exact ⟨rfl, HS.out⟩
  · have h4' : (client != 4) = true := by simpa using h4
    obtain ⟨who, hwho⟩ : ∃ who : Int, (if foreign then 5 else 4) = who := ⟨_, rfl⟩
    have hw9 : who ≤ 9223372036854775807 := by rw [← hwho]; cases foreign <;> simp
    have hn2 : clL1.issueN who 1 9 = 2 := by rw [← hwho]; cases foreign; exact cl_n4; exact cl_n5
    have HW := Lib.hid hwho
    have HN := Lib.hid (And.intro hw9 hn2)
    have HC := Lib.hid h4
    clear hwho hw9 hn2 h4
    cases foreign
    all_goals
      simp only [Bool.false_eq_true, if_true, if_false] at HW
      obtain rfl := HW.out
      clear HW
      go_wp2_with fail
      refine (ses_issue _ 2 _ 1 9 H8.out HN.out.1 (by omega) HN.out.2 rfl).mono ?_
      rintro e w9 ⟨rfl, hses, _⟩
      have H9 := Lib.hid hses
      clear hses H8
      go_wp2_with fail
      refine (ses_clear _ 17 client 2 H9.out (cl_no _ client HC.out).1 (cl_no _ client HC.out).2).mono ?_
      rintro e w10 ⟨R10, rfl, hses, _⟩
      have H10 := Lib.hid hses
      clear hses H9
      go_wp2_with fail
      refine (ses_owner 4 H10.out rfl).mono ?_
      rintro e w12 ⟨rfl, rfl⟩
      go_wp2_with fail
      refine (example42_ok _).mono ?_
      rintro e w13 ⟨rfl, hk⟩
      have HS := Lib.hid (H10.out.same.trans hk)
      clear hk
      go_wp2
      go_ret
      exact ⟨rfl, HS.out⟩
end Go.Proofs.Ytndldjopgbhphaa
