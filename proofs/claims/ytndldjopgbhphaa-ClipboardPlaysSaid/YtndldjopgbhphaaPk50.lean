/- Parts of the walk, packed: Ex42, ArgI. -/
import Derived.Test.YtndldjopgbhphaaSes
import Derived.Test.YtndldjopgbhphaaArgs
set_option linter.unusedVariables false
set_option linter.unusedSimpArgs false
set_option maxRecDepth 100000
namespace Go.Proofs.Ytndldjopgbhphaa
open Go.RowKit

theorem under_deliv : Try.prog.underlying 44 = some (.struct (Try.prog.fieldsOf 44)) := by kernel_rfl
theorem stood_deliv : Try.prog.stoodInHeld 44 = false := by kernel_rfl
/-- Two deliveries that differ in Code alone, compared. -/
theorem eq_deliv (a1 a2 a3 a4 a5 a6 c1 c2 a8 a9 : Int) (w : World) : (Op.equalIn 10000 44 (.agg (delivCells a1 a2 a3 a4 a5 a6 c1 a8 a9).toArray) (.agg (delivCells a1 a2 a3 a4 a5 a6 c2 a8 a9).toArray)).run Try.prog w = .ok (c1 == c2) w := by
  rw [run_equalIn_agg w 9999 _ _ _ under_deliv stood_deliv]
  have h := under_deliv
  rw [Try.underlying44] at h
  simp only [Option.some.injEq, TypeDesc.struct.injEq] at h
  rw [← h]
  simp [delivCells, Op.eqFields, part, isAgg, run_underlying Try.underlying29, run_underlying Try.underlying3, Sem.run_bind, run_equalIn_int _ _ _ _ _ _ _ Try.underlying29, run_equalIn_int _ _ _ _ _ _ _ Try.underlying3]
  by_cases hc : c1 = c2 <;> simp [hc]
theorem deliv_cells {w : World} {g : Nat} {a1 a2 a3 a4 a5 a6 a7 a8 a9 : Int} (h : w.heap[g]? = some (.cells (delivCells a1 a2 a3 a4 a5 a6 a7 a8 a9).toArray 44 (0, 0))) :
    w.cell? ⟨g, 0, none⟩ = some (.int .i64 a1) ∧ w.cell? ⟨g, 1, none⟩ = some (.int .i64 a2) ∧ w.cell? ⟨g, 2, none⟩ = some (.int .i64 a3) ∧ w.cell? ⟨g, 3, none⟩ = some (.int .i64 a4) ∧ w.cell? ⟨g, 4, none⟩ = some (.int .i64 a5) ∧
    w.cell? ⟨g, 5, none⟩ = some (.int .i64 a6) ∧ w.cell? ⟨g, 6, none⟩ = some (.int .i64 a7) ∧ w.cell? ⟨g, 7, none⟩ = some (.int .i64 a8) ∧ w.cell? ⟨g, 8, none⟩ = some (.int .u32 a9) := by
  refine ⟨?_, ?_, ?_, ?_, ?_, ?_, ?_, ?_, ?_⟩ <;> (rw [cell_at h]; rfl)
def exL : SLog := SLog.new.issue 1 5 9
def tph : ByteArray := ⟨#[116, 101, 120, 116, 47, 104, 116, 109, 108]⟩
def exC1 : CSt := ⟨1, [tp], 0, 0, true, 1, []⟩
theorem ex42_n : SLog.new.issueN 1 5 9 = 1 := by decide +kernel
theorem ex42_a : CSt.setE CSt.new exL 1 [tp] 1 1 = 0 := by decide +kernel
theorem ex42_a' : CSt.set CSt.new exL 1 [tp] 1 1 = exC1 := by unfold CSt.set; rw [if_pos ex42_a]; rfl
theorem ex42_b : CSt.setE exC1 exL 1 [tp] 1 1 = 13 := by decide +kernel
theorem ex42_b' : CSt.set exC1 exL 1 [tp] 1 1 = exC1 := by unfold CSt.set; rw [ex42_b]; rfl
theorem neq_deliv (a1 a2 a3 a4 a5 a6 c1 c2 a8 a9 : Int) (w : World) : (binOp .neq 44 (.agg (delivCells a1 a2 a3 a4 a5 a6 c1 a8 a9).toArray) (.agg (delivCells a1 a2 a3 a4 a5 a6 c2 a8 a9).toArray)).run Try.prog w = .ok (.bool (c1 != c2)) w := by
  simp only [binOp]
  simp [Op.equal, Op.maxDepth, eq_deliv, bne]
theorem run_load_deliv {w : World} {g : Nat} {C : List Value} (h : w.heap[g]? = some (.cells C.toArray 44 (0, 0))) (hl : C.length = 9) : (loadVar 44 ⟨g, 0, none⟩).run Try.prog w = .ok (.agg C.toArray) w := by
  have := run_loadMid (P := Try.prog) (C := C) 44 0 9 _ h infoDeliv Try.underlying44 rfl (by omega)
  rw [List.drop_zero, List.take_of_length_le (by omega)] at this
  exact this
theorem LogAt.keep {w w' : World} {b : Nat} {L : SLog} (h : LogAt w b L) (k : Same w w') : LogAt w' b L := h.chg k (fun q => q)

set_option maxHeartbeats 4000000 in
theorem example42_ok (w : World) : Calls Try.prog 11 #[] w fun e w' => e = .returned (.bool true) ∧ Same w w' := by
  go_enter Try.func11, Try.ntmps11
  go_wp2_with fail
  refine (ses_lognew _).mono ?_
  rintro e w1 ⟨rfl, hl1, hs1⟩
  have HL1 := Lib.hid hl1
  have HS1 := Lib.hid hs1
  clear hl1 hs1
  go_wp2_with fail
  refine (ses_new (w0 := w) HL1.out (Nat.le_refl _) HS1.out).mono ?_
  rintro e w2 ⟨b, R2, rfl, hses, _, _⟩
  have H2 := Lib.hid hses
  clear hses HL1 HS1
  go_wp2_with fail
  refine (ses_issue exL 1 1 5 9 H2.out (by omega) (by omega) ex42_n rfl).mono ?_
  rintro e w3 ⟨rfl, hses, _⟩
  have H3 := Lib.hid hses
  clear hses H2
  go_wp2_with fail
  refine (plain_ok _).mono ?_
  rintro e w4 ⟨g4, rfl, hg, hsa, hk⟩
  have HG := Lib.hid (And.intro hg hsa)
  have H4 := Lib.hid (H3.out.keep hk)
  have HN : Hid (¬ R2 g4) := Lib.hid (fun q => by have := H3.out.clip.lt g4 q; omega)
  clear hg hsa hk H3
  go_wp2_with fail
  refine (ses_set exC1 0 1 1 1 _ 1 1 [tp] H4.out HG.out.2 (fun _ g o e => by cases e; exact HN.out) ex42_a ex42_a').mono ?_
  rintro e w5 ⟨R5, rfl, hses, _⟩
  have H5 := Lib.hid hses
  clear hses H4 HG HN
  go_wp2_with fail
  refine (plain_ok _).mono ?_
  rintro e w6 ⟨g6, rfl, hg, hsa, hk⟩
  have HG := Lib.hid (And.intro hg hsa)
  have H6 := Lib.hid (H5.out.keep hk)
  have HN : Hid (¬ R5 g6) := Lib.hid (fun q => by have := H5.out.clip.lt g6 q; omega)
  clear hg hsa hk H5
  go_wp2_with fail
  refine (ses_set exC1 13 1 1 1 _ 1 1 [tp] H6.out HG.out.2 (fun _ g o e => by cases e; exact HN.out) ex42_b ex42_b').mono ?_
  rintro e w7 ⟨R7, rfl, hses, _⟩
  have H7 := Lib.hid hses
  clear hses H6 HG HN
  go_wp2_with fail
  refine (ses_owner 1 H7.out rfl).mono ?_
  rintro e w8 ⟨rfl, rfl⟩
  go_wp2_with fail
  refine (ses_focus ⟨1, [tp], 2, 1, true, 1, []⟩ 2 1 H7.out (by decide) (by omega) rfl rfl).mono ?_
  rintro e w8 ⟨R8, g8, rfl, hat, hg, hng, hses, _⟩
  have H8 := Lib.hid hses
  have HAT := Lib.hid (And.intro hat hng)
  clear hses H7 hat hg hng
  go_wp2_with fail
  refine (ses_rcv_no 17 1 10 tp H8.out (by decide +kernel) (by decide)).mono ?_
  rintro e w9 ⟨rfl, rfl⟩
  go_wp2_with fail
  refine (ses_rcv_no 8 2 10 tph H8.out (by decide +kernel) (by decide)).mono ?_
  rintro e w9 ⟨rfl, rfl⟩
  go_wp2_with fail
  refine (ses_rcv 2 10 tp H8.out (by decide +kernel) (by decide)).mono ?_
  rintro e w9 ⟨R9, pb, Rp, rfl, hses, hown⟩
  have H9 : Hid (Ses w w9 w.heap.size b R9 exL ⟨1, [tp], 2, 1, true, 1, [⟨pb, Rp, PSt.new 10, 1, 2, true⟩]⟩) := Lib.hid hses
  have hat9 := hown.chg.at_ HAT.out.1 HAT.out.2
  obtain ⟨q0, q1, q2, q3, q4, q5, q6, q7, q8⟩ := deliv_cells hat9
  have hne := fun w => neq_deliv 2 0 18 0 0 0 1 1 0 0 w
  simp only [delivCells, bne_self_eq_false] at hne
  have HL9 := lt_of_at hat9
  clear hses hown hat9 H8 HAT
  go_wp2_with fail
  refine (ses_gone ⟨0, [], 2, 1, true, 1, [⟨pb, Rp, (PSt.new 10).cancel, 1, 2, false⟩]⟩ 1 H9.out rfl).mono ?_
  rintro e w10 ⟨R10, rfl, hses, _⟩
  have H10 := Lib.hid hses
  clear hses H9 hne q0 q1 q2 q3 q4 q5 q6 q7 q8
  go_wp2_with fail
  refine (pread_v (PSt.new 10).cancel [] 20 1 (H10.out.pipe (i := 0) rfl) (show (PSt.new 10).cancel.rd 1 = [] by decide +kernel) (show (PSt.new 10).cancel.rdE 1 = 20 by decide +kernel) rfl).mono ?_
  rintro e w11 ⟨A11, cap11, rfl, _, hp, hk⟩
  have hses := H10.out.used (i := 0) rfl hk hp.pipe (fun j q => .inl q)
  obtain ⟨R11, hses, _⟩ := hses
  have H11 : Hid (Ses w w11 w.heap.size b R11 exL ⟨0, [], 2, 1, true, 1, [⟨pb, Rp, (PSt.new 10).cancel, 1, 2, false⟩]⟩) := Lib.hid hses
  clear hses hp hk H10
  go_wp2_with fail
  refine (ses_focus ⟨0, [], 2, 1, true, 1, [⟨pb, Rp, (PSt.new 10).cancel, 1, 2, false⟩]⟩ 2 0 H11.out (show 1 < 1000000 by decide) (by omega) rfl rfl).mono ?_
  rintro e w12 ⟨R12, g12, rfl, hat, hg, hng, hses, _⟩
  have H12 := Lib.hid hses
  have c6 : w12.cell? ⟨g12, 6, none⟩ = some (.int .i64 0) := by rw [cell_at hat]; rfl
  clear hses H11 hat hg hng
  go_wp2_with fail
  refine (ses_owner 0 H12.out rfl).mono ?_
  rintro e w13 ⟨rfl, rfl⟩
  go_wp2
  go_ret
  exact ⟨rfl, H12.out.same⟩
end Go.Proofs.Ytndldjopgbhphaa

namespace Go.Proofs.Ytndldjopgbhphaa
open Go.RowKit Go.ChangeShapes Go.WideShapes Go.Deep

def icell (x : Int) : List Value := [.int .i64 x]
def intIn (x : Int) : Prop := -9223372036854775808 ≤ x ∧ x ≤ 9223372036854775807
def IntsAt (w : World) (A : Option Addr) (len : Nat) (l : List Int) : Prop := RowsAt w A len 1 icell l ∧ (∀ x ∈ l, intIn x) ∧ len ≤ maxLen
theorem cellsInt : Try.prog.cellsOf 3 = 1 := by kernel_rfl
section
variable {H : Type} {enc : TypeId × Value → H} {w : World} {base : Nat} {spare : Nat → Bool} {held : Bool}
theorem open_intsA {r : Reach} {b0 : Nat} {v : Value} {d : DataW H} {p : List MemPlace} (hv : Value.okWide Try.prog w r b0 40 v) (h : DataW.Trod enc Try.prog w base spare held 40 v d p) :
    ∃ (A : Option Addr) (len cap : Nat) (l : List Int), v = .slice A len cap ∧ IntsAt w A len l :=
  open_rows icell intIn Try.underlying40 cellsInt (by omega) (fun cs' m y h => by
    obtain ⟨n, rfl, _, hw⟩ := DataW.trod_int Try.underlying3 h
    exact ⟨n, rfl, of_wf_int hw⟩) hv h
end
theorem IntsAt.at_ {w : World} {A : Option Addr} {len : Nat} {l : List Int} (h : IntsAt w A len l) {i : Nat} (hi : i < len) :
    ∃ b o x, A = some ⟨b, o, none⟩ ∧ b < w.heap.size ∧ l[i]? = some x ∧ intIn x ∧ w.cell? ⟨b, o + i, none⟩ = some (.int .i64 x) := by
  obtain ⟨b, o, hA, hb, hc⟩ := h.1.2 (by omega)
  have hx : l[i]? = some (l[i]'(by rw [h.1.1]; exact hi)) := List.getElem?_eq_getElem (by rw [h.1.1]; exact hi)
  refine ⟨b, o, _, hA, hb, hx, h.2.1 _ (List.getElem_mem _), ?_⟩
  have := hc i _ hx 0 _ rfl
  rw [Nat.mul_one] at this
  exact this
theorem IntsAt.same {w w' : World} {A : Option Addr} {len : Nat} {l : List Int} (h : IntsAt w A len l) (k : Same w w') : IntsAt w' A len l := ⟨h.1.chg k (fun _ _ q => q), h.2⟩
def ucell (x : Int) : List Value := [.int .u8 x]
def u8In (x : Int) : Prop := 0 ≤ x ∧ x ≤ 255
def U8sAt (w : World) (A : Option Addr) (len : Nat) (l : List Int) : Prop := RowsAt w A len 1 ucell l ∧ (∀ x ∈ l, u8In x) ∧ len ≤ maxLen
theorem cellsU8A : Try.prog.cellsOf 5 = 1 := by kernel_rfl
section
variable {H : Type} {enc : TypeId × Value → H} {w : World} {base : Nat} {spare : Nat → Bool} {held : Bool}
theorem open_u8s {r : Reach} {b0 : Nat} {v : Value} {d : DataW H} {p : List MemPlace} (hv : Value.okWide Try.prog w r b0 22 v) (h : DataW.Trod enc Try.prog w base spare held 22 v d p) :
    ∃ (A : Option Addr) (len cap : Nat) (l : List Int), v = .slice A len cap ∧ U8sAt w A len l :=
  open_rows ucell u8In Try.underlying22 cellsU8A (by omega) (fun cs' m y h => by
    obtain ⟨n, rfl, _, hw⟩ := DataW.trod_int Try.underlying5 h
    exact ⟨n, rfl, of_wf_u8 hw⟩) hv h
end
theorem U8sAt.at_ {w : World} {A : Option Addr} {len : Nat} {l : List Int} (h : U8sAt w A len l) {i : Nat} (hi : i < len) :
    ∃ b o x, A = some ⟨b, o, none⟩ ∧ b < w.heap.size ∧ l[i]? = some x ∧ u8In x ∧ w.cell? ⟨b, o + i, none⟩ = some (.int .u8 x) := by
  obtain ⟨b, o, hA, hb, hc⟩ := h.1.2 (by omega)
  have hx : l[i]? = some (l[i]'(by rw [h.1.1]; exact hi)) := List.getElem?_eq_getElem (by rw [h.1.1]; exact hi)
  refine ⟨b, o, _, hA, hb, hx, h.2.1 _ (List.getElem_mem _), ?_⟩
  have := hc i _ hx 0 _ rfl
  rw [Nat.mul_one] at this
  exact this
theorem U8sAt.same {w w' : World} {A : Option Addr} {len : Nat} {l : List Int} (h : U8sAt w A len l) (k : Same w w') : U8sAt w' A len l := ⟨h.1.chg k (fun _ _ q => q), h.2⟩
def pcell (x : Int × Int) : List Value := [.int .u8 x.1, .int .u8 x.2]
def pairIn (x : Int × Int) : Prop := u8In x.1 ∧ u8In x.2
def PairsAt (w : World) (A : Option Addr) (len : Nat) (l : List (Int × Int)) : Prop := RowsAt w A len 2 pcell l ∧ (∀ x ∈ l, pairIn x) ∧ len ≤ maxLen
theorem cellsPair : Try.prog.cellsOf 31 = 2 := by kernel_rfl
section
variable {H : Type} {enc : TypeId × Value → H} {w : World} {base : Nat} {spare : Nat → Bool} {held : Bool}
theorem conv_pair (cs' : List Value) (m : Nat) (y : DataW H × List MemPlace) (h : DataW.trod enc Try.prog w base spare held m 31 cs' = some y) : ∃ x : Int × Int, cs' = pcell x ∧ pairIn x := by
  obtain ⟨xs, m', _, _, hl, hxs, hi⟩ := DataW.trod_array Try.underlying31 h
  rw [cellsPair] at hl
  rw [cellsU8A] at hi
  have h0 := hi 0 (by omega)
  have h1 := hi 1 (by omega)
  match cs', hl with
  | [u0, u1], _ =>
    simp only [Nat.zero_mul, List.drop_zero, List.take_succ_cons, List.take_zero, Nat.one_mul, List.drop_succ_cons] at h0 h1
    rw [List.getElem?_eq_getElem (by omega)] at h0 h1
    obtain ⟨a, ha, _, wa⟩ := DataW.trod_int Try.underlying5 h0
    obtain ⟨b, hb, _, wb⟩ := DataW.trod_int Try.underlying5 h1
    simp only [List.cons.injEq, and_true] at ha hb
    subst ha hb
    exact ⟨(a, b), rfl, of_wf_u8 wa, of_wf_u8 wb⟩
theorem open_pairs {r : Reach} {b0 : Nat} {v : Value} {d : DataW H} {p : List MemPlace} (hv : Value.okWide Try.prog w r b0 23 v) (h : DataW.Trod enc Try.prog w base spare held 23 v d p) :
    ∃ (A : Option Addr) (len cap : Nat) (l : List (Int × Int)), v = .slice A len cap ∧ PairsAt w A len l :=
  open_rows pcell pairIn Try.underlying23 cellsPair (by omega) conv_pair hv h
end
theorem PairsAt.at_ {w : World} {A : Option Addr} {len : Nat} {l : List (Int × Int)} (h : PairsAt w A len l) {i : Nat} (hi : i < len) :
    ∃ b o x y, A = some ⟨b, o, none⟩ ∧ b < w.heap.size ∧ l[i]? = some (x, y) ∧ u8In x ∧ u8In y ∧ w.cell? ⟨b, o + i * 2, none⟩ = some (.int .u8 x) ∧ w.cell? ⟨b, o + i * 2 + 1, none⟩ = some (.int .u8 y) := by
  obtain ⟨b, o, hA, hb, hc⟩ := h.1.2 (by omega)
  have hx : l[i]? = some (l[i]'(by rw [h.1.1]; exact hi)) := List.getElem?_eq_getElem (by rw [h.1.1]; exact hi)
  have hp := h.2.1 _ (List.getElem_mem (by rw [h.1.1]; exact hi))
  exact ⟨b, o, _, _, hA, hb, hx, hp.1, hp.2, hc i _ hx 0 _ rfl, hc i _ hx 1 _ rfl⟩
theorem PairsAt.same {w w' : World} {A : Option Addr} {len : Nat} {l : List (Int × Int)} (h : PairsAt w A len l) (k : Same w w') : PairsAt w' A len l := ⟨h.1.chg k (fun _ _ q => q), h.2⟩
end Go.Proofs.Ytndldjopgbhphaa
