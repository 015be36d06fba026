/- law18.exampleHolds. -/
import Derived.Test.YtehcfeibfpgamaaInts18
set_option linter.unusedVariables false
set_option linter.unusedSimpArgs false
set_option maxRecDepth 100000
namespace Go.Proofs.Ytehcfeibfpgamaa
open Go.RowKit

abbrev ex1 : Fo := addS [] 1
abbrev ex2 : Fo := addS ex1 2
abbrev ex3 : Fo := attS ex2 2 1
abbrev ex4 : Fo := cchS ex3 2
abbrev ex5 : Fo := (visS 10 (aplS ex4 1) 1).1
abbrev ex6 : Fo := posS ex5 2 3 4
abbrev ex7 : Fo := plcS ex6 2 1 false
abbrev ex8 : Fo := (visS 10 (aplS ex7 1) 1).1
theorem ex_1 : addR [] 1 = (ex1, 0) := by decide +kernel
theorem ex_2 : addR ex1 2 = (ex2, 0) := by decide +kernel
theorem ex_3 : attR ex2 2 1 = (ex3, 0) := by decide +kernel
theorem ex_o3 : ordL ex3 1 = [(1, 0, 0)] := by decide +kernel
theorem ex_4 : comR ex3 2 = (ex4, [], 0) := by decide +kernel
theorem ex_5 : comR ex4 1 = (ex5, [1, 2], 0) := by decide +kernel
theorem ex_o5 : ordL ex5 1 = [(1, 0, 0), (2, 0, 0)] := by decide +kernel
theorem ex_6 : posR ex5 2 3 4 = (ex6, 0) := by decide +kernel
theorem ex_7 : plcR ex6 2 1 false = (ex7, 0) := by decide +kernel
theorem ex_a : attR ex7 1 2 = (ex7, 16) := by decide +kernel
theorem ex_8 : comR ex7 1 = (ex8, [1], 0) := by decide +kernel
theorem ex_o8 : ordL ex8 1 = [(2, 3, 4), (1, 0, 0)] := by decide +kernel
theorem ints_lit2 (w : World) (x y : Int) : IntsAt (w.alloc (.cells #[.int .i64 x, .int .i64 y] 3)) (some ⟨w.heap.size, 0, none⟩) 2 [x, y] := by
  refine ⟨rfl, fun _ => ⟨_, 0, rfl, fun j z hj => ?_⟩⟩
  have e : (w.alloc (.cells #[.int .i64 x, .int .i64 y] 3)).heap[w.heap.size]? = some (.cells [Value.int .i64 x, .int .i64 y].toArray 3 (0, 0)) := at_new _ _
  rw [cell_at e]
  match j, hj with
  | 0, hj => simp at hj; subst hj; rfl
  | 1, hj => simp at hj; subst hj; rfl
  | j + 2, hj => simp at hj
theorem ints_lit1 (w : World) (x : Int) : IntsAt (w.alloc (.cells #[.int .i64 x] 3)) (some ⟨w.heap.size, 0, none⟩) 1 [x] := by
  refine ⟨rfl, fun _ => ⟨_, 0, rfl, fun j z hj => ?_⟩⟩
  have e : (w.alloc (.cells #[.int .i64 x] 3)).heap[w.heap.size]? = some (.cells [Value.int .i64 x].toArray 3 (0, 0)) := at_new _ _
  rw [cell_at e]
  match j, hj with
  | 0, hj => simp at hj; subst hj; rfl
  | j + 1, hj => simp at hj
theorem example18_ok (w : World) : Calls Try.prog 11 #[] w fun e w' => e = .returned (.bool true) ∧ Same w w' := by
  go_enter Try.func11, Try.ntmps11
  go_wp2_with fail
  refine (ynew_v w).mono ?_
  rintro e w1 ⟨b, R1, rfl, h1⟩
  have H1 := Lib.hid h1
  clear h1
  go_wp2_with fail
  refine (yadd_v H1.out 1 (by decide) ex_1).mono ?_
  rintro e w2 ⟨rfl, R2, h2, _⟩
  have H2 := Lib.hid h2
  clear h2
  go_wp2_with fail
  refine (yadd_v H2.out 2 (by decide) ex_2).mono ?_
  rintro e w3 ⟨rfl, R3, h3, _⟩
  have H3 := Lib.hid h3
  clear h3
  go_wp2_with fail
  refine (yattach_v H3.out 2 1 ex_3).mono ?_
  rintro e w4 ⟨rfl, R4, h4, _⟩
  have H4 := Lib.hid h4
  clear h4
  go_wp2_with fail
  refine (yorder_v H4.out 1 ex_o3 rfl).mono ?_
  rintro e w5 ⟨Al, cl, rfl, hl, hs5⟩
  have H5 := Lib.hid (H4.out.same hs5)
  have HL := Lib.hid hl
  clear hl hs5
  go_wp2_with fail
  refine (ycommit_v H5.out 2 ex_4 rfl).mono ?_
  rintro e w6 ⟨Am, cm, R6, rfl, h6, o6, _⟩
  have H6 := Lib.hid h6
  have HL6 := Lib.hid (HL.out.own o6)
  clear h6 o6
  go_wp2_with fail
  refine (ycommit_v H6.out 1 ex_5 rfl).mono ?_
  rintro e w7 ⟨An, cn, R7, rfl, h7, o7, hn⟩
  have H7 := Lib.hid h7
  have HL7 := Lib.hid (HL6.out.own o7)
  have HN := Lib.hid hn
  clear h7 o7 hn
  go_wp2_with fail
  refine (yorder_v H7.out 1 ex_o5 rfl).mono ?_
  rintro e w8 ⟨Ak, ck, rfl, hk, hs8⟩
  have H8 := Lib.hid (H7.out.same hs8)
  have HL8 := Lib.hid (HL7.out.same hs8)
  have HN8 := Lib.hid (HN.out.same hs8)
  obtain ⟨gl, rfl, hgl⟩ := HL8.out.1 (by decide)
  have l0 := (hgl 0 _ rfl).1
  obtain ⟨gk, rfl, hgk⟩ := hk.1 (by decide)
  have k1 := (hgk 1 _ rfl).1
  simp only [Nat.zero_mul, Nat.one_mul] at l0 k1
  have HK := Lib.hid hk
  clear hk hs8 hgl hgk
  go_wp2_with fail
  refine (lints_ok An _ 2 2 cn 2 [1, 2] [1, 2] _ ((HN8.out.same ((Chg.refl _ w8).alloc _)).1) (ints_lit2 w8 1 2) (by omega) (by omega)).mono ?_
  rintro e w9 ⟨rfl, hs9⟩
  have hs89 : Same w8 w9 := ((Chg.refl (fun _ => False) w8).alloc _).trans hs9
  have H9 := Lib.hid (H8.out.same hs89)
  have k19 := hs89.cell k1 (fun q => q)
  clear hs9 hs89 l0 k1
  go_wp2_with fail
  refine (ysetpos_v H9.out 2 3 4 ex_6).mono ?_
  rintro e w10 ⟨rfl, R10, h10, _⟩
  have H10 := Lib.hid h10
  clear h10 k19
  go_wp2_with fail
  refine (yplace_v H10.out 2 1 false ex_7).mono ?_
  rintro e w11 ⟨rfl, R11, h11, _⟩
  have H11 := Lib.hid h11
  clear h11
  go_wp2_with fail
  refine (yattach_v H11.out 1 2 ex_a).mono ?_
  rintro e w12 ⟨rfl, R12, h12, _⟩
  have H12 := Lib.hid h12
  clear h12
  go_wp2_with fail
  refine (ycommit_v H12.out 1 ex_8 rfl).mono ?_
  rintro e w13 ⟨A3, c3, R13, rfl, h13, o13, hn13⟩
  have H13 := Lib.hid h13
  have HN13 := Lib.hid hn13
  clear h13 o13 hn13
  go_wp2_with fail
  refine (yorder_v H13.out 1 ex_o8 rfl).mono ?_
  rintro e w14 ⟨A4, c4, rfl, h4, hs14⟩
  have HS14 := Lib.hid (H13.out.same hs14)
  have HN14 := Lib.hid (HN13.out.same hs14)
  obtain ⟨g4, rfl, hg4⟩ := h4.1 (by decide)
  have a0 := hg4 0 _ rfl
  have a1 := hg4 1 _ rfl
  simp only [Nat.zero_mul, Nat.one_mul, Nat.zero_add] at a0 a1
  obtain ⟨a00, a01, a02⟩ := a0
  obtain ⟨a10, a11, a12⟩ := a1
  clear hs14 hg4 h4
  go_wp2_with fail
  refine (lints_ok A3 _ 1 1 c3 1 [1] [1] _ ((HN14.out.same ((Chg.refl _ w14).alloc _)).1) (ints_lit1 w14 1) (by omega) (by omega)).mono ?_
  rintro e w15 ⟨rfl, hs15⟩
  have hs145 : Same w14 w15 := ((Chg.refl (fun _ => False) w14).alloc _).trans hs15
  have b00 := hs145.cell a00 (fun q => q)
  have b01 := hs145.cell a01 (fun q => q)
  have b02 := hs145.cell a02 (fun q => q)
  have b10 := hs145.cell a10 (fun q => q)
  have b11 := hs145.cell a11 (fun q => q)
  have b12 := hs145.cell a12 (fun q => q)
  have HS15 := Lib.hid (HS14.out.s0.trans hs145)
  clear a00 a01 a02 a10 a11 a12 hs15 hs145
  go_wp2
  go_ret
  exact ⟨rfl, HS15.out⟩
end Go.Proofs.Ytehcfeibfpgamaa
