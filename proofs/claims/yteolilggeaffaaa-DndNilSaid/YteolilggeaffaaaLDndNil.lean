/- The walk of DndNil: for all arguments it returns true and leaves what was there as it was. -/
import Derived.Test.YteolilggeaffaaaCallU43
import Derived.WalkMore
import Derived.Deep.LoopGhost
set_option linter.unusedVariables false
set_option linter.unusedSimpArgs false
set_option maxRecDepth 100000
namespace Go.Proofs.Yteolilggeaffaaa
open Go.RowKit

theorem op_cells {w : World} {g : Nat} {a0 a1 a2 a3 a4 a5 a6 a7 a8 a9 a10 a11 : Value} {T : TypeId} (h : w.heap[g]? = some (.cells #[a0, a1, a2, a3, a4, a5, a6, a7, a8, a9, a10, a11] T (0, 0))) :
    w.cell? ⟨g, 0, none⟩ = some a0 ∧ w.cell? ⟨g, 1, none⟩ = some a1 ∧ w.cell? ⟨g, 2, none⟩ = some a2 ∧ w.cell? ⟨g, 3, none⟩ = some a3 ∧ w.cell? ⟨g, 4, none⟩ = some a4 ∧ w.cell? ⟨g, 5, none⟩ = some a5 ∧ w.cell? ⟨g, 6, none⟩ = some a6 ∧ w.cell? ⟨g, 7, none⟩ = some a7 ∧ w.cell? ⟨g, 8, none⟩ = some a8 ∧ w.cell? ⟨g, 9, none⟩ = some a9 ∧ w.cell? ⟨g, 10, none⟩ = some a10 ∧ w.cell? ⟨g, 11, none⟩ = some a11 := by
  have e := fun i => cell_at (C := [a0, a1, a2, a3, a4, a5, a6, a7, a8, a9, a10, a11]) h i
  exact ⟨e 0, e 1, e 2, e 3, e 4, e 5, e 6, e 7, e 8, e 9, e 10, e 11⟩
/-- An op's block and one more, in a row. -/
theorem dops_at (w : World) (kind client surface nn other px py tm back acts : Int) (fo : ByteArray) (A : Option Addr) (len cap : Nat) (fs : List ByteArray) (h : DOp.ok w ⟨kind, client, surface, nn, other, px, py, tm, back, fo, ⟨A, len, cap, fs, acts⟩⟩) (g : Nat) (hg : w.heap.size = g) :
    DOpsAt (w.alloc (.cells #[.int .i64 kind, .int .i64 client, .int .i64 surface, .int .i64 nn, .int .i64 other, .int .i64 px, .int .i64 py, .int .i64 tm, .int .u32 back, .string fo, .slice A len cap, .int .i64 acts] 67)) (some ⟨g, 0, none⟩) 1 [⟨kind, client, surface, nn, other, px, py, tm, back, fo, ⟨A, len, cap, fs, acts⟩⟩] := by
  subst hg
  exact dops_one _ h
set_option maxHeartbeats 8000000 in
theorem DndNil_walk (x : DOp) (w : World) (h : x.ok w) :
    Calls Try.prog 9 #[.agg x.cells.toArray] w fun e w' => e = .returned (.bool true) ∧ Same w w' := by
  obtain ⟨kind, client, surface, nn, other, px, py, tm, back, fo, ⟨A, len, cap, fs, acts⟩⟩ := x
  have HX := Lib.hid h
  clear h
  show Calls Try.prog 9 #[.agg #[.int .i64 kind, .int .i64 client, .int .i64 surface, .int .i64 nn, .int .i64 other, .int .i64 px, .int .i64 py, .int .i64 tm, .int .u32 back, .string fo, .slice A len cap, .int .i64 acts]] w _
  have HW := Lib.hid ((Chg.refl (fun _ => False) w).alloc (.cells #[.int .i64 kind, .int .i64 client, .int .i64 surface, .int .i64 nn, .int .i64 other, .int .i64 px, .int .i64 py, .int .i64 tm, .int .u32 back, .string fo, .slice A len cap, .int .i64 acts] 67))
  have HROW := Lib.hid (dops_at _ kind client surface nn other px py tm back acts fo A len cap fs (HX.out.same HW.out) (w.heap.size + 1) (by simp))
  go_enter Try.func9, Try.ntmps9
  go_wp2_with fail
  refine (light43_ok _ 1 1 _ _ HROW.out).mono ?_
  rintro e w1 ⟨v, rfl, rfl, _⟩
  cases v
  · go_wp2_with fail
    refine (example43_ok _).mono ?_
    rintro e w9 ⟨rfl, hs⟩
    have HS9 := Lib.hid hs
    clear hs
    go_wp2
    go_ret
    exact ⟨rfl, (HW.out.alloc _).trans HS9.out⟩
  · go_upto_region 5 with (fail)
    have HW5 := Lib.hid ((((HW.out.alloc (.cells #[.int .i64 kind, .int .i64 client, .int .i64 surface, .int .i64 nn, .int .i64 other, .int .i64 px, .int .i64 py, .int .i64 tm, .int .u32 back, .string fo, .slice A len cap, .int .i64 acts] 67)).alloc (.cells #[.nilIface, .int .i64 0, .slice none 0 0, .int .i64 0, .int .i64 0, .int .i64 0, .string ⟨#[]⟩, .int .i64 0, .int .i64 0, .int .i64 0, .bool false, .int .i64 0, .slice none 0 0] 84)).alloc (.cells #[.pointer none, .pointer (some ⟨w.heap.size + 1 + 1, 0, none⟩)] 32)))
    have hb0 := (((Chg.refl (fun _ => False) _).alloc (.cells #[.int .i64 kind, .int .i64 client, .int .i64 surface, .int .i64 nn, .int .i64 other, .int .i64 px, .int .i64 py, .int .i64 tm, .int .u32 back, .string fo, .slice A len cap, .int .i64 acts] 67)).alloc (.cells #[.nilIface, .int .i64 0, .slice none 0 0, .int .i64 0, .int .i64 0, .int .i64 0, .string ⟨#[]⟩, .int .i64 0, .int .i64 0, .int .i64 0, .bool false, .int .i64 0, .slice none 0 0] 84)).alloc (.cells #[.pointer none, .pointer (some ⟨w.heap.size + 1 + 1, 0, none⟩)] 32) |>.at_ (at_new w (.cells #[.int .i64 kind, .int .i64 client, .int .i64 surface, .int .i64 nn, .int .i64 other, .int .i64 px, .int .i64 py, .int .i64 tm, .int .u32 back, .string fo, .slice A len cap, .int .i64 acts] 67)) (fun q => q)
    have hb2 := ((Chg.refl (fun _ => False) _).alloc (.cells #[.pointer none, .pointer (some ⟨w.heap.size + 1 + 1, 0, none⟩)] 32)) |>.at_ (at_new ((w.alloc (.cells #[.int .i64 kind, .int .i64 client, .int .i64 surface, .int .i64 nn, .int .i64 other, .int .i64 px, .int .i64 py, .int .i64 tm, .int .u32 back, .string fo, .slice A len cap, .int .i64 acts] 67)).alloc (.cells #[.int .i64 kind, .int .i64 client, .int .i64 surface, .int .i64 nn, .int .i64 other, .int .i64 px, .int .i64 py, .int .i64 tm, .int .u32 back, .string fo, .slice A len cap, .int .i64 acts] 67)) (.cells #[.nilIface, .int .i64 0, .slice none 0 0, .int .i64 0, .int .i64 0, .int .i64 0, .string ⟨#[]⟩, .int .i64 0, .int .i64 0, .int .i64 0, .bool false, .int .i64 0, .slice none 0 0] 84)) (fun q => q)
    have hb3 := at_new (((w.alloc (.cells #[.int .i64 kind, .int .i64 client, .int .i64 surface, .int .i64 nn, .int .i64 other, .int .i64 px, .int .i64 py, .int .i64 tm, .int .u32 back, .string fo, .slice A len cap, .int .i64 acts] 67)).alloc (.cells #[.int .i64 kind, .int .i64 client, .int .i64 surface, .int .i64 nn, .int .i64 other, .int .i64 px, .int .i64 py, .int .i64 tm, .int .u32 back, .string fo, .slice A len cap, .int .i64 acts] 67)).alloc (.cells #[.nilIface, .int .i64 0, .slice none 0 0, .int .i64 0, .int .i64 0, .int .i64 0, .string ⟨#[]⟩, .int .i64 0, .int .i64 0, .int .i64 0, .bool false, .int .i64 0, .slice none 0 0] 84)) (.cells #[.pointer none, .pointer (some ⟨w.heap.size + 1 + 1, 0, none⟩)] 32)
    have hz2 : ((w.alloc (.cells #[.int .i64 kind, .int .i64 client, .int .i64 surface, .int .i64 nn, .int .i64 other, .int .i64 px, .int .i64 py, .int .i64 tm, .int .u32 back, .string fo, .slice A len cap, .int .i64 acts] 67)).alloc (.cells #[.int .i64 kind, .int .i64 client, .int .i64 surface, .int .i64 nn, .int .i64 other, .int .i64 px, .int .i64 py, .int .i64 tm, .int .u32 back, .string fo, .slice A len cap, .int .i64 acts] 67)).heap.size = w.heap.size + 1 + 1 := by simp
    have hz3 : (((w.alloc (.cells #[.int .i64 kind, .int .i64 client, .int .i64 surface, .int .i64 nn, .int .i64 other, .int .i64 px, .int .i64 py, .int .i64 tm, .int .u32 back, .string fo, .slice A len cap, .int .i64 acts] 67)).alloc (.cells #[.int .i64 kind, .int .i64 client, .int .i64 surface, .int .i64 nn, .int .i64 other, .int .i64 px, .int .i64 py, .int .i64 tm, .int .u32 back, .string fo, .slice A len cap, .int .i64 acts] 67)).alloc (.cells #[.nilIface, .int .i64 0, .slice none 0 0, .int .i64 0, .int .i64 0, .int .i64 0, .string ⟨#[]⟩, .int .i64 0, .int .i64 0, .int .i64 0, .bool false, .int .i64 0, .slice none 0 0] 84)).heap.size = w.heap.size + 1 + 1 + 1 := by simp
    rw [hz2] at hb2
    rw [hz3] at hb3
    generalize ((((w.alloc (.cells #[.int .i64 kind, .int .i64 client, .int .i64 surface, .int .i64 nn, .int .i64 other, .int .i64 px, .int .i64 py, .int .i64 tm, .int .u32 back, .string fo, .slice A len cap, .int .i64 acts] 67)).alloc (.cells #[.int .i64 kind, .int .i64 client, .int .i64 surface, .int .i64 nn, .int .i64 other, .int .i64 px, .int .i64 py, .int .i64 tm, .int .u32 back, .string fo, .slice A len cap, .int .i64 acts] 67)).alloc (.cells #[.nilIface, .int .i64 0, .slice none 0 0, .int .i64 0, .int .i64 0, .int .i64 0, .string ⟨#[]⟩, .int .i64 0, .int .i64 0, .int .i64 0, .bool false, .int .i64 0, .slice none 0 0] 84)).alloc (.cells #[.pointer none, .pointer (some ⟨w.heap.size + 1 + 1, 0, none⟩)] 32)) = w5 at *
    have HB0 := Lib.hid hb0
    have HB2 := Lib.hid hb2
    have HB3 := Lib.hid hb3
    clear hb0 hb2 hb3 hz2 hz3 HROW
    go_wp2
    go_loopw [5] (fun v5 wr => ∃ i : Nat, i ≤ 2 ∧ v5 = .int .i64 i ∧ Same w5 wr) (fun v5 _ => 2 - (intOf v5).toNat)
    case atStart => exact ⟨0, by omega, rfl, Chg.refl _ _⟩
    case round =>
      rename World => wo
      obtain ⟨i, hi, rfl, hs⟩ := hrel
      have HS := Lib.hid hs
      clear hs
      by_cases hlt : i < 2
      · have hii : (i : Int) < 2 := by omega
        obtain ⟨pa, hdv, hnm⟩ : ∃ pa, wo.cell? ⟨w.heap.size + 1 + 1 + 1, i, none⟩ = some (.pointer pa) ∧ NoMade (.pointer pa) wo := by
          have h3 := HS.out.at_ HB3.out (fun q => q)
          have h2 := HS.out.at_ HB2.out (fun q => q)
          have hi2 : i = 0 ∨ i = 1 := by omega
          rcases hi2 with rfl | rfl
          · exact ⟨none, cell_at (C := [.pointer none, .pointer (some ⟨w.heap.size + 1 + 1, 0, none⟩)]) h3 0, fun w' _ => dmade_nil w'⟩
          · exact ⟨some ⟨w.heap.size + 1 + 1, 0, none⟩, cell_at (C := [.pointer none, .pointer (some ⟨w.heap.size + 1 + 1, 0, none⟩)]) h3 1, fun w' k => dmade_no _ w' (k.cell (cell_at (C := [.nilIface, .int .i64 0, .slice none 0 0, .int .i64 0, .int .i64 0, .int .i64 0, .string ⟨#[]⟩, .int .i64 0, .int .i64 0, .int .i64 0, .bool false, .int .i64 0, .slice none 0 0]) h2 0) (fun q => q))⟩
        have HNM := Lib.hid hnm
        have hl3 : w.heap.size + 1 + 1 + 1 < wo.heap.size := lt_of_at (HS.out.at_ HB3.out (fun q => q))
        clear hnm
        go_upto_region 9 with (fail)
        have hsb := at_new wo (.cells #[.pointer none, .pointer pa, .int .u32 0, .slice none 0 0] 36)
        have hq := (Chg.refl (fun _ => False) wo).alloc (.cells #[.pointer none, .pointer pa, .int .u32 0, .slice none 0 0] 36)
        generalize wo.alloc (.cells #[.pointer none, .pointer pa, .int .u32 0, .slice none 0 0] 36) = wq at *
        have HSB := Lib.hid hsb
        have HQ := Lib.hid hq
        have HBQ := Lib.hid ((HS.out.trans hq).at_ HB0.out (fun q => q))
        have HDV := Lib.hid (hq.cell hdv (fun q => q))
        have hsl := lt_of_at hsb
        clear hsb hq hdv hl3
        go_wp2
        go_loopw [7] (fun v7 wr => ∃ k : Nat, 1 ≤ k ∧ k ≤ 9 ∧ v7 = .int .i64 k ∧ Same wq wr) (fun v7 _ => 9 - (intOf v7).toNat)
        case atStart => exact ⟨1, by omega, by omega, rfl, Chg.refl _ _⟩
        case round =>
        obtain ⟨k, hk1, hk9, rfl, hk⟩ := hrel
        have HK := Lib.hid hk
        clear hk
        by_cases hk8 : k ≤ 8
        · have hkk : k = 1 ∨ k = 2 ∨ k = 3 ∨ k = 4 ∨ k = 5 ∨ k = 6 ∨ k = 7 ∨ k = 8 := by omega
          clear hk8 hk1 hk9
          rcases hkk with rfl | rfl | rfl | rfl | rfl | rfl | rfl | rfl
          · have hop := op_cells (HK.out.at_ HBQ.out (fun q => q))
            obtain ⟨b0, b1, b2, b3, b4, b5, b6, b7, b8, b9, b10, b11⟩ := hop
            have hlb : w.heap.size < wr.heap.size := lt_of_at (HK.out.at_ HBQ.out (fun q => q))
            go_wp2_with fail
            refine (call_un1 (dv := .pointer pa) client surface nn other px py tm back acts fo A len cap (HNM.out.keep ((HQ.out.trans HK.out).alloc _)) ((HK.out.alloc _).at_ HSB.out (fun q => q))).mono ?_
            rintro e wl ⟨rfl, hs⟩
            have HK2 := Lib.hid ((HK.out.alloc _).trans hs)
            clear hs b0 b1 b2 b3 b4 b5 b6 b7 b8 b9 b10 b11
            go_wp2
            go_roundw
            case rel => exact ⟨2, by omega, by omega, rfl, HK2.out.alloc _⟩
            case measure => simp [intOf]
          · have hop := op_cells (HK.out.at_ HBQ.out (fun q => q))
            obtain ⟨b0, b1, b2, b3, b4, b5, b6, b7, b8, b9, b10, b11⟩ := hop
            have hlb : w.heap.size < wr.heap.size := lt_of_at (HK.out.at_ HBQ.out (fun q => q))
            go_wp2_with fail
            refine (call_un2 (dv := .pointer pa) client surface nn other px py tm back acts fo A len cap (HNM.out.keep ((HQ.out.trans HK.out).alloc _)) ((HK.out.alloc _).at_ HSB.out (fun q => q))).mono ?_
            rintro e wl ⟨rfl, hs⟩
            have HK2 := Lib.hid ((HK.out.alloc _).trans hs)
            clear hs b0 b1 b2 b3 b4 b5 b6 b7 b8 b9 b10 b11
            go_wp2
            go_roundw
            case rel => exact ⟨3, by omega, by omega, rfl, HK2.out.alloc _⟩
            case measure => simp [intOf]
          · have hop := op_cells (HK.out.at_ HBQ.out (fun q => q))
            obtain ⟨b0, b1, b2, b3, b4, b5, b6, b7, b8, b9, b10, b11⟩ := hop
            have hlb : w.heap.size < wr.heap.size := lt_of_at (HK.out.at_ HBQ.out (fun q => q))
            go_wp2_with fail
            refine (call_un3 (dv := .pointer pa) client surface nn other px py tm back acts fo A len cap (HNM.out.keep ((HQ.out.trans HK.out).alloc _)) ((HK.out.alloc _).at_ HSB.out (fun q => q))).mono ?_
            rintro e wl ⟨rfl, hs⟩
            have HK2 := Lib.hid ((HK.out.alloc _).trans hs)
            clear hs b0 b1 b2 b3 b4 b5 b6 b7 b8 b9 b10 b11
            go_wp2
            go_roundw
            case rel => exact ⟨4, by omega, by omega, rfl, HK2.out.alloc _⟩
            case measure => simp [intOf]
          · have hop := op_cells (HK.out.at_ HBQ.out (fun q => q))
            obtain ⟨b0, b1, b2, b3, b4, b5, b6, b7, b8, b9, b10, b11⟩ := hop
            have hlb : w.heap.size < wr.heap.size := lt_of_at (HK.out.at_ HBQ.out (fun q => q))
            go_wp2_with fail
            refine (call_un4 (dv := .pointer pa) client surface nn other px py tm back acts fo A len cap (HNM.out.keep ((HQ.out.trans HK.out).alloc _)) ((HK.out.alloc _).at_ HSB.out (fun q => q))).mono ?_
            rintro e wl ⟨rfl, hs⟩
            have HK2 := Lib.hid ((HK.out.alloc _).trans hs)
            clear hs b0 b1 b2 b3 b4 b5 b6 b7 b8 b9 b10 b11
            go_wp2
            go_roundw
            case rel => exact ⟨5, by omega, by omega, rfl, HK2.out.alloc _⟩
            case measure => simp [intOf]
          · have hop := op_cells (HK.out.at_ HBQ.out (fun q => q))
            obtain ⟨b0, b1, b2, b3, b4, b5, b6, b7, b8, b9, b10, b11⟩ := hop
            have hlb : w.heap.size < wr.heap.size := lt_of_at (HK.out.at_ HBQ.out (fun q => q))
            go_wp2_with fail
            refine (call_un5 (dv := .pointer pa) client surface nn other px py tm back acts fo A len cap (HNM.out.keep ((HQ.out.trans HK.out).alloc _)) ((HK.out.alloc _).at_ HSB.out (fun q => q))).mono ?_
            rintro e wl ⟨rfl, hs⟩
            have HK2 := Lib.hid ((HK.out.alloc _).trans hs)
            clear hs b0 b1 b2 b3 b4 b5 b6 b7 b8 b9 b10 b11
            go_wp2
            go_roundw
            case rel => exact ⟨6, by omega, by omega, rfl, HK2.out.alloc _⟩
            case measure => simp [intOf]
          · have hop := op_cells (HK.out.at_ HBQ.out (fun q => q))
            obtain ⟨b0, b1, b2, b3, b4, b5, b6, b7, b8, b9, b10, b11⟩ := hop
            have hlb : w.heap.size < wr.heap.size := lt_of_at (HK.out.at_ HBQ.out (fun q => q))
            go_wp2_with fail
            refine (call_un6 (dv := .pointer pa) client surface nn other px py tm back acts fo A len cap (HNM.out.keep ((HQ.out.trans HK.out).alloc _)) ((HK.out.alloc _).at_ HSB.out (fun q => q))).mono ?_
            rintro e wl ⟨rfl, hs⟩
            have HK2 := Lib.hid ((HK.out.alloc _).trans hs)
            clear hs b0 b1 b2 b3 b4 b5 b6 b7 b8 b9 b10 b11
            go_wp2
            go_roundw
            case rel => exact ⟨7, by omega, by omega, rfl, HK2.out.alloc _⟩
            case measure => simp [intOf]
          · have hop := op_cells (HK.out.at_ HBQ.out (fun q => q))
            obtain ⟨b0, b1, b2, b3, b4, b5, b6, b7, b8, b9, b10, b11⟩ := hop
            have hlb : w.heap.size < wr.heap.size := lt_of_at (HK.out.at_ HBQ.out (fun q => q))
            go_wp2_with fail
            refine (call_un7 (dv := .pointer pa) client surface nn other px py tm back acts fo A len cap (HNM.out.keep ((HQ.out.trans HK.out).alloc _)) ((HK.out.alloc _).at_ HSB.out (fun q => q))).mono ?_
            rintro e wl ⟨rfl, hs⟩
            have HK2 := Lib.hid ((HK.out.alloc _).trans hs)
            clear hs b0 b1 b2 b3 b4 b5 b6 b7 b8 b9 b10 b11
            go_wp2
            go_roundw
            case rel => exact ⟨8, by omega, by omega, rfl, HK2.out.alloc _⟩
            case measure => simp [intOf]
          · have hop := op_cells (HK.out.at_ HBQ.out (fun q => q))
            obtain ⟨b0, b1, b2, b3, b4, b5, b6, b7, b8, b9, b10, b11⟩ := hop
            have hlb : w.heap.size < wr.heap.size := lt_of_at (HK.out.at_ HBQ.out (fun q => q))
            go_wp2_with fail
            refine (call_un8 (dv := .pointer pa) client surface nn other px py tm back acts fo A len cap (HNM.out.keep ((HQ.out.trans HK.out).alloc _)) ((HK.out.alloc _).at_ HSB.out (fun q => q))).mono ?_
            rintro e wl ⟨rfl, hs⟩
            have HK2 := Lib.hid ((HK.out.alloc _).trans hs)
            clear hs b0 b1 b2 b3 b4 b5 b6 b7 b8 b9 b10 b11
            go_wp2
            go_roundw
            case rel => exact ⟨9, by omega, by omega, rfl, HK2.out.alloc _⟩
            case measure => simp [intOf]
        · have hkk : ¬ (k : Int) ≤ 8 := by omega
          have hdv := HK.out.cell HDV.out (fun q => q)
          have hl3 : w.heap.size + 1 + 1 + 1 < wr.heap.size := Nat.lt_of_lt_of_le (lt_of_at (HS.out.at_ HB3.out (fun q => q))) ((HQ.out.trans HK.out).size)
          go_wp2_with fail
          refine (dstate_no (.pointer pa) _ (HNM.out.keep (HQ.out.trans HK.out)).now).mono ?_
          rintro e wl ⟨rfl, rfl⟩
          go_wp2_with fail
          refine (daction_no (.pointer pa) _ (HNM.out.keep (HQ.out.trans HK.out)).now).mono ?_
          rintro e wl ⟨rfl, rfl⟩
          go_wp2
          go_roundw
          case rel => exact ⟨i + 1, by omega, by go_num, (HS.out.trans HQ.out).trans HK.out⟩
          case measure => simp [intOf]; omega
      · have hii : ¬ (i : Int) < 2 := by omega
        go_wp2_with fail
        refine (example43_ok _).mono ?_
        rintro e w9 ⟨rfl, hs⟩
        have HS9 := Lib.hid hs
        clear hs
        go_wp2
        go_ret
        exact ⟨rfl, (HW5.out.trans HS.out).trans HS9.out⟩
end Go.Proofs.Yteolilggeaffaaa
