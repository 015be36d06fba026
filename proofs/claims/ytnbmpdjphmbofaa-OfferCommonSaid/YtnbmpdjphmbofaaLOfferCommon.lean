/- The walk of OfferCommon: for all arguments it returns true and leaves what was there as it was. -/
import Derived.Test.YtnbmpdjphmbofaaLOfferChooses
import Derived.Test.YtnbmpdjphmbofaaComL40
import Derived.Test.YtnbmpdjphmbofaaTree
import Derived.Deep.CutRange
import Derived.Deep.DeepCutAuto
set_option linter.unusedVariables false
set_option linter.unusedSimpArgs false
set_option maxRecDepth 100000
namespace Go.Proofs.Ytnbmpdjphmbofaa
open Go.RowKit

theorem tree_next {P : Program} {ops : Array Oper} {Q : Exit → Act → World → Prop} {S : World → Prop} {last i : Nat} {t : PT} {a : Act} {w : World} (hS : i = last ∨ S w) (h : tree P ops Q S last t a w) : wpList P ops (Exit.then (fun a' w' => (i = last ∨ S w') ∧ tree P ops Q S last t a' w') Q) [] a w := ⟨hS, h⟩
/-- Four facts that stay, each in its own place; and one that holds for good. -/
structure Pr4 (wx w : World) (PA PB P1 P2 : World → Prop) (PN : Prop) : Prop where
  same : Same wx w
  a : ∀ w', Same w w' → PA w'
  b : ∀ w', Same w w' → PB w'
  c : ∀ w', Same w w' → P1 w'
  d : ∀ w', Same w w' → P2 w'
  ne : PN
def zoff : Obj := .cells [.slice none 0 0, .int .i64 0].toArray 29 (0, 0)
def zAt (wx : World) (g : Nat) (v : World) : Prop := v.heap[g]? = some zoff ∧ wx.heap.size ≤ g
section
variable {wx w w' : World} {PA PB P1 P2 : World → Prop} {PN : Prop}
theorem Pr4.step (h : Pr4 wx w PA PB P1 P2 PN) (k : Same w w') : Pr4 wx w' PA PB P1 P2 PN := ⟨h.same.trans k, fun v q => h.a v (k.trans q), fun v q => h.b v (k.trans q), fun v q => h.c v (k.trans q), fun v q => h.d v (k.trans q), h.ne⟩
theorem Pr4.allocA (h : Pr4 wx w PA PB P1 P2 PN) (hz : w.alloc zoff = w') : Pr4 wx w' (zAt wx w.heap.size) PB P1 P2 PN := by
  subst hz
  have k := (Chg.refl (fun _ => False) w).alloc zoff
  exact { h.step k with a := fun v q => ⟨q.at_ (at_new w _) (fun q => q), h.same.size⟩ }
theorem Pr4.allocB (h : Pr4 wx w PA PB P1 P2 PN) (hz : w.alloc zoff = w') : Pr4 wx w' PA (zAt wx w.heap.size) P1 P2 PN := by
  subst hz
  have k := (Chg.refl (fun _ => False) w).alloc zoff
  exact { h.step k with b := fun v q => ⟨q.at_ (at_new w _) (fun q => q), h.same.size⟩ }
theorem Pr4.allocA2 {g : Nat} (h : Pr4 wx w PA (zAt wx g) P1 P2 PN) (hz : w.alloc zoff = w') : Pr4 wx w' (zAt wx w.heap.size) (zAt wx g) P1 P2 (¬ w.heap.size = g ∧ ¬ g = w.heap.size) := by
  have h2 := h.allocA hz
  have hl := (Array.getElem?_eq_some_iff.1 (h.b w (Chg.refl _ _)).1).1
  exact { h2 with ne := by omega }
theorem Pr4.allocB2 {g : Nat} (h : Pr4 wx w (zAt wx g) PB P1 P2 PN) (hz : w.alloc zoff = w') : Pr4 wx w' (zAt wx g) (zAt wx w.heap.size) P1 P2 (¬ g = w.heap.size ∧ ¬ w.heap.size = g) := by
  have h2 := h.allocB hz
  have hl := (Array.getElem?_eq_some_iff.1 (h.a w (Chg.refl _ _)).1).1
  exact { h2 with ne := by omega }
theorem zoff_at {g : Nat} (h : w.heap[g]? = some zoff) : (w.cell? ⟨g, 0, none⟩ = some (.slice none 0 0) ∧ w.cell? ⟨g, 1, none⟩ = some (.int .i64 0)) ∧ (∀ i, w.frozen? ⟨g, i, none⟩ = false) ∧ g < w.heap.size :=
  ⟨⟨cell_at (C := [.slice none 0 0, .int .i64 0]) h 0, cell_at (C := [.slice none 0 0, .int .i64 0]) h 1⟩, frozen_at h, lt_of_at h⟩
variable {A B : Option Addr} {n cap m cb : Nat} {fs gs : List ByteArray} {aA aB : Int}
theorem oc_com1 (HA : SArg wx A n cap fs) (HW : SArg wx B m cb gs) (hn : n ≤ 40) (hm : m ≤ 40) (h : Pr4 wx w PA PB P1 P2 PN) :
    Calls Try.prog 24 #[.agg #[.slice A n cap, .int .i64 aA], .agg #[.slice B m cb, .int .i64 aB]] w fun e w' => ∃ A7 n7 c7, e = .returned (.agg #[.slice A7 n7 c7, .int .i64 (commonV aA aB)]) ∧ Pr4 wx w' PA PB (fun v => SArg v A7 n7 c7 (comV fs gs)) P2 PN := by
  refine (common_ok A n cap fs aA B m cb gs aB _ (HA.1.same h.same) hn (HW.1.same h.same) hm).mono ?_
  rintro e w' ⟨A7, n7, c7, rfl, hsg, hs⟩
  exact ⟨A7, n7, c7, rfl, { h.step hs with c := fun v q => ⟨hsg.1.same q, hsg.2⟩ }⟩
theorem oc_com2 (HA : SArg wx A n cap fs) (HW : SArg wx B m cb gs) (hn : n ≤ 40) (hm : m ≤ 40) (h : Pr4 wx w PA PB P1 P2 PN) :
    Calls Try.prog 24 #[.agg #[.slice B m cb, .int .i64 aB], .agg #[.slice A n cap, .int .i64 aA]] w fun e w' => ∃ A8 n8 c8, e = .returned (.agg #[.slice A8 n8 c8, .int .i64 (commonV aB aA)]) ∧ Pr4 wx w' PA PB P1 (fun v => SArg v A8 n8 c8 (comV gs fs)) PN := by
  refine (common_ok B m cb gs aB A n cap fs aA _ (HW.1.same h.same) hm (HA.1.same h.same) hn).mono ?_
  rintro e w' ⟨A8, n8, c8, rfl, hsg, hs⟩
  exact ⟨A8, n8, c8, rfl, { h.step hs with d := fun v q => ⟨hsg.1.same q, hsg.2⟩ }⟩
theorem zeroOff (w : World) : (zeroValue 29).run Try.prog w = .ok (.agg #[.slice none 0 0, .int .i64 0]) w := by kernel_rfl
theorem oc_half {ga : Nat} {v1 v2 : Value} (h : Pr4 wx w (zAt wx ga) PB P1 P2 PN) : Same wx ((w.setCell ⟨ga, 0, none⟩ v1).setCell ⟨ga, 1, none⟩ v2) :=
  h.same.then_ ((Chg.refl (fun x => x = ga) w).set2 ga 0 1 v1 v2 rfl) (fun i hi e => by have := (h.a w (Chg.refl _ _)).2; omega)
/-- What stands behind region 3. -/
structure OC3 (wx wy : World) (ga gb : Nat) (A7 : Option Addr) (n7 c7 : Nat) (a1 : Int) (A8 : Option Addr) (n8 c8 : Nat) (a2 : Int) (f1 f2 : List ByteArray) : Prop where
  same : Same wx wy
  ha : wy.heap[ga]? = some (.cells [.slice A7 n7 c7, .int .i64 a1].toArray 29 (0, 0))
  hb : wy.heap[gb]? = some (.cells [.slice A8 n8 c8, .int .i64 a2].toArray 29 (0, 0))
  s1 : SArg wy A7 n7 c7 f1
  s2 : SArg wy A8 n8 c8 f2
theorem zoff_ne {g n cap : Nat} {A : Option Addr} {f : List ByteArray} (h : w.heap[g]? = some zoff) (hs : SArg w A n cap f) : 0 < n → ∀ b o, A = some ⟨b, o, none⟩ → ¬ b = g := by
  intro hn b o hA e
  obtain ⟨b', o', hA', _, hc⟩ := hs.1.2 hn
  rw [hA] at hA'
  simp only [Option.some.injEq, Addr.mk.injEq, and_true] at hA'
  obtain ⟨rfl, rfl⟩ := hA'
  have hl := hs.1.1
  have hx := hc 0 _ (List.getElem?_eq_getElem (by omega))
  rw [e, cell_at (C := [.slice none 0 0, .int .i64 0]) h] at hx
  match o, hx with
  | 0, hx => simp at hx
  | 1, hx => simp at hx
  | k + 2, hx => simp at hx
theorem oc_cc {w : World} {A7 : Option Addr} {n7 c7 : Nat} {fs gs : List ByteArray} {aA aB : Int} (h : SArg w A7 n7 c7 (comV fs gs)) (hn : n7 ≤ 40) :
    Calls Try.prog 24 #[.agg #[.slice A7 n7 c7, .int .i64 (commonV aA aB)], .agg #[.slice A7 n7 c7, .int .i64 (commonV aA aB)]] w fun e w' => ∃ A9 n9 c9, e = .returned (.agg #[.slice A9 n9 c9, .int .i64 (commonV aA aB)]) ∧ SArg w' A9 n9 c9 (comV fs gs) ∧ Same w w' := by
  refine (common_ok A7 n7 c7 (comV fs gs) (commonV aA aB) A7 n7 c7 (comV fs gs) (commonV aA aB) w h.1 hn h.1 hn).mono ?_
  rintro e w' ⟨A9, n9, c9, rfl, hs, hk⟩
  rw [com_self] at hs
  rw [common_self]
  exact ⟨A9, n9, c9, rfl, hs, hk⟩
theorem oc_cb {w : World} {A7 B : Option Addr} {n7 c7 m cb : Nat} {fs gs : List ByteArray} {aA aB : Int} (h : SArg w A7 n7 c7 (comV fs gs)) (hn : n7 ≤ 40) (hb : SArg w B m cb gs) (hm : m ≤ 40) :
    Calls Try.prog 24 #[.agg #[.slice A7 n7 c7, .int .i64 (commonV aA aB)], .agg #[.slice B m cb, .int .i64 aB]] w fun e w' => ∃ A9 n9 c9, e = .returned (.agg #[.slice A9 n9 c9, .int .i64 (commonV aA aB)]) ∧ SArg w' A9 n9 c9 (comV fs gs) ∧ Same w w' := by
  refine (common_ok A7 n7 c7 (comV fs gs) (commonV aA aB) B m cb gs aB w h.1 hn hb.1 hm).mono ?_
  rintro e w' ⟨A9, n9, c9, rfl, hs, hk⟩
  rw [com_again] at hs
  rw [common_again]
  exact ⟨A9, n9, c9, rfl, hs, hk⟩
theorem oc_cells {v wy : World} {ga gb : Nat} {A7 A8 : Option Addr} {n7 c7 n8 c8 : Nat} {a1 a2 : Int} {f1 f2 : List ByteArray} (h : OC3 wx wy ga gb A7 n7 c7 a1 A8 n8 c8 a2 f1 f2) (k : Same wy v) :
    (v.cell? ⟨ga, 0, none⟩ = some (.slice A7 n7 c7) ∧ v.cell? ⟨ga, 1, none⟩ = some (.int .i64 a1)) ∧ (v.cell? ⟨gb, 0, none⟩ = some (.slice A8 n8 c8) ∧ v.cell? ⟨gb, 1, none⟩ = some (.int .i64 a2)) ∧ ga < v.heap.size ∧ gb < v.heap.size := by
  have ha := k.at_ h.ha (fun q => q)
  have hb := k.at_ h.hb (fun q => q)
  exact ⟨⟨cell_at ha 0, cell_at ha 1⟩, ⟨cell_at hb 0, cell_at hb 1⟩, lt_of_at ha, lt_of_at hb⟩
theorem oc_end {ga gb : Nat} {A7 A8 : Option Addr} {n7 c7 n8 c8 : Nat} {f1 f2 : List ByteArray} (a1 a2 : Int) (h : Pr4 wx w (zAt wx ga) (zAt wx gb) (fun v => SArg v A7 n7 c7 f1) (fun v => SArg v A8 n8 c8 f2) (¬ ga = gb ∧ ¬ gb = ga)) :
    OC3 wx ((((w.setCell ⟨ga, 0, none⟩ (.slice A7 n7 c7)).setCell ⟨ga, 1, none⟩ (.int .i64 a1)).setCell ⟨gb, 0, none⟩ (.slice A8 n8 c8)).setCell ⟨gb, 1, none⟩ (.int .i64 a2)) ga gb A7 n7 c7 a1 A8 n8 c8 a2 f1 f2 := by
  have ha := h.a w (Chg.refl _ _)
  have hb := h.b w (Chg.refl _ _)
  have h1 := h.c w (Chg.refl _ _)
  have h2 := h.d w (Chg.refl _ _)
  have k1 := (Chg.refl (fun x => x = ga) w).set2 ga 0 1 (.slice A7 n7 c7) (.int .i64 a1) rfl
  have k2 := (Chg.refl (fun x => x = gb) ((w.setCell ⟨ga, 0, none⟩ (.slice A7 n7 c7)).setCell ⟨ga, 1, none⟩ (.int .i64 a1))).set2 gb 0 1 (.slice A8 n8 c8) (.int .i64 a2) rfl
  refine ⟨(h.same.then_ k1 (fun i hi e => by have := ha.2; omega)).then_ k2 (fun i hi e => by have := hb.2; omega), ?_, ?_, ?_, ?_⟩
  · exact k2.at_ (at_setCell (C := [.slice A7 n7 c7, .int .i64 0]) (i := 1) _ (at_setCell (C := [.slice none 0 0, .int .i64 0]) (i := 0) _ ha.1)) (fun e => h.ne.1 e)
  · exact at_setCell (C := [.slice A8 n8 c8, .int .i64 0]) (i := 1) _ (at_setCell (C := [.slice none 0 0, .int .i64 0]) (i := 0) _ (k1.at_ hb.1 (fun e => h.ne.2 e)))
  · exact (h1.chg2 k1 (zoff_ne ha.1 h1)).chg2 k2 (zoff_ne hb.1 h1)
  · exact (h2.chg2 k1 (zoff_ne ha.1 h2)).chg2 k2 (zoff_ne hb.1 h2)
end
set_option maxRecDepth 100000 in
set_option maxHeartbeats 40000000 in
theorem commons_near (A : Option Addr) (n cap : Nat) (fs : List ByteArray) (aA : Int) (B : Option Addr) (m cb : Nat) (gs : List ByteArray) (aB : Int) (w : World) (h : SArg w A n cap fs) (hw : SArg w B m cb gs) (hb : lightB fs = true) (hb2 : lightB gs = true) :
    Calls Try.prog 9 #[.agg #[.slice A n cap, .int .i64 aA], .agg #[.slice B m cb, .int .i64 aB]] w fun e w' => e = .returned (.bool true) ∧ Same w w' := by
  have hs0 : Same w (twoW w A n cap aA B m cb aB) := ((Chg.refl (fun _ => False) w).alloc _).alloc _
  have HA : Hid (SArg (twoW w A n cap aA B m cb aB) A n cap fs) := Lib.hid ⟨h.1.same hs0, h.2⟩
  have HW : Hid (SArg (twoW w A n cap aA B m cb aB) B m cb gs) := Lib.hid ⟨hw.1.same hs0, hw.2⟩
  have HS0 := Lib.hid hs0
  have HC := Lib.hid (fun (w' : World) (h : Same (twoW w A n cap aA B m cb aB) w') => two_box h)
  have hn : n ≤ 40 := by have := (light_len hb).1; rw [h.1.1] at this; exact this
  have hm : m ≤ 40 := by have := (light_len hb2).1; rw [hw.1.1] at this; exact this
  have HB := Lib.hid hb
  have HB2 := Lib.hid hb2
  clear h hw hs0 hb hb2
  go_enter Try.func9, Try.ntmps9
  go_wp2_with fail
  refine (light_v _ A n cap fs _ HA.out HB.out).mono ?_
  rintro e w' ⟨rfl, rfl⟩
  have hbb := (HC.out _ (Chg.refl _ _)).2.1
  go_wp2_with fail
  refine (light_v _ B m cb gs _ HW.out HB2.out).mono ?_
  rintro e w' ⟨rfl, rfl⟩
  clear hbb
  go_upto_region 3 with (fail)
  generalize twoW w A n cap aA B m cb aB = wx at *
  go_cut [5, 6] from 21 to 31 (fun v5 v6 wy => ∃ ga gb A7 n7 c7 A8 n8 c8, v5 = .pointer (some ⟨ga, 0, none⟩) ∧ v6 = .pointer (some ⟨gb, 0, none⟩) ∧ OC3 wx wy ga gb A7 n7 c7 (commonV aA aB) A8 n8 c8 (commonV aB aA) (comV fs gs) (comV gs fs))
  case first =>
    have HS : Hid (Pr4 wx wx.drew (fun _ => True) (fun _ => True) (fun _ => True) (fun _ => True) True) := Lib.hid ⟨(Chg.refl (fun _ => False) wx).drew, fun _ _ => trivial, fun _ _ => trivial, fun _ _ => trivial, fun _ _ => trivial, trivial⟩
    refine region_tree (S := (fun w' => (w'.cell? ⟨w.heap.size, 0, none⟩ = some (.slice A n cap) ∧ w'.cell? ⟨w.heap.size, 1, none⟩ = some (.int .i64 aA) ∧ (loadVar 24 ⟨w.heap.size, 0, none⟩).run Try.prog w' = .ok (.agg #[.slice A n cap, .int .i64 aA]) w') ∧ w'.cell? ⟨w.heap.size + 1, 0, none⟩ = some (.slice B m cb) ∧ w'.cell? ⟨w.heap.size + 1, 1, none⟩ = some (.int .i64 aB) ∧ (loadVar 24 ⟨w.heap.size + 1, 0, none⟩).run Try.prog w' = .ok (.agg #[.slice B m cb, .int .i64 aB]) w')) 99 (.rd 0 (.rd 2 (.rd 5 (.rd 7 (.fork3 1 10 11 (.fork3 3 10 11 (.fork3 4 10 11 (.fork3 6 10 11 (.fork3 8 10 11 (.fork3 9 10 11 (.fork 10 11 (.one 11 (.one 12 (.one 13 .nil))) (.one 10 (.one 12 (.one 13 .nil)))) (.fork 9 11 (.one 11 (.one 12 (.one 13 .nil))) (.one 9 (.one 12 (.one 13 .nil)))) (.fork 9 10 (.one 10 (.one 12 (.one 13 .nil))) (.one 9 (.one 12 (.one 13 .nil))))) (.fork 8 11 (.fork 9 11 (.one 11 (.one 12 (.one 13 .nil))) (.one 9 (.one 12 (.one 13 .nil)))) (.one 8 (.one 9 (.one 12 (.one 13 .nil))))) (.fork 8 10 (.fork 9 10 (.one 10 (.one 12 (.one 13 .nil))) (.one 9 (.one 12 (.one 13 .nil)))) (.one 8 (.one 9 (.one 12 (.one 13 .nil)))))) (.fork 6 11 (.fork 8 11 (.fork 9 11 (.one 11 (.one 12 (.one 13 .nil))) (.one 9 (.one 12 (.one 13 .nil)))) (.one 8 (.one 9 (.one 12 (.one 13 .nil))))) (.one 6 (.one 8 (.one 9 (.one 12 (.one 13 .nil)))))) (.fork 6 10 (.fork 8 10 (.fork 9 10 (.one 10 (.one 12 (.one 13 .nil))) (.one 9 (.one 12 (.one 13 .nil)))) (.one 8 (.one 9 (.one 12 (.one 13 .nil))))) (.one 6 (.one 8 (.one 9 (.one 12 (.one 13 .nil))))))) (.fork 4 11 (.fork 6 11 (.fork 8 11 (.fork 9 11 (.one 11 (.one 12 (.one 13 .nil))) (.one 9 (.one 12 (.one 13 .nil)))) (.one 8 (.one 9 (.one 12 (.one 13 .nil))))) (.one 6 (.one 8 (.one 9 (.one 12 (.one 13 .nil)))))) (.one 4 (.one 6 (.one 8 (.one 9 (.one 12 (.one 13 .nil))))))) (.fork 4 10 (.fork 6 10 (.fork 8 10 (.fork 9 10 (.one 10 (.one 12 (.one 13 .nil))) (.one 9 (.one 12 (.one 13 .nil)))) (.one 8 (.one 9 (.one 12 (.one 13 .nil))))) (.one 6 (.one 8 (.one 9 (.one 12 (.one 13 .nil)))))) (.one 4 (.one 6 (.one 8 (.one 9 (.one 12 (.one 13 .nil)))))))) (.fork 3 11 (.fork 4 11 (.fork 6 11 (.fork 8 11 (.fork 9 11 (.one 11 (.one 12 (.one 13 .nil))) (.one 9 (.one 12 (.one 13 .nil)))) (.one 8 (.one 9 (.one 12 (.one 13 .nil))))) (.one 6 (.one 8 (.one 9 (.one 12 (.one 13 .nil)))))) (.one 4 (.one 6 (.one 8 (.one 9 (.one 12 (.one 13 .nil))))))) (.one 3 (.one 4 (.one 6 (.one 8 (.one 9 (.one 12 (.one 13 .nil)))))))) (.fork 3 10 (.fork 4 10 (.fork 6 10 (.fork 8 10 (.fork 9 10 (.one 10 (.one 12 (.one 13 .nil))) (.one 9 (.one 12 (.one 13 .nil)))) (.one 8 (.one 9 (.one 12 (.one 13 .nil))))) (.one 6 (.one 8 (.one 9 (.one 12 (.one 13 .nil)))))) (.one 4 (.one 6 (.one 8 (.one 9 (.one 12 (.one 13 .nil))))))) (.one 3 (.one 4 (.one 6 (.one 8 (.one 9 (.one 12 (.one 13 .nil))))))))) (.fork 1 11 (.fork 3 11 (.fork 4 11 (.fork 6 11 (.fork 8 11 (.fork 9 11 (.one 11 (.one 12 (.one 13 .nil))) (.one 9 (.one 12 (.one 13 .nil)))) (.one 8 (.one 9 (.one 12 (.one 13 .nil))))) (.one 6 (.one 8 (.one 9 (.one 12 (.one 13 .nil)))))) (.one 4 (.one 6 (.one 8 (.one 9 (.one 12 (.one 13 .nil))))))) (.one 3 (.one 4 (.one 6 (.one 8 (.one 9 (.one 12 (.one 13 .nil)))))))) (.one 1 (.one 3 (.one 4 (.one 6 (.one 8 (.one 9 (.one 12 (.one 13 .nil))))))))) (.fork 1 10 (.fork 3 10 (.fork 4 10 (.fork 6 10 (.fork 8 10 (.fork 9 10 (.one 10 (.one 12 (.one 13 .nil))) (.one 9 (.one 12 (.one 13 .nil)))) (.one 8 (.one 9 (.one 12 (.one 13 .nil))))) (.one 6 (.one 8 (.one 9 (.one 12 (.one 13 .nil)))))) (.one 4 (.one 6 (.one 8 (.one 9 (.one 12 (.one 13 .nil))))))) (.one 3 (.one 4 (.one 6 (.one 8 (.one 9 (.one 12 (.one 13 .nil)))))))) (.one 1 (.one 3 (.one 4 (.one 6 (.one 8 (.one 9 (.one 12 (.one 13 .nil)))))))))))))) (by kernel_rfl) (by kernel_rfl) (by kernel_rfl) (HC.out _ HS.out.same) ?_
    generalize World.drew wx = wd at *
    refine tree_read (i := 0) (v := ?v1) rfl (by rfl) (fun _ _ _ h => h) ?hy1 ?_
    case hy1 => ((intro w hSw; (try dsimp only at hSw); go_simp) <;> (try with_reducible rfl))
    try simp only [Act.put, List.setIfInBounds_toArray, List.set_cons_zero, List.set_cons_succ]
    refine tree_read (i := 2) (v := ?v2) rfl (by rfl) (fun _ _ _ h => h) ?hy2 ?_
    case hy2 => ((intro w hSw; (try dsimp only at hSw); go_simp) <;> (try with_reducible rfl))
    try simp only [Act.put, List.setIfInBounds_toArray, List.set_cons_zero, List.set_cons_succ]
    refine tree_read (i := 5) (v := ?v3) rfl (by rfl) (fun _ _ _ h => h) ?hy3 ?_
    case hy3 => ((intro w hSw; (try dsimp only at hSw); go_simp) <;> (try with_reducible rfl))
    try simp only [Act.put, List.setIfInBounds_toArray, List.set_cons_zero, List.set_cons_succ]
    refine tree_read (i := 7) (v := ?v4) rfl (by rfl) (fun _ _ _ h => h) ?hy4 ?_
    case hy4 => ((intro w hSw; (try dsimp only at hSw); go_simp) <;> (try with_reducible rfl))
    try simp only [Act.put, List.setIfInBounds_toArray, List.set_cons_zero, List.set_cons_succ]
    refine tree_fork3 (i := 1) (j := 10) (k := 11) rfl rfl rfl ?_ ?_ ?_
    · as_aux_lemma =>
      go_wp2_with (refine (prog_ok _ _ _ _ _).mono ?_; rintro e w1 ⟨rfl, hs⟩; have HS := Lib.hid (HS.out.step hs); clear hs)
      (first | refine ⟨.inr ?keep5, ?_⟩ | refine ⟨?keep5, ?_⟩)
      case keep5 => ((first | exact HC.out _ HS.out.same | exact HC.out _ (oc_half HS.out) | exact HC.out _ (oc_end _ _ HS.out).same))
      try simp only [Act.put, List.setIfInBounds_toArray, List.set_cons_zero, List.set_cons_succ]
      refine tree_fork3 (i := 3) (j := 10) (k := 11) rfl rfl rfl ?_ ?_ ?_
      · as_aux_lemma =>
        go_wp2_with (refine (prog_ok _ _ _ _ _).mono ?_; rintro e w1 ⟨rfl, hs⟩; have HS := Lib.hid (HS.out.step hs); clear hs)
        (first | refine ⟨.inr ?keep8, ?_⟩ | refine ⟨?keep8, ?_⟩)
        case keep8 => ((first | exact HC.out _ HS.out.same | exact HC.out _ (oc_half HS.out) | exact HC.out _ (oc_end _ _ HS.out).same))
        try simp only [Act.put, List.setIfInBounds_toArray, List.set_cons_zero, List.set_cons_succ]
        refine tree_fork3 (i := 4) (j := 10) (k := 11) rfl rfl rfl ?_ ?_ ?_
        · as_aux_lemma =>
          go_wp2_with (refine (oc_com1 HA.out HW.out hn hm HS.out).mono ?_; rintro e w1 ⟨A7, n7, c7, rfl, hs⟩; have HS := Lib.hid hs; clear hs)
          (first | refine ⟨.inr ?keep11, ?_⟩ | refine ⟨?keep11, ?_⟩)
          case keep11 => ((first | exact HC.out _ HS.out.same | exact HC.out _ (oc_half HS.out) | exact HC.out _ (oc_end _ _ HS.out).same))
          try simp only [Act.put, List.setIfInBounds_toArray, List.set_cons_zero, List.set_cons_succ]
          refine tree_fork3 (i := 6) (j := 10) (k := 11) rfl rfl rfl ?_ ?_ ?_
          · as_aux_lemma =>
            go_wp2_with (refine (prog_ok _ _ _ _ _).mono ?_; rintro e w1 ⟨rfl, hs⟩; have HS := Lib.hid (HS.out.step hs); clear hs)
            (first | refine ⟨.inr ?keep14, ?_⟩ | refine ⟨?keep14, ?_⟩)
            case keep14 => ((first | exact HC.out _ HS.out.same | exact HC.out _ (oc_half HS.out) | exact HC.out _ (oc_end _ _ HS.out).same))
            try simp only [Act.put, List.setIfInBounds_toArray, List.set_cons_zero, List.set_cons_succ]
            refine tree_fork3 (i := 8) (j := 10) (k := 11) rfl rfl rfl ?_ ?_ ?_
            · as_aux_lemma =>
              go_wp2_with (refine (prog_ok _ _ _ _ _).mono ?_; rintro e w1 ⟨rfl, hs⟩; have HS := Lib.hid (HS.out.step hs); clear hs)
              (first | refine ⟨.inr ?keep17, ?_⟩ | refine ⟨?keep17, ?_⟩)
              case keep17 => ((first | exact HC.out _ HS.out.same | exact HC.out _ (oc_half HS.out) | exact HC.out _ (oc_end _ _ HS.out).same))
              try simp only [Act.put, List.setIfInBounds_toArray, List.set_cons_zero, List.set_cons_succ]
              refine tree_fork3 (i := 9) (j := 10) (k := 11) rfl rfl rfl ?_ ?_ ?_
              · as_aux_lemma =>
                go_wp2_with (refine (oc_com2 HA.out HW.out hn hm HS.out).mono ?_; rintro e w1 ⟨A8, n8, c8, rfl, hs⟩; have HS := Lib.hid hs; clear hs)
                (first | refine ⟨.inr ?keep20, ?_⟩ | refine ⟨?keep20, ?_⟩)
                case keep20 => ((first | exact HC.out _ HS.out.same | exact HC.out _ (oc_half HS.out) | exact HC.out _ (oc_end _ _ HS.out).same))
                try simp only [Act.put, List.setIfInBounds_toArray, List.set_cons_zero, List.set_cons_succ]
                refine tree_fork (i := 10) (j := 11) rfl rfl ?_ ?_
                · refine wpl_alloc _ _ (zeroOff _) rfl ?_
                  generalize hz : World.alloc _ _ = wz at *
                  (first | have HS := Lib.hid (HS.out.allocA2 hz) | have HS := Lib.hid (HS.out.allocA hz))
                  clear hz
                  refine tree_next (.inr ?keep23) ?_
                  case keep23 => ((first | exact HC.out _ HS.out.same | exact HC.out _ (oc_half HS.out) | exact HC.out _ (oc_end _ _ HS.out).same))
                  try simp only [Act.put, List.setIfInBounds_toArray, List.set_cons_zero, List.set_cons_succ]
                  refine tree_one (i := 11) rfl ?_
                  refine wpl_alloc _ _ (zeroOff _) rfl ?_
                  generalize hz : World.alloc _ _ = wz at *
                  (first | have HS := Lib.hid (HS.out.allocB2 hz) | have HS := Lib.hid (HS.out.allocB hz))
                  clear hz
                  refine tree_next (.inr ?keep25) ?_
                  case keep25 => ((first | exact HC.out _ HS.out.same | exact HC.out _ (oc_half HS.out) | exact HC.out _ (oc_end _ _ HS.out).same))
                  try simp only [Act.put, List.setIfInBounds_toArray, List.set_cons_zero, List.set_cons_succ]
                  refine tree_one (i := 12) rfl ?_
                  obtain ⟨⟨x0, x1⟩, xf, xl⟩ := zoff_at (HS.out.a _ (Chg.refl _ _)).1
                  obtain ⟨⟨y0, y1⟩, yf, yl⟩ := zoff_at (HS.out.b _ (Chg.refl _ _)).1
                  obtain ⟨n1, n2⟩ := HS.out.ne
                  go_wp2_with (fail)
                  (first | refine ⟨.inr ?keep26, ?_⟩ | refine ⟨?keep26, ?_⟩)
                  case keep26 => ((first | exact HC.out _ HS.out.same | exact HC.out _ (oc_half HS.out) | exact HC.out _ (oc_end _ _ HS.out).same))
                  try simp only [Act.put, List.setIfInBounds_toArray, List.set_cons_zero, List.set_cons_succ]
                  refine tree_one (i := 13) rfl ?_
                  go_wp2_with (fail)
                  (first | refine ⟨.inr ?keep27, ?_⟩ | refine ⟨?keep27, ?_⟩)
                  case keep27 => ((first | exact HC.out _ HS.out.same | exact HC.out _ (oc_half HS.out) | exact HC.out _ (oc_end _ _ HS.out).same))
                  try simp only [Act.put, List.setIfInBounds_toArray, List.set_cons_zero, List.set_cons_succ]
                  refine tree_end ?_
                  go_wp2_with fail
                  go_meet
                  case rel => exact ⟨_, _, _, _, _, _, _, _, rfl, rfl, oc_end _ _ HS.out⟩
                · refine wpl_alloc _ _ (zeroOff _) rfl ?_
                  generalize hz : World.alloc _ _ = wz at *
                  (first | have HS := Lib.hid (HS.out.allocB2 hz) | have HS := Lib.hid (HS.out.allocB hz))
                  clear hz
                  refine tree_next (.inr ?keep27) ?_
                  case keep27 => ((first | exact HC.out _ HS.out.same | exact HC.out _ (oc_half HS.out) | exact HC.out _ (oc_end _ _ HS.out).same))
                  try simp only [Act.put, List.setIfInBounds_toArray, List.set_cons_zero, List.set_cons_succ]
                  refine tree_one (i := 10) rfl ?_
                  refine wpl_alloc _ _ (zeroOff _) rfl ?_
                  generalize hz : World.alloc _ _ = wz at *
                  (first | have HS := Lib.hid (HS.out.allocA2 hz) | have HS := Lib.hid (HS.out.allocA hz))
                  clear hz
                  refine tree_next (.inr ?keep28) ?_
                  case keep28 => ((first | exact HC.out _ HS.out.same | exact HC.out _ (oc_half HS.out) | exact HC.out _ (oc_end _ _ HS.out).same))
                  try simp only [Act.put, List.setIfInBounds_toArray, List.set_cons_zero, List.set_cons_succ]
                  refine tree_one (i := 12) rfl ?_
                  obtain ⟨⟨x0, x1⟩, xf, xl⟩ := zoff_at (HS.out.a _ (Chg.refl _ _)).1
                  obtain ⟨⟨y0, y1⟩, yf, yl⟩ := zoff_at (HS.out.b _ (Chg.refl _ _)).1
                  obtain ⟨n1, n2⟩ := HS.out.ne
                  go_wp2_with (fail)
                  (first | refine ⟨.inr ?keep29, ?_⟩ | refine ⟨?keep29, ?_⟩)
                  case keep29 => ((first | exact HC.out _ HS.out.same | exact HC.out _ (oc_half HS.out) | exact HC.out _ (oc_end _ _ HS.out).same))
                  try simp only [Act.put, List.setIfInBounds_toArray, List.set_cons_zero, List.set_cons_succ]
                  refine tree_one (i := 13) rfl ?_
                  go_wp2_with (fail)
                  (first | refine ⟨.inr ?keep30, ?_⟩ | refine ⟨?keep30, ?_⟩)
                  case keep30 => ((first | exact HC.out _ HS.out.same | exact HC.out _ (oc_half HS.out) | exact HC.out _ (oc_end _ _ HS.out).same))
                  try simp only [Act.put, List.setIfInBounds_toArray, List.set_cons_zero, List.set_cons_succ]
                  refine tree_end ?_
                  go_wp2_with fail
                  go_meet
                  case rel => exact ⟨_, _, _, _, _, _, _, _, rfl, rfl, oc_end _ _ HS.out⟩
              · as_aux_lemma =>
                refine wpl_alloc _ _ (zeroOff _) rfl ?_
                generalize hz : World.alloc _ _ = wz at *
                (first | have HS := Lib.hid (HS.out.allocA2 hz) | have HS := Lib.hid (HS.out.allocA hz))
                clear hz
                refine tree_next (.inr ?keep29) ?_
                case keep29 => ((first | exact HC.out _ HS.out.same | exact HC.out _ (oc_half HS.out) | exact HC.out _ (oc_end _ _ HS.out).same))
                try simp only [Act.put, List.setIfInBounds_toArray, List.set_cons_zero, List.set_cons_succ]
                refine tree_fork (i := 9) (j := 11) rfl rfl ?_ ?_
                · go_wp2_with (refine (oc_com2 HA.out HW.out hn hm HS.out).mono ?_; rintro e w1 ⟨A8, n8, c8, rfl, hs⟩; have HS := Lib.hid hs; clear hs)
                  (first | refine ⟨.inr ?keep31, ?_⟩ | refine ⟨?keep31, ?_⟩)
                  case keep31 => ((first | exact HC.out _ HS.out.same | exact HC.out _ (oc_half HS.out) | exact HC.out _ (oc_end _ _ HS.out).same))
                  try simp only [Act.put, List.setIfInBounds_toArray, List.set_cons_zero, List.set_cons_succ]
                  refine tree_one (i := 11) rfl ?_
                  refine wpl_alloc _ _ (zeroOff _) rfl ?_
                  generalize hz : World.alloc _ _ = wz at *
                  (first | have HS := Lib.hid (HS.out.allocB2 hz) | have HS := Lib.hid (HS.out.allocB hz))
                  clear hz
                  refine tree_next (.inr ?keep33) ?_
                  case keep33 => ((first | exact HC.out _ HS.out.same | exact HC.out _ (oc_half HS.out) | exact HC.out _ (oc_end _ _ HS.out).same))
                  try simp only [Act.put, List.setIfInBounds_toArray, List.set_cons_zero, List.set_cons_succ]
                  refine tree_one (i := 12) rfl ?_
                  obtain ⟨⟨x0, x1⟩, xf, xl⟩ := zoff_at (HS.out.a _ (Chg.refl _ _)).1
                  obtain ⟨⟨y0, y1⟩, yf, yl⟩ := zoff_at (HS.out.b _ (Chg.refl _ _)).1
                  obtain ⟨n1, n2⟩ := HS.out.ne
                  go_wp2_with (fail)
                  (first | refine ⟨.inr ?keep34, ?_⟩ | refine ⟨?keep34, ?_⟩)
                  case keep34 => ((first | exact HC.out _ HS.out.same | exact HC.out _ (oc_half HS.out) | exact HC.out _ (oc_end _ _ HS.out).same))
                  try simp only [Act.put, List.setIfInBounds_toArray, List.set_cons_zero, List.set_cons_succ]
                  refine tree_one (i := 13) rfl ?_
                  go_wp2_with (fail)
                  (first | refine ⟨.inr ?keep35, ?_⟩ | refine ⟨?keep35, ?_⟩)
                  case keep35 => ((first | exact HC.out _ HS.out.same | exact HC.out _ (oc_half HS.out) | exact HC.out _ (oc_end _ _ HS.out).same))
                  try simp only [Act.put, List.setIfInBounds_toArray, List.set_cons_zero, List.set_cons_succ]
                  refine tree_end ?_
                  go_wp2_with fail
                  go_meet
                  case rel => exact ⟨_, _, _, _, _, _, _, _, rfl, rfl, oc_end _ _ HS.out⟩
                · refine wpl_alloc _ _ (zeroOff _) rfl ?_
                  generalize hz : World.alloc _ _ = wz at *
                  (first | have HS := Lib.hid (HS.out.allocB2 hz) | have HS := Lib.hid (HS.out.allocB hz))
                  clear hz
                  refine tree_next (.inr ?keep35) ?_
                  case keep35 => ((first | exact HC.out _ HS.out.same | exact HC.out _ (oc_half HS.out) | exact HC.out _ (oc_end _ _ HS.out).same))
                  try simp only [Act.put, List.setIfInBounds_toArray, List.set_cons_zero, List.set_cons_succ]
                  refine tree_one (i := 9) rfl ?_
                  go_wp2_with (refine (oc_com2 HA.out HW.out hn hm HS.out).mono ?_; rintro e w1 ⟨A8, n8, c8, rfl, hs⟩; have HS := Lib.hid hs; clear hs)
                  (first | refine ⟨.inr ?keep36, ?_⟩ | refine ⟨?keep36, ?_⟩)
                  case keep36 => ((first | exact HC.out _ HS.out.same | exact HC.out _ (oc_half HS.out) | exact HC.out _ (oc_end _ _ HS.out).same))
                  try simp only [Act.put, List.setIfInBounds_toArray, List.set_cons_zero, List.set_cons_succ]
                  refine tree_one (i := 12) rfl ?_
                  obtain ⟨⟨x0, x1⟩, xf, xl⟩ := zoff_at (HS.out.a _ (Chg.refl _ _)).1
                  obtain ⟨⟨y0, y1⟩, yf, yl⟩ := zoff_at (HS.out.b _ (Chg.refl _ _)).1
                  obtain ⟨n1, n2⟩ := HS.out.ne
                  go_wp2_with (fail)
                  (first | refine ⟨.inr ?keep37, ?_⟩ | refine ⟨?keep37, ?_⟩)
                  case keep37 => ((first | exact HC.out _ HS.out.same | exact HC.out _ (oc_half HS.out) | exact HC.out _ (oc_end _ _ HS.out).same))
                  try simp only [Act.put, List.setIfInBounds_toArray, List.set_cons_zero, List.set_cons_succ]
                  refine tree_one (i := 13) rfl ?_
                  go_wp2_with (fail)
                  (first | refine ⟨.inr ?keep38, ?_⟩ | refine ⟨?keep38, ?_⟩)
                  case keep38 => ((first | exact HC.out _ HS.out.same | exact HC.out _ (oc_half HS.out) | exact HC.out _ (oc_end _ _ HS.out).same))
                  try simp only [Act.put, List.setIfInBounds_toArray, List.set_cons_zero, List.set_cons_succ]
                  refine tree_end ?_
                  go_wp2_with fail
                  go_meet
                  case rel => exact ⟨_, _, _, _, _, _, _, _, rfl, rfl, oc_end _ _ HS.out⟩
              · as_aux_lemma =>
                refine wpl_alloc _ _ (zeroOff _) rfl ?_
                generalize hz : World.alloc _ _ = wz at *
                (first | have HS := Lib.hid (HS.out.allocB2 hz) | have HS := Lib.hid (HS.out.allocB hz))
                clear hz
                refine tree_next (.inr ?keep38) ?_
                case keep38 => ((first | exact HC.out _ HS.out.same | exact HC.out _ (oc_half HS.out) | exact HC.out _ (oc_end _ _ HS.out).same))
                try simp only [Act.put, List.setIfInBounds_toArray, List.set_cons_zero, List.set_cons_succ]
                refine tree_fork (i := 9) (j := 10) rfl rfl ?_ ?_
                · go_wp2_with (refine (oc_com2 HA.out HW.out hn hm HS.out).mono ?_; rintro e w1 ⟨A8, n8, c8, rfl, hs⟩; have HS := Lib.hid hs; clear hs)
                  (first | refine ⟨.inr ?keep39, ?_⟩ | refine ⟨?keep39, ?_⟩)
                  case keep39 => ((first | exact HC.out _ HS.out.same | exact HC.out _ (oc_half HS.out) | exact HC.out _ (oc_end _ _ HS.out).same))
                  try simp only [Act.put, List.setIfInBounds_toArray, List.set_cons_zero, List.set_cons_succ]
                  refine tree_one (i := 10) rfl ?_
                  refine wpl_alloc _ _ (zeroOff _) rfl ?_
                  generalize hz : World.alloc _ _ = wz at *
                  (first | have HS := Lib.hid (HS.out.allocA2 hz) | have HS := Lib.hid (HS.out.allocA hz))
                  clear hz
                  refine tree_next (.inr ?keep41) ?_
                  case keep41 => ((first | exact HC.out _ HS.out.same | exact HC.out _ (oc_half HS.out) | exact HC.out _ (oc_end _ _ HS.out).same))
                  try simp only [Act.put, List.setIfInBounds_toArray, List.set_cons_zero, List.set_cons_succ]
                  refine tree_one (i := 12) rfl ?_
                  obtain ⟨⟨x0, x1⟩, xf, xl⟩ := zoff_at (HS.out.a _ (Chg.refl _ _)).1
                  obtain ⟨⟨y0, y1⟩, yf, yl⟩ := zoff_at (HS.out.b _ (Chg.refl _ _)).1
                  obtain ⟨n1, n2⟩ := HS.out.ne
                  go_wp2_with (fail)
                  (first | refine ⟨.inr ?keep42, ?_⟩ | refine ⟨?keep42, ?_⟩)
                  case keep42 => ((first | exact HC.out _ HS.out.same | exact HC.out _ (oc_half HS.out) | exact HC.out _ (oc_end _ _ HS.out).same))
                  try simp only [Act.put, List.setIfInBounds_toArray, List.set_cons_zero, List.set_cons_succ]
                  refine tree_one (i := 13) rfl ?_
                  go_wp2_with (fail)
                  (first | refine ⟨.inr ?keep43, ?_⟩ | refine ⟨?keep43, ?_⟩)
                  case keep43 => ((first | exact HC.out _ HS.out.same | exact HC.out _ (oc_half HS.out) | exact HC.out _ (oc_end _ _ HS.out).same))
                  try simp only [Act.put, List.setIfInBounds_toArray, List.set_cons_zero, List.set_cons_succ]
                  refine tree_end ?_
                  go_wp2_with fail
                  go_meet
                  case rel => exact ⟨_, _, _, _, _, _, _, _, rfl, rfl, oc_end _ _ HS.out⟩
                · refine wpl_alloc _ _ (zeroOff _) rfl ?_
                  generalize hz : World.alloc _ _ = wz at *
                  (first | have HS := Lib.hid (HS.out.allocA2 hz) | have HS := Lib.hid (HS.out.allocA hz))
                  clear hz
                  refine tree_next (.inr ?keep43) ?_
                  case keep43 => ((first | exact HC.out _ HS.out.same | exact HC.out _ (oc_half HS.out) | exact HC.out _ (oc_end _ _ HS.out).same))
                  try simp only [Act.put, List.setIfInBounds_toArray, List.set_cons_zero, List.set_cons_succ]
                  refine tree_one (i := 9) rfl ?_
                  go_wp2_with (refine (oc_com2 HA.out HW.out hn hm HS.out).mono ?_; rintro e w1 ⟨A8, n8, c8, rfl, hs⟩; have HS := Lib.hid hs; clear hs)
                  (first | refine ⟨.inr ?keep44, ?_⟩ | refine ⟨?keep44, ?_⟩)
                  case keep44 => ((first | exact HC.out _ HS.out.same | exact HC.out _ (oc_half HS.out) | exact HC.out _ (oc_end _ _ HS.out).same))
                  try simp only [Act.put, List.setIfInBounds_toArray, List.set_cons_zero, List.set_cons_succ]
                  refine tree_one (i := 12) rfl ?_
                  obtain ⟨⟨x0, x1⟩, xf, xl⟩ := zoff_at (HS.out.a _ (Chg.refl _ _)).1
                  obtain ⟨⟨y0, y1⟩, yf, yl⟩ := zoff_at (HS.out.b _ (Chg.refl _ _)).1
                  obtain ⟨n1, n2⟩ := HS.out.ne
                  go_wp2_with (fail)
                  (first | refine ⟨.inr ?keep45, ?_⟩ | refine ⟨?keep45, ?_⟩)
                  case keep45 => ((first | exact HC.out _ HS.out.same | exact HC.out _ (oc_half HS.out) | exact HC.out _ (oc_end _ _ HS.out).same))
                  try simp only [Act.put, List.setIfInBounds_toArray, List.set_cons_zero, List.set_cons_succ]
                  refine tree_one (i := 13) rfl ?_
                  go_wp2_with (fail)
                  (first | refine ⟨.inr ?keep46, ?_⟩ | refine ⟨?keep46, ?_⟩)
                  case keep46 => ((first | exact HC.out _ HS.out.same | exact HC.out _ (oc_half HS.out) | exact HC.out _ (oc_end _ _ HS.out).same))
                  try simp only [Act.put, List.setIfInBounds_toArray, List.set_cons_zero, List.set_cons_succ]
                  refine tree_end ?_
                  go_wp2_with fail
                  go_meet
                  case rel => exact ⟨_, _, _, _, _, _, _, _, rfl, rfl, oc_end _ _ HS.out⟩
            · as_aux_lemma =>
              refine wpl_alloc _ _ (zeroOff _) rfl ?_
              generalize hz : World.alloc _ _ = wz at *
              (first | have HS := Lib.hid (HS.out.allocA2 hz) | have HS := Lib.hid (HS.out.allocA hz))
              clear hz
              refine tree_next (.inr ?keep45) ?_
              case keep45 => ((first | exact HC.out _ HS.out.same | exact HC.out _ (oc_half HS.out) | exact HC.out _ (oc_end _ _ HS.out).same))
              try simp only [Act.put, List.setIfInBounds_toArray, List.set_cons_zero, List.set_cons_succ]
              refine tree_fork (i := 8) (j := 11) rfl rfl ?_ ?_
              · go_wp2_with (refine (prog_ok _ _ _ _ _).mono ?_; rintro e w1 ⟨rfl, hs⟩; have HS := Lib.hid (HS.out.step hs); clear hs)
                (first | refine ⟨.inr ?keep47, ?_⟩ | refine ⟨?keep47, ?_⟩)
                case keep47 => ((first | exact HC.out _ HS.out.same | exact HC.out _ (oc_half HS.out) | exact HC.out _ (oc_end _ _ HS.out).same))
                try simp only [Act.put, List.setIfInBounds_toArray, List.set_cons_zero, List.set_cons_succ]
                refine tree_fork (i := 9) (j := 11) rfl rfl ?_ ?_
                · go_wp2_with (refine (oc_com2 HA.out HW.out hn hm HS.out).mono ?_; rintro e w1 ⟨A8, n8, c8, rfl, hs⟩; have HS := Lib.hid hs; clear hs)
                  (first | refine ⟨.inr ?keep49, ?_⟩ | refine ⟨?keep49, ?_⟩)
                  case keep49 => ((first | exact HC.out _ HS.out.same | exact HC.out _ (oc_half HS.out) | exact HC.out _ (oc_end _ _ HS.out).same))
                  try simp only [Act.put, List.setIfInBounds_toArray, List.set_cons_zero, List.set_cons_succ]
                  refine tree_one (i := 11) rfl ?_
                  refine wpl_alloc _ _ (zeroOff _) rfl ?_
                  generalize hz : World.alloc _ _ = wz at *
                  (first | have HS := Lib.hid (HS.out.allocB2 hz) | have HS := Lib.hid (HS.out.allocB hz))
                  clear hz
                  refine tree_next (.inr ?keep51) ?_
                  case keep51 => ((first | exact HC.out _ HS.out.same | exact HC.out _ (oc_half HS.out) | exact HC.out _ (oc_end _ _ HS.out).same))
                  try simp only [Act.put, List.setIfInBounds_toArray, List.set_cons_zero, List.set_cons_succ]
                  refine tree_one (i := 12) rfl ?_
                  obtain ⟨⟨x0, x1⟩, xf, xl⟩ := zoff_at (HS.out.a _ (Chg.refl _ _)).1
                  obtain ⟨⟨y0, y1⟩, yf, yl⟩ := zoff_at (HS.out.b _ (Chg.refl _ _)).1
                  obtain ⟨n1, n2⟩ := HS.out.ne
                  go_wp2_with (fail)
                  (first | refine ⟨.inr ?keep52, ?_⟩ | refine ⟨?keep52, ?_⟩)
                  case keep52 => ((first | exact HC.out _ HS.out.same | exact HC.out _ (oc_half HS.out) | exact HC.out _ (oc_end _ _ HS.out).same))
                  try simp only [Act.put, List.setIfInBounds_toArray, List.set_cons_zero, List.set_cons_succ]
                  refine tree_one (i := 13) rfl ?_
                  go_wp2_with (fail)
                  (first | refine ⟨.inr ?keep53, ?_⟩ | refine ⟨?keep53, ?_⟩)
                  case keep53 => ((first | exact HC.out _ HS.out.same | exact HC.out _ (oc_half HS.out) | exact HC.out _ (oc_end _ _ HS.out).same))
                  try simp only [Act.put, List.setIfInBounds_toArray, List.set_cons_zero, List.set_cons_succ]
                  refine tree_end ?_
                  go_wp2_with fail
                  go_meet
                  case rel => exact ⟨_, _, _, _, _, _, _, _, rfl, rfl, oc_end _ _ HS.out⟩
                · refine wpl_alloc _ _ (zeroOff _) rfl ?_
                  generalize hz : World.alloc _ _ = wz at *
                  (first | have HS := Lib.hid (HS.out.allocB2 hz) | have HS := Lib.hid (HS.out.allocB hz))
                  clear hz
                  refine tree_next (.inr ?keep53) ?_
                  case keep53 => ((first | exact HC.out _ HS.out.same | exact HC.out _ (oc_half HS.out) | exact HC.out _ (oc_end _ _ HS.out).same))
                  try simp only [Act.put, List.setIfInBounds_toArray, List.set_cons_zero, List.set_cons_succ]
                  refine tree_one (i := 9) rfl ?_
                  go_wp2_with (refine (oc_com2 HA.out HW.out hn hm HS.out).mono ?_; rintro e w1 ⟨A8, n8, c8, rfl, hs⟩; have HS := Lib.hid hs; clear hs)
                  (first | refine ⟨.inr ?keep54, ?_⟩ | refine ⟨?keep54, ?_⟩)
                  case keep54 => ((first | exact HC.out _ HS.out.same | exact HC.out _ (oc_half HS.out) | exact HC.out _ (oc_end _ _ HS.out).same))
                  try simp only [Act.put, List.setIfInBounds_toArray, List.set_cons_zero, List.set_cons_succ]
                  refine tree_one (i := 12) rfl ?_
                  obtain ⟨⟨x0, x1⟩, xf, xl⟩ := zoff_at (HS.out.a _ (Chg.refl _ _)).1
                  obtain ⟨⟨y0, y1⟩, yf, yl⟩ := zoff_at (HS.out.b _ (Chg.refl _ _)).1
                  obtain ⟨n1, n2⟩ := HS.out.ne
                  go_wp2_with (fail)
                  (first | refine ⟨.inr ?keep55, ?_⟩ | refine ⟨?keep55, ?_⟩)
                  case keep55 => ((first | exact HC.out _ HS.out.same | exact HC.out _ (oc_half HS.out) | exact HC.out _ (oc_end _ _ HS.out).same))
                  try simp only [Act.put, List.setIfInBounds_toArray, List.set_cons_zero, List.set_cons_succ]
                  refine tree_one (i := 13) rfl ?_
                  go_wp2_with (fail)
                  (first | refine ⟨.inr ?keep56, ?_⟩ | refine ⟨?keep56, ?_⟩)
                  case keep56 => ((first | exact HC.out _ HS.out.same | exact HC.out _ (oc_half HS.out) | exact HC.out _ (oc_end _ _ HS.out).same))
                  try simp only [Act.put, List.setIfInBounds_toArray, List.set_cons_zero, List.set_cons_succ]
                  refine tree_end ?_
                  go_wp2_with fail
                  go_meet
                  case rel => exact ⟨_, _, _, _, _, _, _, _, rfl, rfl, oc_end _ _ HS.out⟩
              · refine wpl_alloc _ _ (zeroOff _) rfl ?_
                generalize hz : World.alloc _ _ = wz at *
                (first | have HS := Lib.hid (HS.out.allocB2 hz) | have HS := Lib.hid (HS.out.allocB hz))
                clear hz
                refine tree_next (.inr ?keep56) ?_
                case keep56 => ((first | exact HC.out _ HS.out.same | exact HC.out _ (oc_half HS.out) | exact HC.out _ (oc_end _ _ HS.out).same))
                try simp only [Act.put, List.setIfInBounds_toArray, List.set_cons_zero, List.set_cons_succ]
                refine tree_one (i := 8) rfl ?_
                go_wp2_with (refine (prog_ok _ _ _ _ _).mono ?_; rintro e w1 ⟨rfl, hs⟩; have HS := Lib.hid (HS.out.step hs); clear hs)
                (first | refine ⟨.inr ?keep57, ?_⟩ | refine ⟨?keep57, ?_⟩)
                case keep57 => ((first | exact HC.out _ HS.out.same | exact HC.out _ (oc_half HS.out) | exact HC.out _ (oc_end _ _ HS.out).same))
                try simp only [Act.put, List.setIfInBounds_toArray, List.set_cons_zero, List.set_cons_succ]
                refine tree_one (i := 9) rfl ?_
                go_wp2_with (refine (oc_com2 HA.out HW.out hn hm HS.out).mono ?_; rintro e w1 ⟨A8, n8, c8, rfl, hs⟩; have HS := Lib.hid hs; clear hs)
                (first | refine ⟨.inr ?keep58, ?_⟩ | refine ⟨?keep58, ?_⟩)
                case keep58 => ((first | exact HC.out _ HS.out.same | exact HC.out _ (oc_half HS.out) | exact HC.out _ (oc_end _ _ HS.out).same))
                try simp only [Act.put, List.setIfInBounds_toArray, List.set_cons_zero, List.set_cons_succ]
                refine tree_one (i := 12) rfl ?_
                obtain ⟨⟨x0, x1⟩, xf, xl⟩ := zoff_at (HS.out.a _ (Chg.refl _ _)).1
                obtain ⟨⟨y0, y1⟩, yf, yl⟩ := zoff_at (HS.out.b _ (Chg.refl _ _)).1
                obtain ⟨n1, n2⟩ := HS.out.ne
                go_wp2_with (fail)
                (first | refine ⟨.inr ?keep59, ?_⟩ | refine ⟨?keep59, ?_⟩)
                case keep59 => ((first | exact HC.out _ HS.out.same | exact HC.out _ (oc_half HS.out) | exact HC.out _ (oc_end _ _ HS.out).same))
                try simp only [Act.put, List.setIfInBounds_toArray, List.set_cons_zero, List.set_cons_succ]
                refine tree_one (i := 13) rfl ?_
                go_wp2_with (fail)
                (first | refine ⟨.inr ?keep60, ?_⟩ | refine ⟨?keep60, ?_⟩)
                case keep60 => ((first | exact HC.out _ HS.out.same | exact HC.out _ (oc_half HS.out) | exact HC.out _ (oc_end _ _ HS.out).same))
                try simp only [Act.put, List.setIfInBounds_toArray, List.set_cons_zero, List.set_cons_succ]
                refine tree_end ?_
                go_wp2_with fail
                go_meet
                case rel => exact ⟨_, _, _, _, _, _, _, _, rfl, rfl, oc_end _ _ HS.out⟩
            · as_aux_lemma =>
              refine wpl_alloc _ _ (zeroOff _) rfl ?_
              generalize hz : World.alloc _ _ = wz at *
              (first | have HS := Lib.hid (HS.out.allocB2 hz) | have HS := Lib.hid (HS.out.allocB hz))
              clear hz
              refine tree_next (.inr ?keep60) ?_
              case keep60 => ((first | exact HC.out _ HS.out.same | exact HC.out _ (oc_half HS.out) | exact HC.out _ (oc_end _ _ HS.out).same))
              try simp only [Act.put, List.setIfInBounds_toArray, List.set_cons_zero, List.set_cons_succ]
              refine tree_fork (i := 8) (j := 10) rfl rfl ?_ ?_
              · go_wp2_with (refine (prog_ok _ _ _ _ _).mono ?_; rintro e w1 ⟨rfl, hs⟩; have HS := Lib.hid (HS.out.step hs); clear hs)
                (first | refine ⟨.inr ?keep61, ?_⟩ | refine ⟨?keep61, ?_⟩)
                case keep61 => ((first | exact HC.out _ HS.out.same | exact HC.out _ (oc_half HS.out) | exact HC.out _ (oc_end _ _ HS.out).same))
                try simp only [Act.put, List.setIfInBounds_toArray, List.set_cons_zero, List.set_cons_succ]
                refine tree_fork (i := 9) (j := 10) rfl rfl ?_ ?_
                · go_wp2_with (refine (oc_com2 HA.out HW.out hn hm HS.out).mono ?_; rintro e w1 ⟨A8, n8, c8, rfl, hs⟩; have HS := Lib.hid hs; clear hs)
                  (first | refine ⟨.inr ?keep63, ?_⟩ | refine ⟨?keep63, ?_⟩)
                  case keep63 => ((first | exact HC.out _ HS.out.same | exact HC.out _ (oc_half HS.out) | exact HC.out _ (oc_end _ _ HS.out).same))
                  try simp only [Act.put, List.setIfInBounds_toArray, List.set_cons_zero, List.set_cons_succ]
                  refine tree_one (i := 10) rfl ?_
                  refine wpl_alloc _ _ (zeroOff _) rfl ?_
                  generalize hz : World.alloc _ _ = wz at *
                  (first | have HS := Lib.hid (HS.out.allocA2 hz) | have HS := Lib.hid (HS.out.allocA hz))
                  clear hz
                  refine tree_next (.inr ?keep65) ?_
                  case keep65 => ((first | exact HC.out _ HS.out.same | exact HC.out _ (oc_half HS.out) | exact HC.out _ (oc_end _ _ HS.out).same))
                  try simp only [Act.put, List.setIfInBounds_toArray, List.set_cons_zero, List.set_cons_succ]
                  refine tree_one (i := 12) rfl ?_
                  obtain ⟨⟨x0, x1⟩, xf, xl⟩ := zoff_at (HS.out.a _ (Chg.refl _ _)).1
                  obtain ⟨⟨y0, y1⟩, yf, yl⟩ := zoff_at (HS.out.b _ (Chg.refl _ _)).1
                  obtain ⟨n1, n2⟩ := HS.out.ne
                  go_wp2_with (fail)
                  (first | refine ⟨.inr ?keep66, ?_⟩ | refine ⟨?keep66, ?_⟩)
                  case keep66 => ((first | exact HC.out _ HS.out.same | exact HC.out _ (oc_half HS.out) | exact HC.out _ (oc_end _ _ HS.out).same))
                  try simp only [Act.put, List.setIfInBounds_toArray, List.set_cons_zero, List.set_cons_succ]
                  refine tree_one (i := 13) rfl ?_
                  go_wp2_with (fail)
                  (first | refine ⟨.inr ?keep67, ?_⟩ | refine ⟨?keep67, ?_⟩)
                  case keep67 => ((first | exact HC.out _ HS.out.same | exact HC.out _ (oc_half HS.out) | exact HC.out _ (oc_end _ _ HS.out).same))
                  try simp only [Act.put, List.setIfInBounds_toArray, List.set_cons_zero, List.set_cons_succ]
                  refine tree_end ?_
                  go_wp2_with fail
                  go_meet
                  case rel => exact ⟨_, _, _, _, _, _, _, _, rfl, rfl, oc_end _ _ HS.out⟩
                · refine wpl_alloc _ _ (zeroOff _) rfl ?_
                  generalize hz : World.alloc _ _ = wz at *
                  (first | have HS := Lib.hid (HS.out.allocA2 hz) | have HS := Lib.hid (HS.out.allocA hz))
                  clear hz
                  refine tree_next (.inr ?keep67) ?_
                  case keep67 => ((first | exact HC.out _ HS.out.same | exact HC.out _ (oc_half HS.out) | exact HC.out _ (oc_end _ _ HS.out).same))
                  try simp only [Act.put, List.setIfInBounds_toArray, List.set_cons_zero, List.set_cons_succ]
                  refine tree_one (i := 9) rfl ?_
                  go_wp2_with (refine (oc_com2 HA.out HW.out hn hm HS.out).mono ?_; rintro e w1 ⟨A8, n8, c8, rfl, hs⟩; have HS := Lib.hid hs; clear hs)
                  (first | refine ⟨.inr ?keep68, ?_⟩ | refine ⟨?keep68, ?_⟩)
                  case keep68 => ((first | exact HC.out _ HS.out.same | exact HC.out _ (oc_half HS.out) | exact HC.out _ (oc_end _ _ HS.out).same))
                  try simp only [Act.put, List.setIfInBounds_toArray, List.set_cons_zero, List.set_cons_succ]
                  refine tree_one (i := 12) rfl ?_
                  obtain ⟨⟨x0, x1⟩, xf, xl⟩ := zoff_at (HS.out.a _ (Chg.refl _ _)).1
                  obtain ⟨⟨y0, y1⟩, yf, yl⟩ := zoff_at (HS.out.b _ (Chg.refl _ _)).1
                  obtain ⟨n1, n2⟩ := HS.out.ne
                  go_wp2_with (fail)
                  (first | refine ⟨.inr ?keep69, ?_⟩ | refine ⟨?keep69, ?_⟩)
                  case keep69 => ((first | exact HC.out _ HS.out.same | exact HC.out _ (oc_half HS.out) | exact HC.out _ (oc_end _ _ HS.out).same))
                  try simp only [Act.put, List.setIfInBounds_toArray, List.set_cons_zero, List.set_cons_succ]
                  refine tree_one (i := 13) rfl ?_
                  go_wp2_with (fail)
                  (first | refine ⟨.inr ?keep70, ?_⟩ | refine ⟨?keep70, ?_⟩)
                  case keep70 => ((first | exact HC.out _ HS.out.same | exact HC.out _ (oc_half HS.out) | exact HC.out _ (oc_end _ _ HS.out).same))
                  try simp only [Act.put, List.setIfInBounds_toArray, List.set_cons_zero, List.set_cons_succ]
                  refine tree_end ?_
                  go_wp2_with fail
                  go_meet
                  case rel => exact ⟨_, _, _, _, _, _, _, _, rfl, rfl, oc_end _ _ HS.out⟩
              · refine wpl_alloc _ _ (zeroOff _) rfl ?_
                generalize hz : World.alloc _ _ = wz at *
                (first | have HS := Lib.hid (HS.out.allocA2 hz) | have HS := Lib.hid (HS.out.allocA hz))
                clear hz
                refine tree_next (.inr ?keep70) ?_
                case keep70 => ((first | exact HC.out _ HS.out.same | exact HC.out _ (oc_half HS.out) | exact HC.out _ (oc_end _ _ HS.out).same))
                try simp only [Act.put, List.setIfInBounds_toArray, List.set_cons_zero, List.set_cons_succ]
                refine tree_one (i := 8) rfl ?_
                go_wp2_with (refine (prog_ok _ _ _ _ _).mono ?_; rintro e w1 ⟨rfl, hs⟩; have HS := Lib.hid (HS.out.step hs); clear hs)
                (first | refine ⟨.inr ?keep71, ?_⟩ | refine ⟨?keep71, ?_⟩)
                case keep71 => ((first | exact HC.out _ HS.out.same | exact HC.out _ (oc_half HS.out) | exact HC.out _ (oc_end _ _ HS.out).same))
                try simp only [Act.put, List.setIfInBounds_toArray, List.set_cons_zero, List.set_cons_succ]
                refine tree_one (i := 9) rfl ?_
                go_wp2_with (refine (oc_com2 HA.out HW.out hn hm HS.out).mono ?_; rintro e w1 ⟨A8, n8, c8, rfl, hs⟩; have HS := Lib.hid hs; clear hs)
                (first | refine ⟨.inr ?keep72, ?_⟩ | refine ⟨?keep72, ?_⟩)
                case keep72 => ((first | exact HC.out _ HS.out.same | exact HC.out _ (oc_half HS.out) | exact HC.out _ (oc_end _ _ HS.out).same))
                try simp only [Act.put, List.setIfInBounds_toArray, List.set_cons_zero, List.set_cons_succ]
                refine tree_one (i := 12) rfl ?_
                obtain ⟨⟨x0, x1⟩, xf, xl⟩ := zoff_at (HS.out.a _ (Chg.refl _ _)).1
                obtain ⟨⟨y0, y1⟩, yf, yl⟩ := zoff_at (HS.out.b _ (Chg.refl _ _)).1
                obtain ⟨n1, n2⟩ := HS.out.ne
                go_wp2_with (fail)
                (first | refine ⟨.inr ?keep73, ?_⟩ | refine ⟨?keep73, ?_⟩)
                case keep73 => ((first | exact HC.out _ HS.out.same | exact HC.out _ (oc_half HS.out) | exact HC.out _ (oc_end _ _ HS.out).same))
                try simp only [Act.put, List.setIfInBounds_toArray, List.set_cons_zero, List.set_cons_succ]
                refine tree_one (i := 13) rfl ?_
                go_wp2_with (fail)
                (first | refine ⟨.inr ?keep74, ?_⟩ | refine ⟨?keep74, ?_⟩)
                case keep74 => ((first | exact HC.out _ HS.out.same | exact HC.out _ (oc_half HS.out) | exact HC.out _ (oc_end _ _ HS.out).same))
                try simp only [Act.put, List.setIfInBounds_toArray, List.set_cons_zero, List.set_cons_succ]
                refine tree_end ?_
                go_wp2_with fail
                go_meet
                case rel => exact ⟨_, _, _, _, _, _, _, _, rfl, rfl, oc_end _ _ HS.out⟩
          · as_aux_lemma =>
            refine wpl_alloc _ _ (zeroOff _) rfl ?_
            generalize hz : World.alloc _ _ = wz at *
            (first | have HS := Lib.hid (HS.out.allocA2 hz) | have HS := Lib.hid (HS.out.allocA hz))
            clear hz
            refine tree_next (.inr ?keep73) ?_
            case keep73 => ((first | exact HC.out _ HS.out.same | exact HC.out _ (oc_half HS.out) | exact HC.out _ (oc_end _ _ HS.out).same))
            try simp only [Act.put, List.setIfInBounds_toArray, List.set_cons_zero, List.set_cons_succ]
            refine tree_fork (i := 6) (j := 11) rfl rfl ?_ ?_
            · go_wp2_with (refine (prog_ok _ _ _ _ _).mono ?_; rintro e w1 ⟨rfl, hs⟩; have HS := Lib.hid (HS.out.step hs); clear hs)
              (first | refine ⟨.inr ?keep75, ?_⟩ | refine ⟨?keep75, ?_⟩)
              case keep75 => ((first | exact HC.out _ HS.out.same | exact HC.out _ (oc_half HS.out) | exact HC.out _ (oc_end _ _ HS.out).same))
              try simp only [Act.put, List.setIfInBounds_toArray, List.set_cons_zero, List.set_cons_succ]
              refine tree_fork (i := 8) (j := 11) rfl rfl ?_ ?_
              · go_wp2_with (refine (prog_ok _ _ _ _ _).mono ?_; rintro e w1 ⟨rfl, hs⟩; have HS := Lib.hid (HS.out.step hs); clear hs)
                (first | refine ⟨.inr ?keep77, ?_⟩ | refine ⟨?keep77, ?_⟩)
                case keep77 => ((first | exact HC.out _ HS.out.same | exact HC.out _ (oc_half HS.out) | exact HC.out _ (oc_end _ _ HS.out).same))
                try simp only [Act.put, List.setIfInBounds_toArray, List.set_cons_zero, List.set_cons_succ]
                refine tree_fork (i := 9) (j := 11) rfl rfl ?_ ?_
                · go_wp2_with (refine (oc_com2 HA.out HW.out hn hm HS.out).mono ?_; rintro e w1 ⟨A8, n8, c8, rfl, hs⟩; have HS := Lib.hid hs; clear hs)
                  (first | refine ⟨.inr ?keep79, ?_⟩ | refine ⟨?keep79, ?_⟩)
                  case keep79 => ((first | exact HC.out _ HS.out.same | exact HC.out _ (oc_half HS.out) | exact HC.out _ (oc_end _ _ HS.out).same))
                  try simp only [Act.put, List.setIfInBounds_toArray, List.set_cons_zero, List.set_cons_succ]
                  refine tree_one (i := 11) rfl ?_
                  refine wpl_alloc _ _ (zeroOff _) rfl ?_
                  generalize hz : World.alloc _ _ = wz at *
                  (first | have HS := Lib.hid (HS.out.allocB2 hz) | have HS := Lib.hid (HS.out.allocB hz))
                  clear hz
                  refine tree_next (.inr ?keep81) ?_
                  case keep81 => ((first | exact HC.out _ HS.out.same | exact HC.out _ (oc_half HS.out) | exact HC.out _ (oc_end _ _ HS.out).same))
                  try simp only [Act.put, List.setIfInBounds_toArray, List.set_cons_zero, List.set_cons_succ]
                  refine tree_one (i := 12) rfl ?_
                  obtain ⟨⟨x0, x1⟩, xf, xl⟩ := zoff_at (HS.out.a _ (Chg.refl _ _)).1
                  obtain ⟨⟨y0, y1⟩, yf, yl⟩ := zoff_at (HS.out.b _ (Chg.refl _ _)).1
                  obtain ⟨n1, n2⟩ := HS.out.ne
                  go_wp2_with (fail)
                  (first | refine ⟨.inr ?keep82, ?_⟩ | refine ⟨?keep82, ?_⟩)
                  case keep82 => ((first | exact HC.out _ HS.out.same | exact HC.out _ (oc_half HS.out) | exact HC.out _ (oc_end _ _ HS.out).same))
                  try simp only [Act.put, List.setIfInBounds_toArray, List.set_cons_zero, List.set_cons_succ]
                  refine tree_one (i := 13) rfl ?_
                  go_wp2_with (fail)
                  (first | refine ⟨.inr ?keep83, ?_⟩ | refine ⟨?keep83, ?_⟩)
                  case keep83 => ((first | exact HC.out _ HS.out.same | exact HC.out _ (oc_half HS.out) | exact HC.out _ (oc_end _ _ HS.out).same))
                  try simp only [Act.put, List.setIfInBounds_toArray, List.set_cons_zero, List.set_cons_succ]
                  refine tree_end ?_
                  go_wp2_with fail
                  go_meet
                  case rel => exact ⟨_, _, _, _, _, _, _, _, rfl, rfl, oc_end _ _ HS.out⟩
                · refine wpl_alloc _ _ (zeroOff _) rfl ?_
                  generalize hz : World.alloc _ _ = wz at *
                  (first | have HS := Lib.hid (HS.out.allocB2 hz) | have HS := Lib.hid (HS.out.allocB hz))
                  clear hz
                  refine tree_next (.inr ?keep83) ?_
                  case keep83 => ((first | exact HC.out _ HS.out.same | exact HC.out _ (oc_half HS.out) | exact HC.out _ (oc_end _ _ HS.out).same))
                  try simp only [Act.put, List.setIfInBounds_toArray, List.set_cons_zero, List.set_cons_succ]
                  refine tree_one (i := 9) rfl ?_
                  go_wp2_with (refine (oc_com2 HA.out HW.out hn hm HS.out).mono ?_; rintro e w1 ⟨A8, n8, c8, rfl, hs⟩; have HS := Lib.hid hs; clear hs)
                  (first | refine ⟨.inr ?keep84, ?_⟩ | refine ⟨?keep84, ?_⟩)
                  case keep84 => ((first | exact HC.out _ HS.out.same | exact HC.out _ (oc_half HS.out) | exact HC.out _ (oc_end _ _ HS.out).same))
                  try simp only [Act.put, List.setIfInBounds_toArray, List.set_cons_zero, List.set_cons_succ]
                  refine tree_one (i := 12) rfl ?_
                  obtain ⟨⟨x0, x1⟩, xf, xl⟩ := zoff_at (HS.out.a _ (Chg.refl _ _)).1
                  obtain ⟨⟨y0, y1⟩, yf, yl⟩ := zoff_at (HS.out.b _ (Chg.refl _ _)).1
                  obtain ⟨n1, n2⟩ := HS.out.ne
                  go_wp2_with (fail)
                  (first | refine ⟨.inr ?keep85, ?_⟩ | refine ⟨?keep85, ?_⟩)
                  case keep85 => ((first | exact HC.out _ HS.out.same | exact HC.out _ (oc_half HS.out) | exact HC.out _ (oc_end _ _ HS.out).same))
                  try simp only [Act.put, List.setIfInBounds_toArray, List.set_cons_zero, List.set_cons_succ]
                  refine tree_one (i := 13) rfl ?_
                  go_wp2_with (fail)
                  (first | refine ⟨.inr ?keep86, ?_⟩ | refine ⟨?keep86, ?_⟩)
                  case keep86 => ((first | exact HC.out _ HS.out.same | exact HC.out _ (oc_half HS.out) | exact HC.out _ (oc_end _ _ HS.out).same))
                  try simp only [Act.put, List.setIfInBounds_toArray, List.set_cons_zero, List.set_cons_succ]
                  refine tree_end ?_
                  go_wp2_with fail
                  go_meet
                  case rel => exact ⟨_, _, _, _, _, _, _, _, rfl, rfl, oc_end _ _ HS.out⟩
              · refine wpl_alloc _ _ (zeroOff _) rfl ?_
                generalize hz : World.alloc _ _ = wz at *
                (first | have HS := Lib.hid (HS.out.allocB2 hz) | have HS := Lib.hid (HS.out.allocB hz))
                clear hz
                refine tree_next (.inr ?keep86) ?_
                case keep86 => ((first | exact HC.out _ HS.out.same | exact HC.out _ (oc_half HS.out) | exact HC.out _ (oc_end _ _ HS.out).same))
                try simp only [Act.put, List.setIfInBounds_toArray, List.set_cons_zero, List.set_cons_succ]
                refine tree_one (i := 8) rfl ?_
                go_wp2_with (refine (prog_ok _ _ _ _ _).mono ?_; rintro e w1 ⟨rfl, hs⟩; have HS := Lib.hid (HS.out.step hs); clear hs)
                (first | refine ⟨.inr ?keep87, ?_⟩ | refine ⟨?keep87, ?_⟩)
                case keep87 => ((first | exact HC.out _ HS.out.same | exact HC.out _ (oc_half HS.out) | exact HC.out _ (oc_end _ _ HS.out).same))
                try simp only [Act.put, List.setIfInBounds_toArray, List.set_cons_zero, List.set_cons_succ]
                refine tree_one (i := 9) rfl ?_
                go_wp2_with (refine (oc_com2 HA.out HW.out hn hm HS.out).mono ?_; rintro e w1 ⟨A8, n8, c8, rfl, hs⟩; have HS := Lib.hid hs; clear hs)
                (first | refine ⟨.inr ?keep88, ?_⟩ | refine ⟨?keep88, ?_⟩)
                case keep88 => ((first | exact HC.out _ HS.out.same | exact HC.out _ (oc_half HS.out) | exact HC.out _ (oc_end _ _ HS.out).same))
                try simp only [Act.put, List.setIfInBounds_toArray, List.set_cons_zero, List.set_cons_succ]
                refine tree_one (i := 12) rfl ?_
                obtain ⟨⟨x0, x1⟩, xf, xl⟩ := zoff_at (HS.out.a _ (Chg.refl _ _)).1
                obtain ⟨⟨y0, y1⟩, yf, yl⟩ := zoff_at (HS.out.b _ (Chg.refl _ _)).1
                obtain ⟨n1, n2⟩ := HS.out.ne
                go_wp2_with (fail)
                (first | refine ⟨.inr ?keep89, ?_⟩ | refine ⟨?keep89, ?_⟩)
                case keep89 => ((first | exact HC.out _ HS.out.same | exact HC.out _ (oc_half HS.out) | exact HC.out _ (oc_end _ _ HS.out).same))
                try simp only [Act.put, List.setIfInBounds_toArray, List.set_cons_zero, List.set_cons_succ]
                refine tree_one (i := 13) rfl ?_
                go_wp2_with (fail)
                (first | refine ⟨.inr ?keep90, ?_⟩ | refine ⟨?keep90, ?_⟩)
                case keep90 => ((first | exact HC.out _ HS.out.same | exact HC.out _ (oc_half HS.out) | exact HC.out _ (oc_end _ _ HS.out).same))
                try simp only [Act.put, List.setIfInBounds_toArray, List.set_cons_zero, List.set_cons_succ]
                refine tree_end ?_
                go_wp2_with fail
                go_meet
                case rel => exact ⟨_, _, _, _, _, _, _, _, rfl, rfl, oc_end _ _ HS.out⟩
            · refine wpl_alloc _ _ (zeroOff _) rfl ?_
              generalize hz : World.alloc _ _ = wz at *
              (first | have HS := Lib.hid (HS.out.allocB2 hz) | have HS := Lib.hid (HS.out.allocB hz))
              clear hz
              refine tree_next (.inr ?keep90) ?_
              case keep90 => ((first | exact HC.out _ HS.out.same | exact HC.out _ (oc_half HS.out) | exact HC.out _ (oc_end _ _ HS.out).same))
              try simp only [Act.put, List.setIfInBounds_toArray, List.set_cons_zero, List.set_cons_succ]
              refine tree_one (i := 6) rfl ?_
              go_wp2_with (refine (prog_ok _ _ _ _ _).mono ?_; rintro e w1 ⟨rfl, hs⟩; have HS := Lib.hid (HS.out.step hs); clear hs)
              (first | refine ⟨.inr ?keep91, ?_⟩ | refine ⟨?keep91, ?_⟩)
              case keep91 => ((first | exact HC.out _ HS.out.same | exact HC.out _ (oc_half HS.out) | exact HC.out _ (oc_end _ _ HS.out).same))
              try simp only [Act.put, List.setIfInBounds_toArray, List.set_cons_zero, List.set_cons_succ]
              refine tree_one (i := 8) rfl ?_
              go_wp2_with (refine (prog_ok _ _ _ _ _).mono ?_; rintro e w1 ⟨rfl, hs⟩; have HS := Lib.hid (HS.out.step hs); clear hs)
              (first | refine ⟨.inr ?keep92, ?_⟩ | refine ⟨?keep92, ?_⟩)
              case keep92 => ((first | exact HC.out _ HS.out.same | exact HC.out _ (oc_half HS.out) | exact HC.out _ (oc_end _ _ HS.out).same))
              try simp only [Act.put, List.setIfInBounds_toArray, List.set_cons_zero, List.set_cons_succ]
              refine tree_one (i := 9) rfl ?_
              go_wp2_with (refine (oc_com2 HA.out HW.out hn hm HS.out).mono ?_; rintro e w1 ⟨A8, n8, c8, rfl, hs⟩; have HS := Lib.hid hs; clear hs)
              (first | refine ⟨.inr ?keep93, ?_⟩ | refine ⟨?keep93, ?_⟩)
              case keep93 => ((first | exact HC.out _ HS.out.same | exact HC.out _ (oc_half HS.out) | exact HC.out _ (oc_end _ _ HS.out).same))
              try simp only [Act.put, List.setIfInBounds_toArray, List.set_cons_zero, List.set_cons_succ]
              refine tree_one (i := 12) rfl ?_
              obtain ⟨⟨x0, x1⟩, xf, xl⟩ := zoff_at (HS.out.a _ (Chg.refl _ _)).1
              obtain ⟨⟨y0, y1⟩, yf, yl⟩ := zoff_at (HS.out.b _ (Chg.refl _ _)).1
              obtain ⟨n1, n2⟩ := HS.out.ne
              go_wp2_with (fail)
              (first | refine ⟨.inr ?keep94, ?_⟩ | refine ⟨?keep94, ?_⟩)
              case keep94 => ((first | exact HC.out _ HS.out.same | exact HC.out _ (oc_half HS.out) | exact HC.out _ (oc_end _ _ HS.out).same))
              try simp only [Act.put, List.setIfInBounds_toArray, List.set_cons_zero, List.set_cons_succ]
              refine tree_one (i := 13) rfl ?_
              go_wp2_with (fail)
              (first | refine ⟨.inr ?keep95, ?_⟩ | refine ⟨?keep95, ?_⟩)
              case keep95 => ((first | exact HC.out _ HS.out.same | exact HC.out _ (oc_half HS.out) | exact HC.out _ (oc_end _ _ HS.out).same))
              try simp only [Act.put, List.setIfInBounds_toArray, List.set_cons_zero, List.set_cons_succ]
              refine tree_end ?_
              go_wp2_with fail
              go_meet
              case rel => exact ⟨_, _, _, _, _, _, _, _, rfl, rfl, oc_end _ _ HS.out⟩
          · as_aux_lemma =>
            refine wpl_alloc _ _ (zeroOff _) rfl ?_
            generalize hz : World.alloc _ _ = wz at *
            (first | have HS := Lib.hid (HS.out.allocB2 hz) | have HS := Lib.hid (HS.out.allocB hz))
            clear hz
            refine tree_next (.inr ?keep95) ?_
            case keep95 => ((first | exact HC.out _ HS.out.same | exact HC.out _ (oc_half HS.out) | exact HC.out _ (oc_end _ _ HS.out).same))
            try simp only [Act.put, List.setIfInBounds_toArray, List.set_cons_zero, List.set_cons_succ]
            refine tree_fork (i := 6) (j := 10) rfl rfl ?_ ?_
            · go_wp2_with (refine (prog_ok _ _ _ _ _).mono ?_; rintro e w1 ⟨rfl, hs⟩; have HS := Lib.hid (HS.out.step hs); clear hs)
              (first | refine ⟨.inr ?keep96, ?_⟩ | refine ⟨?keep96, ?_⟩)
              case keep96 => ((first | exact HC.out _ HS.out.same | exact HC.out _ (oc_half HS.out) | exact HC.out _ (oc_end _ _ HS.out).same))
              try simp only [Act.put, List.setIfInBounds_toArray, List.set_cons_zero, List.set_cons_succ]
              refine tree_fork (i := 8) (j := 10) rfl rfl ?_ ?_
              · go_wp2_with (refine (prog_ok _ _ _ _ _).mono ?_; rintro e w1 ⟨rfl, hs⟩; have HS := Lib.hid (HS.out.step hs); clear hs)
                (first | refine ⟨.inr ?keep98, ?_⟩ | refine ⟨?keep98, ?_⟩)
                case keep98 => ((first | exact HC.out _ HS.out.same | exact HC.out _ (oc_half HS.out) | exact HC.out _ (oc_end _ _ HS.out).same))
                try simp only [Act.put, List.setIfInBounds_toArray, List.set_cons_zero, List.set_cons_succ]
                refine tree_fork (i := 9) (j := 10) rfl rfl ?_ ?_
                · go_wp2_with (refine (oc_com2 HA.out HW.out hn hm HS.out).mono ?_; rintro e w1 ⟨A8, n8, c8, rfl, hs⟩; have HS := Lib.hid hs; clear hs)
                  (first | refine ⟨.inr ?keep100, ?_⟩ | refine ⟨?keep100, ?_⟩)
                  case keep100 => ((first | exact HC.out _ HS.out.same | exact HC.out _ (oc_half HS.out) | exact HC.out _ (oc_end _ _ HS.out).same))
                  try simp only [Act.put, List.setIfInBounds_toArray, List.set_cons_zero, List.set_cons_succ]
                  refine tree_one (i := 10) rfl ?_
                  refine wpl_alloc _ _ (zeroOff _) rfl ?_
                  generalize hz : World.alloc _ _ = wz at *
                  (first | have HS := Lib.hid (HS.out.allocA2 hz) | have HS := Lib.hid (HS.out.allocA hz))
                  clear hz
                  refine tree_next (.inr ?keep102) ?_
                  case keep102 => ((first | exact HC.out _ HS.out.same | exact HC.out _ (oc_half HS.out) | exact HC.out _ (oc_end _ _ HS.out).same))
                  try simp only [Act.put, List.setIfInBounds_toArray, List.set_cons_zero, List.set_cons_succ]
                  refine tree_one (i := 12) rfl ?_
                  obtain ⟨⟨x0, x1⟩, xf, xl⟩ := zoff_at (HS.out.a _ (Chg.refl _ _)).1
                  obtain ⟨⟨y0, y1⟩, yf, yl⟩ := zoff_at (HS.out.b _ (Chg.refl _ _)).1
                  obtain ⟨n1, n2⟩ := HS.out.ne
                  go_wp2_with (fail)
                  (first | refine ⟨.inr ?keep103, ?_⟩ | refine ⟨?keep103, ?_⟩)
                  case keep103 => ((first | exact HC.out _ HS.out.same | exact HC.out _ (oc_half HS.out) | exact HC.out _ (oc_end _ _ HS.out).same))
                  try simp only [Act.put, List.setIfInBounds_toArray, List.set_cons_zero, List.set_cons_succ]
                  refine tree_one (i := 13) rfl ?_
                  go_wp2_with (fail)
                  (first | refine ⟨.inr ?keep104, ?_⟩ | refine ⟨?keep104, ?_⟩)
                  case keep104 => ((first | exact HC.out _ HS.out.same | exact HC.out _ (oc_half HS.out) | exact HC.out _ (oc_end _ _ HS.out).same))
                  try simp only [Act.put, List.setIfInBounds_toArray, List.set_cons_zero, List.set_cons_succ]
                  refine tree_end ?_
                  go_wp2_with fail
                  go_meet
                  case rel => exact ⟨_, _, _, _, _, _, _, _, rfl, rfl, oc_end _ _ HS.out⟩
                · refine wpl_alloc _ _ (zeroOff _) rfl ?_
                  generalize hz : World.alloc _ _ = wz at *
                  (first | have HS := Lib.hid (HS.out.allocA2 hz) | have HS := Lib.hid (HS.out.allocA hz))
                  clear hz
                  refine tree_next (.inr ?keep104) ?_
                  case keep104 => ((first | exact HC.out _ HS.out.same | exact HC.out _ (oc_half HS.out) | exact HC.out _ (oc_end _ _ HS.out).same))
                  try simp only [Act.put, List.setIfInBounds_toArray, List.set_cons_zero, List.set_cons_succ]
                  refine tree_one (i := 9) rfl ?_
                  go_wp2_with (refine (oc_com2 HA.out HW.out hn hm HS.out).mono ?_; rintro e w1 ⟨A8, n8, c8, rfl, hs⟩; have HS := Lib.hid hs; clear hs)
                  (first | refine ⟨.inr ?keep105, ?_⟩ | refine ⟨?keep105, ?_⟩)
                  case keep105 => ((first | exact HC.out _ HS.out.same | exact HC.out _ (oc_half HS.out) | exact HC.out _ (oc_end _ _ HS.out).same))
                  try simp only [Act.put, List.setIfInBounds_toArray, List.set_cons_zero, List.set_cons_succ]
                  refine tree_one (i := 12) rfl ?_
                  obtain ⟨⟨x0, x1⟩, xf, xl⟩ := zoff_at (HS.out.a _ (Chg.refl _ _)).1
                  obtain ⟨⟨y0, y1⟩, yf, yl⟩ := zoff_at (HS.out.b _ (Chg.refl _ _)).1
                  obtain ⟨n1, n2⟩ := HS.out.ne
                  go_wp2_with (fail)
                  (first | refine ⟨.inr ?keep106, ?_⟩ | refine ⟨?keep106, ?_⟩)
                  case keep106 => ((first | exact HC.out _ HS.out.same | exact HC.out _ (oc_half HS.out) | exact HC.out _ (oc_end _ _ HS.out).same))
                  try simp only [Act.put, List.setIfInBounds_toArray, List.set_cons_zero, List.set_cons_succ]
                  refine tree_one (i := 13) rfl ?_
                  go_wp2_with (fail)
                  (first | refine ⟨.inr ?keep107, ?_⟩ | refine ⟨?keep107, ?_⟩)
                  case keep107 => ((first | exact HC.out _ HS.out.same | exact HC.out _ (oc_half HS.out) | exact HC.out _ (oc_end _ _ HS.out).same))
                  try simp only [Act.put, List.setIfInBounds_toArray, List.set_cons_zero, List.set_cons_succ]
                  refine tree_end ?_
                  go_wp2_with fail
                  go_meet
                  case rel => exact ⟨_, _, _, _, _, _, _, _, rfl, rfl, oc_end _ _ HS.out⟩
              · refine wpl_alloc _ _ (zeroOff _) rfl ?_
                generalize hz : World.alloc _ _ = wz at *
                (first | have HS := Lib.hid (HS.out.allocA2 hz) | have HS := Lib.hid (HS.out.allocA hz))
                clear hz
                refine tree_next (.inr ?keep107) ?_
                case keep107 => ((first | exact HC.out _ HS.out.same | exact HC.out _ (oc_half HS.out) | exact HC.out _ (oc_end _ _ HS.out).same))
                try simp only [Act.put, List.setIfInBounds_toArray, List.set_cons_zero, List.set_cons_succ]
                refine tree_one (i := 8) rfl ?_
                go_wp2_with (refine (prog_ok _ _ _ _ _).mono ?_; rintro e w1 ⟨rfl, hs⟩; have HS := Lib.hid (HS.out.step hs); clear hs)
                (first | refine ⟨.inr ?keep108, ?_⟩ | refine ⟨?keep108, ?_⟩)
                case keep108 => ((first | exact HC.out _ HS.out.same | exact HC.out _ (oc_half HS.out) | exact HC.out _ (oc_end _ _ HS.out).same))
                try simp only [Act.put, List.setIfInBounds_toArray, List.set_cons_zero, List.set_cons_succ]
                refine tree_one (i := 9) rfl ?_
                go_wp2_with (refine (oc_com2 HA.out HW.out hn hm HS.out).mono ?_; rintro e w1 ⟨A8, n8, c8, rfl, hs⟩; have HS := Lib.hid hs; clear hs)
                (first | refine ⟨.inr ?keep109, ?_⟩ | refine ⟨?keep109, ?_⟩)
                case keep109 => ((first | exact HC.out _ HS.out.same | exact HC.out _ (oc_half HS.out) | exact HC.out _ (oc_end _ _ HS.out).same))
                try simp only [Act.put, List.setIfInBounds_toArray, List.set_cons_zero, List.set_cons_succ]
                refine tree_one (i := 12) rfl ?_
                obtain ⟨⟨x0, x1⟩, xf, xl⟩ := zoff_at (HS.out.a _ (Chg.refl _ _)).1
                obtain ⟨⟨y0, y1⟩, yf, yl⟩ := zoff_at (HS.out.b _ (Chg.refl _ _)).1
                obtain ⟨n1, n2⟩ := HS.out.ne
                go_wp2_with (fail)
                (first | refine ⟨.inr ?keep110, ?_⟩ | refine ⟨?keep110, ?_⟩)
                case keep110 => ((first | exact HC.out _ HS.out.same | exact HC.out _ (oc_half HS.out) | exact HC.out _ (oc_end _ _ HS.out).same))
                try simp only [Act.put, List.setIfInBounds_toArray, List.set_cons_zero, List.set_cons_succ]
                refine tree_one (i := 13) rfl ?_
                go_wp2_with (fail)
                (first | refine ⟨.inr ?keep111, ?_⟩ | refine ⟨?keep111, ?_⟩)
                case keep111 => ((first | exact HC.out _ HS.out.same | exact HC.out _ (oc_half HS.out) | exact HC.out _ (oc_end _ _ HS.out).same))
                try simp only [Act.put, List.setIfInBounds_toArray, List.set_cons_zero, List.set_cons_succ]
                refine tree_end ?_
                go_wp2_with fail
                go_meet
                case rel => exact ⟨_, _, _, _, _, _, _, _, rfl, rfl, oc_end _ _ HS.out⟩
            · refine wpl_alloc _ _ (zeroOff _) rfl ?_
              generalize hz : World.alloc _ _ = wz at *
              (first | have HS := Lib.hid (HS.out.allocA2 hz) | have HS := Lib.hid (HS.out.allocA hz))
              clear hz
              refine tree_next (.inr ?keep111) ?_
              case keep111 => ((first | exact HC.out _ HS.out.same | exact HC.out _ (oc_half HS.out) | exact HC.out _ (oc_end _ _ HS.out).same))
              try simp only [Act.put, List.setIfInBounds_toArray, List.set_cons_zero, List.set_cons_succ]
              refine tree_one (i := 6) rfl ?_
              go_wp2_with (refine (prog_ok _ _ _ _ _).mono ?_; rintro e w1 ⟨rfl, hs⟩; have HS := Lib.hid (HS.out.step hs); clear hs)
              (first | refine ⟨.inr ?keep112, ?_⟩ | refine ⟨?keep112, ?_⟩)
              case keep112 => ((first | exact HC.out _ HS.out.same | exact HC.out _ (oc_half HS.out) | exact HC.out _ (oc_end _ _ HS.out).same))
              try simp only [Act.put, List.setIfInBounds_toArray, List.set_cons_zero, List.set_cons_succ]
              refine tree_one (i := 8) rfl ?_
              go_wp2_with (refine (prog_ok _ _ _ _ _).mono ?_; rintro e w1 ⟨rfl, hs⟩; have HS := Lib.hid (HS.out.step hs); clear hs)
              (first | refine ⟨.inr ?keep113, ?_⟩ | refine ⟨?keep113, ?_⟩)
              case keep113 => ((first | exact HC.out _ HS.out.same | exact HC.out _ (oc_half HS.out) | exact HC.out _ (oc_end _ _ HS.out).same))
              try simp only [Act.put, List.setIfInBounds_toArray, List.set_cons_zero, List.set_cons_succ]
              refine tree_one (i := 9) rfl ?_
              go_wp2_with (refine (oc_com2 HA.out HW.out hn hm HS.out).mono ?_; rintro e w1 ⟨A8, n8, c8, rfl, hs⟩; have HS := Lib.hid hs; clear hs)
              (first | refine ⟨.inr ?keep114, ?_⟩ | refine ⟨?keep114, ?_⟩)
              case keep114 => ((first | exact HC.out _ HS.out.same | exact HC.out _ (oc_half HS.out) | exact HC.out _ (oc_end _ _ HS.out).same))
              try simp only [Act.put, List.setIfInBounds_toArray, List.set_cons_zero, List.set_cons_succ]
              refine tree_one (i := 12) rfl ?_
              obtain ⟨⟨x0, x1⟩, xf, xl⟩ := zoff_at (HS.out.a _ (Chg.refl _ _)).1
              obtain ⟨⟨y0, y1⟩, yf, yl⟩ := zoff_at (HS.out.b _ (Chg.refl _ _)).1
              obtain ⟨n1, n2⟩ := HS.out.ne
              go_wp2_with (fail)
              (first | refine ⟨.inr ?keep115, ?_⟩ | refine ⟨?keep115, ?_⟩)
              case keep115 => ((first | exact HC.out _ HS.out.same | exact HC.out _ (oc_half HS.out) | exact HC.out _ (oc_end _ _ HS.out).same))
              try simp only [Act.put, List.setIfInBounds_toArray, List.set_cons_zero, List.set_cons_succ]
              refine tree_one (i := 13) rfl ?_
              go_wp2_with (fail)
              (first | refine ⟨.inr ?keep116, ?_⟩ | refine ⟨?keep116, ?_⟩)
              case keep116 => ((first | exact HC.out _ HS.out.same | exact HC.out _ (oc_half HS.out) | exact HC.out _ (oc_end _ _ HS.out).same))
              try simp only [Act.put, List.setIfInBounds_toArray, List.set_cons_zero, List.set_cons_succ]
              refine tree_end ?_
              go_wp2_with fail
              go_meet
              case rel => exact ⟨_, _, _, _, _, _, _, _, rfl, rfl, oc_end _ _ HS.out⟩
        · as_aux_lemma =>
          refine wpl_alloc _ _ (zeroOff _) rfl ?_
          generalize hz : World.alloc _ _ = wz at *
          (first | have HS := Lib.hid (HS.out.allocA2 hz) | have HS := Lib.hid (HS.out.allocA hz))
          clear hz
          refine tree_next (.inr ?keep115) ?_
          case keep115 => ((first | exact HC.out _ HS.out.same | exact HC.out _ (oc_half HS.out) | exact HC.out _ (oc_end _ _ HS.out).same))
          try simp only [Act.put, List.setIfInBounds_toArray, List.set_cons_zero, List.set_cons_succ]
          refine tree_fork (i := 4) (j := 11) rfl rfl ?_ ?_
          · go_wp2_with (refine (oc_com1 HA.out HW.out hn hm HS.out).mono ?_; rintro e w1 ⟨A7, n7, c7, rfl, hs⟩; have HS := Lib.hid hs; clear hs)
            (first | refine ⟨.inr ?keep117, ?_⟩ | refine ⟨?keep117, ?_⟩)
            case keep117 => ((first | exact HC.out _ HS.out.same | exact HC.out _ (oc_half HS.out) | exact HC.out _ (oc_end _ _ HS.out).same))
            try simp only [Act.put, List.setIfInBounds_toArray, List.set_cons_zero, List.set_cons_succ]
            refine tree_fork (i := 6) (j := 11) rfl rfl ?_ ?_
            · go_wp2_with (refine (prog_ok _ _ _ _ _).mono ?_; rintro e w1 ⟨rfl, hs⟩; have HS := Lib.hid (HS.out.step hs); clear hs)
              (first | refine ⟨.inr ?keep119, ?_⟩ | refine ⟨?keep119, ?_⟩)
              case keep119 => ((first | exact HC.out _ HS.out.same | exact HC.out _ (oc_half HS.out) | exact HC.out _ (oc_end _ _ HS.out).same))
              try simp only [Act.put, List.setIfInBounds_toArray, List.set_cons_zero, List.set_cons_succ]
              refine tree_fork (i := 8) (j := 11) rfl rfl ?_ ?_
              · go_wp2_with (refine (prog_ok _ _ _ _ _).mono ?_; rintro e w1 ⟨rfl, hs⟩; have HS := Lib.hid (HS.out.step hs); clear hs)
                (first | refine ⟨.inr ?keep121, ?_⟩ | refine ⟨?keep121, ?_⟩)
                case keep121 => ((first | exact HC.out _ HS.out.same | exact HC.out _ (oc_half HS.out) | exact HC.out _ (oc_end _ _ HS.out).same))
                try simp only [Act.put, List.setIfInBounds_toArray, List.set_cons_zero, List.set_cons_succ]
                refine tree_fork (i := 9) (j := 11) rfl rfl ?_ ?_
                · go_wp2_with (refine (oc_com2 HA.out HW.out hn hm HS.out).mono ?_; rintro e w1 ⟨A8, n8, c8, rfl, hs⟩; have HS := Lib.hid hs; clear hs)
                  (first | refine ⟨.inr ?keep123, ?_⟩ | refine ⟨?keep123, ?_⟩)
                  case keep123 => ((first | exact HC.out _ HS.out.same | exact HC.out _ (oc_half HS.out) | exact HC.out _ (oc_end _ _ HS.out).same))
                  try simp only [Act.put, List.setIfInBounds_toArray, List.set_cons_zero, List.set_cons_succ]
                  refine tree_one (i := 11) rfl ?_
                  refine wpl_alloc _ _ (zeroOff _) rfl ?_
                  generalize hz : World.alloc _ _ = wz at *
                  (first | have HS := Lib.hid (HS.out.allocB2 hz) | have HS := Lib.hid (HS.out.allocB hz))
                  clear hz
                  refine tree_next (.inr ?keep125) ?_
                  case keep125 => ((first | exact HC.out _ HS.out.same | exact HC.out _ (oc_half HS.out) | exact HC.out _ (oc_end _ _ HS.out).same))
                  try simp only [Act.put, List.setIfInBounds_toArray, List.set_cons_zero, List.set_cons_succ]
                  refine tree_one (i := 12) rfl ?_
                  obtain ⟨⟨x0, x1⟩, xf, xl⟩ := zoff_at (HS.out.a _ (Chg.refl _ _)).1
                  obtain ⟨⟨y0, y1⟩, yf, yl⟩ := zoff_at (HS.out.b _ (Chg.refl _ _)).1
                  obtain ⟨n1, n2⟩ := HS.out.ne
                  go_wp2_with (fail)
                  (first | refine ⟨.inr ?keep126, ?_⟩ | refine ⟨?keep126, ?_⟩)
                  case keep126 => ((first | exact HC.out _ HS.out.same | exact HC.out _ (oc_half HS.out) | exact HC.out _ (oc_end _ _ HS.out).same))
                  try simp only [Act.put, List.setIfInBounds_toArray, List.set_cons_zero, List.set_cons_succ]
                  refine tree_one (i := 13) rfl ?_
                  go_wp2_with (fail)
                  (first | refine ⟨.inr ?keep127, ?_⟩ | refine ⟨?keep127, ?_⟩)
                  case keep127 => ((first | exact HC.out _ HS.out.same | exact HC.out _ (oc_half HS.out) | exact HC.out _ (oc_end _ _ HS.out).same))
                  try simp only [Act.put, List.setIfInBounds_toArray, List.set_cons_zero, List.set_cons_succ]
                  refine tree_end ?_
                  go_wp2_with fail
                  go_meet
                  case rel => exact ⟨_, _, _, _, _, _, _, _, rfl, rfl, oc_end _ _ HS.out⟩
                · refine wpl_alloc _ _ (zeroOff _) rfl ?_
                  generalize hz : World.alloc _ _ = wz at *
                  (first | have HS := Lib.hid (HS.out.allocB2 hz) | have HS := Lib.hid (HS.out.allocB hz))
                  clear hz
                  refine tree_next (.inr ?keep127) ?_
                  case keep127 => ((first | exact HC.out _ HS.out.same | exact HC.out _ (oc_half HS.out) | exact HC.out _ (oc_end _ _ HS.out).same))
                  try simp only [Act.put, List.setIfInBounds_toArray, List.set_cons_zero, List.set_cons_succ]
                  refine tree_one (i := 9) rfl ?_
                  go_wp2_with (refine (oc_com2 HA.out HW.out hn hm HS.out).mono ?_; rintro e w1 ⟨A8, n8, c8, rfl, hs⟩; have HS := Lib.hid hs; clear hs)
                  (first | refine ⟨.inr ?keep128, ?_⟩ | refine ⟨?keep128, ?_⟩)
                  case keep128 => ((first | exact HC.out _ HS.out.same | exact HC.out _ (oc_half HS.out) | exact HC.out _ (oc_end _ _ HS.out).same))
                  try simp only [Act.put, List.setIfInBounds_toArray, List.set_cons_zero, List.set_cons_succ]
                  refine tree_one (i := 12) rfl ?_
                  obtain ⟨⟨x0, x1⟩, xf, xl⟩ := zoff_at (HS.out.a _ (Chg.refl _ _)).1
                  obtain ⟨⟨y0, y1⟩, yf, yl⟩ := zoff_at (HS.out.b _ (Chg.refl _ _)).1
                  obtain ⟨n1, n2⟩ := HS.out.ne
                  go_wp2_with (fail)
                  (first | refine ⟨.inr ?keep129, ?_⟩ | refine ⟨?keep129, ?_⟩)
                  case keep129 => ((first | exact HC.out _ HS.out.same | exact HC.out _ (oc_half HS.out) | exact HC.out _ (oc_end _ _ HS.out).same))
                  try simp only [Act.put, List.setIfInBounds_toArray, List.set_cons_zero, List.set_cons_succ]
                  refine tree_one (i := 13) rfl ?_
                  go_wp2_with (fail)
                  (first | refine ⟨.inr ?keep130, ?_⟩ | refine ⟨?keep130, ?_⟩)
                  case keep130 => ((first | exact HC.out _ HS.out.same | exact HC.out _ (oc_half HS.out) | exact HC.out _ (oc_end _ _ HS.out).same))
                  try simp only [Act.put, List.setIfInBounds_toArray, List.set_cons_zero, List.set_cons_succ]
                  refine tree_end ?_
                  go_wp2_with fail
                  go_meet
                  case rel => exact ⟨_, _, _, _, _, _, _, _, rfl, rfl, oc_end _ _ HS.out⟩
              · refine wpl_alloc _ _ (zeroOff _) rfl ?_
                generalize hz : World.alloc _ _ = wz at *
                (first | have HS := Lib.hid (HS.out.allocB2 hz) | have HS := Lib.hid (HS.out.allocB hz))
                clear hz
                refine tree_next (.inr ?keep130) ?_
                case keep130 => ((first | exact HC.out _ HS.out.same | exact HC.out _ (oc_half HS.out) | exact HC.out _ (oc_end _ _ HS.out).same))
                try simp only [Act.put, List.setIfInBounds_toArray, List.set_cons_zero, List.set_cons_succ]
                refine tree_one (i := 8) rfl ?_
                go_wp2_with (refine (prog_ok _ _ _ _ _).mono ?_; rintro e w1 ⟨rfl, hs⟩; have HS := Lib.hid (HS.out.step hs); clear hs)
                (first | refine ⟨.inr ?keep131, ?_⟩ | refine ⟨?keep131, ?_⟩)
                case keep131 => ((first | exact HC.out _ HS.out.same | exact HC.out _ (oc_half HS.out) | exact HC.out _ (oc_end _ _ HS.out).same))
                try simp only [Act.put, List.setIfInBounds_toArray, List.set_cons_zero, List.set_cons_succ]
                refine tree_one (i := 9) rfl ?_
                go_wp2_with (refine (oc_com2 HA.out HW.out hn hm HS.out).mono ?_; rintro e w1 ⟨A8, n8, c8, rfl, hs⟩; have HS := Lib.hid hs; clear hs)
                (first | refine ⟨.inr ?keep132, ?_⟩ | refine ⟨?keep132, ?_⟩)
                case keep132 => ((first | exact HC.out _ HS.out.same | exact HC.out _ (oc_half HS.out) | exact HC.out _ (oc_end _ _ HS.out).same))
                try simp only [Act.put, List.setIfInBounds_toArray, List.set_cons_zero, List.set_cons_succ]
                refine tree_one (i := 12) rfl ?_
                obtain ⟨⟨x0, x1⟩, xf, xl⟩ := zoff_at (HS.out.a _ (Chg.refl _ _)).1
                obtain ⟨⟨y0, y1⟩, yf, yl⟩ := zoff_at (HS.out.b _ (Chg.refl _ _)).1
                obtain ⟨n1, n2⟩ := HS.out.ne
                go_wp2_with (fail)
                (first | refine ⟨.inr ?keep133, ?_⟩ | refine ⟨?keep133, ?_⟩)
                case keep133 => ((first | exact HC.out _ HS.out.same | exact HC.out _ (oc_half HS.out) | exact HC.out _ (oc_end _ _ HS.out).same))
                try simp only [Act.put, List.setIfInBounds_toArray, List.set_cons_zero, List.set_cons_succ]
                refine tree_one (i := 13) rfl ?_
                go_wp2_with (fail)
                (first | refine ⟨.inr ?keep134, ?_⟩ | refine ⟨?keep134, ?_⟩)
                case keep134 => ((first | exact HC.out _ HS.out.same | exact HC.out _ (oc_half HS.out) | exact HC.out _ (oc_end _ _ HS.out).same))
                try simp only [Act.put, List.setIfInBounds_toArray, List.set_cons_zero, List.set_cons_succ]
                refine tree_end ?_
                go_wp2_with fail
                go_meet
                case rel => exact ⟨_, _, _, _, _, _, _, _, rfl, rfl, oc_end _ _ HS.out⟩
            · refine wpl_alloc _ _ (zeroOff _) rfl ?_
              generalize hz : World.alloc _ _ = wz at *
              (first | have HS := Lib.hid (HS.out.allocB2 hz) | have HS := Lib.hid (HS.out.allocB hz))
              clear hz
              refine tree_next (.inr ?keep134) ?_
              case keep134 => ((first | exact HC.out _ HS.out.same | exact HC.out _ (oc_half HS.out) | exact HC.out _ (oc_end _ _ HS.out).same))
              try simp only [Act.put, List.setIfInBounds_toArray, List.set_cons_zero, List.set_cons_succ]
              refine tree_one (i := 6) rfl ?_
              go_wp2_with (refine (prog_ok _ _ _ _ _).mono ?_; rintro e w1 ⟨rfl, hs⟩; have HS := Lib.hid (HS.out.step hs); clear hs)
              (first | refine ⟨.inr ?keep135, ?_⟩ | refine ⟨?keep135, ?_⟩)
              case keep135 => ((first | exact HC.out _ HS.out.same | exact HC.out _ (oc_half HS.out) | exact HC.out _ (oc_end _ _ HS.out).same))
              try simp only [Act.put, List.setIfInBounds_toArray, List.set_cons_zero, List.set_cons_succ]
              refine tree_one (i := 8) rfl ?_
              go_wp2_with (refine (prog_ok _ _ _ _ _).mono ?_; rintro e w1 ⟨rfl, hs⟩; have HS := Lib.hid (HS.out.step hs); clear hs)
              (first | refine ⟨.inr ?keep136, ?_⟩ | refine ⟨?keep136, ?_⟩)
              case keep136 => ((first | exact HC.out _ HS.out.same | exact HC.out _ (oc_half HS.out) | exact HC.out _ (oc_end _ _ HS.out).same))
              try simp only [Act.put, List.setIfInBounds_toArray, List.set_cons_zero, List.set_cons_succ]
              refine tree_one (i := 9) rfl ?_
              go_wp2_with (refine (oc_com2 HA.out HW.out hn hm HS.out).mono ?_; rintro e w1 ⟨A8, n8, c8, rfl, hs⟩; have HS := Lib.hid hs; clear hs)
              (first | refine ⟨.inr ?keep137, ?_⟩ | refine ⟨?keep137, ?_⟩)
              case keep137 => ((first | exact HC.out _ HS.out.same | exact HC.out _ (oc_half HS.out) | exact HC.out _ (oc_end _ _ HS.out).same))
              try simp only [Act.put, List.setIfInBounds_toArray, List.set_cons_zero, List.set_cons_succ]
              refine tree_one (i := 12) rfl ?_
              obtain ⟨⟨x0, x1⟩, xf, xl⟩ := zoff_at (HS.out.a _ (Chg.refl _ _)).1
              obtain ⟨⟨y0, y1⟩, yf, yl⟩ := zoff_at (HS.out.b _ (Chg.refl _ _)).1
              obtain ⟨n1, n2⟩ := HS.out.ne
              go_wp2_with (fail)
              (first | refine ⟨.inr ?keep138, ?_⟩ | refine ⟨?keep138, ?_⟩)
              case keep138 => ((first | exact HC.out _ HS.out.same | exact HC.out _ (oc_half HS.out) | exact HC.out _ (oc_end _ _ HS.out).same))
              try simp only [Act.put, List.setIfInBounds_toArray, List.set_cons_zero, List.set_cons_succ]
              refine tree_one (i := 13) rfl ?_
              go_wp2_with (fail)
              (first | refine ⟨.inr ?keep139, ?_⟩ | refine ⟨?keep139, ?_⟩)
              case keep139 => ((first | exact HC.out _ HS.out.same | exact HC.out _ (oc_half HS.out) | exact HC.out _ (oc_end _ _ HS.out).same))
              try simp only [Act.put, List.setIfInBounds_toArray, List.set_cons_zero, List.set_cons_succ]
              refine tree_end ?_
              go_wp2_with fail
              go_meet
              case rel => exact ⟨_, _, _, _, _, _, _, _, rfl, rfl, oc_end _ _ HS.out⟩
          · refine wpl_alloc _ _ (zeroOff _) rfl ?_
            generalize hz : World.alloc _ _ = wz at *
            (first | have HS := Lib.hid (HS.out.allocB2 hz) | have HS := Lib.hid (HS.out.allocB hz))
            clear hz
            refine tree_next (.inr ?keep139) ?_
            case keep139 => ((first | exact HC.out _ HS.out.same | exact HC.out _ (oc_half HS.out) | exact HC.out _ (oc_end _ _ HS.out).same))
            try simp only [Act.put, List.setIfInBounds_toArray, List.set_cons_zero, List.set_cons_succ]
            refine tree_one (i := 4) rfl ?_
            go_wp2_with (refine (oc_com1 HA.out HW.out hn hm HS.out).mono ?_; rintro e w1 ⟨A7, n7, c7, rfl, hs⟩; have HS := Lib.hid hs; clear hs)
            (first | refine ⟨.inr ?keep140, ?_⟩ | refine ⟨?keep140, ?_⟩)
            case keep140 => ((first | exact HC.out _ HS.out.same | exact HC.out _ (oc_half HS.out) | exact HC.out _ (oc_end _ _ HS.out).same))
            try simp only [Act.put, List.setIfInBounds_toArray, List.set_cons_zero, List.set_cons_succ]
            refine tree_one (i := 6) rfl ?_
            go_wp2_with (refine (prog_ok _ _ _ _ _).mono ?_; rintro e w1 ⟨rfl, hs⟩; have HS := Lib.hid (HS.out.step hs); clear hs)
            (first | refine ⟨.inr ?keep141, ?_⟩ | refine ⟨?keep141, ?_⟩)
            case keep141 => ((first | exact HC.out _ HS.out.same | exact HC.out _ (oc_half HS.out) | exact HC.out _ (oc_end _ _ HS.out).same))
            try simp only [Act.put, List.setIfInBounds_toArray, List.set_cons_zero, List.set_cons_succ]
            refine tree_one (i := 8) rfl ?_
            go_wp2_with (refine (prog_ok _ _ _ _ _).mono ?_; rintro e w1 ⟨rfl, hs⟩; have HS := Lib.hid (HS.out.step hs); clear hs)
            (first | refine ⟨.inr ?keep142, ?_⟩ | refine ⟨?keep142, ?_⟩)
            case keep142 => ((first | exact HC.out _ HS.out.same | exact HC.out _ (oc_half HS.out) | exact HC.out _ (oc_end _ _ HS.out).same))
            try simp only [Act.put, List.setIfInBounds_toArray, List.set_cons_zero, List.set_cons_succ]
            refine tree_one (i := 9) rfl ?_
            go_wp2_with (refine (oc_com2 HA.out HW.out hn hm HS.out).mono ?_; rintro e w1 ⟨A8, n8, c8, rfl, hs⟩; have HS := Lib.hid hs; clear hs)
            (first | refine ⟨.inr ?keep143, ?_⟩ | refine ⟨?keep143, ?_⟩)
            case keep143 => ((first | exact HC.out _ HS.out.same | exact HC.out _ (oc_half HS.out) | exact HC.out _ (oc_end _ _ HS.out).same))
            try simp only [Act.put, List.setIfInBounds_toArray, List.set_cons_zero, List.set_cons_succ]
            refine tree_one (i := 12) rfl ?_
            obtain ⟨⟨x0, x1⟩, xf, xl⟩ := zoff_at (HS.out.a _ (Chg.refl _ _)).1
            obtain ⟨⟨y0, y1⟩, yf, yl⟩ := zoff_at (HS.out.b _ (Chg.refl _ _)).1
            obtain ⟨n1, n2⟩ := HS.out.ne
            go_wp2_with (fail)
            (first | refine ⟨.inr ?keep144, ?_⟩ | refine ⟨?keep144, ?_⟩)
            case keep144 => ((first | exact HC.out _ HS.out.same | exact HC.out _ (oc_half HS.out) | exact HC.out _ (oc_end _ _ HS.out).same))
            try simp only [Act.put, List.setIfInBounds_toArray, List.set_cons_zero, List.set_cons_succ]
            refine tree_one (i := 13) rfl ?_
            go_wp2_with (fail)
            (first | refine ⟨.inr ?keep145, ?_⟩ | refine ⟨?keep145, ?_⟩)
            case keep145 => ((first | exact HC.out _ HS.out.same | exact HC.out _ (oc_half HS.out) | exact HC.out _ (oc_end _ _ HS.out).same))
            try simp only [Act.put, List.setIfInBounds_toArray, List.set_cons_zero, List.set_cons_succ]
            refine tree_end ?_
            go_wp2_with fail
            go_meet
            case rel => exact ⟨_, _, _, _, _, _, _, _, rfl, rfl, oc_end _ _ HS.out⟩
        · as_aux_lemma =>
          refine wpl_alloc _ _ (zeroOff _) rfl ?_
          generalize hz : World.alloc _ _ = wz at *
          (first | have HS := Lib.hid (HS.out.allocB2 hz) | have HS := Lib.hid (HS.out.allocB hz))
          clear hz
          refine tree_next (.inr ?keep145) ?_
          case keep145 => ((first | exact HC.out _ HS.out.same | exact HC.out _ (oc_half HS.out) | exact HC.out _ (oc_end _ _ HS.out).same))
          try simp only [Act.put, List.setIfInBounds_toArray, List.set_cons_zero, List.set_cons_succ]
          refine tree_fork (i := 4) (j := 10) rfl rfl ?_ ?_
          · go_wp2_with (refine (oc_com1 HA.out HW.out hn hm HS.out).mono ?_; rintro e w1 ⟨A7, n7, c7, rfl, hs⟩; have HS := Lib.hid hs; clear hs)
            (first | refine ⟨.inr ?keep146, ?_⟩ | refine ⟨?keep146, ?_⟩)
            case keep146 => ((first | exact HC.out _ HS.out.same | exact HC.out _ (oc_half HS.out) | exact HC.out _ (oc_end _ _ HS.out).same))
            try simp only [Act.put, List.setIfInBounds_toArray, List.set_cons_zero, List.set_cons_succ]
            refine tree_fork (i := 6) (j := 10) rfl rfl ?_ ?_
            · go_wp2_with (refine (prog_ok _ _ _ _ _).mono ?_; rintro e w1 ⟨rfl, hs⟩; have HS := Lib.hid (HS.out.step hs); clear hs)
              (first | refine ⟨.inr ?keep148, ?_⟩ | refine ⟨?keep148, ?_⟩)
              case keep148 => ((first | exact HC.out _ HS.out.same | exact HC.out _ (oc_half HS.out) | exact HC.out _ (oc_end _ _ HS.out).same))
              try simp only [Act.put, List.setIfInBounds_toArray, List.set_cons_zero, List.set_cons_succ]
              refine tree_fork (i := 8) (j := 10) rfl rfl ?_ ?_
              · go_wp2_with (refine (prog_ok _ _ _ _ _).mono ?_; rintro e w1 ⟨rfl, hs⟩; have HS := Lib.hid (HS.out.step hs); clear hs)
                (first | refine ⟨.inr ?keep150, ?_⟩ | refine ⟨?keep150, ?_⟩)
                case keep150 => ((first | exact HC.out _ HS.out.same | exact HC.out _ (oc_half HS.out) | exact HC.out _ (oc_end _ _ HS.out).same))
                try simp only [Act.put, List.setIfInBounds_toArray, List.set_cons_zero, List.set_cons_succ]
                refine tree_fork (i := 9) (j := 10) rfl rfl ?_ ?_
                · go_wp2_with (refine (oc_com2 HA.out HW.out hn hm HS.out).mono ?_; rintro e w1 ⟨A8, n8, c8, rfl, hs⟩; have HS := Lib.hid hs; clear hs)
                  (first | refine ⟨.inr ?keep152, ?_⟩ | refine ⟨?keep152, ?_⟩)
                  case keep152 => ((first | exact HC.out _ HS.out.same | exact HC.out _ (oc_half HS.out) | exact HC.out _ (oc_end _ _ HS.out).same))
                  try simp only [Act.put, List.setIfInBounds_toArray, List.set_cons_zero, List.set_cons_succ]
                  refine tree_one (i := 10) rfl ?_
                  refine wpl_alloc _ _ (zeroOff _) rfl ?_
                  generalize hz : World.alloc _ _ = wz at *
                  (first | have HS := Lib.hid (HS.out.allocA2 hz) | have HS := Lib.hid (HS.out.allocA hz))
                  clear hz
                  refine tree_next (.inr ?keep154) ?_
                  case keep154 => ((first | exact HC.out _ HS.out.same | exact HC.out _ (oc_half HS.out) | exact HC.out _ (oc_end _ _ HS.out).same))
                  try simp only [Act.put, List.setIfInBounds_toArray, List.set_cons_zero, List.set_cons_succ]
                  refine tree_one (i := 12) rfl ?_
                  obtain ⟨⟨x0, x1⟩, xf, xl⟩ := zoff_at (HS.out.a _ (Chg.refl _ _)).1
                  obtain ⟨⟨y0, y1⟩, yf, yl⟩ := zoff_at (HS.out.b _ (Chg.refl _ _)).1
                  obtain ⟨n1, n2⟩ := HS.out.ne
                  go_wp2_with (fail)
                  (first | refine ⟨.inr ?keep155, ?_⟩ | refine ⟨?keep155, ?_⟩)
                  case keep155 => ((first | exact HC.out _ HS.out.same | exact HC.out _ (oc_half HS.out) | exact HC.out _ (oc_end _ _ HS.out).same))
                  try simp only [Act.put, List.setIfInBounds_toArray, List.set_cons_zero, List.set_cons_succ]
                  refine tree_one (i := 13) rfl ?_
                  go_wp2_with (fail)
                  (first | refine ⟨.inr ?keep156, ?_⟩ | refine ⟨?keep156, ?_⟩)
                  case keep156 => ((first | exact HC.out _ HS.out.same | exact HC.out _ (oc_half HS.out) | exact HC.out _ (oc_end _ _ HS.out).same))
                  try simp only [Act.put, List.setIfInBounds_toArray, List.set_cons_zero, List.set_cons_succ]
                  refine tree_end ?_
                  go_wp2_with fail
                  go_meet
                  case rel => exact ⟨_, _, _, _, _, _, _, _, rfl, rfl, oc_end _ _ HS.out⟩
                · refine wpl_alloc _ _ (zeroOff _) rfl ?_
                  generalize hz : World.alloc _ _ = wz at *
                  (first | have HS := Lib.hid (HS.out.allocA2 hz) | have HS := Lib.hid (HS.out.allocA hz))
                  clear hz
                  refine tree_next (.inr ?keep156) ?_
                  case keep156 => ((first | exact HC.out _ HS.out.same | exact HC.out _ (oc_half HS.out) | exact HC.out _ (oc_end _ _ HS.out).same))
                  try simp only [Act.put, List.setIfInBounds_toArray, List.set_cons_zero, List.set_cons_succ]
                  refine tree_one (i := 9) rfl ?_
                  go_wp2_with (refine (oc_com2 HA.out HW.out hn hm HS.out).mono ?_; rintro e w1 ⟨A8, n8, c8, rfl, hs⟩; have HS := Lib.hid hs; clear hs)
                  (first | refine ⟨.inr ?keep157, ?_⟩ | refine ⟨?keep157, ?_⟩)
                  case keep157 => ((first | exact HC.out _ HS.out.same | exact HC.out _ (oc_half HS.out) | exact HC.out _ (oc_end _ _ HS.out).same))
                  try simp only [Act.put, List.setIfInBounds_toArray, List.set_cons_zero, List.set_cons_succ]
                  refine tree_one (i := 12) rfl ?_
                  obtain ⟨⟨x0, x1⟩, xf, xl⟩ := zoff_at (HS.out.a _ (Chg.refl _ _)).1
                  obtain ⟨⟨y0, y1⟩, yf, yl⟩ := zoff_at (HS.out.b _ (Chg.refl _ _)).1
                  obtain ⟨n1, n2⟩ := HS.out.ne
                  go_wp2_with (fail)
                  (first | refine ⟨.inr ?keep158, ?_⟩ | refine ⟨?keep158, ?_⟩)
                  case keep158 => ((first | exact HC.out _ HS.out.same | exact HC.out _ (oc_half HS.out) | exact HC.out _ (oc_end _ _ HS.out).same))
                  try simp only [Act.put, List.setIfInBounds_toArray, List.set_cons_zero, List.set_cons_succ]
                  refine tree_one (i := 13) rfl ?_
                  go_wp2_with (fail)
                  (first | refine ⟨.inr ?keep159, ?_⟩ | refine ⟨?keep159, ?_⟩)
                  case keep159 => ((first | exact HC.out _ HS.out.same | exact HC.out _ (oc_half HS.out) | exact HC.out _ (oc_end _ _ HS.out).same))
                  try simp only [Act.put, List.setIfInBounds_toArray, List.set_cons_zero, List.set_cons_succ]
                  refine tree_end ?_
                  go_wp2_with fail
                  go_meet
                  case rel => exact ⟨_, _, _, _, _, _, _, _, rfl, rfl, oc_end _ _ HS.out⟩
              · refine wpl_alloc _ _ (zeroOff _) rfl ?_
                generalize hz : World.alloc _ _ = wz at *
                (first | have HS := Lib.hid (HS.out.allocA2 hz) | have HS := Lib.hid (HS.out.allocA hz))
                clear hz
                refine tree_next (.inr ?keep159) ?_
                case keep159 => ((first | exact HC.out _ HS.out.same | exact HC.out _ (oc_half HS.out) | exact HC.out _ (oc_end _ _ HS.out).same))
                try simp only [Act.put, List.setIfInBounds_toArray, List.set_cons_zero, List.set_cons_succ]
                refine tree_one (i := 8) rfl ?_
                go_wp2_with (refine (prog_ok _ _ _ _ _).mono ?_; rintro e w1 ⟨rfl, hs⟩; have HS := Lib.hid (HS.out.step hs); clear hs)
                (first | refine ⟨.inr ?keep160, ?_⟩ | refine ⟨?keep160, ?_⟩)
                case keep160 => ((first | exact HC.out _ HS.out.same | exact HC.out _ (oc_half HS.out) | exact HC.out _ (oc_end _ _ HS.out).same))
                try simp only [Act.put, List.setIfInBounds_toArray, List.set_cons_zero, List.set_cons_succ]
                refine tree_one (i := 9) rfl ?_
                go_wp2_with (refine (oc_com2 HA.out HW.out hn hm HS.out).mono ?_; rintro e w1 ⟨A8, n8, c8, rfl, hs⟩; have HS := Lib.hid hs; clear hs)
                (first | refine ⟨.inr ?keep161, ?_⟩ | refine ⟨?keep161, ?_⟩)
                case keep161 => ((first | exact HC.out _ HS.out.same | exact HC.out _ (oc_half HS.out) | exact HC.out _ (oc_end _ _ HS.out).same))
                try simp only [Act.put, List.setIfInBounds_toArray, List.set_cons_zero, List.set_cons_succ]
                refine tree_one (i := 12) rfl ?_
                obtain ⟨⟨x0, x1⟩, xf, xl⟩ := zoff_at (HS.out.a _ (Chg.refl _ _)).1
                obtain ⟨⟨y0, y1⟩, yf, yl⟩ := zoff_at (HS.out.b _ (Chg.refl _ _)).1
                obtain ⟨n1, n2⟩ := HS.out.ne
                go_wp2_with (fail)
                (first | refine ⟨.inr ?keep162, ?_⟩ | refine ⟨?keep162, ?_⟩)
                case keep162 => ((first | exact HC.out _ HS.out.same | exact HC.out _ (oc_half HS.out) | exact HC.out _ (oc_end _ _ HS.out).same))
                try simp only [Act.put, List.setIfInBounds_toArray, List.set_cons_zero, List.set_cons_succ]
                refine tree_one (i := 13) rfl ?_
                go_wp2_with (fail)
                (first | refine ⟨.inr ?keep163, ?_⟩ | refine ⟨?keep163, ?_⟩)
                case keep163 => ((first | exact HC.out _ HS.out.same | exact HC.out _ (oc_half HS.out) | exact HC.out _ (oc_end _ _ HS.out).same))
                try simp only [Act.put, List.setIfInBounds_toArray, List.set_cons_zero, List.set_cons_succ]
                refine tree_end ?_
                go_wp2_with fail
                go_meet
                case rel => exact ⟨_, _, _, _, _, _, _, _, rfl, rfl, oc_end _ _ HS.out⟩
            · refine wpl_alloc _ _ (zeroOff _) rfl ?_
              generalize hz : World.alloc _ _ = wz at *
              (first | have HS := Lib.hid (HS.out.allocA2 hz) | have HS := Lib.hid (HS.out.allocA hz))
              clear hz
              refine tree_next (.inr ?keep163) ?_
              case keep163 => ((first | exact HC.out _ HS.out.same | exact HC.out _ (oc_half HS.out) | exact HC.out _ (oc_end _ _ HS.out).same))
              try simp only [Act.put, List.setIfInBounds_toArray, List.set_cons_zero, List.set_cons_succ]
              refine tree_one (i := 6) rfl ?_
              go_wp2_with (refine (prog_ok _ _ _ _ _).mono ?_; rintro e w1 ⟨rfl, hs⟩; have HS := Lib.hid (HS.out.step hs); clear hs)
              (first | refine ⟨.inr ?keep164, ?_⟩ | refine ⟨?keep164, ?_⟩)
              case keep164 => ((first | exact HC.out _ HS.out.same | exact HC.out _ (oc_half HS.out) | exact HC.out _ (oc_end _ _ HS.out).same))
              try simp only [Act.put, List.setIfInBounds_toArray, List.set_cons_zero, List.set_cons_succ]
              refine tree_one (i := 8) rfl ?_
              go_wp2_with (refine (prog_ok _ _ _ _ _).mono ?_; rintro e w1 ⟨rfl, hs⟩; have HS := Lib.hid (HS.out.step hs); clear hs)
              (first | refine ⟨.inr ?keep165, ?_⟩ | refine ⟨?keep165, ?_⟩)
              case keep165 => ((first | exact HC.out _ HS.out.same | exact HC.out _ (oc_half HS.out) | exact HC.out _ (oc_end _ _ HS.out).same))
              try simp only [Act.put, List.setIfInBounds_toArray, List.set_cons_zero, List.set_cons_succ]
              refine tree_one (i := 9) rfl ?_
              go_wp2_with (refine (oc_com2 HA.out HW.out hn hm HS.out).mono ?_; rintro e w1 ⟨A8, n8, c8, rfl, hs⟩; have HS := Lib.hid hs; clear hs)
              (first | refine ⟨.inr ?keep166, ?_⟩ | refine ⟨?keep166, ?_⟩)
              case keep166 => ((first | exact HC.out _ HS.out.same | exact HC.out _ (oc_half HS.out) | exact HC.out _ (oc_end _ _ HS.out).same))
              try simp only [Act.put, List.setIfInBounds_toArray, List.set_cons_zero, List.set_cons_succ]
              refine tree_one (i := 12) rfl ?_
              obtain ⟨⟨x0, x1⟩, xf, xl⟩ := zoff_at (HS.out.a _ (Chg.refl _ _)).1
              obtain ⟨⟨y0, y1⟩, yf, yl⟩ := zoff_at (HS.out.b _ (Chg.refl _ _)).1
              obtain ⟨n1, n2⟩ := HS.out.ne
              go_wp2_with (fail)
              (first | refine ⟨.inr ?keep167, ?_⟩ | refine ⟨?keep167, ?_⟩)
              case keep167 => ((first | exact HC.out _ HS.out.same | exact HC.out _ (oc_half HS.out) | exact HC.out _ (oc_end _ _ HS.out).same))
              try simp only [Act.put, List.setIfInBounds_toArray, List.set_cons_zero, List.set_cons_succ]
              refine tree_one (i := 13) rfl ?_
              go_wp2_with (fail)
              (first | refine ⟨.inr ?keep168, ?_⟩ | refine ⟨?keep168, ?_⟩)
              case keep168 => ((first | exact HC.out _ HS.out.same | exact HC.out _ (oc_half HS.out) | exact HC.out _ (oc_end _ _ HS.out).same))
              try simp only [Act.put, List.setIfInBounds_toArray, List.set_cons_zero, List.set_cons_succ]
              refine tree_end ?_
              go_wp2_with fail
              go_meet
              case rel => exact ⟨_, _, _, _, _, _, _, _, rfl, rfl, oc_end _ _ HS.out⟩
          · refine wpl_alloc _ _ (zeroOff _) rfl ?_
            generalize hz : World.alloc _ _ = wz at *
            (first | have HS := Lib.hid (HS.out.allocA2 hz) | have HS := Lib.hid (HS.out.allocA hz))
            clear hz
            refine tree_next (.inr ?keep168) ?_
            case keep168 => ((first | exact HC.out _ HS.out.same | exact HC.out _ (oc_half HS.out) | exact HC.out _ (oc_end _ _ HS.out).same))
            try simp only [Act.put, List.setIfInBounds_toArray, List.set_cons_zero, List.set_cons_succ]
            refine tree_one (i := 4) rfl ?_
            go_wp2_with (refine (oc_com1 HA.out HW.out hn hm HS.out).mono ?_; rintro e w1 ⟨A7, n7, c7, rfl, hs⟩; have HS := Lib.hid hs; clear hs)
            (first | refine ⟨.inr ?keep169, ?_⟩ | refine ⟨?keep169, ?_⟩)
            case keep169 => ((first | exact HC.out _ HS.out.same | exact HC.out _ (oc_half HS.out) | exact HC.out _ (oc_end _ _ HS.out).same))
            try simp only [Act.put, List.setIfInBounds_toArray, List.set_cons_zero, List.set_cons_succ]
            refine tree_one (i := 6) rfl ?_
            go_wp2_with (refine (prog_ok _ _ _ _ _).mono ?_; rintro e w1 ⟨rfl, hs⟩; have HS := Lib.hid (HS.out.step hs); clear hs)
            (first | refine ⟨.inr ?keep170, ?_⟩ | refine ⟨?keep170, ?_⟩)
            case keep170 => ((first | exact HC.out _ HS.out.same | exact HC.out _ (oc_half HS.out) | exact HC.out _ (oc_end _ _ HS.out).same))
            try simp only [Act.put, List.setIfInBounds_toArray, List.set_cons_zero, List.set_cons_succ]
            refine tree_one (i := 8) rfl ?_
            go_wp2_with (refine (prog_ok _ _ _ _ _).mono ?_; rintro e w1 ⟨rfl, hs⟩; have HS := Lib.hid (HS.out.step hs); clear hs)
            (first | refine ⟨.inr ?keep171, ?_⟩ | refine ⟨?keep171, ?_⟩)
            case keep171 => ((first | exact HC.out _ HS.out.same | exact HC.out _ (oc_half HS.out) | exact HC.out _ (oc_end _ _ HS.out).same))
            try simp only [Act.put, List.setIfInBounds_toArray, List.set_cons_zero, List.set_cons_succ]
            refine tree_one (i := 9) rfl ?_
            go_wp2_with (refine (oc_com2 HA.out HW.out hn hm HS.out).mono ?_; rintro e w1 ⟨A8, n8, c8, rfl, hs⟩; have HS := Lib.hid hs; clear hs)
            (first | refine ⟨.inr ?keep172, ?_⟩ | refine ⟨?keep172, ?_⟩)
            case keep172 => ((first | exact HC.out _ HS.out.same | exact HC.out _ (oc_half HS.out) | exact HC.out _ (oc_end _ _ HS.out).same))
            try simp only [Act.put, List.setIfInBounds_toArray, List.set_cons_zero, List.set_cons_succ]
            refine tree_one (i := 12) rfl ?_
            obtain ⟨⟨x0, x1⟩, xf, xl⟩ := zoff_at (HS.out.a _ (Chg.refl _ _)).1
            obtain ⟨⟨y0, y1⟩, yf, yl⟩ := zoff_at (HS.out.b _ (Chg.refl _ _)).1
            obtain ⟨n1, n2⟩ := HS.out.ne
            go_wp2_with (fail)
            (first | refine ⟨.inr ?keep173, ?_⟩ | refine ⟨?keep173, ?_⟩)
            case keep173 => ((first | exact HC.out _ HS.out.same | exact HC.out _ (oc_half HS.out) | exact HC.out _ (oc_end _ _ HS.out).same))
            try simp only [Act.put, List.setIfInBounds_toArray, List.set_cons_zero, List.set_cons_succ]
            refine tree_one (i := 13) rfl ?_
            go_wp2_with (fail)
            (first | refine ⟨.inr ?keep174, ?_⟩ | refine ⟨?keep174, ?_⟩)
            case keep174 => ((first | exact HC.out _ HS.out.same | exact HC.out _ (oc_half HS.out) | exact HC.out _ (oc_end _ _ HS.out).same))
            try simp only [Act.put, List.setIfInBounds_toArray, List.set_cons_zero, List.set_cons_succ]
            refine tree_end ?_
            go_wp2_with fail
            go_meet
            case rel => exact ⟨_, _, _, _, _, _, _, _, rfl, rfl, oc_end _ _ HS.out⟩
      · as_aux_lemma =>
        refine wpl_alloc _ _ (zeroOff _) rfl ?_
        generalize hz : World.alloc _ _ = wz at *
        (first | have HS := Lib.hid (HS.out.allocA2 hz) | have HS := Lib.hid (HS.out.allocA hz))
        clear hz
        refine tree_next (.inr ?keep173) ?_
        case keep173 => ((first | exact HC.out _ HS.out.same | exact HC.out _ (oc_half HS.out) | exact HC.out _ (oc_end _ _ HS.out).same))
        try simp only [Act.put, List.setIfInBounds_toArray, List.set_cons_zero, List.set_cons_succ]
        refine tree_fork (i := 3) (j := 11) rfl rfl ?_ ?_
        · go_wp2_with (refine (prog_ok _ _ _ _ _).mono ?_; rintro e w1 ⟨rfl, hs⟩; have HS := Lib.hid (HS.out.step hs); clear hs)
          (first | refine ⟨.inr ?keep175, ?_⟩ | refine ⟨?keep175, ?_⟩)
          case keep175 => ((first | exact HC.out _ HS.out.same | exact HC.out _ (oc_half HS.out) | exact HC.out _ (oc_end _ _ HS.out).same))
          try simp only [Act.put, List.setIfInBounds_toArray, List.set_cons_zero, List.set_cons_succ]
          refine tree_fork (i := 4) (j := 11) rfl rfl ?_ ?_
          · go_wp2_with (refine (oc_com1 HA.out HW.out hn hm HS.out).mono ?_; rintro e w1 ⟨A7, n7, c7, rfl, hs⟩; have HS := Lib.hid hs; clear hs)
            (first | refine ⟨.inr ?keep177, ?_⟩ | refine ⟨?keep177, ?_⟩)
            case keep177 => ((first | exact HC.out _ HS.out.same | exact HC.out _ (oc_half HS.out) | exact HC.out _ (oc_end _ _ HS.out).same))
            try simp only [Act.put, List.setIfInBounds_toArray, List.set_cons_zero, List.set_cons_succ]
            refine tree_fork (i := 6) (j := 11) rfl rfl ?_ ?_
            · go_wp2_with (refine (prog_ok _ _ _ _ _).mono ?_; rintro e w1 ⟨rfl, hs⟩; have HS := Lib.hid (HS.out.step hs); clear hs)
              (first | refine ⟨.inr ?keep179, ?_⟩ | refine ⟨?keep179, ?_⟩)
              case keep179 => ((first | exact HC.out _ HS.out.same | exact HC.out _ (oc_half HS.out) | exact HC.out _ (oc_end _ _ HS.out).same))
              try simp only [Act.put, List.setIfInBounds_toArray, List.set_cons_zero, List.set_cons_succ]
              refine tree_fork (i := 8) (j := 11) rfl rfl ?_ ?_
              · go_wp2_with (refine (prog_ok _ _ _ _ _).mono ?_; rintro e w1 ⟨rfl, hs⟩; have HS := Lib.hid (HS.out.step hs); clear hs)
                (first | refine ⟨.inr ?keep181, ?_⟩ | refine ⟨?keep181, ?_⟩)
                case keep181 => ((first | exact HC.out _ HS.out.same | exact HC.out _ (oc_half HS.out) | exact HC.out _ (oc_end _ _ HS.out).same))
                try simp only [Act.put, List.setIfInBounds_toArray, List.set_cons_zero, List.set_cons_succ]
                refine tree_fork (i := 9) (j := 11) rfl rfl ?_ ?_
                · go_wp2_with (refine (oc_com2 HA.out HW.out hn hm HS.out).mono ?_; rintro e w1 ⟨A8, n8, c8, rfl, hs⟩; have HS := Lib.hid hs; clear hs)
                  (first | refine ⟨.inr ?keep183, ?_⟩ | refine ⟨?keep183, ?_⟩)
                  case keep183 => ((first | exact HC.out _ HS.out.same | exact HC.out _ (oc_half HS.out) | exact HC.out _ (oc_end _ _ HS.out).same))
                  try simp only [Act.put, List.setIfInBounds_toArray, List.set_cons_zero, List.set_cons_succ]
                  refine tree_one (i := 11) rfl ?_
                  refine wpl_alloc _ _ (zeroOff _) rfl ?_
                  generalize hz : World.alloc _ _ = wz at *
                  (first | have HS := Lib.hid (HS.out.allocB2 hz) | have HS := Lib.hid (HS.out.allocB hz))
                  clear hz
                  refine tree_next (.inr ?keep185) ?_
                  case keep185 => ((first | exact HC.out _ HS.out.same | exact HC.out _ (oc_half HS.out) | exact HC.out _ (oc_end _ _ HS.out).same))
                  try simp only [Act.put, List.setIfInBounds_toArray, List.set_cons_zero, List.set_cons_succ]
                  refine tree_one (i := 12) rfl ?_
                  obtain ⟨⟨x0, x1⟩, xf, xl⟩ := zoff_at (HS.out.a _ (Chg.refl _ _)).1
                  obtain ⟨⟨y0, y1⟩, yf, yl⟩ := zoff_at (HS.out.b _ (Chg.refl _ _)).1
                  obtain ⟨n1, n2⟩ := HS.out.ne
                  go_wp2_with (fail)
                  (first | refine ⟨.inr ?keep186, ?_⟩ | refine ⟨?keep186, ?_⟩)
                  case keep186 => ((first | exact HC.out _ HS.out.same | exact HC.out _ (oc_half HS.out) | exact HC.out _ (oc_end _ _ HS.out).same))
                  try simp only [Act.put, List.setIfInBounds_toArray, List.set_cons_zero, List.set_cons_succ]
                  refine tree_one (i := 13) rfl ?_
                  go_wp2_with (fail)
                  (first | refine ⟨.inr ?keep187, ?_⟩ | refine ⟨?keep187, ?_⟩)
                  case keep187 => ((first | exact HC.out _ HS.out.same | exact HC.out _ (oc_half HS.out) | exact HC.out _ (oc_end _ _ HS.out).same))
                  try simp only [Act.put, List.setIfInBounds_toArray, List.set_cons_zero, List.set_cons_succ]
                  refine tree_end ?_
                  go_wp2_with fail
                  go_meet
                  case rel => exact ⟨_, _, _, _, _, _, _, _, rfl, rfl, oc_end _ _ HS.out⟩
                · refine wpl_alloc _ _ (zeroOff _) rfl ?_
                  generalize hz : World.alloc _ _ = wz at *
                  (first | have HS := Lib.hid (HS.out.allocB2 hz) | have HS := Lib.hid (HS.out.allocB hz))
                  clear hz
                  refine tree_next (.inr ?keep187) ?_
                  case keep187 => ((first | exact HC.out _ HS.out.same | exact HC.out _ (oc_half HS.out) | exact HC.out _ (oc_end _ _ HS.out).same))
                  try simp only [Act.put, List.setIfInBounds_toArray, List.set_cons_zero, List.set_cons_succ]
                  refine tree_one (i := 9) rfl ?_
                  go_wp2_with (refine (oc_com2 HA.out HW.out hn hm HS.out).mono ?_; rintro e w1 ⟨A8, n8, c8, rfl, hs⟩; have HS := Lib.hid hs; clear hs)
                  (first | refine ⟨.inr ?keep188, ?_⟩ | refine ⟨?keep188, ?_⟩)
                  case keep188 => ((first | exact HC.out _ HS.out.same | exact HC.out _ (oc_half HS.out) | exact HC.out _ (oc_end _ _ HS.out).same))
                  try simp only [Act.put, List.setIfInBounds_toArray, List.set_cons_zero, List.set_cons_succ]
                  refine tree_one (i := 12) rfl ?_
                  obtain ⟨⟨x0, x1⟩, xf, xl⟩ := zoff_at (HS.out.a _ (Chg.refl _ _)).1
                  obtain ⟨⟨y0, y1⟩, yf, yl⟩ := zoff_at (HS.out.b _ (Chg.refl _ _)).1
                  obtain ⟨n1, n2⟩ := HS.out.ne
                  go_wp2_with (fail)
                  (first | refine ⟨.inr ?keep189, ?_⟩ | refine ⟨?keep189, ?_⟩)
                  case keep189 => ((first | exact HC.out _ HS.out.same | exact HC.out _ (oc_half HS.out) | exact HC.out _ (oc_end _ _ HS.out).same))
                  try simp only [Act.put, List.setIfInBounds_toArray, List.set_cons_zero, List.set_cons_succ]
                  refine tree_one (i := 13) rfl ?_
                  go_wp2_with (fail)
                  (first | refine ⟨.inr ?keep190, ?_⟩ | refine ⟨?keep190, ?_⟩)
                  case keep190 => ((first | exact HC.out _ HS.out.same | exact HC.out _ (oc_half HS.out) | exact HC.out _ (oc_end _ _ HS.out).same))
                  try simp only [Act.put, List.setIfInBounds_toArray, List.set_cons_zero, List.set_cons_succ]
                  refine tree_end ?_
                  go_wp2_with fail
                  go_meet
                  case rel => exact ⟨_, _, _, _, _, _, _, _, rfl, rfl, oc_end _ _ HS.out⟩
              · refine wpl_alloc _ _ (zeroOff _) rfl ?_
                generalize hz : World.alloc _ _ = wz at *
                (first | have HS := Lib.hid (HS.out.allocB2 hz) | have HS := Lib.hid (HS.out.allocB hz))
                clear hz
                refine tree_next (.inr ?keep190) ?_
                case keep190 => ((first | exact HC.out _ HS.out.same | exact HC.out _ (oc_half HS.out) | exact HC.out _ (oc_end _ _ HS.out).same))
                try simp only [Act.put, List.setIfInBounds_toArray, List.set_cons_zero, List.set_cons_succ]
                refine tree_one (i := 8) rfl ?_
                go_wp2_with (refine (prog_ok _ _ _ _ _).mono ?_; rintro e w1 ⟨rfl, hs⟩; have HS := Lib.hid (HS.out.step hs); clear hs)
                (first | refine ⟨.inr ?keep191, ?_⟩ | refine ⟨?keep191, ?_⟩)
                case keep191 => ((first | exact HC.out _ HS.out.same | exact HC.out _ (oc_half HS.out) | exact HC.out _ (oc_end _ _ HS.out).same))
                try simp only [Act.put, List.setIfInBounds_toArray, List.set_cons_zero, List.set_cons_succ]
                refine tree_one (i := 9) rfl ?_
                go_wp2_with (refine (oc_com2 HA.out HW.out hn hm HS.out).mono ?_; rintro e w1 ⟨A8, n8, c8, rfl, hs⟩; have HS := Lib.hid hs; clear hs)
                (first | refine ⟨.inr ?keep192, ?_⟩ | refine ⟨?keep192, ?_⟩)
                case keep192 => ((first | exact HC.out _ HS.out.same | exact HC.out _ (oc_half HS.out) | exact HC.out _ (oc_end _ _ HS.out).same))
                try simp only [Act.put, List.setIfInBounds_toArray, List.set_cons_zero, List.set_cons_succ]
                refine tree_one (i := 12) rfl ?_
                obtain ⟨⟨x0, x1⟩, xf, xl⟩ := zoff_at (HS.out.a _ (Chg.refl _ _)).1
                obtain ⟨⟨y0, y1⟩, yf, yl⟩ := zoff_at (HS.out.b _ (Chg.refl _ _)).1
                obtain ⟨n1, n2⟩ := HS.out.ne
                go_wp2_with (fail)
                (first | refine ⟨.inr ?keep193, ?_⟩ | refine ⟨?keep193, ?_⟩)
                case keep193 => ((first | exact HC.out _ HS.out.same | exact HC.out _ (oc_half HS.out) | exact HC.out _ (oc_end _ _ HS.out).same))
                try simp only [Act.put, List.setIfInBounds_toArray, List.set_cons_zero, List.set_cons_succ]
                refine tree_one (i := 13) rfl ?_
                go_wp2_with (fail)
                (first | refine ⟨.inr ?keep194, ?_⟩ | refine ⟨?keep194, ?_⟩)
                case keep194 => ((first | exact HC.out _ HS.out.same | exact HC.out _ (oc_half HS.out) | exact HC.out _ (oc_end _ _ HS.out).same))
                try simp only [Act.put, List.setIfInBounds_toArray, List.set_cons_zero, List.set_cons_succ]
                refine tree_end ?_
                go_wp2_with fail
                go_meet
                case rel => exact ⟨_, _, _, _, _, _, _, _, rfl, rfl, oc_end _ _ HS.out⟩
            · refine wpl_alloc _ _ (zeroOff _) rfl ?_
              generalize hz : World.alloc _ _ = wz at *
              (first | have HS := Lib.hid (HS.out.allocB2 hz) | have HS := Lib.hid (HS.out.allocB hz))
              clear hz
              refine tree_next (.inr ?keep194) ?_
              case keep194 => ((first | exact HC.out _ HS.out.same | exact HC.out _ (oc_half HS.out) | exact HC.out _ (oc_end _ _ HS.out).same))
              try simp only [Act.put, List.setIfInBounds_toArray, List.set_cons_zero, List.set_cons_succ]
              refine tree_one (i := 6) rfl ?_
              go_wp2_with (refine (prog_ok _ _ _ _ _).mono ?_; rintro e w1 ⟨rfl, hs⟩; have HS := Lib.hid (HS.out.step hs); clear hs)
              (first | refine ⟨.inr ?keep195, ?_⟩ | refine ⟨?keep195, ?_⟩)
              case keep195 => ((first | exact HC.out _ HS.out.same | exact HC.out _ (oc_half HS.out) | exact HC.out _ (oc_end _ _ HS.out).same))
              try simp only [Act.put, List.setIfInBounds_toArray, List.set_cons_zero, List.set_cons_succ]
              refine tree_one (i := 8) rfl ?_
              go_wp2_with (refine (prog_ok _ _ _ _ _).mono ?_; rintro e w1 ⟨rfl, hs⟩; have HS := Lib.hid (HS.out.step hs); clear hs)
              (first | refine ⟨.inr ?keep196, ?_⟩ | refine ⟨?keep196, ?_⟩)
              case keep196 => ((first | exact HC.out _ HS.out.same | exact HC.out _ (oc_half HS.out) | exact HC.out _ (oc_end _ _ HS.out).same))
              try simp only [Act.put, List.setIfInBounds_toArray, List.set_cons_zero, List.set_cons_succ]
              refine tree_one (i := 9) rfl ?_
              go_wp2_with (refine (oc_com2 HA.out HW.out hn hm HS.out).mono ?_; rintro e w1 ⟨A8, n8, c8, rfl, hs⟩; have HS := Lib.hid hs; clear hs)
              (first | refine ⟨.inr ?keep197, ?_⟩ | refine ⟨?keep197, ?_⟩)
              case keep197 => ((first | exact HC.out _ HS.out.same | exact HC.out _ (oc_half HS.out) | exact HC.out _ (oc_end _ _ HS.out).same))
              try simp only [Act.put, List.setIfInBounds_toArray, List.set_cons_zero, List.set_cons_succ]
              refine tree_one (i := 12) rfl ?_
              obtain ⟨⟨x0, x1⟩, xf, xl⟩ := zoff_at (HS.out.a _ (Chg.refl _ _)).1
              obtain ⟨⟨y0, y1⟩, yf, yl⟩ := zoff_at (HS.out.b _ (Chg.refl _ _)).1
              obtain ⟨n1, n2⟩ := HS.out.ne
              go_wp2_with (fail)
              (first | refine ⟨.inr ?keep198, ?_⟩ | refine ⟨?keep198, ?_⟩)
              case keep198 => ((first | exact HC.out _ HS.out.same | exact HC.out _ (oc_half HS.out) | exact HC.out _ (oc_end _ _ HS.out).same))
              try simp only [Act.put, List.setIfInBounds_toArray, List.set_cons_zero, List.set_cons_succ]
              refine tree_one (i := 13) rfl ?_
              go_wp2_with (fail)
              (first | refine ⟨.inr ?keep199, ?_⟩ | refine ⟨?keep199, ?_⟩)
              case keep199 => ((first | exact HC.out _ HS.out.same | exact HC.out _ (oc_half HS.out) | exact HC.out _ (oc_end _ _ HS.out).same))
              try simp only [Act.put, List.setIfInBounds_toArray, List.set_cons_zero, List.set_cons_succ]
              refine tree_end ?_
              go_wp2_with fail
              go_meet
              case rel => exact ⟨_, _, _, _, _, _, _, _, rfl, rfl, oc_end _ _ HS.out⟩
          · refine wpl_alloc _ _ (zeroOff _) rfl ?_
            generalize hz : World.alloc _ _ = wz at *
            (first | have HS := Lib.hid (HS.out.allocB2 hz) | have HS := Lib.hid (HS.out.allocB hz))
            clear hz
            refine tree_next (.inr ?keep199) ?_
            case keep199 => ((first | exact HC.out _ HS.out.same | exact HC.out _ (oc_half HS.out) | exact HC.out _ (oc_end _ _ HS.out).same))
            try simp only [Act.put, List.setIfInBounds_toArray, List.set_cons_zero, List.set_cons_succ]
            refine tree_one (i := 4) rfl ?_
            go_wp2_with (refine (oc_com1 HA.out HW.out hn hm HS.out).mono ?_; rintro e w1 ⟨A7, n7, c7, rfl, hs⟩; have HS := Lib.hid hs; clear hs)
            (first | refine ⟨.inr ?keep200, ?_⟩ | refine ⟨?keep200, ?_⟩)
            case keep200 => ((first | exact HC.out _ HS.out.same | exact HC.out _ (oc_half HS.out) | exact HC.out _ (oc_end _ _ HS.out).same))
            try simp only [Act.put, List.setIfInBounds_toArray, List.set_cons_zero, List.set_cons_succ]
            refine tree_one (i := 6) rfl ?_
            go_wp2_with (refine (prog_ok _ _ _ _ _).mono ?_; rintro e w1 ⟨rfl, hs⟩; have HS := Lib.hid (HS.out.step hs); clear hs)
            (first | refine ⟨.inr ?keep201, ?_⟩ | refine ⟨?keep201, ?_⟩)
            case keep201 => ((first | exact HC.out _ HS.out.same | exact HC.out _ (oc_half HS.out) | exact HC.out _ (oc_end _ _ HS.out).same))
            try simp only [Act.put, List.setIfInBounds_toArray, List.set_cons_zero, List.set_cons_succ]
            refine tree_one (i := 8) rfl ?_
            go_wp2_with (refine (prog_ok _ _ _ _ _).mono ?_; rintro e w1 ⟨rfl, hs⟩; have HS := Lib.hid (HS.out.step hs); clear hs)
            (first | refine ⟨.inr ?keep202, ?_⟩ | refine ⟨?keep202, ?_⟩)
            case keep202 => ((first | exact HC.out _ HS.out.same | exact HC.out _ (oc_half HS.out) | exact HC.out _ (oc_end _ _ HS.out).same))
            try simp only [Act.put, List.setIfInBounds_toArray, List.set_cons_zero, List.set_cons_succ]
            refine tree_one (i := 9) rfl ?_
            go_wp2_with (refine (oc_com2 HA.out HW.out hn hm HS.out).mono ?_; rintro e w1 ⟨A8, n8, c8, rfl, hs⟩; have HS := Lib.hid hs; clear hs)
            (first | refine ⟨.inr ?keep203, ?_⟩ | refine ⟨?keep203, ?_⟩)
            case keep203 => ((first | exact HC.out _ HS.out.same | exact HC.out _ (oc_half HS.out) | exact HC.out _ (oc_end _ _ HS.out).same))
            try simp only [Act.put, List.setIfInBounds_toArray, List.set_cons_zero, List.set_cons_succ]
            refine tree_one (i := 12) rfl ?_
            obtain ⟨⟨x0, x1⟩, xf, xl⟩ := zoff_at (HS.out.a _ (Chg.refl _ _)).1
            obtain ⟨⟨y0, y1⟩, yf, yl⟩ := zoff_at (HS.out.b _ (Chg.refl _ _)).1
            obtain ⟨n1, n2⟩ := HS.out.ne
            go_wp2_with (fail)
            (first | refine ⟨.inr ?keep204, ?_⟩ | refine ⟨?keep204, ?_⟩)
            case keep204 => ((first | exact HC.out _ HS.out.same | exact HC.out _ (oc_half HS.out) | exact HC.out _ (oc_end _ _ HS.out).same))
            try simp only [Act.put, List.setIfInBounds_toArray, List.set_cons_zero, List.set_cons_succ]
            refine tree_one (i := 13) rfl ?_
            go_wp2_with (fail)
            (first | refine ⟨.inr ?keep205, ?_⟩ | refine ⟨?keep205, ?_⟩)
            case keep205 => ((first | exact HC.out _ HS.out.same | exact HC.out _ (oc_half HS.out) | exact HC.out _ (oc_end _ _ HS.out).same))
            try simp only [Act.put, List.setIfInBounds_toArray, List.set_cons_zero, List.set_cons_succ]
            refine tree_end ?_
            go_wp2_with fail
            go_meet
            case rel => exact ⟨_, _, _, _, _, _, _, _, rfl, rfl, oc_end _ _ HS.out⟩
        · refine wpl_alloc _ _ (zeroOff _) rfl ?_
          generalize hz : World.alloc _ _ = wz at *
          (first | have HS := Lib.hid (HS.out.allocB2 hz) | have HS := Lib.hid (HS.out.allocB hz))
          clear hz
          refine tree_next (.inr ?keep205) ?_
          case keep205 => ((first | exact HC.out _ HS.out.same | exact HC.out _ (oc_half HS.out) | exact HC.out _ (oc_end _ _ HS.out).same))
          try simp only [Act.put, List.setIfInBounds_toArray, List.set_cons_zero, List.set_cons_succ]
          refine tree_one (i := 3) rfl ?_
          go_wp2_with (refine (prog_ok _ _ _ _ _).mono ?_; rintro e w1 ⟨rfl, hs⟩; have HS := Lib.hid (HS.out.step hs); clear hs)
          (first | refine ⟨.inr ?keep206, ?_⟩ | refine ⟨?keep206, ?_⟩)
          case keep206 => ((first | exact HC.out _ HS.out.same | exact HC.out _ (oc_half HS.out) | exact HC.out _ (oc_end _ _ HS.out).same))
          try simp only [Act.put, List.setIfInBounds_toArray, List.set_cons_zero, List.set_cons_succ]
          refine tree_one (i := 4) rfl ?_
          go_wp2_with (refine (oc_com1 HA.out HW.out hn hm HS.out).mono ?_; rintro e w1 ⟨A7, n7, c7, rfl, hs⟩; have HS := Lib.hid hs; clear hs)
          (first | refine ⟨.inr ?keep207, ?_⟩ | refine ⟨?keep207, ?_⟩)
          case keep207 => ((first | exact HC.out _ HS.out.same | exact HC.out _ (oc_half HS.out) | exact HC.out _ (oc_end _ _ HS.out).same))
          try simp only [Act.put, List.setIfInBounds_toArray, List.set_cons_zero, List.set_cons_succ]
          refine tree_one (i := 6) rfl ?_
          go_wp2_with (refine (prog_ok _ _ _ _ _).mono ?_; rintro e w1 ⟨rfl, hs⟩; have HS := Lib.hid (HS.out.step hs); clear hs)
          (first | refine ⟨.inr ?keep208, ?_⟩ | refine ⟨?keep208, ?_⟩)
          case keep208 => ((first | exact HC.out _ HS.out.same | exact HC.out _ (oc_half HS.out) | exact HC.out _ (oc_end _ _ HS.out).same))
          try simp only [Act.put, List.setIfInBounds_toArray, List.set_cons_zero, List.set_cons_succ]
          refine tree_one (i := 8) rfl ?_
          go_wp2_with (refine (prog_ok _ _ _ _ _).mono ?_; rintro e w1 ⟨rfl, hs⟩; have HS := Lib.hid (HS.out.step hs); clear hs)
          (first | refine ⟨.inr ?keep209, ?_⟩ | refine ⟨?keep209, ?_⟩)
          case keep209 => ((first | exact HC.out _ HS.out.same | exact HC.out _ (oc_half HS.out) | exact HC.out _ (oc_end _ _ HS.out).same))
          try simp only [Act.put, List.setIfInBounds_toArray, List.set_cons_zero, List.set_cons_succ]
          refine tree_one (i := 9) rfl ?_
          go_wp2_with (refine (oc_com2 HA.out HW.out hn hm HS.out).mono ?_; rintro e w1 ⟨A8, n8, c8, rfl, hs⟩; have HS := Lib.hid hs; clear hs)
          (first | refine ⟨.inr ?keep210, ?_⟩ | refine ⟨?keep210, ?_⟩)
          case keep210 => ((first | exact HC.out _ HS.out.same | exact HC.out _ (oc_half HS.out) | exact HC.out _ (oc_end _ _ HS.out).same))
          try simp only [Act.put, List.setIfInBounds_toArray, List.set_cons_zero, List.set_cons_succ]
          refine tree_one (i := 12) rfl ?_
          obtain ⟨⟨x0, x1⟩, xf, xl⟩ := zoff_at (HS.out.a _ (Chg.refl _ _)).1
          obtain ⟨⟨y0, y1⟩, yf, yl⟩ := zoff_at (HS.out.b _ (Chg.refl _ _)).1
          obtain ⟨n1, n2⟩ := HS.out.ne
          go_wp2_with (fail)
          (first | refine ⟨.inr ?keep211, ?_⟩ | refine ⟨?keep211, ?_⟩)
          case keep211 => ((first | exact HC.out _ HS.out.same | exact HC.out _ (oc_half HS.out) | exact HC.out _ (oc_end _ _ HS.out).same))
          try simp only [Act.put, List.setIfInBounds_toArray, List.set_cons_zero, List.set_cons_succ]
          refine tree_one (i := 13) rfl ?_
          go_wp2_with (fail)
          (first | refine ⟨.inr ?keep212, ?_⟩ | refine ⟨?keep212, ?_⟩)
          case keep212 => ((first | exact HC.out _ HS.out.same | exact HC.out _ (oc_half HS.out) | exact HC.out _ (oc_end _ _ HS.out).same))
          try simp only [Act.put, List.setIfInBounds_toArray, List.set_cons_zero, List.set_cons_succ]
          refine tree_end ?_
          go_wp2_with fail
          go_meet
          case rel => exact ⟨_, _, _, _, _, _, _, _, rfl, rfl, oc_end _ _ HS.out⟩
      · as_aux_lemma =>
        refine wpl_alloc _ _ (zeroOff _) rfl ?_
        generalize hz : World.alloc _ _ = wz at *
        (first | have HS := Lib.hid (HS.out.allocB2 hz) | have HS := Lib.hid (HS.out.allocB hz))
        clear hz
        refine tree_next (.inr ?keep212) ?_
        case keep212 => ((first | exact HC.out _ HS.out.same | exact HC.out _ (oc_half HS.out) | exact HC.out _ (oc_end _ _ HS.out).same))
        try simp only [Act.put, List.setIfInBounds_toArray, List.set_cons_zero, List.set_cons_succ]
        refine tree_fork (i := 3) (j := 10) rfl rfl ?_ ?_
        · go_wp2_with (refine (prog_ok _ _ _ _ _).mono ?_; rintro e w1 ⟨rfl, hs⟩; have HS := Lib.hid (HS.out.step hs); clear hs)
          (first | refine ⟨.inr ?keep213, ?_⟩ | refine ⟨?keep213, ?_⟩)
          case keep213 => ((first | exact HC.out _ HS.out.same | exact HC.out _ (oc_half HS.out) | exact HC.out _ (oc_end _ _ HS.out).same))
          try simp only [Act.put, List.setIfInBounds_toArray, List.set_cons_zero, List.set_cons_succ]
          refine tree_fork (i := 4) (j := 10) rfl rfl ?_ ?_
          · go_wp2_with (refine (oc_com1 HA.out HW.out hn hm HS.out).mono ?_; rintro e w1 ⟨A7, n7, c7, rfl, hs⟩; have HS := Lib.hid hs; clear hs)
            (first | refine ⟨.inr ?keep215, ?_⟩ | refine ⟨?keep215, ?_⟩)
            case keep215 => ((first | exact HC.out _ HS.out.same | exact HC.out _ (oc_half HS.out) | exact HC.out _ (oc_end _ _ HS.out).same))
            try simp only [Act.put, List.setIfInBounds_toArray, List.set_cons_zero, List.set_cons_succ]
            refine tree_fork (i := 6) (j := 10) rfl rfl ?_ ?_
            · go_wp2_with (refine (prog_ok _ _ _ _ _).mono ?_; rintro e w1 ⟨rfl, hs⟩; have HS := Lib.hid (HS.out.step hs); clear hs)
              (first | refine ⟨.inr ?keep217, ?_⟩ | refine ⟨?keep217, ?_⟩)
              case keep217 => ((first | exact HC.out _ HS.out.same | exact HC.out _ (oc_half HS.out) | exact HC.out _ (oc_end _ _ HS.out).same))
              try simp only [Act.put, List.setIfInBounds_toArray, List.set_cons_zero, List.set_cons_succ]
              refine tree_fork (i := 8) (j := 10) rfl rfl ?_ ?_
              · go_wp2_with (refine (prog_ok _ _ _ _ _).mono ?_; rintro e w1 ⟨rfl, hs⟩; have HS := Lib.hid (HS.out.step hs); clear hs)
                (first | refine ⟨.inr ?keep219, ?_⟩ | refine ⟨?keep219, ?_⟩)
                case keep219 => ((first | exact HC.out _ HS.out.same | exact HC.out _ (oc_half HS.out) | exact HC.out _ (oc_end _ _ HS.out).same))
                try simp only [Act.put, List.setIfInBounds_toArray, List.set_cons_zero, List.set_cons_succ]
                refine tree_fork (i := 9) (j := 10) rfl rfl ?_ ?_
                · go_wp2_with (refine (oc_com2 HA.out HW.out hn hm HS.out).mono ?_; rintro e w1 ⟨A8, n8, c8, rfl, hs⟩; have HS := Lib.hid hs; clear hs)
                  (first | refine ⟨.inr ?keep221, ?_⟩ | refine ⟨?keep221, ?_⟩)
                  case keep221 => ((first | exact HC.out _ HS.out.same | exact HC.out _ (oc_half HS.out) | exact HC.out _ (oc_end _ _ HS.out).same))
                  try simp only [Act.put, List.setIfInBounds_toArray, List.set_cons_zero, List.set_cons_succ]
                  refine tree_one (i := 10) rfl ?_
                  refine wpl_alloc _ _ (zeroOff _) rfl ?_
                  generalize hz : World.alloc _ _ = wz at *
                  (first | have HS := Lib.hid (HS.out.allocA2 hz) | have HS := Lib.hid (HS.out.allocA hz))
                  clear hz
                  refine tree_next (.inr ?keep223) ?_
                  case keep223 => ((first | exact HC.out _ HS.out.same | exact HC.out _ (oc_half HS.out) | exact HC.out _ (oc_end _ _ HS.out).same))
                  try simp only [Act.put, List.setIfInBounds_toArray, List.set_cons_zero, List.set_cons_succ]
                  refine tree_one (i := 12) rfl ?_
                  obtain ⟨⟨x0, x1⟩, xf, xl⟩ := zoff_at (HS.out.a _ (Chg.refl _ _)).1
                  obtain ⟨⟨y0, y1⟩, yf, yl⟩ := zoff_at (HS.out.b _ (Chg.refl _ _)).1
                  obtain ⟨n1, n2⟩ := HS.out.ne
                  go_wp2_with (fail)
                  (first | refine ⟨.inr ?keep224, ?_⟩ | refine ⟨?keep224, ?_⟩)
                  case keep224 => ((first | exact HC.out _ HS.out.same | exact HC.out _ (oc_half HS.out) | exact HC.out _ (oc_end _ _ HS.out).same))
                  try simp only [Act.put, List.setIfInBounds_toArray, List.set_cons_zero, List.set_cons_succ]
                  refine tree_one (i := 13) rfl ?_
                  go_wp2_with (fail)
                  (first | refine ⟨.inr ?keep225, ?_⟩ | refine ⟨?keep225, ?_⟩)
                  case keep225 => ((first | exact HC.out _ HS.out.same | exact HC.out _ (oc_half HS.out) | exact HC.out _ (oc_end _ _ HS.out).same))
                  try simp only [Act.put, List.setIfInBounds_toArray, List.set_cons_zero, List.set_cons_succ]
                  refine tree_end ?_
                  go_wp2_with fail
                  go_meet
                  case rel => exact ⟨_, _, _, _, _, _, _, _, rfl, rfl, oc_end _ _ HS.out⟩
                · refine wpl_alloc _ _ (zeroOff _) rfl ?_
                  generalize hz : World.alloc _ _ = wz at *
                  (first | have HS := Lib.hid (HS.out.allocA2 hz) | have HS := Lib.hid (HS.out.allocA hz))
                  clear hz
                  refine tree_next (.inr ?keep225) ?_
                  case keep225 => ((first | exact HC.out _ HS.out.same | exact HC.out _ (oc_half HS.out) | exact HC.out _ (oc_end _ _ HS.out).same))
                  try simp only [Act.put, List.setIfInBounds_toArray, List.set_cons_zero, List.set_cons_succ]
                  refine tree_one (i := 9) rfl ?_
                  go_wp2_with (refine (oc_com2 HA.out HW.out hn hm HS.out).mono ?_; rintro e w1 ⟨A8, n8, c8, rfl, hs⟩; have HS := Lib.hid hs; clear hs)
                  (first | refine ⟨.inr ?keep226, ?_⟩ | refine ⟨?keep226, ?_⟩)
                  case keep226 => ((first | exact HC.out _ HS.out.same | exact HC.out _ (oc_half HS.out) | exact HC.out _ (oc_end _ _ HS.out).same))
                  try simp only [Act.put, List.setIfInBounds_toArray, List.set_cons_zero, List.set_cons_succ]
                  refine tree_one (i := 12) rfl ?_
                  obtain ⟨⟨x0, x1⟩, xf, xl⟩ := zoff_at (HS.out.a _ (Chg.refl _ _)).1
                  obtain ⟨⟨y0, y1⟩, yf, yl⟩ := zoff_at (HS.out.b _ (Chg.refl _ _)).1
                  obtain ⟨n1, n2⟩ := HS.out.ne
                  go_wp2_with (fail)
                  (first | refine ⟨.inr ?keep227, ?_⟩ | refine ⟨?keep227, ?_⟩)
                  case keep227 => ((first | exact HC.out _ HS.out.same | exact HC.out _ (oc_half HS.out) | exact HC.out _ (oc_end _ _ HS.out).same))
                  try simp only [Act.put, List.setIfInBounds_toArray, List.set_cons_zero, List.set_cons_succ]
                  refine tree_one (i := 13) rfl ?_
                  go_wp2_with (fail)
                  (first | refine ⟨.inr ?keep228, ?_⟩ | refine ⟨?keep228, ?_⟩)
                  case keep228 => ((first | exact HC.out _ HS.out.same | exact HC.out _ (oc_half HS.out) | exact HC.out _ (oc_end _ _ HS.out).same))
                  try simp only [Act.put, List.setIfInBounds_toArray, List.set_cons_zero, List.set_cons_succ]
                  refine tree_end ?_
                  go_wp2_with fail
                  go_meet
                  case rel => exact ⟨_, _, _, _, _, _, _, _, rfl, rfl, oc_end _ _ HS.out⟩
              · refine wpl_alloc _ _ (zeroOff _) rfl ?_
                generalize hz : World.alloc _ _ = wz at *
                (first | have HS := Lib.hid (HS.out.allocA2 hz) | have HS := Lib.hid (HS.out.allocA hz))
                clear hz
                refine tree_next (.inr ?keep228) ?_
                case keep228 => ((first | exact HC.out _ HS.out.same | exact HC.out _ (oc_half HS.out) | exact HC.out _ (oc_end _ _ HS.out).same))
                try simp only [Act.put, List.setIfInBounds_toArray, List.set_cons_zero, List.set_cons_succ]
                refine tree_one (i := 8) rfl ?_
                go_wp2_with (refine (prog_ok _ _ _ _ _).mono ?_; rintro e w1 ⟨rfl, hs⟩; have HS := Lib.hid (HS.out.step hs); clear hs)
                (first | refine ⟨.inr ?keep229, ?_⟩ | refine ⟨?keep229, ?_⟩)
                case keep229 => ((first | exact HC.out _ HS.out.same | exact HC.out _ (oc_half HS.out) | exact HC.out _ (oc_end _ _ HS.out).same))
                try simp only [Act.put, List.setIfInBounds_toArray, List.set_cons_zero, List.set_cons_succ]
                refine tree_one (i := 9) rfl ?_
                go_wp2_with (refine (oc_com2 HA.out HW.out hn hm HS.out).mono ?_; rintro e w1 ⟨A8, n8, c8, rfl, hs⟩; have HS := Lib.hid hs; clear hs)
                (first | refine ⟨.inr ?keep230, ?_⟩ | refine ⟨?keep230, ?_⟩)
                case keep230 => ((first | exact HC.out _ HS.out.same | exact HC.out _ (oc_half HS.out) | exact HC.out _ (oc_end _ _ HS.out).same))
                try simp only [Act.put, List.setIfInBounds_toArray, List.set_cons_zero, List.set_cons_succ]
                refine tree_one (i := 12) rfl ?_
                obtain ⟨⟨x0, x1⟩, xf, xl⟩ := zoff_at (HS.out.a _ (Chg.refl _ _)).1
                obtain ⟨⟨y0, y1⟩, yf, yl⟩ := zoff_at (HS.out.b _ (Chg.refl _ _)).1
                obtain ⟨n1, n2⟩ := HS.out.ne
                go_wp2_with (fail)
                (first | refine ⟨.inr ?keep231, ?_⟩ | refine ⟨?keep231, ?_⟩)
                case keep231 => ((first | exact HC.out _ HS.out.same | exact HC.out _ (oc_half HS.out) | exact HC.out _ (oc_end _ _ HS.out).same))
                try simp only [Act.put, List.setIfInBounds_toArray, List.set_cons_zero, List.set_cons_succ]
                refine tree_one (i := 13) rfl ?_
                go_wp2_with (fail)
                (first | refine ⟨.inr ?keep232, ?_⟩ | refine ⟨?keep232, ?_⟩)
                case keep232 => ((first | exact HC.out _ HS.out.same | exact HC.out _ (oc_half HS.out) | exact HC.out _ (oc_end _ _ HS.out).same))
                try simp only [Act.put, List.setIfInBounds_toArray, List.set_cons_zero, List.set_cons_succ]
                refine tree_end ?_
                go_wp2_with fail
                go_meet
                case rel => exact ⟨_, _, _, _, _, _, _, _, rfl, rfl, oc_end _ _ HS.out⟩
            · refine wpl_alloc _ _ (zeroOff _) rfl ?_
              generalize hz : World.alloc _ _ = wz at *
              (first | have HS := Lib.hid (HS.out.allocA2 hz) | have HS := Lib.hid (HS.out.allocA hz))
              clear hz
              refine tree_next (.inr ?keep232) ?_
              case keep232 => ((first | exact HC.out _ HS.out.same | exact HC.out _ (oc_half HS.out) | exact HC.out _ (oc_end _ _ HS.out).same))
              try simp only [Act.put, List.setIfInBounds_toArray, List.set_cons_zero, List.set_cons_succ]
              refine tree_one (i := 6) rfl ?_
              go_wp2_with (refine (prog_ok _ _ _ _ _).mono ?_; rintro e w1 ⟨rfl, hs⟩; have HS := Lib.hid (HS.out.step hs); clear hs)
              (first | refine ⟨.inr ?keep233, ?_⟩ | refine ⟨?keep233, ?_⟩)
              case keep233 => ((first | exact HC.out _ HS.out.same | exact HC.out _ (oc_half HS.out) | exact HC.out _ (oc_end _ _ HS.out).same))
              try simp only [Act.put, List.setIfInBounds_toArray, List.set_cons_zero, List.set_cons_succ]
              refine tree_one (i := 8) rfl ?_
              go_wp2_with (refine (prog_ok _ _ _ _ _).mono ?_; rintro e w1 ⟨rfl, hs⟩; have HS := Lib.hid (HS.out.step hs); clear hs)
              (first | refine ⟨.inr ?keep234, ?_⟩ | refine ⟨?keep234, ?_⟩)
              case keep234 => ((first | exact HC.out _ HS.out.same | exact HC.out _ (oc_half HS.out) | exact HC.out _ (oc_end _ _ HS.out).same))
              try simp only [Act.put, List.setIfInBounds_toArray, List.set_cons_zero, List.set_cons_succ]
              refine tree_one (i := 9) rfl ?_
              go_wp2_with (refine (oc_com2 HA.out HW.out hn hm HS.out).mono ?_; rintro e w1 ⟨A8, n8, c8, rfl, hs⟩; have HS := Lib.hid hs; clear hs)
              (first | refine ⟨.inr ?keep235, ?_⟩ | refine ⟨?keep235, ?_⟩)
              case keep235 => ((first | exact HC.out _ HS.out.same | exact HC.out _ (oc_half HS.out) | exact HC.out _ (oc_end _ _ HS.out).same))
              try simp only [Act.put, List.setIfInBounds_toArray, List.set_cons_zero, List.set_cons_succ]
              refine tree_one (i := 12) rfl ?_
              obtain ⟨⟨x0, x1⟩, xf, xl⟩ := zoff_at (HS.out.a _ (Chg.refl _ _)).1
              obtain ⟨⟨y0, y1⟩, yf, yl⟩ := zoff_at (HS.out.b _ (Chg.refl _ _)).1
              obtain ⟨n1, n2⟩ := HS.out.ne
              go_wp2_with (fail)
              (first | refine ⟨.inr ?keep236, ?_⟩ | refine ⟨?keep236, ?_⟩)
              case keep236 => ((first | exact HC.out _ HS.out.same | exact HC.out _ (oc_half HS.out) | exact HC.out _ (oc_end _ _ HS.out).same))
              try simp only [Act.put, List.setIfInBounds_toArray, List.set_cons_zero, List.set_cons_succ]
              refine tree_one (i := 13) rfl ?_
              go_wp2_with (fail)
              (first | refine ⟨.inr ?keep237, ?_⟩ | refine ⟨?keep237, ?_⟩)
              case keep237 => ((first | exact HC.out _ HS.out.same | exact HC.out _ (oc_half HS.out) | exact HC.out _ (oc_end _ _ HS.out).same))
              try simp only [Act.put, List.setIfInBounds_toArray, List.set_cons_zero, List.set_cons_succ]
              refine tree_end ?_
              go_wp2_with fail
              go_meet
              case rel => exact ⟨_, _, _, _, _, _, _, _, rfl, rfl, oc_end _ _ HS.out⟩
          · refine wpl_alloc _ _ (zeroOff _) rfl ?_
            generalize hz : World.alloc _ _ = wz at *
            (first | have HS := Lib.hid (HS.out.allocA2 hz) | have HS := Lib.hid (HS.out.allocA hz))
            clear hz
            refine tree_next (.inr ?keep237) ?_
            case keep237 => ((first | exact HC.out _ HS.out.same | exact HC.out _ (oc_half HS.out) | exact HC.out _ (oc_end _ _ HS.out).same))
            try simp only [Act.put, List.setIfInBounds_toArray, List.set_cons_zero, List.set_cons_succ]
            refine tree_one (i := 4) rfl ?_
            go_wp2_with (refine (oc_com1 HA.out HW.out hn hm HS.out).mono ?_; rintro e w1 ⟨A7, n7, c7, rfl, hs⟩; have HS := Lib.hid hs; clear hs)
            (first | refine ⟨.inr ?keep238, ?_⟩ | refine ⟨?keep238, ?_⟩)
            case keep238 => ((first | exact HC.out _ HS.out.same | exact HC.out _ (oc_half HS.out) | exact HC.out _ (oc_end _ _ HS.out).same))
            try simp only [Act.put, List.setIfInBounds_toArray, List.set_cons_zero, List.set_cons_succ]
            refine tree_one (i := 6) rfl ?_
            go_wp2_with (refine (prog_ok _ _ _ _ _).mono ?_; rintro e w1 ⟨rfl, hs⟩; have HS := Lib.hid (HS.out.step hs); clear hs)
            (first | refine ⟨.inr ?keep239, ?_⟩ | refine ⟨?keep239, ?_⟩)
            case keep239 => ((first | exact HC.out _ HS.out.same | exact HC.out _ (oc_half HS.out) | exact HC.out _ (oc_end _ _ HS.out).same))
            try simp only [Act.put, List.setIfInBounds_toArray, List.set_cons_zero, List.set_cons_succ]
            refine tree_one (i := 8) rfl ?_
            go_wp2_with (refine (prog_ok _ _ _ _ _).mono ?_; rintro e w1 ⟨rfl, hs⟩; have HS := Lib.hid (HS.out.step hs); clear hs)
            (first | refine ⟨.inr ?keep240, ?_⟩ | refine ⟨?keep240, ?_⟩)
            case keep240 => ((first | exact HC.out _ HS.out.same | exact HC.out _ (oc_half HS.out) | exact HC.out _ (oc_end _ _ HS.out).same))
            try simp only [Act.put, List.setIfInBounds_toArray, List.set_cons_zero, List.set_cons_succ]
            refine tree_one (i := 9) rfl ?_
            go_wp2_with (refine (oc_com2 HA.out HW.out hn hm HS.out).mono ?_; rintro e w1 ⟨A8, n8, c8, rfl, hs⟩; have HS := Lib.hid hs; clear hs)
            (first | refine ⟨.inr ?keep241, ?_⟩ | refine ⟨?keep241, ?_⟩)
            case keep241 => ((first | exact HC.out _ HS.out.same | exact HC.out _ (oc_half HS.out) | exact HC.out _ (oc_end _ _ HS.out).same))
            try simp only [Act.put, List.setIfInBounds_toArray, List.set_cons_zero, List.set_cons_succ]
            refine tree_one (i := 12) rfl ?_
            obtain ⟨⟨x0, x1⟩, xf, xl⟩ := zoff_at (HS.out.a _ (Chg.refl _ _)).1
            obtain ⟨⟨y0, y1⟩, yf, yl⟩ := zoff_at (HS.out.b _ (Chg.refl _ _)).1
            obtain ⟨n1, n2⟩ := HS.out.ne
            go_wp2_with (fail)
            (first | refine ⟨.inr ?keep242, ?_⟩ | refine ⟨?keep242, ?_⟩)
            case keep242 => ((first | exact HC.out _ HS.out.same | exact HC.out _ (oc_half HS.out) | exact HC.out _ (oc_end _ _ HS.out).same))
            try simp only [Act.put, List.setIfInBounds_toArray, List.set_cons_zero, List.set_cons_succ]
            refine tree_one (i := 13) rfl ?_
            go_wp2_with (fail)
            (first | refine ⟨.inr ?keep243, ?_⟩ | refine ⟨?keep243, ?_⟩)
            case keep243 => ((first | exact HC.out _ HS.out.same | exact HC.out _ (oc_half HS.out) | exact HC.out _ (oc_end _ _ HS.out).same))
            try simp only [Act.put, List.setIfInBounds_toArray, List.set_cons_zero, List.set_cons_succ]
            refine tree_end ?_
            go_wp2_with fail
            go_meet
            case rel => exact ⟨_, _, _, _, _, _, _, _, rfl, rfl, oc_end _ _ HS.out⟩
        · refine wpl_alloc _ _ (zeroOff _) rfl ?_
          generalize hz : World.alloc _ _ = wz at *
          (first | have HS := Lib.hid (HS.out.allocA2 hz) | have HS := Lib.hid (HS.out.allocA hz))
          clear hz
          refine tree_next (.inr ?keep243) ?_
          case keep243 => ((first | exact HC.out _ HS.out.same | exact HC.out _ (oc_half HS.out) | exact HC.out _ (oc_end _ _ HS.out).same))
          try simp only [Act.put, List.setIfInBounds_toArray, List.set_cons_zero, List.set_cons_succ]
          refine tree_one (i := 3) rfl ?_
          go_wp2_with (refine (prog_ok _ _ _ _ _).mono ?_; rintro e w1 ⟨rfl, hs⟩; have HS := Lib.hid (HS.out.step hs); clear hs)
          (first | refine ⟨.inr ?keep244, ?_⟩ | refine ⟨?keep244, ?_⟩)
          case keep244 => ((first | exact HC.out _ HS.out.same | exact HC.out _ (oc_half HS.out) | exact HC.out _ (oc_end _ _ HS.out).same))
          try simp only [Act.put, List.setIfInBounds_toArray, List.set_cons_zero, List.set_cons_succ]
          refine tree_one (i := 4) rfl ?_
          go_wp2_with (refine (oc_com1 HA.out HW.out hn hm HS.out).mono ?_; rintro e w1 ⟨A7, n7, c7, rfl, hs⟩; have HS := Lib.hid hs; clear hs)
          (first | refine ⟨.inr ?keep245, ?_⟩ | refine ⟨?keep245, ?_⟩)
          case keep245 => ((first | exact HC.out _ HS.out.same | exact HC.out _ (oc_half HS.out) | exact HC.out _ (oc_end _ _ HS.out).same))
          try simp only [Act.put, List.setIfInBounds_toArray, List.set_cons_zero, List.set_cons_succ]
          refine tree_one (i := 6) rfl ?_
          go_wp2_with (refine (prog_ok _ _ _ _ _).mono ?_; rintro e w1 ⟨rfl, hs⟩; have HS := Lib.hid (HS.out.step hs); clear hs)
          (first | refine ⟨.inr ?keep246, ?_⟩ | refine ⟨?keep246, ?_⟩)
          case keep246 => ((first | exact HC.out _ HS.out.same | exact HC.out _ (oc_half HS.out) | exact HC.out _ (oc_end _ _ HS.out).same))
          try simp only [Act.put, List.setIfInBounds_toArray, List.set_cons_zero, List.set_cons_succ]
          refine tree_one (i := 8) rfl ?_
          go_wp2_with (refine (prog_ok _ _ _ _ _).mono ?_; rintro e w1 ⟨rfl, hs⟩; have HS := Lib.hid (HS.out.step hs); clear hs)
          (first | refine ⟨.inr ?keep247, ?_⟩ | refine ⟨?keep247, ?_⟩)
          case keep247 => ((first | exact HC.out _ HS.out.same | exact HC.out _ (oc_half HS.out) | exact HC.out _ (oc_end _ _ HS.out).same))
          try simp only [Act.put, List.setIfInBounds_toArray, List.set_cons_zero, List.set_cons_succ]
          refine tree_one (i := 9) rfl ?_
          go_wp2_with (refine (oc_com2 HA.out HW.out hn hm HS.out).mono ?_; rintro e w1 ⟨A8, n8, c8, rfl, hs⟩; have HS := Lib.hid hs; clear hs)
          (first | refine ⟨.inr ?keep248, ?_⟩ | refine ⟨?keep248, ?_⟩)
          case keep248 => ((first | exact HC.out _ HS.out.same | exact HC.out _ (oc_half HS.out) | exact HC.out _ (oc_end _ _ HS.out).same))
          try simp only [Act.put, List.setIfInBounds_toArray, List.set_cons_zero, List.set_cons_succ]
          refine tree_one (i := 12) rfl ?_
          obtain ⟨⟨x0, x1⟩, xf, xl⟩ := zoff_at (HS.out.a _ (Chg.refl _ _)).1
          obtain ⟨⟨y0, y1⟩, yf, yl⟩ := zoff_at (HS.out.b _ (Chg.refl _ _)).1
          obtain ⟨n1, n2⟩ := HS.out.ne
          go_wp2_with (fail)
          (first | refine ⟨.inr ?keep249, ?_⟩ | refine ⟨?keep249, ?_⟩)
          case keep249 => ((first | exact HC.out _ HS.out.same | exact HC.out _ (oc_half HS.out) | exact HC.out _ (oc_end _ _ HS.out).same))
          try simp only [Act.put, List.setIfInBounds_toArray, List.set_cons_zero, List.set_cons_succ]
          refine tree_one (i := 13) rfl ?_
          go_wp2_with (fail)
          (first | refine ⟨.inr ?keep250, ?_⟩ | refine ⟨?keep250, ?_⟩)
          case keep250 => ((first | exact HC.out _ HS.out.same | exact HC.out _ (oc_half HS.out) | exact HC.out _ (oc_end _ _ HS.out).same))
          try simp only [Act.put, List.setIfInBounds_toArray, List.set_cons_zero, List.set_cons_succ]
          refine tree_end ?_
          go_wp2_with fail
          go_meet
          case rel => exact ⟨_, _, _, _, _, _, _, _, rfl, rfl, oc_end _ _ HS.out⟩
    · as_aux_lemma =>
      refine wpl_alloc _ _ (zeroOff _) rfl ?_
      generalize hz : World.alloc _ _ = wz at *
      (first | have HS := Lib.hid (HS.out.allocA2 hz) | have HS := Lib.hid (HS.out.allocA hz))
      clear hz
      refine tree_next (.inr ?keep249) ?_
      case keep249 => ((first | exact HC.out _ HS.out.same | exact HC.out _ (oc_half HS.out) | exact HC.out _ (oc_end _ _ HS.out).same))
      try simp only [Act.put, List.setIfInBounds_toArray, List.set_cons_zero, List.set_cons_succ]
      refine tree_fork (i := 1) (j := 11) rfl rfl ?_ ?_
      · go_wp2_with (refine (prog_ok _ _ _ _ _).mono ?_; rintro e w1 ⟨rfl, hs⟩; have HS := Lib.hid (HS.out.step hs); clear hs)
        (first | refine ⟨.inr ?keep251, ?_⟩ | refine ⟨?keep251, ?_⟩)
        case keep251 => ((first | exact HC.out _ HS.out.same | exact HC.out _ (oc_half HS.out) | exact HC.out _ (oc_end _ _ HS.out).same))
        try simp only [Act.put, List.setIfInBounds_toArray, List.set_cons_zero, List.set_cons_succ]
        refine tree_fork (i := 3) (j := 11) rfl rfl ?_ ?_
        · go_wp2_with (refine (prog_ok _ _ _ _ _).mono ?_; rintro e w1 ⟨rfl, hs⟩; have HS := Lib.hid (HS.out.step hs); clear hs)
          (first | refine ⟨.inr ?keep253, ?_⟩ | refine ⟨?keep253, ?_⟩)
          case keep253 => ((first | exact HC.out _ HS.out.same | exact HC.out _ (oc_half HS.out) | exact HC.out _ (oc_end _ _ HS.out).same))
          try simp only [Act.put, List.setIfInBounds_toArray, List.set_cons_zero, List.set_cons_succ]
          refine tree_fork (i := 4) (j := 11) rfl rfl ?_ ?_
          · go_wp2_with (refine (oc_com1 HA.out HW.out hn hm HS.out).mono ?_; rintro e w1 ⟨A7, n7, c7, rfl, hs⟩; have HS := Lib.hid hs; clear hs)
            (first | refine ⟨.inr ?keep255, ?_⟩ | refine ⟨?keep255, ?_⟩)
            case keep255 => ((first | exact HC.out _ HS.out.same | exact HC.out _ (oc_half HS.out) | exact HC.out _ (oc_end _ _ HS.out).same))
            try simp only [Act.put, List.setIfInBounds_toArray, List.set_cons_zero, List.set_cons_succ]
            refine tree_fork (i := 6) (j := 11) rfl rfl ?_ ?_
            · go_wp2_with (refine (prog_ok _ _ _ _ _).mono ?_; rintro e w1 ⟨rfl, hs⟩; have HS := Lib.hid (HS.out.step hs); clear hs)
              (first | refine ⟨.inr ?keep257, ?_⟩ | refine ⟨?keep257, ?_⟩)
              case keep257 => ((first | exact HC.out _ HS.out.same | exact HC.out _ (oc_half HS.out) | exact HC.out _ (oc_end _ _ HS.out).same))
              try simp only [Act.put, List.setIfInBounds_toArray, List.set_cons_zero, List.set_cons_succ]
              refine tree_fork (i := 8) (j := 11) rfl rfl ?_ ?_
              · go_wp2_with (refine (prog_ok _ _ _ _ _).mono ?_; rintro e w1 ⟨rfl, hs⟩; have HS := Lib.hid (HS.out.step hs); clear hs)
                (first | refine ⟨.inr ?keep259, ?_⟩ | refine ⟨?keep259, ?_⟩)
                case keep259 => ((first | exact HC.out _ HS.out.same | exact HC.out _ (oc_half HS.out) | exact HC.out _ (oc_end _ _ HS.out).same))
                try simp only [Act.put, List.setIfInBounds_toArray, List.set_cons_zero, List.set_cons_succ]
                refine tree_fork (i := 9) (j := 11) rfl rfl ?_ ?_
                · go_wp2_with (refine (oc_com2 HA.out HW.out hn hm HS.out).mono ?_; rintro e w1 ⟨A8, n8, c8, rfl, hs⟩; have HS := Lib.hid hs; clear hs)
                  (first | refine ⟨.inr ?keep261, ?_⟩ | refine ⟨?keep261, ?_⟩)
                  case keep261 => ((first | exact HC.out _ HS.out.same | exact HC.out _ (oc_half HS.out) | exact HC.out _ (oc_end _ _ HS.out).same))
                  try simp only [Act.put, List.setIfInBounds_toArray, List.set_cons_zero, List.set_cons_succ]
                  refine tree_one (i := 11) rfl ?_
                  refine wpl_alloc _ _ (zeroOff _) rfl ?_
                  generalize hz : World.alloc _ _ = wz at *
                  (first | have HS := Lib.hid (HS.out.allocB2 hz) | have HS := Lib.hid (HS.out.allocB hz))
                  clear hz
                  refine tree_next (.inr ?keep263) ?_
                  case keep263 => ((first | exact HC.out _ HS.out.same | exact HC.out _ (oc_half HS.out) | exact HC.out _ (oc_end _ _ HS.out).same))
                  try simp only [Act.put, List.setIfInBounds_toArray, List.set_cons_zero, List.set_cons_succ]
                  refine tree_one (i := 12) rfl ?_
                  obtain ⟨⟨x0, x1⟩, xf, xl⟩ := zoff_at (HS.out.a _ (Chg.refl _ _)).1
                  obtain ⟨⟨y0, y1⟩, yf, yl⟩ := zoff_at (HS.out.b _ (Chg.refl _ _)).1
                  obtain ⟨n1, n2⟩ := HS.out.ne
                  go_wp2_with (fail)
                  (first | refine ⟨.inr ?keep264, ?_⟩ | refine ⟨?keep264, ?_⟩)
                  case keep264 => ((first | exact HC.out _ HS.out.same | exact HC.out _ (oc_half HS.out) | exact HC.out _ (oc_end _ _ HS.out).same))
                  try simp only [Act.put, List.setIfInBounds_toArray, List.set_cons_zero, List.set_cons_succ]
                  refine tree_one (i := 13) rfl ?_
                  go_wp2_with (fail)
                  (first | refine ⟨.inr ?keep265, ?_⟩ | refine ⟨?keep265, ?_⟩)
                  case keep265 => ((first | exact HC.out _ HS.out.same | exact HC.out _ (oc_half HS.out) | exact HC.out _ (oc_end _ _ HS.out).same))
                  try simp only [Act.put, List.setIfInBounds_toArray, List.set_cons_zero, List.set_cons_succ]
                  refine tree_end ?_
                  go_wp2_with fail
                  go_meet
                  case rel => exact ⟨_, _, _, _, _, _, _, _, rfl, rfl, oc_end _ _ HS.out⟩
                · refine wpl_alloc _ _ (zeroOff _) rfl ?_
                  generalize hz : World.alloc _ _ = wz at *
                  (first | have HS := Lib.hid (HS.out.allocB2 hz) | have HS := Lib.hid (HS.out.allocB hz))
                  clear hz
                  refine tree_next (.inr ?keep265) ?_
                  case keep265 => ((first | exact HC.out _ HS.out.same | exact HC.out _ (oc_half HS.out) | exact HC.out _ (oc_end _ _ HS.out).same))
                  try simp only [Act.put, List.setIfInBounds_toArray, List.set_cons_zero, List.set_cons_succ]
                  refine tree_one (i := 9) rfl ?_
                  go_wp2_with (refine (oc_com2 HA.out HW.out hn hm HS.out).mono ?_; rintro e w1 ⟨A8, n8, c8, rfl, hs⟩; have HS := Lib.hid hs; clear hs)
                  (first | refine ⟨.inr ?keep266, ?_⟩ | refine ⟨?keep266, ?_⟩)
                  case keep266 => ((first | exact HC.out _ HS.out.same | exact HC.out _ (oc_half HS.out) | exact HC.out _ (oc_end _ _ HS.out).same))
                  try simp only [Act.put, List.setIfInBounds_toArray, List.set_cons_zero, List.set_cons_succ]
                  refine tree_one (i := 12) rfl ?_
                  obtain ⟨⟨x0, x1⟩, xf, xl⟩ := zoff_at (HS.out.a _ (Chg.refl _ _)).1
                  obtain ⟨⟨y0, y1⟩, yf, yl⟩ := zoff_at (HS.out.b _ (Chg.refl _ _)).1
                  obtain ⟨n1, n2⟩ := HS.out.ne
                  go_wp2_with (fail)
                  (first | refine ⟨.inr ?keep267, ?_⟩ | refine ⟨?keep267, ?_⟩)
                  case keep267 => ((first | exact HC.out _ HS.out.same | exact HC.out _ (oc_half HS.out) | exact HC.out _ (oc_end _ _ HS.out).same))
                  try simp only [Act.put, List.setIfInBounds_toArray, List.set_cons_zero, List.set_cons_succ]
                  refine tree_one (i := 13) rfl ?_
                  go_wp2_with (fail)
                  (first | refine ⟨.inr ?keep268, ?_⟩ | refine ⟨?keep268, ?_⟩)
                  case keep268 => ((first | exact HC.out _ HS.out.same | exact HC.out _ (oc_half HS.out) | exact HC.out _ (oc_end _ _ HS.out).same))
                  try simp only [Act.put, List.setIfInBounds_toArray, List.set_cons_zero, List.set_cons_succ]
                  refine tree_end ?_
                  go_wp2_with fail
                  go_meet
                  case rel => exact ⟨_, _, _, _, _, _, _, _, rfl, rfl, oc_end _ _ HS.out⟩
              · refine wpl_alloc _ _ (zeroOff _) rfl ?_
                generalize hz : World.alloc _ _ = wz at *
                (first | have HS := Lib.hid (HS.out.allocB2 hz) | have HS := Lib.hid (HS.out.allocB hz))
                clear hz
                refine tree_next (.inr ?keep268) ?_
                case keep268 => ((first | exact HC.out _ HS.out.same | exact HC.out _ (oc_half HS.out) | exact HC.out _ (oc_end _ _ HS.out).same))
                try simp only [Act.put, List.setIfInBounds_toArray, List.set_cons_zero, List.set_cons_succ]
                refine tree_one (i := 8) rfl ?_
                go_wp2_with (refine (prog_ok _ _ _ _ _).mono ?_; rintro e w1 ⟨rfl, hs⟩; have HS := Lib.hid (HS.out.step hs); clear hs)
                (first | refine ⟨.inr ?keep269, ?_⟩ | refine ⟨?keep269, ?_⟩)
                case keep269 => ((first | exact HC.out _ HS.out.same | exact HC.out _ (oc_half HS.out) | exact HC.out _ (oc_end _ _ HS.out).same))
                try simp only [Act.put, List.setIfInBounds_toArray, List.set_cons_zero, List.set_cons_succ]
                refine tree_one (i := 9) rfl ?_
                go_wp2_with (refine (oc_com2 HA.out HW.out hn hm HS.out).mono ?_; rintro e w1 ⟨A8, n8, c8, rfl, hs⟩; have HS := Lib.hid hs; clear hs)
                (first | refine ⟨.inr ?keep270, ?_⟩ | refine ⟨?keep270, ?_⟩)
                case keep270 => ((first | exact HC.out _ HS.out.same | exact HC.out _ (oc_half HS.out) | exact HC.out _ (oc_end _ _ HS.out).same))
                try simp only [Act.put, List.setIfInBounds_toArray, List.set_cons_zero, List.set_cons_succ]
                refine tree_one (i := 12) rfl ?_
                obtain ⟨⟨x0, x1⟩, xf, xl⟩ := zoff_at (HS.out.a _ (Chg.refl _ _)).1
                obtain ⟨⟨y0, y1⟩, yf, yl⟩ := zoff_at (HS.out.b _ (Chg.refl _ _)).1
                obtain ⟨n1, n2⟩ := HS.out.ne
                go_wp2_with (fail)
                (first | refine ⟨.inr ?keep271, ?_⟩ | refine ⟨?keep271, ?_⟩)
                case keep271 => ((first | exact HC.out _ HS.out.same | exact HC.out _ (oc_half HS.out) | exact HC.out _ (oc_end _ _ HS.out).same))
                try simp only [Act.put, List.setIfInBounds_toArray, List.set_cons_zero, List.set_cons_succ]
                refine tree_one (i := 13) rfl ?_
                go_wp2_with (fail)
                (first | refine ⟨.inr ?keep272, ?_⟩ | refine ⟨?keep272, ?_⟩)
                case keep272 => ((first | exact HC.out _ HS.out.same | exact HC.out _ (oc_half HS.out) | exact HC.out _ (oc_end _ _ HS.out).same))
                try simp only [Act.put, List.setIfInBounds_toArray, List.set_cons_zero, List.set_cons_succ]
                refine tree_end ?_
                go_wp2_with fail
                go_meet
                case rel => exact ⟨_, _, _, _, _, _, _, _, rfl, rfl, oc_end _ _ HS.out⟩
            · refine wpl_alloc _ _ (zeroOff _) rfl ?_
              generalize hz : World.alloc _ _ = wz at *
              (first | have HS := Lib.hid (HS.out.allocB2 hz) | have HS := Lib.hid (HS.out.allocB hz))
              clear hz
              refine tree_next (.inr ?keep272) ?_
              case keep272 => ((first | exact HC.out _ HS.out.same | exact HC.out _ (oc_half HS.out) | exact HC.out _ (oc_end _ _ HS.out).same))
              try simp only [Act.put, List.setIfInBounds_toArray, List.set_cons_zero, List.set_cons_succ]
              refine tree_one (i := 6) rfl ?_
              go_wp2_with (refine (prog_ok _ _ _ _ _).mono ?_; rintro e w1 ⟨rfl, hs⟩; have HS := Lib.hid (HS.out.step hs); clear hs)
              (first | refine ⟨.inr ?keep273, ?_⟩ | refine ⟨?keep273, ?_⟩)
              case keep273 => ((first | exact HC.out _ HS.out.same | exact HC.out _ (oc_half HS.out) | exact HC.out _ (oc_end _ _ HS.out).same))
              try simp only [Act.put, List.setIfInBounds_toArray, List.set_cons_zero, List.set_cons_succ]
              refine tree_one (i := 8) rfl ?_
              go_wp2_with (refine (prog_ok _ _ _ _ _).mono ?_; rintro e w1 ⟨rfl, hs⟩; have HS := Lib.hid (HS.out.step hs); clear hs)
              (first | refine ⟨.inr ?keep274, ?_⟩ | refine ⟨?keep274, ?_⟩)
              case keep274 => ((first | exact HC.out _ HS.out.same | exact HC.out _ (oc_half HS.out) | exact HC.out _ (oc_end _ _ HS.out).same))
              try simp only [Act.put, List.setIfInBounds_toArray, List.set_cons_zero, List.set_cons_succ]
              refine tree_one (i := 9) rfl ?_
              go_wp2_with (refine (oc_com2 HA.out HW.out hn hm HS.out).mono ?_; rintro e w1 ⟨A8, n8, c8, rfl, hs⟩; have HS := Lib.hid hs; clear hs)
              (first | refine ⟨.inr ?keep275, ?_⟩ | refine ⟨?keep275, ?_⟩)
              case keep275 => ((first | exact HC.out _ HS.out.same | exact HC.out _ (oc_half HS.out) | exact HC.out _ (oc_end _ _ HS.out).same))
              try simp only [Act.put, List.setIfInBounds_toArray, List.set_cons_zero, List.set_cons_succ]
              refine tree_one (i := 12) rfl ?_
              obtain ⟨⟨x0, x1⟩, xf, xl⟩ := zoff_at (HS.out.a _ (Chg.refl _ _)).1
              obtain ⟨⟨y0, y1⟩, yf, yl⟩ := zoff_at (HS.out.b _ (Chg.refl _ _)).1
              obtain ⟨n1, n2⟩ := HS.out.ne
              go_wp2_with (fail)
              (first | refine ⟨.inr ?keep276, ?_⟩ | refine ⟨?keep276, ?_⟩)
              case keep276 => ((first | exact HC.out _ HS.out.same | exact HC.out _ (oc_half HS.out) | exact HC.out _ (oc_end _ _ HS.out).same))
              try simp only [Act.put, List.setIfInBounds_toArray, List.set_cons_zero, List.set_cons_succ]
              refine tree_one (i := 13) rfl ?_
              go_wp2_with (fail)
              (first | refine ⟨.inr ?keep277, ?_⟩ | refine ⟨?keep277, ?_⟩)
              case keep277 => ((first | exact HC.out _ HS.out.same | exact HC.out _ (oc_half HS.out) | exact HC.out _ (oc_end _ _ HS.out).same))
              try simp only [Act.put, List.setIfInBounds_toArray, List.set_cons_zero, List.set_cons_succ]
              refine tree_end ?_
              go_wp2_with fail
              go_meet
              case rel => exact ⟨_, _, _, _, _, _, _, _, rfl, rfl, oc_end _ _ HS.out⟩
          · refine wpl_alloc _ _ (zeroOff _) rfl ?_
            generalize hz : World.alloc _ _ = wz at *
            (first | have HS := Lib.hid (HS.out.allocB2 hz) | have HS := Lib.hid (HS.out.allocB hz))
            clear hz
            refine tree_next (.inr ?keep277) ?_
            case keep277 => ((first | exact HC.out _ HS.out.same | exact HC.out _ (oc_half HS.out) | exact HC.out _ (oc_end _ _ HS.out).same))
            try simp only [Act.put, List.setIfInBounds_toArray, List.set_cons_zero, List.set_cons_succ]
            refine tree_one (i := 4) rfl ?_
            go_wp2_with (refine (oc_com1 HA.out HW.out hn hm HS.out).mono ?_; rintro e w1 ⟨A7, n7, c7, rfl, hs⟩; have HS := Lib.hid hs; clear hs)
            (first | refine ⟨.inr ?keep278, ?_⟩ | refine ⟨?keep278, ?_⟩)
            case keep278 => ((first | exact HC.out _ HS.out.same | exact HC.out _ (oc_half HS.out) | exact HC.out _ (oc_end _ _ HS.out).same))
            try simp only [Act.put, List.setIfInBounds_toArray, List.set_cons_zero, List.set_cons_succ]
            refine tree_one (i := 6) rfl ?_
            go_wp2_with (refine (prog_ok _ _ _ _ _).mono ?_; rintro e w1 ⟨rfl, hs⟩; have HS := Lib.hid (HS.out.step hs); clear hs)
            (first | refine ⟨.inr ?keep279, ?_⟩ | refine ⟨?keep279, ?_⟩)
            case keep279 => ((first | exact HC.out _ HS.out.same | exact HC.out _ (oc_half HS.out) | exact HC.out _ (oc_end _ _ HS.out).same))
            try simp only [Act.put, List.setIfInBounds_toArray, List.set_cons_zero, List.set_cons_succ]
            refine tree_one (i := 8) rfl ?_
            go_wp2_with (refine (prog_ok _ _ _ _ _).mono ?_; rintro e w1 ⟨rfl, hs⟩; have HS := Lib.hid (HS.out.step hs); clear hs)
            (first | refine ⟨.inr ?keep280, ?_⟩ | refine ⟨?keep280, ?_⟩)
            case keep280 => ((first | exact HC.out _ HS.out.same | exact HC.out _ (oc_half HS.out) | exact HC.out _ (oc_end _ _ HS.out).same))
            try simp only [Act.put, List.setIfInBounds_toArray, List.set_cons_zero, List.set_cons_succ]
            refine tree_one (i := 9) rfl ?_
            go_wp2_with (refine (oc_com2 HA.out HW.out hn hm HS.out).mono ?_; rintro e w1 ⟨A8, n8, c8, rfl, hs⟩; have HS := Lib.hid hs; clear hs)
            (first | refine ⟨.inr ?keep281, ?_⟩ | refine ⟨?keep281, ?_⟩)
            case keep281 => ((first | exact HC.out _ HS.out.same | exact HC.out _ (oc_half HS.out) | exact HC.out _ (oc_end _ _ HS.out).same))
            try simp only [Act.put, List.setIfInBounds_toArray, List.set_cons_zero, List.set_cons_succ]
            refine tree_one (i := 12) rfl ?_
            obtain ⟨⟨x0, x1⟩, xf, xl⟩ := zoff_at (HS.out.a _ (Chg.refl _ _)).1
            obtain ⟨⟨y0, y1⟩, yf, yl⟩ := zoff_at (HS.out.b _ (Chg.refl _ _)).1
            obtain ⟨n1, n2⟩ := HS.out.ne
            go_wp2_with (fail)
            (first | refine ⟨.inr ?keep282, ?_⟩ | refine ⟨?keep282, ?_⟩)
            case keep282 => ((first | exact HC.out _ HS.out.same | exact HC.out _ (oc_half HS.out) | exact HC.out _ (oc_end _ _ HS.out).same))
            try simp only [Act.put, List.setIfInBounds_toArray, List.set_cons_zero, List.set_cons_succ]
            refine tree_one (i := 13) rfl ?_
            go_wp2_with (fail)
            (first | refine ⟨.inr ?keep283, ?_⟩ | refine ⟨?keep283, ?_⟩)
            case keep283 => ((first | exact HC.out _ HS.out.same | exact HC.out _ (oc_half HS.out) | exact HC.out _ (oc_end _ _ HS.out).same))
            try simp only [Act.put, List.setIfInBounds_toArray, List.set_cons_zero, List.set_cons_succ]
            refine tree_end ?_
            go_wp2_with fail
            go_meet
            case rel => exact ⟨_, _, _, _, _, _, _, _, rfl, rfl, oc_end _ _ HS.out⟩
        · refine wpl_alloc _ _ (zeroOff _) rfl ?_
          generalize hz : World.alloc _ _ = wz at *
          (first | have HS := Lib.hid (HS.out.allocB2 hz) | have HS := Lib.hid (HS.out.allocB hz))
          clear hz
          refine tree_next (.inr ?keep283) ?_
          case keep283 => ((first | exact HC.out _ HS.out.same | exact HC.out _ (oc_half HS.out) | exact HC.out _ (oc_end _ _ HS.out).same))
          try simp only [Act.put, List.setIfInBounds_toArray, List.set_cons_zero, List.set_cons_succ]
          refine tree_one (i := 3) rfl ?_
          go_wp2_with (refine (prog_ok _ _ _ _ _).mono ?_; rintro e w1 ⟨rfl, hs⟩; have HS := Lib.hid (HS.out.step hs); clear hs)
          (first | refine ⟨.inr ?keep284, ?_⟩ | refine ⟨?keep284, ?_⟩)
          case keep284 => ((first | exact HC.out _ HS.out.same | exact HC.out _ (oc_half HS.out) | exact HC.out _ (oc_end _ _ HS.out).same))
          try simp only [Act.put, List.setIfInBounds_toArray, List.set_cons_zero, List.set_cons_succ]
          refine tree_one (i := 4) rfl ?_
          go_wp2_with (refine (oc_com1 HA.out HW.out hn hm HS.out).mono ?_; rintro e w1 ⟨A7, n7, c7, rfl, hs⟩; have HS := Lib.hid hs; clear hs)
          (first | refine ⟨.inr ?keep285, ?_⟩ | refine ⟨?keep285, ?_⟩)
          case keep285 => ((first | exact HC.out _ HS.out.same | exact HC.out _ (oc_half HS.out) | exact HC.out _ (oc_end _ _ HS.out).same))
          try simp only [Act.put, List.setIfInBounds_toArray, List.set_cons_zero, List.set_cons_succ]
          refine tree_one (i := 6) rfl ?_
          go_wp2_with (refine (prog_ok _ _ _ _ _).mono ?_; rintro e w1 ⟨rfl, hs⟩; have HS := Lib.hid (HS.out.step hs); clear hs)
          (first | refine ⟨.inr ?keep286, ?_⟩ | refine ⟨?keep286, ?_⟩)
          case keep286 => ((first | exact HC.out _ HS.out.same | exact HC.out _ (oc_half HS.out) | exact HC.out _ (oc_end _ _ HS.out).same))
          try simp only [Act.put, List.setIfInBounds_toArray, List.set_cons_zero, List.set_cons_succ]
          refine tree_one (i := 8) rfl ?_
          go_wp2_with (refine (prog_ok _ _ _ _ _).mono ?_; rintro e w1 ⟨rfl, hs⟩; have HS := Lib.hid (HS.out.step hs); clear hs)
          (first | refine ⟨.inr ?keep287, ?_⟩ | refine ⟨?keep287, ?_⟩)
          case keep287 => ((first | exact HC.out _ HS.out.same | exact HC.out _ (oc_half HS.out) | exact HC.out _ (oc_end _ _ HS.out).same))
          try simp only [Act.put, List.setIfInBounds_toArray, List.set_cons_zero, List.set_cons_succ]
          refine tree_one (i := 9) rfl ?_
          go_wp2_with (refine (oc_com2 HA.out HW.out hn hm HS.out).mono ?_; rintro e w1 ⟨A8, n8, c8, rfl, hs⟩; have HS := Lib.hid hs; clear hs)
          (first | refine ⟨.inr ?keep288, ?_⟩ | refine ⟨?keep288, ?_⟩)
          case keep288 => ((first | exact HC.out _ HS.out.same | exact HC.out _ (oc_half HS.out) | exact HC.out _ (oc_end _ _ HS.out).same))
          try simp only [Act.put, List.setIfInBounds_toArray, List.set_cons_zero, List.set_cons_succ]
          refine tree_one (i := 12) rfl ?_
          obtain ⟨⟨x0, x1⟩, xf, xl⟩ := zoff_at (HS.out.a _ (Chg.refl _ _)).1
          obtain ⟨⟨y0, y1⟩, yf, yl⟩ := zoff_at (HS.out.b _ (Chg.refl _ _)).1
          obtain ⟨n1, n2⟩ := HS.out.ne
          go_wp2_with (fail)
          (first | refine ⟨.inr ?keep289, ?_⟩ | refine ⟨?keep289, ?_⟩)
          case keep289 => ((first | exact HC.out _ HS.out.same | exact HC.out _ (oc_half HS.out) | exact HC.out _ (oc_end _ _ HS.out).same))
          try simp only [Act.put, List.setIfInBounds_toArray, List.set_cons_zero, List.set_cons_succ]
          refine tree_one (i := 13) rfl ?_
          go_wp2_with (fail)
          (first | refine ⟨.inr ?keep290, ?_⟩ | refine ⟨?keep290, ?_⟩)
          case keep290 => ((first | exact HC.out _ HS.out.same | exact HC.out _ (oc_half HS.out) | exact HC.out _ (oc_end _ _ HS.out).same))
          try simp only [Act.put, List.setIfInBounds_toArray, List.set_cons_zero, List.set_cons_succ]
          refine tree_end ?_
          go_wp2_with fail
          go_meet
          case rel => exact ⟨_, _, _, _, _, _, _, _, rfl, rfl, oc_end _ _ HS.out⟩
      · refine wpl_alloc _ _ (zeroOff _) rfl ?_
        generalize hz : World.alloc _ _ = wz at *
        (first | have HS := Lib.hid (HS.out.allocB2 hz) | have HS := Lib.hid (HS.out.allocB hz))
        clear hz
        refine tree_next (.inr ?keep290) ?_
        case keep290 => ((first | exact HC.out _ HS.out.same | exact HC.out _ (oc_half HS.out) | exact HC.out _ (oc_end _ _ HS.out).same))
        try simp only [Act.put, List.setIfInBounds_toArray, List.set_cons_zero, List.set_cons_succ]
        refine tree_one (i := 1) rfl ?_
        go_wp2_with (refine (prog_ok _ _ _ _ _).mono ?_; rintro e w1 ⟨rfl, hs⟩; have HS := Lib.hid (HS.out.step hs); clear hs)
        (first | refine ⟨.inr ?keep291, ?_⟩ | refine ⟨?keep291, ?_⟩)
        case keep291 => ((first | exact HC.out _ HS.out.same | exact HC.out _ (oc_half HS.out) | exact HC.out _ (oc_end _ _ HS.out).same))
        try simp only [Act.put, List.setIfInBounds_toArray, List.set_cons_zero, List.set_cons_succ]
        refine tree_one (i := 3) rfl ?_
        go_wp2_with (refine (prog_ok _ _ _ _ _).mono ?_; rintro e w1 ⟨rfl, hs⟩; have HS := Lib.hid (HS.out.step hs); clear hs)
        (first | refine ⟨.inr ?keep292, ?_⟩ | refine ⟨?keep292, ?_⟩)
        case keep292 => ((first | exact HC.out _ HS.out.same | exact HC.out _ (oc_half HS.out) | exact HC.out _ (oc_end _ _ HS.out).same))
        try simp only [Act.put, List.setIfInBounds_toArray, List.set_cons_zero, List.set_cons_succ]
        refine tree_one (i := 4) rfl ?_
        go_wp2_with (refine (oc_com1 HA.out HW.out hn hm HS.out).mono ?_; rintro e w1 ⟨A7, n7, c7, rfl, hs⟩; have HS := Lib.hid hs; clear hs)
        (first | refine ⟨.inr ?keep293, ?_⟩ | refine ⟨?keep293, ?_⟩)
        case keep293 => ((first | exact HC.out _ HS.out.same | exact HC.out _ (oc_half HS.out) | exact HC.out _ (oc_end _ _ HS.out).same))
        try simp only [Act.put, List.setIfInBounds_toArray, List.set_cons_zero, List.set_cons_succ]
        refine tree_one (i := 6) rfl ?_
        go_wp2_with (refine (prog_ok _ _ _ _ _).mono ?_; rintro e w1 ⟨rfl, hs⟩; have HS := Lib.hid (HS.out.step hs); clear hs)
        (first | refine ⟨.inr ?keep294, ?_⟩ | refine ⟨?keep294, ?_⟩)
        case keep294 => ((first | exact HC.out _ HS.out.same | exact HC.out _ (oc_half HS.out) | exact HC.out _ (oc_end _ _ HS.out).same))
        try simp only [Act.put, List.setIfInBounds_toArray, List.set_cons_zero, List.set_cons_succ]
        refine tree_one (i := 8) rfl ?_
        go_wp2_with (refine (prog_ok _ _ _ _ _).mono ?_; rintro e w1 ⟨rfl, hs⟩; have HS := Lib.hid (HS.out.step hs); clear hs)
        (first | refine ⟨.inr ?keep295, ?_⟩ | refine ⟨?keep295, ?_⟩)
        case keep295 => ((first | exact HC.out _ HS.out.same | exact HC.out _ (oc_half HS.out) | exact HC.out _ (oc_end _ _ HS.out).same))
        try simp only [Act.put, List.setIfInBounds_toArray, List.set_cons_zero, List.set_cons_succ]
        refine tree_one (i := 9) rfl ?_
        go_wp2_with (refine (oc_com2 HA.out HW.out hn hm HS.out).mono ?_; rintro e w1 ⟨A8, n8, c8, rfl, hs⟩; have HS := Lib.hid hs; clear hs)
        (first | refine ⟨.inr ?keep296, ?_⟩ | refine ⟨?keep296, ?_⟩)
        case keep296 => ((first | exact HC.out _ HS.out.same | exact HC.out _ (oc_half HS.out) | exact HC.out _ (oc_end _ _ HS.out).same))
        try simp only [Act.put, List.setIfInBounds_toArray, List.set_cons_zero, List.set_cons_succ]
        refine tree_one (i := 12) rfl ?_
        obtain ⟨⟨x0, x1⟩, xf, xl⟩ := zoff_at (HS.out.a _ (Chg.refl _ _)).1
        obtain ⟨⟨y0, y1⟩, yf, yl⟩ := zoff_at (HS.out.b _ (Chg.refl _ _)).1
        obtain ⟨n1, n2⟩ := HS.out.ne
        go_wp2_with (fail)
        (first | refine ⟨.inr ?keep297, ?_⟩ | refine ⟨?keep297, ?_⟩)
        case keep297 => ((first | exact HC.out _ HS.out.same | exact HC.out _ (oc_half HS.out) | exact HC.out _ (oc_end _ _ HS.out).same))
        try simp only [Act.put, List.setIfInBounds_toArray, List.set_cons_zero, List.set_cons_succ]
        refine tree_one (i := 13) rfl ?_
        go_wp2_with (fail)
        (first | refine ⟨.inr ?keep298, ?_⟩ | refine ⟨?keep298, ?_⟩)
        case keep298 => ((first | exact HC.out _ HS.out.same | exact HC.out _ (oc_half HS.out) | exact HC.out _ (oc_end _ _ HS.out).same))
        try simp only [Act.put, List.setIfInBounds_toArray, List.set_cons_zero, List.set_cons_succ]
        refine tree_end ?_
        go_wp2_with fail
        go_meet
        case rel => exact ⟨_, _, _, _, _, _, _, _, rfl, rfl, oc_end _ _ HS.out⟩
    · as_aux_lemma =>
      refine wpl_alloc _ _ (zeroOff _) rfl ?_
      generalize hz : World.alloc _ _ = wz at *
      (first | have HS := Lib.hid (HS.out.allocB2 hz) | have HS := Lib.hid (HS.out.allocB hz))
      clear hz
      refine tree_next (.inr ?keep298) ?_
      case keep298 => ((first | exact HC.out _ HS.out.same | exact HC.out _ (oc_half HS.out) | exact HC.out _ (oc_end _ _ HS.out).same))
      try simp only [Act.put, List.setIfInBounds_toArray, List.set_cons_zero, List.set_cons_succ]
      refine tree_fork (i := 1) (j := 10) rfl rfl ?_ ?_
      · go_wp2_with (refine (prog_ok _ _ _ _ _).mono ?_; rintro e w1 ⟨rfl, hs⟩; have HS := Lib.hid (HS.out.step hs); clear hs)
        (first | refine ⟨.inr ?keep299, ?_⟩ | refine ⟨?keep299, ?_⟩)
        case keep299 => ((first | exact HC.out _ HS.out.same | exact HC.out _ (oc_half HS.out) | exact HC.out _ (oc_end _ _ HS.out).same))
        try simp only [Act.put, List.setIfInBounds_toArray, List.set_cons_zero, List.set_cons_succ]
        refine tree_fork (i := 3) (j := 10) rfl rfl ?_ ?_
        · go_wp2_with (refine (prog_ok _ _ _ _ _).mono ?_; rintro e w1 ⟨rfl, hs⟩; have HS := Lib.hid (HS.out.step hs); clear hs)
          (first | refine ⟨.inr ?keep301, ?_⟩ | refine ⟨?keep301, ?_⟩)
          case keep301 => ((first | exact HC.out _ HS.out.same | exact HC.out _ (oc_half HS.out) | exact HC.out _ (oc_end _ _ HS.out).same))
          try simp only [Act.put, List.setIfInBounds_toArray, List.set_cons_zero, List.set_cons_succ]
          refine tree_fork (i := 4) (j := 10) rfl rfl ?_ ?_
          · go_wp2_with (refine (oc_com1 HA.out HW.out hn hm HS.out).mono ?_; rintro e w1 ⟨A7, n7, c7, rfl, hs⟩; have HS := Lib.hid hs; clear hs)
            (first | refine ⟨.inr ?keep303, ?_⟩ | refine ⟨?keep303, ?_⟩)
            case keep303 => ((first | exact HC.out _ HS.out.same | exact HC.out _ (oc_half HS.out) | exact HC.out _ (oc_end _ _ HS.out).same))
            try simp only [Act.put, List.setIfInBounds_toArray, List.set_cons_zero, List.set_cons_succ]
            refine tree_fork (i := 6) (j := 10) rfl rfl ?_ ?_
            · go_wp2_with (refine (prog_ok _ _ _ _ _).mono ?_; rintro e w1 ⟨rfl, hs⟩; have HS := Lib.hid (HS.out.step hs); clear hs)
              (first | refine ⟨.inr ?keep305, ?_⟩ | refine ⟨?keep305, ?_⟩)
              case keep305 => ((first | exact HC.out _ HS.out.same | exact HC.out _ (oc_half HS.out) | exact HC.out _ (oc_end _ _ HS.out).same))
              try simp only [Act.put, List.setIfInBounds_toArray, List.set_cons_zero, List.set_cons_succ]
              refine tree_fork (i := 8) (j := 10) rfl rfl ?_ ?_
              · go_wp2_with (refine (prog_ok _ _ _ _ _).mono ?_; rintro e w1 ⟨rfl, hs⟩; have HS := Lib.hid (HS.out.step hs); clear hs)
                (first | refine ⟨.inr ?keep307, ?_⟩ | refine ⟨?keep307, ?_⟩)
                case keep307 => ((first | exact HC.out _ HS.out.same | exact HC.out _ (oc_half HS.out) | exact HC.out _ (oc_end _ _ HS.out).same))
                try simp only [Act.put, List.setIfInBounds_toArray, List.set_cons_zero, List.set_cons_succ]
                refine tree_fork (i := 9) (j := 10) rfl rfl ?_ ?_
                · go_wp2_with (refine (oc_com2 HA.out HW.out hn hm HS.out).mono ?_; rintro e w1 ⟨A8, n8, c8, rfl, hs⟩; have HS := Lib.hid hs; clear hs)
                  (first | refine ⟨.inr ?keep309, ?_⟩ | refine ⟨?keep309, ?_⟩)
                  case keep309 => ((first | exact HC.out _ HS.out.same | exact HC.out _ (oc_half HS.out) | exact HC.out _ (oc_end _ _ HS.out).same))
                  try simp only [Act.put, List.setIfInBounds_toArray, List.set_cons_zero, List.set_cons_succ]
                  refine tree_one (i := 10) rfl ?_
                  refine wpl_alloc _ _ (zeroOff _) rfl ?_
                  generalize hz : World.alloc _ _ = wz at *
                  (first | have HS := Lib.hid (HS.out.allocA2 hz) | have HS := Lib.hid (HS.out.allocA hz))
                  clear hz
                  refine tree_next (.inr ?keep311) ?_
                  case keep311 => ((first | exact HC.out _ HS.out.same | exact HC.out _ (oc_half HS.out) | exact HC.out _ (oc_end _ _ HS.out).same))
                  try simp only [Act.put, List.setIfInBounds_toArray, List.set_cons_zero, List.set_cons_succ]
                  refine tree_one (i := 12) rfl ?_
                  obtain ⟨⟨x0, x1⟩, xf, xl⟩ := zoff_at (HS.out.a _ (Chg.refl _ _)).1
                  obtain ⟨⟨y0, y1⟩, yf, yl⟩ := zoff_at (HS.out.b _ (Chg.refl _ _)).1
                  obtain ⟨n1, n2⟩ := HS.out.ne
                  go_wp2_with (fail)
                  (first | refine ⟨.inr ?keep312, ?_⟩ | refine ⟨?keep312, ?_⟩)
                  case keep312 => ((first | exact HC.out _ HS.out.same | exact HC.out _ (oc_half HS.out) | exact HC.out _ (oc_end _ _ HS.out).same))
                  try simp only [Act.put, List.setIfInBounds_toArray, List.set_cons_zero, List.set_cons_succ]
                  refine tree_one (i := 13) rfl ?_
                  go_wp2_with (fail)
                  (first | refine ⟨.inr ?keep313, ?_⟩ | refine ⟨?keep313, ?_⟩)
                  case keep313 => ((first | exact HC.out _ HS.out.same | exact HC.out _ (oc_half HS.out) | exact HC.out _ (oc_end _ _ HS.out).same))
                  try simp only [Act.put, List.setIfInBounds_toArray, List.set_cons_zero, List.set_cons_succ]
                  refine tree_end ?_
                  go_wp2_with fail
                  go_meet
                  case rel => exact ⟨_, _, _, _, _, _, _, _, rfl, rfl, oc_end _ _ HS.out⟩
                · refine wpl_alloc _ _ (zeroOff _) rfl ?_
                  generalize hz : World.alloc _ _ = wz at *
                  (first | have HS := Lib.hid (HS.out.allocA2 hz) | have HS := Lib.hid (HS.out.allocA hz))
                  clear hz
                  refine tree_next (.inr ?keep313) ?_
                  case keep313 => ((first | exact HC.out _ HS.out.same | exact HC.out _ (oc_half HS.out) | exact HC.out _ (oc_end _ _ HS.out).same))
                  try simp only [Act.put, List.setIfInBounds_toArray, List.set_cons_zero, List.set_cons_succ]
                  refine tree_one (i := 9) rfl ?_
                  go_wp2_with (refine (oc_com2 HA.out HW.out hn hm HS.out).mono ?_; rintro e w1 ⟨A8, n8, c8, rfl, hs⟩; have HS := Lib.hid hs; clear hs)
                  (first | refine ⟨.inr ?keep314, ?_⟩ | refine ⟨?keep314, ?_⟩)
                  case keep314 => ((first | exact HC.out _ HS.out.same | exact HC.out _ (oc_half HS.out) | exact HC.out _ (oc_end _ _ HS.out).same))
                  try simp only [Act.put, List.setIfInBounds_toArray, List.set_cons_zero, List.set_cons_succ]
                  refine tree_one (i := 12) rfl ?_
                  obtain ⟨⟨x0, x1⟩, xf, xl⟩ := zoff_at (HS.out.a _ (Chg.refl _ _)).1
                  obtain ⟨⟨y0, y1⟩, yf, yl⟩ := zoff_at (HS.out.b _ (Chg.refl _ _)).1
                  obtain ⟨n1, n2⟩ := HS.out.ne
                  go_wp2_with (fail)
                  (first | refine ⟨.inr ?keep315, ?_⟩ | refine ⟨?keep315, ?_⟩)
                  case keep315 => ((first | exact HC.out _ HS.out.same | exact HC.out _ (oc_half HS.out) | exact HC.out _ (oc_end _ _ HS.out).same))
                  try simp only [Act.put, List.setIfInBounds_toArray, List.set_cons_zero, List.set_cons_succ]
                  refine tree_one (i := 13) rfl ?_
                  go_wp2_with (fail)
                  (first | refine ⟨.inr ?keep316, ?_⟩ | refine ⟨?keep316, ?_⟩)
                  case keep316 => ((first | exact HC.out _ HS.out.same | exact HC.out _ (oc_half HS.out) | exact HC.out _ (oc_end _ _ HS.out).same))
                  try simp only [Act.put, List.setIfInBounds_toArray, List.set_cons_zero, List.set_cons_succ]
                  refine tree_end ?_
                  go_wp2_with fail
                  go_meet
                  case rel => exact ⟨_, _, _, _, _, _, _, _, rfl, rfl, oc_end _ _ HS.out⟩
              · refine wpl_alloc _ _ (zeroOff _) rfl ?_
                generalize hz : World.alloc _ _ = wz at *
                (first | have HS := Lib.hid (HS.out.allocA2 hz) | have HS := Lib.hid (HS.out.allocA hz))
                clear hz
                refine tree_next (.inr ?keep316) ?_
                case keep316 => ((first | exact HC.out _ HS.out.same | exact HC.out _ (oc_half HS.out) | exact HC.out _ (oc_end _ _ HS.out).same))
                try simp only [Act.put, List.setIfInBounds_toArray, List.set_cons_zero, List.set_cons_succ]
                refine tree_one (i := 8) rfl ?_
                go_wp2_with (refine (prog_ok _ _ _ _ _).mono ?_; rintro e w1 ⟨rfl, hs⟩; have HS := Lib.hid (HS.out.step hs); clear hs)
                (first | refine ⟨.inr ?keep317, ?_⟩ | refine ⟨?keep317, ?_⟩)
                case keep317 => ((first | exact HC.out _ HS.out.same | exact HC.out _ (oc_half HS.out) | exact HC.out _ (oc_end _ _ HS.out).same))
                try simp only [Act.put, List.setIfInBounds_toArray, List.set_cons_zero, List.set_cons_succ]
                refine tree_one (i := 9) rfl ?_
                go_wp2_with (refine (oc_com2 HA.out HW.out hn hm HS.out).mono ?_; rintro e w1 ⟨A8, n8, c8, rfl, hs⟩; have HS := Lib.hid hs; clear hs)
                (first | refine ⟨.inr ?keep318, ?_⟩ | refine ⟨?keep318, ?_⟩)
                case keep318 => ((first | exact HC.out _ HS.out.same | exact HC.out _ (oc_half HS.out) | exact HC.out _ (oc_end _ _ HS.out).same))
                try simp only [Act.put, List.setIfInBounds_toArray, List.set_cons_zero, List.set_cons_succ]
                refine tree_one (i := 12) rfl ?_
                obtain ⟨⟨x0, x1⟩, xf, xl⟩ := zoff_at (HS.out.a _ (Chg.refl _ _)).1
                obtain ⟨⟨y0, y1⟩, yf, yl⟩ := zoff_at (HS.out.b _ (Chg.refl _ _)).1
                obtain ⟨n1, n2⟩ := HS.out.ne
                go_wp2_with (fail)
                (first | refine ⟨.inr ?keep319, ?_⟩ | refine ⟨?keep319, ?_⟩)
                case keep319 => ((first | exact HC.out _ HS.out.same | exact HC.out _ (oc_half HS.out) | exact HC.out _ (oc_end _ _ HS.out).same))
                try simp only [Act.put, List.setIfInBounds_toArray, List.set_cons_zero, List.set_cons_succ]
                refine tree_one (i := 13) rfl ?_
                go_wp2_with (fail)
                (first | refine ⟨.inr ?keep320, ?_⟩ | refine ⟨?keep320, ?_⟩)
                case keep320 => ((first | exact HC.out _ HS.out.same | exact HC.out _ (oc_half HS.out) | exact HC.out _ (oc_end _ _ HS.out).same))
                try simp only [Act.put, List.setIfInBounds_toArray, List.set_cons_zero, List.set_cons_succ]
                refine tree_end ?_
                go_wp2_with fail
                go_meet
                case rel => exact ⟨_, _, _, _, _, _, _, _, rfl, rfl, oc_end _ _ HS.out⟩
            · refine wpl_alloc _ _ (zeroOff _) rfl ?_
              generalize hz : World.alloc _ _ = wz at *
              (first | have HS := Lib.hid (HS.out.allocA2 hz) | have HS := Lib.hid (HS.out.allocA hz))
              clear hz
              refine tree_next (.inr ?keep320) ?_
              case keep320 => ((first | exact HC.out _ HS.out.same | exact HC.out _ (oc_half HS.out) | exact HC.out _ (oc_end _ _ HS.out).same))
              try simp only [Act.put, List.setIfInBounds_toArray, List.set_cons_zero, List.set_cons_succ]
              refine tree_one (i := 6) rfl ?_
              go_wp2_with (refine (prog_ok _ _ _ _ _).mono ?_; rintro e w1 ⟨rfl, hs⟩; have HS := Lib.hid (HS.out.step hs); clear hs)
              (first | refine ⟨.inr ?keep321, ?_⟩ | refine ⟨?keep321, ?_⟩)
              case keep321 => ((first | exact HC.out _ HS.out.same | exact HC.out _ (oc_half HS.out) | exact HC.out _ (oc_end _ _ HS.out).same))
              try simp only [Act.put, List.setIfInBounds_toArray, List.set_cons_zero, List.set_cons_succ]
              refine tree_one (i := 8) rfl ?_
              go_wp2_with (refine (prog_ok _ _ _ _ _).mono ?_; rintro e w1 ⟨rfl, hs⟩; have HS := Lib.hid (HS.out.step hs); clear hs)
              (first | refine ⟨.inr ?keep322, ?_⟩ | refine ⟨?keep322, ?_⟩)
              case keep322 => ((first | exact HC.out _ HS.out.same | exact HC.out _ (oc_half HS.out) | exact HC.out _ (oc_end _ _ HS.out).same))
              try simp only [Act.put, List.setIfInBounds_toArray, List.set_cons_zero, List.set_cons_succ]
              refine tree_one (i := 9) rfl ?_
              go_wp2_with (refine (oc_com2 HA.out HW.out hn hm HS.out).mono ?_; rintro e w1 ⟨A8, n8, c8, rfl, hs⟩; have HS := Lib.hid hs; clear hs)
              (first | refine ⟨.inr ?keep323, ?_⟩ | refine ⟨?keep323, ?_⟩)
              case keep323 => ((first | exact HC.out _ HS.out.same | exact HC.out _ (oc_half HS.out) | exact HC.out _ (oc_end _ _ HS.out).same))
              try simp only [Act.put, List.setIfInBounds_toArray, List.set_cons_zero, List.set_cons_succ]
              refine tree_one (i := 12) rfl ?_
              obtain ⟨⟨x0, x1⟩, xf, xl⟩ := zoff_at (HS.out.a _ (Chg.refl _ _)).1
              obtain ⟨⟨y0, y1⟩, yf, yl⟩ := zoff_at (HS.out.b _ (Chg.refl _ _)).1
              obtain ⟨n1, n2⟩ := HS.out.ne
              go_wp2_with (fail)
              (first | refine ⟨.inr ?keep324, ?_⟩ | refine ⟨?keep324, ?_⟩)
              case keep324 => ((first | exact HC.out _ HS.out.same | exact HC.out _ (oc_half HS.out) | exact HC.out _ (oc_end _ _ HS.out).same))
              try simp only [Act.put, List.setIfInBounds_toArray, List.set_cons_zero, List.set_cons_succ]
              refine tree_one (i := 13) rfl ?_
              go_wp2_with (fail)
              (first | refine ⟨.inr ?keep325, ?_⟩ | refine ⟨?keep325, ?_⟩)
              case keep325 => ((first | exact HC.out _ HS.out.same | exact HC.out _ (oc_half HS.out) | exact HC.out _ (oc_end _ _ HS.out).same))
              try simp only [Act.put, List.setIfInBounds_toArray, List.set_cons_zero, List.set_cons_succ]
              refine tree_end ?_
              go_wp2_with fail
              go_meet
              case rel => exact ⟨_, _, _, _, _, _, _, _, rfl, rfl, oc_end _ _ HS.out⟩
          · refine wpl_alloc _ _ (zeroOff _) rfl ?_
            generalize hz : World.alloc _ _ = wz at *
            (first | have HS := Lib.hid (HS.out.allocA2 hz) | have HS := Lib.hid (HS.out.allocA hz))
            clear hz
            refine tree_next (.inr ?keep325) ?_
            case keep325 => ((first | exact HC.out _ HS.out.same | exact HC.out _ (oc_half HS.out) | exact HC.out _ (oc_end _ _ HS.out).same))
            try simp only [Act.put, List.setIfInBounds_toArray, List.set_cons_zero, List.set_cons_succ]
            refine tree_one (i := 4) rfl ?_
            go_wp2_with (refine (oc_com1 HA.out HW.out hn hm HS.out).mono ?_; rintro e w1 ⟨A7, n7, c7, rfl, hs⟩; have HS := Lib.hid hs; clear hs)
            (first | refine ⟨.inr ?keep326, ?_⟩ | refine ⟨?keep326, ?_⟩)
            case keep326 => ((first | exact HC.out _ HS.out.same | exact HC.out _ (oc_half HS.out) | exact HC.out _ (oc_end _ _ HS.out).same))
            try simp only [Act.put, List.setIfInBounds_toArray, List.set_cons_zero, List.set_cons_succ]
            refine tree_one (i := 6) rfl ?_
            go_wp2_with (refine (prog_ok _ _ _ _ _).mono ?_; rintro e w1 ⟨rfl, hs⟩; have HS := Lib.hid (HS.out.step hs); clear hs)
            (first | refine ⟨.inr ?keep327, ?_⟩ | refine ⟨?keep327, ?_⟩)
            case keep327 => ((first | exact HC.out _ HS.out.same | exact HC.out _ (oc_half HS.out) | exact HC.out _ (oc_end _ _ HS.out).same))
            try simp only [Act.put, List.setIfInBounds_toArray, List.set_cons_zero, List.set_cons_succ]
            refine tree_one (i := 8) rfl ?_
            go_wp2_with (refine (prog_ok _ _ _ _ _).mono ?_; rintro e w1 ⟨rfl, hs⟩; have HS := Lib.hid (HS.out.step hs); clear hs)
            (first | refine ⟨.inr ?keep328, ?_⟩ | refine ⟨?keep328, ?_⟩)
            case keep328 => ((first | exact HC.out _ HS.out.same | exact HC.out _ (oc_half HS.out) | exact HC.out _ (oc_end _ _ HS.out).same))
            try simp only [Act.put, List.setIfInBounds_toArray, List.set_cons_zero, List.set_cons_succ]
            refine tree_one (i := 9) rfl ?_
            go_wp2_with (refine (oc_com2 HA.out HW.out hn hm HS.out).mono ?_; rintro e w1 ⟨A8, n8, c8, rfl, hs⟩; have HS := Lib.hid hs; clear hs)
            (first | refine ⟨.inr ?keep329, ?_⟩ | refine ⟨?keep329, ?_⟩)
            case keep329 => ((first | exact HC.out _ HS.out.same | exact HC.out _ (oc_half HS.out) | exact HC.out _ (oc_end _ _ HS.out).same))
            try simp only [Act.put, List.setIfInBounds_toArray, List.set_cons_zero, List.set_cons_succ]
            refine tree_one (i := 12) rfl ?_
            obtain ⟨⟨x0, x1⟩, xf, xl⟩ := zoff_at (HS.out.a _ (Chg.refl _ _)).1
            obtain ⟨⟨y0, y1⟩, yf, yl⟩ := zoff_at (HS.out.b _ (Chg.refl _ _)).1
            obtain ⟨n1, n2⟩ := HS.out.ne
            go_wp2_with (fail)
            (first | refine ⟨.inr ?keep330, ?_⟩ | refine ⟨?keep330, ?_⟩)
            case keep330 => ((first | exact HC.out _ HS.out.same | exact HC.out _ (oc_half HS.out) | exact HC.out _ (oc_end _ _ HS.out).same))
            try simp only [Act.put, List.setIfInBounds_toArray, List.set_cons_zero, List.set_cons_succ]
            refine tree_one (i := 13) rfl ?_
            go_wp2_with (fail)
            (first | refine ⟨.inr ?keep331, ?_⟩ | refine ⟨?keep331, ?_⟩)
            case keep331 => ((first | exact HC.out _ HS.out.same | exact HC.out _ (oc_half HS.out) | exact HC.out _ (oc_end _ _ HS.out).same))
            try simp only [Act.put, List.setIfInBounds_toArray, List.set_cons_zero, List.set_cons_succ]
            refine tree_end ?_
            go_wp2_with fail
            go_meet
            case rel => exact ⟨_, _, _, _, _, _, _, _, rfl, rfl, oc_end _ _ HS.out⟩
        · refine wpl_alloc _ _ (zeroOff _) rfl ?_
          generalize hz : World.alloc _ _ = wz at *
          (first | have HS := Lib.hid (HS.out.allocA2 hz) | have HS := Lib.hid (HS.out.allocA hz))
          clear hz
          refine tree_next (.inr ?keep331) ?_
          case keep331 => ((first | exact HC.out _ HS.out.same | exact HC.out _ (oc_half HS.out) | exact HC.out _ (oc_end _ _ HS.out).same))
          try simp only [Act.put, List.setIfInBounds_toArray, List.set_cons_zero, List.set_cons_succ]
          refine tree_one (i := 3) rfl ?_
          go_wp2_with (refine (prog_ok _ _ _ _ _).mono ?_; rintro e w1 ⟨rfl, hs⟩; have HS := Lib.hid (HS.out.step hs); clear hs)
          (first | refine ⟨.inr ?keep332, ?_⟩ | refine ⟨?keep332, ?_⟩)
          case keep332 => ((first | exact HC.out _ HS.out.same | exact HC.out _ (oc_half HS.out) | exact HC.out _ (oc_end _ _ HS.out).same))
          try simp only [Act.put, List.setIfInBounds_toArray, List.set_cons_zero, List.set_cons_succ]
          refine tree_one (i := 4) rfl ?_
          go_wp2_with (refine (oc_com1 HA.out HW.out hn hm HS.out).mono ?_; rintro e w1 ⟨A7, n7, c7, rfl, hs⟩; have HS := Lib.hid hs; clear hs)
          (first | refine ⟨.inr ?keep333, ?_⟩ | refine ⟨?keep333, ?_⟩)
          case keep333 => ((first | exact HC.out _ HS.out.same | exact HC.out _ (oc_half HS.out) | exact HC.out _ (oc_end _ _ HS.out).same))
          try simp only [Act.put, List.setIfInBounds_toArray, List.set_cons_zero, List.set_cons_succ]
          refine tree_one (i := 6) rfl ?_
          go_wp2_with (refine (prog_ok _ _ _ _ _).mono ?_; rintro e w1 ⟨rfl, hs⟩; have HS := Lib.hid (HS.out.step hs); clear hs)
          (first | refine ⟨.inr ?keep334, ?_⟩ | refine ⟨?keep334, ?_⟩)
          case keep334 => ((first | exact HC.out _ HS.out.same | exact HC.out _ (oc_half HS.out) | exact HC.out _ (oc_end _ _ HS.out).same))
          try simp only [Act.put, List.setIfInBounds_toArray, List.set_cons_zero, List.set_cons_succ]
          refine tree_one (i := 8) rfl ?_
          go_wp2_with (refine (prog_ok _ _ _ _ _).mono ?_; rintro e w1 ⟨rfl, hs⟩; have HS := Lib.hid (HS.out.step hs); clear hs)
          (first | refine ⟨.inr ?keep335, ?_⟩ | refine ⟨?keep335, ?_⟩)
          case keep335 => ((first | exact HC.out _ HS.out.same | exact HC.out _ (oc_half HS.out) | exact HC.out _ (oc_end _ _ HS.out).same))
          try simp only [Act.put, List.setIfInBounds_toArray, List.set_cons_zero, List.set_cons_succ]
          refine tree_one (i := 9) rfl ?_
          go_wp2_with (refine (oc_com2 HA.out HW.out hn hm HS.out).mono ?_; rintro e w1 ⟨A8, n8, c8, rfl, hs⟩; have HS := Lib.hid hs; clear hs)
          (first | refine ⟨.inr ?keep336, ?_⟩ | refine ⟨?keep336, ?_⟩)
          case keep336 => ((first | exact HC.out _ HS.out.same | exact HC.out _ (oc_half HS.out) | exact HC.out _ (oc_end _ _ HS.out).same))
          try simp only [Act.put, List.setIfInBounds_toArray, List.set_cons_zero, List.set_cons_succ]
          refine tree_one (i := 12) rfl ?_
          obtain ⟨⟨x0, x1⟩, xf, xl⟩ := zoff_at (HS.out.a _ (Chg.refl _ _)).1
          obtain ⟨⟨y0, y1⟩, yf, yl⟩ := zoff_at (HS.out.b _ (Chg.refl _ _)).1
          obtain ⟨n1, n2⟩ := HS.out.ne
          go_wp2_with (fail)
          (first | refine ⟨.inr ?keep337, ?_⟩ | refine ⟨?keep337, ?_⟩)
          case keep337 => ((first | exact HC.out _ HS.out.same | exact HC.out _ (oc_half HS.out) | exact HC.out _ (oc_end _ _ HS.out).same))
          try simp only [Act.put, List.setIfInBounds_toArray, List.set_cons_zero, List.set_cons_succ]
          refine tree_one (i := 13) rfl ?_
          go_wp2_with (fail)
          (first | refine ⟨.inr ?keep338, ?_⟩ | refine ⟨?keep338, ?_⟩)
          case keep338 => ((first | exact HC.out _ HS.out.same | exact HC.out _ (oc_half HS.out) | exact HC.out _ (oc_end _ _ HS.out).same))
          try simp only [Act.put, List.setIfInBounds_toArray, List.set_cons_zero, List.set_cons_succ]
          refine tree_end ?_
          go_wp2_with fail
          go_meet
          case rel => exact ⟨_, _, _, _, _, _, _, _, rfl, rfl, oc_end _ _ HS.out⟩
      · refine wpl_alloc _ _ (zeroOff _) rfl ?_
        generalize hz : World.alloc _ _ = wz at *
        (first | have HS := Lib.hid (HS.out.allocA2 hz) | have HS := Lib.hid (HS.out.allocA hz))
        clear hz
        refine tree_next (.inr ?keep338) ?_
        case keep338 => ((first | exact HC.out _ HS.out.same | exact HC.out _ (oc_half HS.out) | exact HC.out _ (oc_end _ _ HS.out).same))
        try simp only [Act.put, List.setIfInBounds_toArray, List.set_cons_zero, List.set_cons_succ]
        refine tree_one (i := 1) rfl ?_
        go_wp2_with (refine (prog_ok _ _ _ _ _).mono ?_; rintro e w1 ⟨rfl, hs⟩; have HS := Lib.hid (HS.out.step hs); clear hs)
        (first | refine ⟨.inr ?keep339, ?_⟩ | refine ⟨?keep339, ?_⟩)
        case keep339 => ((first | exact HC.out _ HS.out.same | exact HC.out _ (oc_half HS.out) | exact HC.out _ (oc_end _ _ HS.out).same))
        try simp only [Act.put, List.setIfInBounds_toArray, List.set_cons_zero, List.set_cons_succ]
        refine tree_one (i := 3) rfl ?_
        go_wp2_with (refine (prog_ok _ _ _ _ _).mono ?_; rintro e w1 ⟨rfl, hs⟩; have HS := Lib.hid (HS.out.step hs); clear hs)
        (first | refine ⟨.inr ?keep340, ?_⟩ | refine ⟨?keep340, ?_⟩)
        case keep340 => ((first | exact HC.out _ HS.out.same | exact HC.out _ (oc_half HS.out) | exact HC.out _ (oc_end _ _ HS.out).same))
        try simp only [Act.put, List.setIfInBounds_toArray, List.set_cons_zero, List.set_cons_succ]
        refine tree_one (i := 4) rfl ?_
        go_wp2_with (refine (oc_com1 HA.out HW.out hn hm HS.out).mono ?_; rintro e w1 ⟨A7, n7, c7, rfl, hs⟩; have HS := Lib.hid hs; clear hs)
        (first | refine ⟨.inr ?keep341, ?_⟩ | refine ⟨?keep341, ?_⟩)
        case keep341 => ((first | exact HC.out _ HS.out.same | exact HC.out _ (oc_half HS.out) | exact HC.out _ (oc_end _ _ HS.out).same))
        try simp only [Act.put, List.setIfInBounds_toArray, List.set_cons_zero, List.set_cons_succ]
        refine tree_one (i := 6) rfl ?_
        go_wp2_with (refine (prog_ok _ _ _ _ _).mono ?_; rintro e w1 ⟨rfl, hs⟩; have HS := Lib.hid (HS.out.step hs); clear hs)
        (first | refine ⟨.inr ?keep342, ?_⟩ | refine ⟨?keep342, ?_⟩)
        case keep342 => ((first | exact HC.out _ HS.out.same | exact HC.out _ (oc_half HS.out) | exact HC.out _ (oc_end _ _ HS.out).same))
        try simp only [Act.put, List.setIfInBounds_toArray, List.set_cons_zero, List.set_cons_succ]
        refine tree_one (i := 8) rfl ?_
        go_wp2_with (refine (prog_ok _ _ _ _ _).mono ?_; rintro e w1 ⟨rfl, hs⟩; have HS := Lib.hid (HS.out.step hs); clear hs)
        (first | refine ⟨.inr ?keep343, ?_⟩ | refine ⟨?keep343, ?_⟩)
        case keep343 => ((first | exact HC.out _ HS.out.same | exact HC.out _ (oc_half HS.out) | exact HC.out _ (oc_end _ _ HS.out).same))
        try simp only [Act.put, List.setIfInBounds_toArray, List.set_cons_zero, List.set_cons_succ]
        refine tree_one (i := 9) rfl ?_
        go_wp2_with (refine (oc_com2 HA.out HW.out hn hm HS.out).mono ?_; rintro e w1 ⟨A8, n8, c8, rfl, hs⟩; have HS := Lib.hid hs; clear hs)
        (first | refine ⟨.inr ?keep344, ?_⟩ | refine ⟨?keep344, ?_⟩)
        case keep344 => ((first | exact HC.out _ HS.out.same | exact HC.out _ (oc_half HS.out) | exact HC.out _ (oc_end _ _ HS.out).same))
        try simp only [Act.put, List.setIfInBounds_toArray, List.set_cons_zero, List.set_cons_succ]
        refine tree_one (i := 12) rfl ?_
        obtain ⟨⟨x0, x1⟩, xf, xl⟩ := zoff_at (HS.out.a _ (Chg.refl _ _)).1
        obtain ⟨⟨y0, y1⟩, yf, yl⟩ := zoff_at (HS.out.b _ (Chg.refl _ _)).1
        obtain ⟨n1, n2⟩ := HS.out.ne
        go_wp2_with (fail)
        (first | refine ⟨.inr ?keep345, ?_⟩ | refine ⟨?keep345, ?_⟩)
        case keep345 => ((first | exact HC.out _ HS.out.same | exact HC.out _ (oc_half HS.out) | exact HC.out _ (oc_end _ _ HS.out).same))
        try simp only [Act.put, List.setIfInBounds_toArray, List.set_cons_zero, List.set_cons_succ]
        refine tree_one (i := 13) rfl ?_
        go_wp2_with (fail)
        (first | refine ⟨.inr ?keep346, ?_⟩ | refine ⟨?keep346, ?_⟩)
        case keep346 => ((first | exact HC.out _ HS.out.same | exact HC.out _ (oc_half HS.out) | exact HC.out _ (oc_end _ _ HS.out).same))
        try simp only [Act.put, List.setIfInBounds_toArray, List.set_cons_zero, List.set_cons_succ]
        refine tree_end ?_
        go_wp2_with fail
        go_meet
        case rel => exact ⟨_, _, _, _, _, _, _, _, rfl, rfl, oc_end _ _ HS.out⟩
  case rest =>
    obtain ⟨ga, gb, A7, n7, c7, A8, n8, c8, rfl, rfl, h3⟩ := hcut
    have H3 := Lib.hid h3
    have HC3 := Lib.hid (fun (v : World) (k : Same wc v) => oc_cells h3 k)
    have HCL : Hid ((comV fs gs).length ≤ 40) := Lib.hid (by have h1 := comFrom_length gs fs []; have h2 := (light_len HB.out).1; unfold comV; simp at h1; omega)
    have hn7 : n7 ≤ 40 := by have h1 := h3.s1.1.1; have := HCL.out; omega
    have hnn : n7 = n8 := by have h1 := h3.s1.1.1; have h2 := h3.s2.1.1; have := com_len fs gs; omega
    subst hnn
    have HCOMM := Lib.hid (common_comm aA aB)
    have q3 := h3
    rw [← HCOMM.out] at q3
    have H3 := Lib.hid q3
    have HC3 := Lib.hid (fun (v : World) (k : Same wc v) => oc_cells q3 k)
    clear h3 q3
    obtain ⟨⟨a0, a1⟩, ⟨b0, b1⟩, al, bl⟩ := HC3.out wc (Chg.refl _ _)
    go_wp2
    clear a0 a1 b0 b1 al bl
    go_loopw [7] (fun v7 wr => ∃ i : Nat, i ≤ n7 ∧ v7 = .int .i64 i ∧ Same wc wr) (fun v7 _ => n7 - (intOf v7).toNat)
    case atStart => exact ⟨0, by omega, rfl, Chg.refl _ _⟩
    case round =>
      obtain ⟨i, hi, rfl, hk⟩ := hrel
      have HK := Lib.hid hk
      clear hk
      obtain ⟨⟨a0, a1⟩, ⟨b0, b1⟩, al, bl⟩ := HC3.out wr HK.out
      by_cases hlt : i < n7
      · have hii : (i : Int) < n7 := by omega
        obtain ⟨g7, o7, rfl, hgl, hcell⟩ := H3.out.s1.1.2 (show 0 < n7 by omega)
        obtain ⟨f, hf⟩ : ∃ f, (comV fs gs)[i]? = some f := ⟨_, List.getElem?_eq_getElem (by rw [H3.out.s1.1.1]; exact hlt)⟩
        have HF := Lib.hid (List.mem_of_getElem? hf)
        have HCF := Lib.hid (hcell i f hf)
        have hcf := HK.out.cell HCF.out (fun q => q)
        have hgl2 := Nat.lt_of_lt_of_le hgl HK.out.size
        clear hf hcell hgl
        go_wp2_with fail
        have HK := Lib.hid (HK.out.drew)
        have hcel : (World.drew wr).cell? ⟨ga, 0, none⟩ = some (.slice (some ⟨g7, o7, none⟩) n7 c7) ∧ (World.drew wr).cell? ⟨gb, 0, none⟩ = some (.slice A8 n7 c8) ∧ (World.drew wr).cell? ⟨w.heap.size, 0, none⟩ = some (.slice A n cap) ∧ (World.drew wr).cell? ⟨w.heap.size + 1, 0, none⟩ = some (.slice B m cb) ∧ (World.drew wr).cell? ⟨g7, o7 + i, none⟩ = some (.string f) := ⟨(HC3.out _ HK.out).1.1, (HC3.out _ HK.out).2.1.1, (HC.out _ (H3.out.same.trans HK.out)).1.1, (HC.out _ (H3.out.same.trans HK.out)).2.1, HK.out.cell HCF.out (fun q => q)⟩
        refine region_path (S := (fun w' => w'.cell? ⟨ga, 0, none⟩ = some (.slice (some ⟨g7, o7, none⟩) n7 c7) ∧ w'.cell? ⟨gb, 0, none⟩ = some (.slice A8 n7 c8) ∧ w'.cell? ⟨w.heap.size, 0, none⟩ = some (.slice A n cap) ∧ w'.cell? ⟨w.heap.size + 1, 0, none⟩ = some (.slice B m cb) ∧ w'.cell? ⟨g7, o7 + i, none⟩ = some (.string f))) 99 [(0, true), (1, true), (2, true), (3, true), (4, true), (5, true), (6, true), (7, false), (8, true), (9, true), (10, true), (11, true), (12, true), (13, true), (14, true), (15, true), (16, true), (17, false), (18, true), (19, true), (20, true), (21, true), (22, true), (23, true), (24, true), (25, true), (26, true), (27, true), (28, false), (29, true), (30, true)] (by kernel_rfl) (by kernel_rfl) (by kernel_rfl) hcel ?_
        refine path_read (i := 0) (v := ?v347_0) rfl (by rfl) (fun _ _ _ h => h) ?hy347_0 ?_
        case hy347_0 => ((intro w hSw; (try dsimp only at hSw); go_simp) <;> (try with_reducible rfl))
        try simp only [Act.put, List.setIfInBounds_toArray, List.set_cons_zero, List.set_cons_succ]
        refine path_read (i := 1) (v := ?v347_1) rfl (by rfl) (fun _ _ _ h => h) ?hy347_1 ?_
        case hy347_1 => ((intro w hSw; (try dsimp only at hSw); go_simp) <;> (try with_reducible rfl))
        try simp only [Act.put, List.setIfInBounds_toArray, List.set_cons_zero, List.set_cons_succ]
        refine path_read (i := 2) (v := ?v347_2) rfl (by rfl) (fun _ _ _ h => h) ?hy347_2 ?_
        case hy347_2 => ((intro w hSw; (try dsimp only at hSw); go_simp) <;> (try with_reducible rfl))
        try simp only [Act.put, List.setIfInBounds_toArray, List.set_cons_zero, List.set_cons_succ]
        refine path_read (i := 3) (v := ?v347_3) rfl (by rfl) (fun _ _ _ h => h) ?hy347_3 ?_
        case hy347_3 => ((intro w hSw; (try dsimp only at hSw); go_simp) <;> (try with_reducible rfl))
        try simp only [Act.put, List.setIfInBounds_toArray, List.set_cons_zero, List.set_cons_succ]
        refine path_read (i := 4) (v := ?v347_4) rfl (by rfl) (fun _ _ _ h => h) ?hy347_4 ?_
        case hy347_4 => ((intro w hSw; (try dsimp only at hSw); go_simp) <;> (try with_reducible rfl))
        try simp only [Act.put, List.setIfInBounds_toArray, List.set_cons_zero, List.set_cons_succ]
        refine path_read (i := 5) (v := ?v347_5) rfl (by rfl) (fun _ _ _ h => h) ?hy347_5 ?_
        case hy347_5 => ((intro w hSw; (try dsimp only at hSw); go_simp) <;> (try with_reducible rfl))
        try simp only [Act.put, List.setIfInBounds_toArray, List.set_cons_zero, List.set_cons_succ]
        refine path_read (i := 6) (v := ?v347_6) rfl (by rfl) (fun _ _ _ h => h) ?hy347_6 ?_
        case hy347_6 => ((intro w hSw; (try dsimp only at hSw); go_simp) <;> (try with_reducible rfl))
        try simp only [Act.put, List.setIfInBounds_toArray, List.set_cons_zero, List.set_cons_succ]
        refine path_do (i := 7) rfl ?_
        go_wp2_with ((go_at_call 20; refine (uhas_v true A8 n7 c8 (comV gs fs) f _ (H3.out.s2.1.same HK.out) (by omega) (has_iff.2 (com_mem.2 (com_mem.1 HF.out).symm))).mono ?_; rintro e w1 ⟨rfl, rfl⟩))
        (first | refine ⟨.inr ?keep347_7, ?_⟩ | refine ⟨?keep347_7, ?_⟩)
        case keep347_7 => (exact hcel)
        try simp only [Act.put, List.setIfInBounds_toArray, List.set_cons_zero, List.set_cons_succ]
        refine path_read (i := 8) (v := ?v347_8) rfl (by rfl) (fun _ _ _ h => h) ?hy347_8 ?_
        case hy347_8 => ((intro w hSw; (try dsimp only at hSw); go_simp) <;> (try with_reducible rfl))
        try simp only [Act.put, List.setIfInBounds_toArray, List.set_cons_zero, List.set_cons_succ]
        refine path_read (i := 9) (v := ?v347_9) rfl (by rfl) (fun _ _ _ h => h) ?hy347_9 ?_
        case hy347_9 => ((intro w hSw; (try dsimp only at hSw); go_simp) <;> (try with_reducible rfl))
        try simp only [Act.put, List.setIfInBounds_toArray, List.set_cons_zero, List.set_cons_succ]
        refine path_read (i := 10) (v := ?v347_10) rfl (by rfl) (fun _ _ _ h => h) ?hy347_10 ?_
        case hy347_10 => ((intro w hSw; (try dsimp only at hSw); go_simp) <;> (try with_reducible rfl))
        try simp only [Act.put, List.setIfInBounds_toArray, List.set_cons_zero, List.set_cons_succ]
        refine path_read (i := 11) (v := ?v347_11) rfl (by rfl) (fun _ _ _ h => h) ?hy347_11 ?_
        case hy347_11 => ((intro w hSw; (try dsimp only at hSw); go_simp) <;> (try with_reducible rfl))
        try simp only [Act.put, List.setIfInBounds_toArray, List.set_cons_zero, List.set_cons_succ]
        refine path_read (i := 12) (v := ?v347_12) rfl (by rfl) (fun _ _ _ h => h) ?hy347_12 ?_
        case hy347_12 => ((intro w hSw; (try dsimp only at hSw); go_simp) <;> (try with_reducible rfl))
        try simp only [Act.put, List.setIfInBounds_toArray, List.set_cons_zero, List.set_cons_succ]
        refine path_read (i := 13) (v := ?v347_13) rfl (by rfl) (fun _ _ _ h => h) ?hy347_13 ?_
        case hy347_13 => ((intro w hSw; (try dsimp only at hSw); go_simp) <;> (try with_reducible rfl))
        try simp only [Act.put, List.setIfInBounds_toArray, List.set_cons_zero, List.set_cons_succ]
        refine path_read (i := 14) (v := ?v347_14) rfl (by rfl) (fun _ _ _ h => h) ?hy347_14 ?_
        case hy347_14 => ((intro w hSw; (try dsimp only at hSw); go_simp) <;> (try with_reducible rfl))
        try simp only [Act.put, List.setIfInBounds_toArray, List.set_cons_zero, List.set_cons_succ]
        refine path_read (i := 15) (v := ?v347_15) rfl (by rfl) (fun _ _ _ h => h) ?hy347_15 ?_
        case hy347_15 => ((intro w hSw; (try dsimp only at hSw); go_simp) <;> (try with_reducible rfl))
        try simp only [Act.put, List.setIfInBounds_toArray, List.set_cons_zero, List.set_cons_succ]
        refine path_read (i := 16) (v := ?v347_16) rfl (by rfl) (fun _ _ _ h => h) ?hy347_16 ?_
        case hy347_16 => ((intro w hSw; (try dsimp only at hSw); go_simp) <;> (try with_reducible rfl))
        try simp only [Act.put, List.setIfInBounds_toArray, List.set_cons_zero, List.set_cons_succ]
        refine path_do (i := 17) rfl ?_
        go_wp2_with ((go_at_call 20; refine (uhas_v true A n cap fs f _ (HA.out.1.same (H3.out.same.trans HK.out)) (by omega) (has_iff.2 (com_mem.1 HF.out).1)).mono ?_; rintro e w1 ⟨rfl, rfl⟩))
        (first | refine ⟨.inr ?keep347_17, ?_⟩ | refine ⟨?keep347_17, ?_⟩)
        case keep347_17 => (exact hcel)
        try simp only [Act.put, List.setIfInBounds_toArray, List.set_cons_zero, List.set_cons_succ]
        refine path_read (i := 18) (v := ?v347_18) rfl (by rfl) (fun _ _ _ h => h) ?hy347_18 ?_
        case hy347_18 => ((intro w hSw; (try dsimp only at hSw); go_simp) <;> (try with_reducible rfl))
        try simp only [Act.put, List.setIfInBounds_toArray, List.set_cons_zero, List.set_cons_succ]
        refine path_read (i := 19) (v := ?v347_19) rfl (by rfl) (fun _ _ _ h => h) ?hy347_19 ?_
        case hy347_19 => ((intro w hSw; (try dsimp only at hSw); go_simp) <;> (try with_reducible rfl))
        try simp only [Act.put, List.setIfInBounds_toArray, List.set_cons_zero, List.set_cons_succ]
        refine path_read (i := 20) (v := ?v347_20) rfl (by rfl) (fun _ _ _ h => h) ?hy347_20 ?_
        case hy347_20 => ((intro w hSw; (try dsimp only at hSw); go_simp) <;> (try with_reducible rfl))
        try simp only [Act.put, List.setIfInBounds_toArray, List.set_cons_zero, List.set_cons_succ]
        refine path_read (i := 21) (v := ?v347_21) rfl (by rfl) (fun _ _ _ h => h) ?hy347_21 ?_
        case hy347_21 => ((intro w hSw; (try dsimp only at hSw); go_simp) <;> (try with_reducible rfl))
        try simp only [Act.put, List.setIfInBounds_toArray, List.set_cons_zero, List.set_cons_succ]
        refine path_read (i := 22) (v := ?v347_22) rfl (by rfl) (fun _ _ _ h => h) ?hy347_22 ?_
        case hy347_22 => ((intro w hSw; (try dsimp only at hSw); go_simp) <;> (try with_reducible rfl))
        try simp only [Act.put, List.setIfInBounds_toArray, List.set_cons_zero, List.set_cons_succ]
        refine path_read (i := 23) (v := ?v347_23) rfl (by rfl) (fun _ _ _ h => h) ?hy347_23 ?_
        case hy347_23 => ((intro w hSw; (try dsimp only at hSw); go_simp) <;> (try with_reducible rfl))
        try simp only [Act.put, List.setIfInBounds_toArray, List.set_cons_zero, List.set_cons_succ]
        refine path_read (i := 24) (v := ?v347_24) rfl (by rfl) (fun _ _ _ h => h) ?hy347_24 ?_
        case hy347_24 => ((intro w hSw; (try dsimp only at hSw); go_simp) <;> (try with_reducible rfl))
        try simp only [Act.put, List.setIfInBounds_toArray, List.set_cons_zero, List.set_cons_succ]
        refine path_read (i := 25) (v := ?v347_25) rfl (by rfl) (fun _ _ _ h => h) ?hy347_25 ?_
        case hy347_25 => ((intro w hSw; (try dsimp only at hSw); go_simp) <;> (try with_reducible rfl))
        try simp only [Act.put, List.setIfInBounds_toArray, List.set_cons_zero, List.set_cons_succ]
        refine path_read (i := 26) (v := ?v347_26) rfl (by rfl) (fun _ _ _ h => h) ?hy347_26 ?_
        case hy347_26 => ((intro w hSw; (try dsimp only at hSw); go_simp) <;> (try with_reducible rfl))
        try simp only [Act.put, List.setIfInBounds_toArray, List.set_cons_zero, List.set_cons_succ]
        refine path_read (i := 27) (v := ?v347_27) rfl (by rfl) (fun _ _ _ h => h) ?hy347_27 ?_
        case hy347_27 => ((intro w hSw; (try dsimp only at hSw); go_simp) <;> (try with_reducible rfl))
        try simp only [Act.put, List.setIfInBounds_toArray, List.set_cons_zero, List.set_cons_succ]
        refine path_do (i := 28) rfl ?_
        go_wp2_with ((go_at_call 20; refine (uhas_v true B m cb gs f _ (HW.out.1.same (H3.out.same.trans HK.out)) (by omega) (has_iff.2 (com_mem.1 HF.out).2)).mono ?_; rintro e w1 ⟨rfl, rfl⟩))
        (first | refine ⟨.inr ?keep347_28, ?_⟩ | refine ⟨?keep347_28, ?_⟩)
        case keep347_28 => (exact hcel)
        try simp only [Act.put, List.setIfInBounds_toArray, List.set_cons_zero, List.set_cons_succ]
        refine path_read (i := 29) (v := ?v347_29) rfl (by rfl) (fun _ _ _ h => h) ?hy347_29 ?_
        case hy347_29 => ((intro w hSw; (try dsimp only at hSw); go_simp) <;> (try with_reducible rfl))
        try simp only [Act.put, List.setIfInBounds_toArray, List.set_cons_zero, List.set_cons_succ]
        refine path_read (i := 30) (v := ?v347_30) rfl (by rfl) (fun _ _ _ h => h) ?hy347_30 ?_
        case hy347_30 => ((intro w hSw; (try dsimp only at hSw); go_simp) <;> (try with_reducible rfl))
        try simp only [Act.put, List.setIfInBounds_toArray, List.set_cons_zero, List.set_cons_succ]
        refine path_end ?_
        clear hcel
        go_wp2
        go_roundw
        case rel => exact ⟨i + 1, by omega, by go_num, HK.out⟩
        case measure => simp [intOf]; omega
      · have hii : ¬ (i : Int) < n7 := by omega
        obtain ⟨t, okk, hch⟩ : ∃ t okk, chooseV gs fs = (t, okk) := ⟨_, _, rfl⟩
        have HCH := Lib.hid hch
        clear hch
        go_wp2_with fail
        have HK := Lib.hid (HK.out.drew)
        have hcel := And.intro (HC.out _ (H3.out.same.trans HK.out)).1.1 (HC.out _ (H3.out.same.trans HK.out)).2
        refine region_path (S := (fun w' => w'.cell? ⟨w.heap.size, 0, none⟩ = some (.slice A n cap) ∧ w'.cell? ⟨w.heap.size + 1, 0, none⟩ = some (.slice B m cb) ∧ w'.cell? ⟨w.heap.size + 1, 1, none⟩ = some (.int .i64 aB) ∧ (loadVar 24 ⟨w.heap.size + 1, 0, none⟩).run Try.prog w' = .ok (.agg #[.slice B m cb, .int .i64 aB]) w')) 99 [(0, true), (2, true), (3, true), (1, false), (4, false), (5, true), (6, true), (7, true), (8, true), (9, true)] (by kernel_rfl) (by kernel_rfl) (by kernel_rfl) hcel ?_
        refine path_read (i := 0) (v := ?v348_0) rfl (by rfl) (fun _ _ _ h => h) ?hy348_0 ?_
        case hy348_0 => ((intro w hSw; (try dsimp only at hSw); go_simp) <;> (try with_reducible rfl))
        try simp only [Act.put, List.setIfInBounds_toArray, List.set_cons_zero, List.set_cons_succ]
        refine path_read (i := 2) (v := ?v348_2) rfl (by rfl) (fun _ _ _ h => h) ?hy348_2 ?_
        case hy348_2 => ((intro w hSw; (try dsimp only at hSw); go_simp) <;> (try with_reducible rfl))
        try simp only [Act.put, List.setIfInBounds_toArray, List.set_cons_zero, List.set_cons_succ]
        refine path_read (i := 3) (v := ?v348_3) rfl (by rfl) (fun _ _ _ h => h) ?hy348_3 ?_
        case hy348_3 => ((intro w hSw; (try dsimp only at hSw); go_simp) <;> (try with_reducible rfl))
        try simp only [Act.put, List.setIfInBounds_toArray, List.set_cons_zero, List.set_cons_succ]
        refine path_do (i := 1) rfl ?_
        go_wp2_with ((first | (go_at_call 13; refine (prog_ok _ _ _ _ _).mono ?_; rintro e w1 ⟨rfl, hs⟩; have HK := Lib.hid (HK.out.trans hs); clear hs) | (go_at_call 19; refine (choose_v t okk B m cb gs aB A n cap fs _ (HW.out.1.same (H3.out.same.trans HK.out)) (by omega) (HA.out.1.same (H3.out.same.trans HK.out)) (by omega) HCH.out).mono ?_; rintro e w1 ⟨rfl, hs⟩; have HK := Lib.hid (HK.out.trans hs); clear hs)))
        (first | refine ⟨.inr ?keep348_1, ?_⟩ | refine ⟨?keep348_1, ?_⟩)
        case keep348_1 => (exact And.intro (HC.out _ (H3.out.same.trans HK.out)).1.1 (HC.out _ (H3.out.same.trans HK.out)).2)
        try simp only [Act.put, List.setIfInBounds_toArray, List.set_cons_zero, List.set_cons_succ]
        refine path_do (i := 4) rfl ?_
        go_wp2_with ((first | (go_at_call 13; refine (prog_ok _ _ _ _ _).mono ?_; rintro e w1 ⟨rfl, hs⟩; have HK := Lib.hid (HK.out.trans hs); clear hs) | (go_at_call 19; refine (choose_v t okk B m cb gs aB A n cap fs _ (HW.out.1.same (H3.out.same.trans HK.out)) (by omega) (HA.out.1.same (H3.out.same.trans HK.out)) (by omega) HCH.out).mono ?_; rintro e w1 ⟨rfl, hs⟩; have HK := Lib.hid (HK.out.trans hs); clear hs)))
        (first | refine ⟨.inr ?keep348_4, ?_⟩ | refine ⟨?keep348_4, ?_⟩)
        case keep348_4 => (exact And.intro (HC.out _ (H3.out.same.trans HK.out)).1.1 (HC.out _ (H3.out.same.trans HK.out)).2)
        try simp only [Act.put, List.setIfInBounds_toArray, List.set_cons_zero, List.set_cons_succ]
        refine path_read (i := 5) (v := ?v348_5) rfl (by rfl) (fun _ _ _ h => h) ?hy348_5 ?_
        case hy348_5 => ((intro w hSw; (try dsimp only at hSw); go_simp) <;> (try with_reducible rfl))
        try simp only [Act.put, List.setIfInBounds_toArray, List.set_cons_zero, List.set_cons_succ]
        refine path_read (i := 6) (v := ?v348_6) rfl (by rfl) (fun _ _ _ h => h) ?hy348_6 ?_
        case hy348_6 => ((intro w hSw; (try dsimp only at hSw); go_simp) <;> (try with_reducible rfl))
        try simp only [Act.put, List.setIfInBounds_toArray, List.set_cons_zero, List.set_cons_succ]
        refine path_read (i := 7) (v := ?v348_7) rfl (by rfl) (fun _ _ _ h => h) ?hy348_7 ?_
        case hy348_7 => ((intro w hSw; (try dsimp only at hSw); go_simp) <;> (try with_reducible rfl))
        try simp only [Act.put, List.setIfInBounds_toArray, List.set_cons_zero, List.set_cons_succ]
        refine path_read (i := 8) (v := ?v348_8) rfl (by rfl) (fun _ _ _ h => h) ?hy348_8 ?_
        case hy348_8 => ((intro w hSw; (try dsimp only at hSw); go_simp) <;> (try with_reducible rfl))
        try simp only [Act.put, List.setIfInBounds_toArray, List.set_cons_zero, List.set_cons_succ]
        refine path_read (i := 9) (v := ?v348_9) rfl (by rfl) (fun _ _ _ h => h) ?hy348_9 ?_
        case hy348_9 => ((intro w hSw; (try dsimp only at hSw); go_simp) <;> (try with_reducible rfl))
        try simp only [Act.put, List.setIfInBounds_toArray, List.set_cons_zero, List.set_cons_succ]
        refine path_end ?_
        clear hcel a0 a1 b0 b1 al bl
        generalize hwv : w1 = wv at *
        obtain ⟨⟨a0, a1⟩, ⟨b0, b1⟩, al, bl⟩ := HC3.out wv HK.out
        have HCC := Lib.hid (com_choose gs fs)
        clear hwv
        by_cases h0 : n7 = 0
        · have hcn : comV fs gs = [] := List.length_eq_zero_iff.1 (by rw [H3.out.s1.1.1]; exact h0)
          have hok : okk = false := by
            have q := HCC.out
            rw [hcn, HCH.out] at q
            exact (Prod.mk.inj q).2
          subst hok
          clear hcn HCC HCH
          subst h0
          go_wp2_with fail
          have HK := Lib.hid (HK.out.drew)
          have hcel : (World.drew _).cell? ⟨ga, 0, none⟩ = some (.slice A7 0 c7) ∧ (World.drew _).cell? ⟨ga, 1, none⟩ = some (.int .i64 (commonV aA aB)) ∧ (World.drew _).cell? ⟨w.heap.size + 1, 0, none⟩ = some (.slice B m cb) ∧ (World.drew _).cell? ⟨w.heap.size + 1, 1, none⟩ = some (.int .i64 aB) := ⟨(HC3.out _ HK.out).1.1, (HC3.out _ HK.out).1.2, (HC.out _ (H3.out.same.trans HK.out)).2.1, (HC.out _ (H3.out.same.trans HK.out)).2.2.1⟩
          clear a0 a1 b0 b1 al bl
          refine region_path (S := (fun w' => w'.cell? ⟨ga, 0, none⟩ = some (.slice A7 0 c7) ∧ w'.cell? ⟨ga, 1, none⟩ = some (.int .i64 (commonV aA aB)) ∧ w'.cell? ⟨w.heap.size + 1, 0, none⟩ = some (.slice B m cb) ∧ w'.cell? ⟨w.heap.size + 1, 1, none⟩ = some (.int .i64 aB))) 99 [(0, true), (1, true), (4, true), (2, false), (3, false), (5, false), (6, false), (7, true), (8, true), (9, true), (13, true), (10, false), (11, false), (12, false), (14, false), (15, false), (16, true), (17, true), (18, false), (19, true), (20, true)] (by kernel_rfl) (by kernel_rfl) (by kernel_rfl) hcel ?_
          refine path_read (i := 0) (v := ?v349_0) rfl (by rfl) (fun _ _ _ h => h) ?hy349_0 ?_
          case hy349_0 => ((intro w hSw; (try dsimp only at hSw); go_simp) <;> (try with_reducible rfl))
          try simp only [Act.put, List.setIfInBounds_toArray, List.set_cons_zero, List.set_cons_succ]
          refine path_read (i := 1) (v := ?v349_1) rfl (by rfl) (fun _ _ _ h => h) ?hy349_1 ?_
          case hy349_1 => ((intro w hSw; (try dsimp only at hSw); go_simp) <;> (try with_reducible rfl))
          try simp only [Act.put, List.setIfInBounds_toArray, List.set_cons_zero, List.set_cons_succ]
          refine path_read (i := 4) (v := ?v349_4) rfl (by rfl) (fun _ _ _ h => h) ?hy349_4 ?_
          case hy349_4 => ((intro w hSw; (try dsimp only at hSw); go_simp) <;> (try with_reducible rfl))
          try simp only [Act.put, List.setIfInBounds_toArray, List.set_cons_zero, List.set_cons_succ]
          refine path_do (i := 2) rfl ?_
          go_wp2_with ((go_at_call 24; refine (oc_cc ⟨H3.out.s1.1.same HK.out, H3.out.s1.2⟩ hn7).mono ?_; rintro e w1 ⟨A9, n9, c9, rfl, hsg, hs⟩; have HK := Lib.hid (HK.out.trans hs); have H9 := Lib.hid hsg; clear hs hsg))
          (first | refine ⟨.inr ?keep349_2, ?_⟩ | refine ⟨?keep349_2, ?_⟩)
          case keep349_2 => (exact ⟨(HC3.out _ HK.out).1.1, (HC3.out _ HK.out).1.2, (HC.out _ (H3.out.same.trans HK.out)).2.1, (HC.out _ (H3.out.same.trans HK.out)).2.2.1⟩)
          try simp only [Act.put, List.setIfInBounds_toArray, List.set_cons_zero, List.set_cons_succ]
          refine path_do (i := 3) rfl ?_
          go_wp2_with ((first | (go_at_call 23; refine (want_ok _ _ _ _ _).mono ?_; rintro e w1 ⟨rfl, hs⟩; have HK := Lib.hid (HK.out.trans hs); have H9 : Hid (SArg w1 A9 n9 c9 (comV fs gs)) := Lib.hid ⟨H9.out.1.same hs, H9.out.2⟩; clear hs) | (go_at_call 22; refine (usame_ok A9 n9 c9 (comV fs gs) _ A7 0 c7 _ H9.out.1 (by have h1 := H9.out.1.1; have := HCL.out; omega) (H3.out.s1.1.same HK.out)).mono ?_; rintro e w1 ⟨rfl, hs⟩; have HK := Lib.hid (HK.out.trans hs); clear hs) | (go_at_call 13; refine (prog_ok _ _ _ _ _).mono ?_; rintro e w1 ⟨rfl, hs⟩; have HK := Lib.hid (HK.out.trans hs); clear hs) | (go_at_call 11; refine (example40_ok _).mono ?_; rintro e w1 ⟨rfl, hs⟩; have HK := Lib.hid (HK.out.trans hs); clear hs)))
          (first | refine ⟨.inr ?keep349_3, ?_⟩ | refine ⟨?keep349_3, ?_⟩)
          case keep349_3 => (exact ⟨(HC3.out _ HK.out).1.1, (HC3.out _ HK.out).1.2, (HC.out _ (H3.out.same.trans HK.out)).2.1, (HC.out _ (H3.out.same.trans HK.out)).2.2.1⟩)
          try simp only [Act.put, List.setIfInBounds_toArray, List.set_cons_zero, List.set_cons_succ]
          refine path_do (i := 5) rfl ?_
          go_wp2_with ((first | (go_at_call 23; refine (want_ok _ _ _ _ _).mono ?_; rintro e w1 ⟨rfl, hs⟩; have HK := Lib.hid (HK.out.trans hs); have H9 : Hid (SArg w1 A9 n9 c9 (comV fs gs)) := Lib.hid ⟨H9.out.1.same hs, H9.out.2⟩; clear hs) | (go_at_call 22; refine (usame_ok A9 n9 c9 (comV fs gs) _ A7 0 c7 _ H9.out.1 (by have h1 := H9.out.1.1; have := HCL.out; omega) (H3.out.s1.1.same HK.out)).mono ?_; rintro e w1 ⟨rfl, hs⟩; have HK := Lib.hid (HK.out.trans hs); clear hs) | (go_at_call 13; refine (prog_ok _ _ _ _ _).mono ?_; rintro e w1 ⟨rfl, hs⟩; have HK := Lib.hid (HK.out.trans hs); clear hs) | (go_at_call 11; refine (example40_ok _).mono ?_; rintro e w1 ⟨rfl, hs⟩; have HK := Lib.hid (HK.out.trans hs); clear hs)))
          (first | refine ⟨.inr ?keep349_5, ?_⟩ | refine ⟨?keep349_5, ?_⟩)
          case keep349_5 => (exact ⟨(HC3.out _ HK.out).1.1, (HC3.out _ HK.out).1.2, (HC.out _ (H3.out.same.trans HK.out)).2.1, (HC.out _ (H3.out.same.trans HK.out)).2.2.1⟩)
          try simp only [Act.put, List.setIfInBounds_toArray, List.set_cons_zero, List.set_cons_succ]
          refine path_do (i := 6) rfl ?_
          go_wp2_with ((first | (go_at_call 23; refine (want_ok _ _ _ _ _).mono ?_; rintro e w1 ⟨rfl, hs⟩; have HK := Lib.hid (HK.out.trans hs); have H9 : Hid (SArg w1 A9 n9 c9 (comV fs gs)) := Lib.hid ⟨H9.out.1.same hs, H9.out.2⟩; clear hs) | (go_at_call 22; refine (usame_ok A9 n9 c9 (comV fs gs) _ A7 0 c7 _ H9.out.1 (by have h1 := H9.out.1.1; have := HCL.out; omega) (H3.out.s1.1.same HK.out)).mono ?_; rintro e w1 ⟨rfl, hs⟩; have HK := Lib.hid (HK.out.trans hs); clear hs) | (go_at_call 13; refine (prog_ok _ _ _ _ _).mono ?_; rintro e w1 ⟨rfl, hs⟩; have HK := Lib.hid (HK.out.trans hs); clear hs) | (go_at_call 11; refine (example40_ok _).mono ?_; rintro e w1 ⟨rfl, hs⟩; have HK := Lib.hid (HK.out.trans hs); clear hs)))
          (first | refine ⟨.inr ?keep349_6, ?_⟩ | refine ⟨?keep349_6, ?_⟩)
          case keep349_6 => (exact ⟨(HC3.out _ HK.out).1.1, (HC3.out _ HK.out).1.2, (HC.out _ (H3.out.same.trans HK.out)).2.1, (HC.out _ (H3.out.same.trans HK.out)).2.2.1⟩)
          try simp only [Act.put, List.setIfInBounds_toArray, List.set_cons_zero, List.set_cons_succ]
          refine path_read (i := 7) (v := ?v349_7) rfl (by rfl) (fun _ _ _ h => h) ?hy349_7 ?_
          case hy349_7 => ((intro w hSw; (try dsimp only at hSw); go_simp) <;> (try with_reducible rfl))
          try simp only [Act.put, List.setIfInBounds_toArray, List.set_cons_zero, List.set_cons_succ]
          refine path_read (i := 8) (v := ?v349_8) rfl (by rfl) (fun _ _ _ h => h) ?hy349_8 ?_
          case hy349_8 => ((intro w hSw; (try dsimp only at hSw); go_simp) <;> (try with_reducible rfl))
          try simp only [Act.put, List.setIfInBounds_toArray, List.set_cons_zero, List.set_cons_succ]
          refine path_read (i := 9) (v := ?v349_9) rfl (by rfl) (fun _ _ _ h => h) ?hy349_9 ?_
          case hy349_9 => ((intro w hSw; (try dsimp only at hSw); go_simp) <;> (try with_reducible rfl))
          try simp only [Act.put, List.setIfInBounds_toArray, List.set_cons_zero, List.set_cons_succ]
          refine path_read (i := 13) (v := ?v349_13) rfl (by rfl) (fun _ _ _ h => h) ?hy349_13 ?_
          case hy349_13 => ((intro w hSw; (try dsimp only at hSw); go_simp) <;> (try with_reducible rfl))
          try simp only [Act.put, List.setIfInBounds_toArray, List.set_cons_zero, List.set_cons_succ]
          refine path_do (i := 10) rfl ?_
          go_wp2_with ((first | (go_at_call 23; refine (want_ok _ _ _ _ _).mono ?_; rintro e w1 ⟨rfl, hs⟩; have HK := Lib.hid (HK.out.trans hs); have H9 : Hid (SArg w1 A9 n9 c9 (comV fs gs)) := Lib.hid ⟨H9.out.1.same hs, H9.out.2⟩; clear hs) | (go_at_call 22; refine (usame_ok A9 n9 c9 (comV fs gs) _ A7 0 c7 _ H9.out.1 (by have h1 := H9.out.1.1; have := HCL.out; omega) (H3.out.s1.1.same HK.out)).mono ?_; rintro e w1 ⟨rfl, hs⟩; have HK := Lib.hid (HK.out.trans hs); clear hs) | (go_at_call 13; refine (prog_ok _ _ _ _ _).mono ?_; rintro e w1 ⟨rfl, hs⟩; have HK := Lib.hid (HK.out.trans hs); clear hs) | (go_at_call 11; refine (example40_ok _).mono ?_; rintro e w1 ⟨rfl, hs⟩; have HK := Lib.hid (HK.out.trans hs); clear hs)))
          (first | refine ⟨.inr ?keep349_10, ?_⟩ | refine ⟨?keep349_10, ?_⟩)
          case keep349_10 => (exact ⟨(HC3.out _ HK.out).1.1, (HC3.out _ HK.out).1.2, (HC.out _ (H3.out.same.trans HK.out)).2.1, (HC.out _ (H3.out.same.trans HK.out)).2.2.1⟩)
          try simp only [Act.put, List.setIfInBounds_toArray, List.set_cons_zero, List.set_cons_succ]
          refine path_do (i := 11) rfl ?_
          go_wp2_with ((go_at_call 24; refine (oc_cb ⟨H3.out.s1.1.same HK.out, H3.out.s1.2⟩ hn7 ⟨HW.out.1.same (H3.out.same.trans HK.out), HW.out.2⟩ hm).mono ?_; rintro e w1 ⟨A9, n9, c9, rfl, hsg, hs⟩; have HK := Lib.hid (HK.out.trans hs); have H9 := Lib.hid hsg; clear hs hsg))
          (first | refine ⟨.inr ?keep349_11, ?_⟩ | refine ⟨?keep349_11, ?_⟩)
          case keep349_11 => (exact ⟨(HC3.out _ HK.out).1.1, (HC3.out _ HK.out).1.2, (HC.out _ (H3.out.same.trans HK.out)).2.1, (HC.out _ (H3.out.same.trans HK.out)).2.2.1⟩)
          try simp only [Act.put, List.setIfInBounds_toArray, List.set_cons_zero, List.set_cons_succ]
          refine path_do (i := 12) rfl ?_
          go_wp2_with ((first | (go_at_call 23; refine (want_ok _ _ _ _ _).mono ?_; rintro e w1 ⟨rfl, hs⟩; have HK := Lib.hid (HK.out.trans hs); have H9 : Hid (SArg w1 A9 n9 c9 (comV fs gs)) := Lib.hid ⟨H9.out.1.same hs, H9.out.2⟩; clear hs) | (go_at_call 22; refine (usame_ok A9 n9 c9 (comV fs gs) _ A7 0 c7 _ H9.out.1 (by have h1 := H9.out.1.1; have := HCL.out; omega) (H3.out.s1.1.same HK.out)).mono ?_; rintro e w1 ⟨rfl, hs⟩; have HK := Lib.hid (HK.out.trans hs); clear hs) | (go_at_call 13; refine (prog_ok _ _ _ _ _).mono ?_; rintro e w1 ⟨rfl, hs⟩; have HK := Lib.hid (HK.out.trans hs); clear hs) | (go_at_call 11; refine (example40_ok _).mono ?_; rintro e w1 ⟨rfl, hs⟩; have HK := Lib.hid (HK.out.trans hs); clear hs)))
          (first | refine ⟨.inr ?keep349_12, ?_⟩ | refine ⟨?keep349_12, ?_⟩)
          case keep349_12 => (exact ⟨(HC3.out _ HK.out).1.1, (HC3.out _ HK.out).1.2, (HC.out _ (H3.out.same.trans HK.out)).2.1, (HC.out _ (H3.out.same.trans HK.out)).2.2.1⟩)
          try simp only [Act.put, List.setIfInBounds_toArray, List.set_cons_zero, List.set_cons_succ]
          refine path_do (i := 14) rfl ?_
          go_wp2_with ((first | (go_at_call 23; refine (want_ok _ _ _ _ _).mono ?_; rintro e w1 ⟨rfl, hs⟩; have HK := Lib.hid (HK.out.trans hs); have H9 : Hid (SArg w1 A9 n9 c9 (comV fs gs)) := Lib.hid ⟨H9.out.1.same hs, H9.out.2⟩; clear hs) | (go_at_call 22; refine (usame_ok A9 n9 c9 (comV fs gs) _ A7 0 c7 _ H9.out.1 (by have h1 := H9.out.1.1; have := HCL.out; omega) (H3.out.s1.1.same HK.out)).mono ?_; rintro e w1 ⟨rfl, hs⟩; have HK := Lib.hid (HK.out.trans hs); clear hs) | (go_at_call 13; refine (prog_ok _ _ _ _ _).mono ?_; rintro e w1 ⟨rfl, hs⟩; have HK := Lib.hid (HK.out.trans hs); clear hs) | (go_at_call 11; refine (example40_ok _).mono ?_; rintro e w1 ⟨rfl, hs⟩; have HK := Lib.hid (HK.out.trans hs); clear hs)))
          (first | refine ⟨.inr ?keep349_14, ?_⟩ | refine ⟨?keep349_14, ?_⟩)
          case keep349_14 => (exact ⟨(HC3.out _ HK.out).1.1, (HC3.out _ HK.out).1.2, (HC.out _ (H3.out.same.trans HK.out)).2.1, (HC.out _ (H3.out.same.trans HK.out)).2.2.1⟩)
          try simp only [Act.put, List.setIfInBounds_toArray, List.set_cons_zero, List.set_cons_succ]
          refine path_do (i := 15) rfl ?_
          go_wp2_with ((first | (go_at_call 23; refine (want_ok _ _ _ _ _).mono ?_; rintro e w1 ⟨rfl, hs⟩; have HK := Lib.hid (HK.out.trans hs); have H9 : Hid (SArg w1 A9 n9 c9 (comV fs gs)) := Lib.hid ⟨H9.out.1.same hs, H9.out.2⟩; clear hs) | (go_at_call 22; refine (usame_ok A9 n9 c9 (comV fs gs) _ A7 0 c7 _ H9.out.1 (by have h1 := H9.out.1.1; have := HCL.out; omega) (H3.out.s1.1.same HK.out)).mono ?_; rintro e w1 ⟨rfl, hs⟩; have HK := Lib.hid (HK.out.trans hs); clear hs) | (go_at_call 13; refine (prog_ok _ _ _ _ _).mono ?_; rintro e w1 ⟨rfl, hs⟩; have HK := Lib.hid (HK.out.trans hs); clear hs) | (go_at_call 11; refine (example40_ok _).mono ?_; rintro e w1 ⟨rfl, hs⟩; have HK := Lib.hid (HK.out.trans hs); clear hs)))
          (first | refine ⟨.inr ?keep349_15, ?_⟩ | refine ⟨?keep349_15, ?_⟩)
          case keep349_15 => (exact ⟨(HC3.out _ HK.out).1.1, (HC3.out _ HK.out).1.2, (HC.out _ (H3.out.same.trans HK.out)).2.1, (HC.out _ (H3.out.same.trans HK.out)).2.2.1⟩)
          try simp only [Act.put, List.setIfInBounds_toArray, List.set_cons_zero, List.set_cons_succ]
          refine path_read (i := 16) (v := ?v349_16) rfl (by rfl) (fun _ _ _ h => h) ?hy349_16 ?_
          case hy349_16 => ((intro w hSw; (try dsimp only at hSw); go_simp) <;> (try with_reducible rfl))
          try simp only [Act.put, List.setIfInBounds_toArray, List.set_cons_zero, List.set_cons_succ]
          refine path_read (i := 17) (v := ?v349_17) rfl (by rfl) (fun _ _ _ h => h) ?hy349_17 ?_
          case hy349_17 => ((intro w hSw; (try dsimp only at hSw); go_simp) <;> (try with_reducible rfl))
          try simp only [Act.put, List.setIfInBounds_toArray, List.set_cons_zero, List.set_cons_succ]
          refine path_do (i := 18) rfl ?_
          go_wp2_with ((first | (go_at_call 23; refine (want_ok _ _ _ _ _).mono ?_; rintro e w1 ⟨rfl, hs⟩; have HK := Lib.hid (HK.out.trans hs); have H9 : Hid (SArg w1 A9 n9 c9 (comV fs gs)) := Lib.hid ⟨H9.out.1.same hs, H9.out.2⟩; clear hs) | (go_at_call 22; refine (usame_ok A9 n9 c9 (comV fs gs) _ A7 0 c7 _ H9.out.1 (by have h1 := H9.out.1.1; have := HCL.out; omega) (H3.out.s1.1.same HK.out)).mono ?_; rintro e w1 ⟨rfl, hs⟩; have HK := Lib.hid (HK.out.trans hs); clear hs) | (go_at_call 13; refine (prog_ok _ _ _ _ _).mono ?_; rintro e w1 ⟨rfl, hs⟩; have HK := Lib.hid (HK.out.trans hs); clear hs) | (go_at_call 11; refine (example40_ok _).mono ?_; rintro e w1 ⟨rfl, hs⟩; have HK := Lib.hid (HK.out.trans hs); clear hs)))
          (first | refine ⟨.inr ?keep349_18, ?_⟩ | refine ⟨?keep349_18, ?_⟩)
          case keep349_18 => (exact ⟨(HC3.out _ HK.out).1.1, (HC3.out _ HK.out).1.2, (HC.out _ (H3.out.same.trans HK.out)).2.1, (HC.out _ (H3.out.same.trans HK.out)).2.2.1⟩)
          try simp only [Act.put, List.setIfInBounds_toArray, List.set_cons_zero, List.set_cons_succ]
          refine path_read (i := 19) (v := ?v349_19) rfl (by rfl) (fun _ _ _ h => h) ?hy349_19 ?_
          case hy349_19 => ((intro w hSw; (try dsimp only at hSw); go_simp) <;> (try with_reducible rfl))
          try simp only [Act.put, List.setIfInBounds_toArray, List.set_cons_zero, List.set_cons_succ]
          refine path_read (i := 20) (v := ?v349_20) rfl (by rfl) (fun _ _ _ h => h) ?hy349_20 ?_
          case hy349_20 => ((intro w hSw; (try dsimp only at hSw); go_simp) <;> (try with_reducible rfl))
          try simp only [Act.put, List.setIfInBounds_toArray, List.set_cons_zero, List.set_cons_succ]
          refine path_end ?_
          go_wp2
          go_ret
          exact ⟨rfl, (HS0.out.trans H3.out.same).trans HK.out⟩
        · have hx : ∃ x r, comV fs gs = x :: r := by
            cases hq : comV fs gs with
            | nil => have h1 := H3.out.s1.1.1; rw [hq] at h1; simp at h1; omega
            | cons x r => exact ⟨x, r, rfl⟩
          obtain ⟨x, r, hxr⟩ := hx
          have hok : t = x ∧ okk = true := by
            have q := HCC.out
            rw [hxr, HCH.out] at q
            exact ⟨(Prod.mk.inj q).1, (Prod.mk.inj q).2⟩
          obtain ⟨rfl, rfl⟩ := hok
          obtain ⟨g7, o7, rfl, hgl, hcell⟩ := H3.out.s1.1.2 (show 0 < n7 by omega)
          have hcx := hcell 0 t (by rw [hxr]; rfl)
          rw [Nat.add_zero] at hcx
          have hcf := HK.out.cell hcx (fun q => q)
          have hgl2 := Nat.lt_of_lt_of_le hgl HK.out.size
          have h0i : (0 : Int) < n7 := by omega
          clear hcell hxr hcx hgl HCC HCH
          go_wp2_with fail
          have HK := Lib.hid (HK.out.drew)
          have hcel : (World.drew _).cell? ⟨ga, 0, none⟩ = some (.slice (some ⟨g7, o7, none⟩) n7 c7) ∧ (World.drew _).cell? ⟨ga, 1, none⟩ = some (.int .i64 (commonV aA aB)) ∧ (World.drew _).cell? ⟨w.heap.size + 1, 0, none⟩ = some (.slice B m cb) ∧ (World.drew _).cell? ⟨w.heap.size + 1, 1, none⟩ = some (.int .i64 aB) := ⟨(HC3.out _ HK.out).1.1, (HC3.out _ HK.out).1.2, (HC.out _ (H3.out.same.trans HK.out)).2.1, (HC.out _ (H3.out.same.trans HK.out)).2.2.1⟩
          clear a0 a1 b0 b1 al bl
          refine region_path (S := (fun w' => w'.cell? ⟨ga, 0, none⟩ = some (.slice (some ⟨g7, o7, none⟩) n7 c7) ∧ w'.cell? ⟨ga, 1, none⟩ = some (.int .i64 (commonV aA aB)) ∧ w'.cell? ⟨w.heap.size + 1, 0, none⟩ = some (.slice B m cb) ∧ w'.cell? ⟨w.heap.size + 1, 1, none⟩ = some (.int .i64 aB))) 99 [(0, true), (1, true), (4, true), (2, false), (3, false), (5, false), (6, false), (7, true), (8, true), (9, true), (13, true), (10, false), (11, false), (12, false), (14, false), (15, false), (16, true), (17, true), (18, false), (19, true), (20, true)] (by kernel_rfl) (by kernel_rfl) (by kernel_rfl) hcel ?_
          refine path_read (i := 0) (v := ?v350_0) rfl (by rfl) (fun _ _ _ h => h) ?hy350_0 ?_
          case hy350_0 => ((intro w hSw; (try dsimp only at hSw); go_simp) <;> (try with_reducible rfl))
          try simp only [Act.put, List.setIfInBounds_toArray, List.set_cons_zero, List.set_cons_succ]
          refine path_read (i := 1) (v := ?v350_1) rfl (by rfl) (fun _ _ _ h => h) ?hy350_1 ?_
          case hy350_1 => ((intro w hSw; (try dsimp only at hSw); go_simp) <;> (try with_reducible rfl))
          try simp only [Act.put, List.setIfInBounds_toArray, List.set_cons_zero, List.set_cons_succ]
          refine path_read (i := 4) (v := ?v350_4) rfl (by rfl) (fun _ _ _ h => h) ?hy350_4 ?_
          case hy350_4 => ((intro w hSw; (try dsimp only at hSw); go_simp) <;> (try with_reducible rfl))
          try simp only [Act.put, List.setIfInBounds_toArray, List.set_cons_zero, List.set_cons_succ]
          refine path_do (i := 2) rfl ?_
          go_wp2_with ((go_at_call 24; refine (oc_cc ⟨H3.out.s1.1.same HK.out, H3.out.s1.2⟩ hn7).mono ?_; rintro e w1 ⟨A9, n9, c9, rfl, hsg, hs⟩; have HK := Lib.hid (HK.out.trans hs); have H9 := Lib.hid hsg; clear hs hsg))
          (first | refine ⟨.inr ?keep350_2, ?_⟩ | refine ⟨?keep350_2, ?_⟩)
          case keep350_2 => (exact ⟨(HC3.out _ HK.out).1.1, (HC3.out _ HK.out).1.2, (HC.out _ (H3.out.same.trans HK.out)).2.1, (HC.out _ (H3.out.same.trans HK.out)).2.2.1⟩)
          try simp only [Act.put, List.setIfInBounds_toArray, List.set_cons_zero, List.set_cons_succ]
          refine path_do (i := 3) rfl ?_
          go_wp2_with ((first | (go_at_call 23; refine (want_ok _ _ _ _ _).mono ?_; rintro e w1 ⟨rfl, hs⟩; have HK := Lib.hid (HK.out.trans hs); have H9 : Hid (SArg w1 A9 n9 c9 (comV fs gs)) := Lib.hid ⟨H9.out.1.same hs, H9.out.2⟩; clear hs) | (go_at_call 22; refine (usame_ok A9 n9 c9 (comV fs gs) _ (some ⟨g7, o7, none⟩) n7 c7 _ H9.out.1 (by have h1 := H9.out.1.1; have := HCL.out; omega) (H3.out.s1.1.same HK.out)).mono ?_; rintro e w1 ⟨rfl, hs⟩; have HK := Lib.hid (HK.out.trans hs); clear hs) | (go_at_call 13; refine (prog_ok _ _ _ _ _).mono ?_; rintro e w1 ⟨rfl, hs⟩; have HK := Lib.hid (HK.out.trans hs); clear hs) | (go_at_call 11; refine (example40_ok _).mono ?_; rintro e w1 ⟨rfl, hs⟩; have HK := Lib.hid (HK.out.trans hs); clear hs)))
          (first | refine ⟨.inr ?keep350_3, ?_⟩ | refine ⟨?keep350_3, ?_⟩)
          case keep350_3 => (exact ⟨(HC3.out _ HK.out).1.1, (HC3.out _ HK.out).1.2, (HC.out _ (H3.out.same.trans HK.out)).2.1, (HC.out _ (H3.out.same.trans HK.out)).2.2.1⟩)
          try simp only [Act.put, List.setIfInBounds_toArray, List.set_cons_zero, List.set_cons_succ]
          refine path_do (i := 5) rfl ?_
          go_wp2_with ((first | (go_at_call 23; refine (want_ok _ _ _ _ _).mono ?_; rintro e w1 ⟨rfl, hs⟩; have HK := Lib.hid (HK.out.trans hs); have H9 : Hid (SArg w1 A9 n9 c9 (comV fs gs)) := Lib.hid ⟨H9.out.1.same hs, H9.out.2⟩; clear hs) | (go_at_call 22; refine (usame_ok A9 n9 c9 (comV fs gs) _ (some ⟨g7, o7, none⟩) n7 c7 _ H9.out.1 (by have h1 := H9.out.1.1; have := HCL.out; omega) (H3.out.s1.1.same HK.out)).mono ?_; rintro e w1 ⟨rfl, hs⟩; have HK := Lib.hid (HK.out.trans hs); clear hs) | (go_at_call 13; refine (prog_ok _ _ _ _ _).mono ?_; rintro e w1 ⟨rfl, hs⟩; have HK := Lib.hid (HK.out.trans hs); clear hs) | (go_at_call 11; refine (example40_ok _).mono ?_; rintro e w1 ⟨rfl, hs⟩; have HK := Lib.hid (HK.out.trans hs); clear hs)))
          (first | refine ⟨.inr ?keep350_5, ?_⟩ | refine ⟨?keep350_5, ?_⟩)
          case keep350_5 => (exact ⟨(HC3.out _ HK.out).1.1, (HC3.out _ HK.out).1.2, (HC.out _ (H3.out.same.trans HK.out)).2.1, (HC.out _ (H3.out.same.trans HK.out)).2.2.1⟩)
          try simp only [Act.put, List.setIfInBounds_toArray, List.set_cons_zero, List.set_cons_succ]
          refine path_do (i := 6) rfl ?_
          go_wp2_with ((first | (go_at_call 23; refine (want_ok _ _ _ _ _).mono ?_; rintro e w1 ⟨rfl, hs⟩; have HK := Lib.hid (HK.out.trans hs); have H9 : Hid (SArg w1 A9 n9 c9 (comV fs gs)) := Lib.hid ⟨H9.out.1.same hs, H9.out.2⟩; clear hs) | (go_at_call 22; refine (usame_ok A9 n9 c9 (comV fs gs) _ (some ⟨g7, o7, none⟩) n7 c7 _ H9.out.1 (by have h1 := H9.out.1.1; have := HCL.out; omega) (H3.out.s1.1.same HK.out)).mono ?_; rintro e w1 ⟨rfl, hs⟩; have HK := Lib.hid (HK.out.trans hs); clear hs) | (go_at_call 13; refine (prog_ok _ _ _ _ _).mono ?_; rintro e w1 ⟨rfl, hs⟩; have HK := Lib.hid (HK.out.trans hs); clear hs) | (go_at_call 11; refine (example40_ok _).mono ?_; rintro e w1 ⟨rfl, hs⟩; have HK := Lib.hid (HK.out.trans hs); clear hs)))
          (first | refine ⟨.inr ?keep350_6, ?_⟩ | refine ⟨?keep350_6, ?_⟩)
          case keep350_6 => (exact ⟨(HC3.out _ HK.out).1.1, (HC3.out _ HK.out).1.2, (HC.out _ (H3.out.same.trans HK.out)).2.1, (HC.out _ (H3.out.same.trans HK.out)).2.2.1⟩)
          try simp only [Act.put, List.setIfInBounds_toArray, List.set_cons_zero, List.set_cons_succ]
          refine path_read (i := 7) (v := ?v350_7) rfl (by rfl) (fun _ _ _ h => h) ?hy350_7 ?_
          case hy350_7 => ((intro w hSw; (try dsimp only at hSw); go_simp) <;> (try with_reducible rfl))
          try simp only [Act.put, List.setIfInBounds_toArray, List.set_cons_zero, List.set_cons_succ]
          refine path_read (i := 8) (v := ?v350_8) rfl (by rfl) (fun _ _ _ h => h) ?hy350_8 ?_
          case hy350_8 => ((intro w hSw; (try dsimp only at hSw); go_simp) <;> (try with_reducible rfl))
          try simp only [Act.put, List.setIfInBounds_toArray, List.set_cons_zero, List.set_cons_succ]
          refine path_read (i := 9) (v := ?v350_9) rfl (by rfl) (fun _ _ _ h => h) ?hy350_9 ?_
          case hy350_9 => ((intro w hSw; (try dsimp only at hSw); go_simp) <;> (try with_reducible rfl))
          try simp only [Act.put, List.setIfInBounds_toArray, List.set_cons_zero, List.set_cons_succ]
          refine path_read (i := 13) (v := ?v350_13) rfl (by rfl) (fun _ _ _ h => h) ?hy350_13 ?_
          case hy350_13 => ((intro w hSw; (try dsimp only at hSw); go_simp) <;> (try with_reducible rfl))
          try simp only [Act.put, List.setIfInBounds_toArray, List.set_cons_zero, List.set_cons_succ]
          refine path_do (i := 10) rfl ?_
          go_wp2_with ((first | (go_at_call 23; refine (want_ok _ _ _ _ _).mono ?_; rintro e w1 ⟨rfl, hs⟩; have HK := Lib.hid (HK.out.trans hs); have H9 : Hid (SArg w1 A9 n9 c9 (comV fs gs)) := Lib.hid ⟨H9.out.1.same hs, H9.out.2⟩; clear hs) | (go_at_call 22; refine (usame_ok A9 n9 c9 (comV fs gs) _ (some ⟨g7, o7, none⟩) n7 c7 _ H9.out.1 (by have h1 := H9.out.1.1; have := HCL.out; omega) (H3.out.s1.1.same HK.out)).mono ?_; rintro e w1 ⟨rfl, hs⟩; have HK := Lib.hid (HK.out.trans hs); clear hs) | (go_at_call 13; refine (prog_ok _ _ _ _ _).mono ?_; rintro e w1 ⟨rfl, hs⟩; have HK := Lib.hid (HK.out.trans hs); clear hs) | (go_at_call 11; refine (example40_ok _).mono ?_; rintro e w1 ⟨rfl, hs⟩; have HK := Lib.hid (HK.out.trans hs); clear hs)))
          (first | refine ⟨.inr ?keep350_10, ?_⟩ | refine ⟨?keep350_10, ?_⟩)
          case keep350_10 => (exact ⟨(HC3.out _ HK.out).1.1, (HC3.out _ HK.out).1.2, (HC.out _ (H3.out.same.trans HK.out)).2.1, (HC.out _ (H3.out.same.trans HK.out)).2.2.1⟩)
          try simp only [Act.put, List.setIfInBounds_toArray, List.set_cons_zero, List.set_cons_succ]
          refine path_do (i := 11) rfl ?_
          go_wp2_with ((go_at_call 24; refine (oc_cb ⟨H3.out.s1.1.same HK.out, H3.out.s1.2⟩ hn7 ⟨HW.out.1.same (H3.out.same.trans HK.out), HW.out.2⟩ hm).mono ?_; rintro e w1 ⟨A9, n9, c9, rfl, hsg, hs⟩; have HK := Lib.hid (HK.out.trans hs); have H9 := Lib.hid hsg; clear hs hsg))
          (first | refine ⟨.inr ?keep350_11, ?_⟩ | refine ⟨?keep350_11, ?_⟩)
          case keep350_11 => (exact ⟨(HC3.out _ HK.out).1.1, (HC3.out _ HK.out).1.2, (HC.out _ (H3.out.same.trans HK.out)).2.1, (HC.out _ (H3.out.same.trans HK.out)).2.2.1⟩)
          try simp only [Act.put, List.setIfInBounds_toArray, List.set_cons_zero, List.set_cons_succ]
          refine path_do (i := 12) rfl ?_
          go_wp2_with ((first | (go_at_call 23; refine (want_ok _ _ _ _ _).mono ?_; rintro e w1 ⟨rfl, hs⟩; have HK := Lib.hid (HK.out.trans hs); have H9 : Hid (SArg w1 A9 n9 c9 (comV fs gs)) := Lib.hid ⟨H9.out.1.same hs, H9.out.2⟩; clear hs) | (go_at_call 22; refine (usame_ok A9 n9 c9 (comV fs gs) _ (some ⟨g7, o7, none⟩) n7 c7 _ H9.out.1 (by have h1 := H9.out.1.1; have := HCL.out; omega) (H3.out.s1.1.same HK.out)).mono ?_; rintro e w1 ⟨rfl, hs⟩; have HK := Lib.hid (HK.out.trans hs); clear hs) | (go_at_call 13; refine (prog_ok _ _ _ _ _).mono ?_; rintro e w1 ⟨rfl, hs⟩; have HK := Lib.hid (HK.out.trans hs); clear hs) | (go_at_call 11; refine (example40_ok _).mono ?_; rintro e w1 ⟨rfl, hs⟩; have HK := Lib.hid (HK.out.trans hs); clear hs)))
          (first | refine ⟨.inr ?keep350_12, ?_⟩ | refine ⟨?keep350_12, ?_⟩)
          case keep350_12 => (exact ⟨(HC3.out _ HK.out).1.1, (HC3.out _ HK.out).1.2, (HC.out _ (H3.out.same.trans HK.out)).2.1, (HC.out _ (H3.out.same.trans HK.out)).2.2.1⟩)
          try simp only [Act.put, List.setIfInBounds_toArray, List.set_cons_zero, List.set_cons_succ]
          refine path_do (i := 14) rfl ?_
          go_wp2_with ((first | (go_at_call 23; refine (want_ok _ _ _ _ _).mono ?_; rintro e w1 ⟨rfl, hs⟩; have HK := Lib.hid (HK.out.trans hs); have H9 : Hid (SArg w1 A9 n9 c9 (comV fs gs)) := Lib.hid ⟨H9.out.1.same hs, H9.out.2⟩; clear hs) | (go_at_call 22; refine (usame_ok A9 n9 c9 (comV fs gs) _ (some ⟨g7, o7, none⟩) n7 c7 _ H9.out.1 (by have h1 := H9.out.1.1; have := HCL.out; omega) (H3.out.s1.1.same HK.out)).mono ?_; rintro e w1 ⟨rfl, hs⟩; have HK := Lib.hid (HK.out.trans hs); clear hs) | (go_at_call 13; refine (prog_ok _ _ _ _ _).mono ?_; rintro e w1 ⟨rfl, hs⟩; have HK := Lib.hid (HK.out.trans hs); clear hs) | (go_at_call 11; refine (example40_ok _).mono ?_; rintro e w1 ⟨rfl, hs⟩; have HK := Lib.hid (HK.out.trans hs); clear hs)))
          (first | refine ⟨.inr ?keep350_14, ?_⟩ | refine ⟨?keep350_14, ?_⟩)
          case keep350_14 => (exact ⟨(HC3.out _ HK.out).1.1, (HC3.out _ HK.out).1.2, (HC.out _ (H3.out.same.trans HK.out)).2.1, (HC.out _ (H3.out.same.trans HK.out)).2.2.1⟩)
          try simp only [Act.put, List.setIfInBounds_toArray, List.set_cons_zero, List.set_cons_succ]
          refine path_do (i := 15) rfl ?_
          go_wp2_with ((first | (go_at_call 23; refine (want_ok _ _ _ _ _).mono ?_; rintro e w1 ⟨rfl, hs⟩; have HK := Lib.hid (HK.out.trans hs); have H9 : Hid (SArg w1 A9 n9 c9 (comV fs gs)) := Lib.hid ⟨H9.out.1.same hs, H9.out.2⟩; clear hs) | (go_at_call 22; refine (usame_ok A9 n9 c9 (comV fs gs) _ (some ⟨g7, o7, none⟩) n7 c7 _ H9.out.1 (by have h1 := H9.out.1.1; have := HCL.out; omega) (H3.out.s1.1.same HK.out)).mono ?_; rintro e w1 ⟨rfl, hs⟩; have HK := Lib.hid (HK.out.trans hs); clear hs) | (go_at_call 13; refine (prog_ok _ _ _ _ _).mono ?_; rintro e w1 ⟨rfl, hs⟩; have HK := Lib.hid (HK.out.trans hs); clear hs) | (go_at_call 11; refine (example40_ok _).mono ?_; rintro e w1 ⟨rfl, hs⟩; have HK := Lib.hid (HK.out.trans hs); clear hs)))
          (first | refine ⟨.inr ?keep350_15, ?_⟩ | refine ⟨?keep350_15, ?_⟩)
          case keep350_15 => (exact ⟨(HC3.out _ HK.out).1.1, (HC3.out _ HK.out).1.2, (HC.out _ (H3.out.same.trans HK.out)).2.1, (HC.out _ (H3.out.same.trans HK.out)).2.2.1⟩)
          try simp only [Act.put, List.setIfInBounds_toArray, List.set_cons_zero, List.set_cons_succ]
          refine path_read (i := 16) (v := ?v350_16) rfl (by rfl) (fun _ _ _ h => h) ?hy350_16 ?_
          case hy350_16 => ((intro w hSw; (try dsimp only at hSw); go_simp) <;> (try with_reducible rfl))
          try simp only [Act.put, List.setIfInBounds_toArray, List.set_cons_zero, List.set_cons_succ]
          refine path_read (i := 17) (v := ?v350_17) rfl (by rfl) (fun _ _ _ h => h) ?hy350_17 ?_
          case hy350_17 => ((intro w hSw; (try dsimp only at hSw); go_simp) <;> (try with_reducible rfl))
          try simp only [Act.put, List.setIfInBounds_toArray, List.set_cons_zero, List.set_cons_succ]
          refine path_do (i := 18) rfl ?_
          go_wp2_with ((first | (go_at_call 23; refine (want_ok _ _ _ _ _).mono ?_; rintro e w1 ⟨rfl, hs⟩; have HK := Lib.hid (HK.out.trans hs); have H9 : Hid (SArg w1 A9 n9 c9 (comV fs gs)) := Lib.hid ⟨H9.out.1.same hs, H9.out.2⟩; clear hs) | (go_at_call 22; refine (usame_ok A9 n9 c9 (comV fs gs) _ (some ⟨g7, o7, none⟩) n7 c7 _ H9.out.1 (by have h1 := H9.out.1.1; have := HCL.out; omega) (H3.out.s1.1.same HK.out)).mono ?_; rintro e w1 ⟨rfl, hs⟩; have HK := Lib.hid (HK.out.trans hs); clear hs) | (go_at_call 13; refine (prog_ok _ _ _ _ _).mono ?_; rintro e w1 ⟨rfl, hs⟩; have HK := Lib.hid (HK.out.trans hs); clear hs) | (go_at_call 11; refine (example40_ok _).mono ?_; rintro e w1 ⟨rfl, hs⟩; have HK := Lib.hid (HK.out.trans hs); clear hs)))
          (first | refine ⟨.inr ?keep350_18, ?_⟩ | refine ⟨?keep350_18, ?_⟩)
          case keep350_18 => (exact ⟨(HC3.out _ HK.out).1.1, (HC3.out _ HK.out).1.2, (HC.out _ (H3.out.same.trans HK.out)).2.1, (HC.out _ (H3.out.same.trans HK.out)).2.2.1⟩)
          try simp only [Act.put, List.setIfInBounds_toArray, List.set_cons_zero, List.set_cons_succ]
          refine path_read (i := 19) (v := ?v350_19) rfl (by rfl) (fun _ _ _ h => h) ?hy350_19 ?_
          case hy350_19 => ((intro w hSw; (try dsimp only at hSw); go_simp) <;> (try with_reducible rfl))
          try simp only [Act.put, List.setIfInBounds_toArray, List.set_cons_zero, List.set_cons_succ]
          refine path_read (i := 20) (v := ?v350_20) rfl (by rfl) (fun _ _ _ h => h) ?hy350_20 ?_
          case hy350_20 => ((intro w hSw; (try dsimp only at hSw); go_simp) <;> (try with_reducible rfl))
          try simp only [Act.put, List.setIfInBounds_toArray, List.set_cons_zero, List.set_cons_succ]
          refine path_end ?_
          go_wp2
          go_ret
          exact ⟨rfl, (HS0.out.trans H3.out.same).trans HK.out⟩

set_option maxRecDepth 100000 in
set_option maxHeartbeats 4000000 in
theorem commons_far (A : Option Addr) (n cap : Nat) (fs : List ByteArray) (aA : Int) (B : Option Addr) (m cb : Nat) (gs : List ByteArray) (aB : Int) (w : World) (h : SArg w A n cap fs) (hw : SArg w B m cb gs) (hb : lightB fs = false ∨ (lightB fs = true ∧ lightB gs = false)) :
    Calls Try.prog 9 #[.agg #[.slice A n cap, .int .i64 aA], .agg #[.slice B m cb, .int .i64 aB]] w fun e w' => e = .returned (.bool true) ∧ Same w w' := by
  have hs0 : Same w (twoW w A n cap aA B m cb aB) := ((Chg.refl (fun _ => False) w).alloc _).alloc _
  have HA : Hid (SArg (twoW w A n cap aA B m cb aB) A n cap fs) := Lib.hid ⟨h.1.same hs0, h.2⟩
  have HW : Hid (SArg (twoW w A n cap aA B m cb aB) B m cb gs) := Lib.hid ⟨hw.1.same hs0, hw.2⟩
  have HS0 := Lib.hid hs0
  clear h hw hs0
  rcases hb with hb | ⟨hb, hb2⟩
  · have HB := Lib.hid hb
    clear hb
    go_enter Try.func9, Try.ntmps9
    go_wp2_with fail
    refine (light_v _ A n cap fs _ HA.out HB.out).mono ?_
    rintro e w' ⟨rfl, rfl⟩
    go_wp2_with fail
    refine (example40_ok _).mono ?_
    rintro e w2 ⟨rfl, hs2⟩
    have HS2 := Lib.hid hs2
    clear hs2
    go_wp2
    go_ret
    exact ⟨rfl, HS0.out.trans HS2.out⟩
  · have HB := Lib.hid hb
    have HB2 := Lib.hid hb2
    clear hb hb2
    go_enter Try.func9, Try.ntmps9
    go_wp2_with fail
    refine (light_v _ A n cap fs _ HA.out HB.out).mono ?_
    rintro e w' ⟨rfl, rfl⟩
    have hbb := (two_box (Chg.refl (fun _ => False) (twoW w A n cap aA B m cb aB))).2.1
    go_wp2_with fail
    refine (light_v _ B m cb gs _ HW.out HB2.out).mono ?_
    rintro e w' ⟨rfl, rfl⟩
    go_wp2_with fail
    refine (example40_ok _).mono ?_
    rintro e w2 ⟨rfl, hs2⟩
    have HS2 := Lib.hid hs2
    clear hs2
    go_wp2
    go_ret
    exact ⟨rfl, HS0.out.trans HS2.out⟩
theorem OfferCommon_walk (x y : OArg) (w : World) (h : x.ok w) (hw : y.ok w) :
    Calls Try.prog 9 #[.agg x.cells.toArray, .agg y.cells.toArray] w fun e w' => e = .returned (.bool true) ∧ Same w w' := by
  obtain ⟨A, n, cap, fs, aA⟩ := x
  obtain ⟨B, m, cb, gs, aB⟩ := y
  cases hb : lightB fs
  · exact commons_far A n cap fs aA B m cb gs aB w h hw (.inl hb)
  · cases hb2 : lightB gs
    · exact commons_far A n cap fs aA B m cb gs aB w h hw (.inr ⟨hb, hb2⟩)
    · exact commons_near A n cap fs aA B m cb gs aB w h hw hb hb2
end Go.Proofs.Ytnbmpdjphmbofaa
