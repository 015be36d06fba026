/- offer.Common: the formats that both have, each once. -/
import Derived.Test.YtnbmpdjphmbofaaLight40
import Derived.Test.YtnbmpdjphmbofaaStrO
import Derived.Deep.LoopGhost
set_option linter.unusedVariables false
set_option linter.unusedSimpArgs false
set_option maxRecDepth 100000
namespace Go.Proofs.Ytnbmpdjphmbofaa
open Go.RowKit

/-- The formats of fs that gs has too, each once, onto out. -/
def comStep (gs : List ByteArray) (out : List ByteArray) (f : ByteArray) : List ByteArray := if hasS gs f && !hasS out f then out ++ [f] else out
def comFrom (gs : List ByteArray) (out fs : List ByteArray) : List ByteArray := fs.foldl (comStep gs) out
def comV (fs gs : List ByteArray) : List ByteArray := comFrom gs [] fs
theorem comFrom_cons (gs out : List ByteArray) (f : ByteArray) (fs : List ByteArray) : comFrom gs out (f :: fs) = comFrom gs (comStep gs out f) fs := rfl
theorem comStep_length (gs out : List ByteArray) (f : ByteArray) : (comStep gs out f).length ≤ out.length + 1 := by
  unfold comStep
  split
  · simp
  · omega
/-- What Common gives back. -/
def ComOut (fs gs : List ByteArray) (acts : Int) (w : World) (e : Ending) (w' : World) : Prop :=
  ∃ A n cap, e = .returned (.agg #[.slice A n cap, .int .i64 acts]) ∧ SArg w' A n cap (comV fs gs) ∧ Same w w'


theorem at_new3 (w : World) (o o2 o3 : Obj) : (((w.alloc o).alloc o2).alloc o3).heap[w.heap.size + 1 + 1]? = some o3 := by
  have e := at_new2 (w.alloc o) o2 o3
  have hs : (w.alloc o).heap.size = w.heap.size + 1 := by simp
  rw [hs] at e
  exact e
theorem at_new4 (w : World) (o o2 o3 o4 : Obj) : ((((w.alloc o).alloc o2).alloc o3).alloc o4).heap[w.heap.size + 1 + 1 + 1]? = some o4 := by
  have e := at_new3 (w.alloc o) o2 o3 o4
  have hs : (w.alloc o).heap.size = w.heap.size + 1 := by simp
  rw [hs] at e
  exact e
/-- The call's own row of strings. -/
structure OwnS (base : Nat) (w : World) (v : Value) (out : List ByteArray) : Prop where
  own : w.ownsRow base 9 1 v out.length (strVals out)
  le : base ≤ w.heap.size
/-- Where the loop stands: the boxes a, b, the result's, out's; out's row. -/
structure ComS (w wr : World) (VA VB : Value) (aA aB acts : Int) (T : TypeId) (v : Value) (out : List ByteArray) : Prop where
  same : Same w wr
  ha : wr.heap[w.heap.size]? = some (.cells #[VA, .int .i64 aA] T (0, 0))
  hb : wr.heap[w.heap.size + 1]? = some (.cells #[VB, .int .i64 aB] T (0, 0))
  hr : wr.heap[w.heap.size + 1 + 1]? = some (.cells #[.slice none 0 0, .int .i64 0] T (0, 0))
  ho : wr.heap[w.heap.size + 1 + 1 + 1]? = some (.cells #[v, .int .i64 acts] T (0, 0))
  own : OwnS (w.heap.size + 1 + 1 + 1 + 1) wr v out

set_option maxRecDepth 100000 in
set_option maxHeartbeats 8000000 in
theorem common_ok (A : Option Addr) (n cap : Nat) (fs : List ByteArray) (aA : Int) (B : Option Addr) (m cb : Nat) (gs : List ByteArray) (aB : Int) (w : World) (h : StrsAt w A n fs) (hn : n ≤ 40) (hg : StrsAt w B m gs) (hm : m ≤ 40) :
    Calls Try.prog 24 #[.agg #[.slice A n cap, .int .i64 aA], .agg #[.slice B m cb, .int .i64 aB]] w (ComOut fs gs (commonV aA aB) w) := by
  have HA := Lib.hid h
  have HB := Lib.hid hg
  clear h hg
  unfold commonV
  go_enter Try.func24, Try.ntmps24
  go_wp2_with fail
  go_loopg [18] n (fun g v18 wr => ∃ (i : Nat) (v : Value) (out : List ByteArray), i ≤ n ∧ g = n - i ∧ v18 = .int .i64 i ∧ out.length ≤ i ∧ comV fs gs = comFrom gs out (fs.drop i) ∧
    ComS w wr (.slice A n cap) (.slice B m cb) aA aB (bits BinOp.and IntKind.i64 (bits BinOp.and IntKind.i64 aA aB) 7) 29 v out)
  case atStart =>
    refine ⟨0, .slice none 0 0, [], by omega, by omega, rfl, by simp, rfl, ?_, at_alloc (at_alloc (at_alloc (at_new _ _))), at_alloc (at_alloc (at_new2 _ _ _)), at_alloc (at_new3 _ _ _ _), at_new4 _ _ _ _ _, ⟨World.ownsRow_nil _ _ _ _, by simp⟩⟩
    repeat (first | (with_reducible refine Chg.drew ?_) | (with_reducible refine Chg.drewN ?_ _) | (with_reducible refine Chg.alloc ?_ _) | (with_reducible refine Chg.setCell ?_ _ _ ?_; rotate_left 1; · (intro q; first | (simp; done) | (exfalso; revert q; simp; done) | (exfalso; revert q; simp; omega) | (simp; omega))))
    exact (Chg.refl _ w)
  case round =>
    obtain ⟨i, v, out, hi, hg, rfl, hol, hcom, hst⟩ := hrel
    obtain ⟨A', cap', rfl, hsa⟩ := StrsAt.of_own hst.own.own
    have HG := Lib.hid hg
    have HST := Lib.hid hst
    have HCOM := Lib.hid hcom
    have HSA := Lib.hid hsa
    have b0 := cell_at (C := [.slice B m cb, .int .i64 aB]) hst.hb 0
    have o0 := cell_at (C := [.slice A' out.length cap', .int .i64 (bits BinOp.and IntKind.i64 (bits BinOp.and IntKind.i64 aA aB) 7)]) hst.ho 0
    have o1 := cell_at (C := [.slice A' out.length cap', .int .i64 (bits BinOp.and IntKind.i64 (bits BinOp.and IntKind.i64 aA aB) 7)]) hst.ho 1
    have r0 := cell_at (C := [.slice none 0 0, .int .i64 0]) hst.hr 0
    have r1 := cell_at (C := [.slice none 0 0, .int .i64 0]) hst.hr 1
    simp only [List.getElem?_cons_zero, List.getElem?_cons_succ] at b0 o0 o1 r0 r1
    have fO := frozen_at hst.ho
    have fR := frozen_at hst.hr
    have hOs := hst.own.le
    have HOU : Hid (∀ k, k ≤ w.heap.size + 1 + 1 + 1 → some k ≠ (Value.slice A' out.length cap').ownBlock) := Lib.hid fun k hk e => by have := hst.own.own.lt _ e.symm; omega
    clear hg hst hcom hsa
    by_cases hlt : i < n
    · have hil : i < fs.length := by rw [HA.out.1]; exact hlt
      obtain ⟨b, o, rfl, hbl, hc⟩ := (HA.out.same HST.out.same).2 (by omega)
      obtain ⟨y, hy⟩ : ∃ y, y = fs[i] := ⟨_, rfl⟩
      have hy2 : fs[i]? = some y := by rw [hy]; exact List.getElem?_eq_getElem hil
      have hcell := hc i y hy2
      have HD := Lib.hid (show comV fs gs = comFrom gs (comStep gs out y) (fs.drop (i + 1)) by rw [HCOM.out, List.drop_eq_getElem_cons hil, ← hy]; rfl)
      have hii : (i : Int) < n := by omega
      clear hc hy hy2 hbl hil
      cases hh : hasS gs y
      · have HH := Lib.hid hh
        clear hh
        as_aux_lemma =>
          go_wp2_with (go_at_call 26; refine (contains_v _ _ m cb gs y _ (HB.out.same HST.out.same) (by omega) HH.out).mono ?_; rintro e w9 ⟨rfl, rfl⟩)
          go_roundg (n - (i + 1))
          case measure => have := HG.out; omega
          case rel => exact ⟨i + 1, _, out, by omega, by rfl, by go_num, by omega, by rw [HD.out]; unfold comStep; rw [HH.out]; rfl, HST.out⟩
      · have HH := Lib.hid hh
        clear hh
        cases hu : hasS out y
        · have HU := Lib.hid hu
          clear hu
          as_aux_lemma =>
            go_wp2_with (first | (go_at_call 26; refine (contains_v _ _ m cb gs y _ (HB.out.same HST.out.same) (by omega) HH.out).mono ?_; rintro e w9 ⟨rfl, rfl⟩) | (go_at_call 26; refine (contains_v _ _ _ _ out y _ HSA.out.1 (by omega) HU.out).mono ?_; rintro e w9 ⟨rfl, rfl⟩) | (at_builtin; refine wpl_append1 (w.heap.size + 1 + 1 + 1 + 1) 9 _ 1 16 Try.underlying22 infoStr rfl (by omega) (.slice A' out.length cap') out.length (strVals out) (HST.out.own.own.alloc _) rfl wr.heap.size 1 [.string y] rfl (at_new _ _) rfl (by simp [Value.oneCell']) (by omega) (by omega) (by simp; omega) ?_; intro gg gcap w1 hown1 hgrow hat hlt1; have hk1 : Chg (fun x => some x = (Value.slice A' out.length cap').ownBlock) wr w1 := Chg.grownO (by (repeat (first | (with_reducible refine Chg.drew ?_) | (with_reducible refine Chg.alloc ?_ _))); exact Chg.refl _ _) hgrow; have HO1 := Lib.hid (hk1.at_ HST.out.ho (HOU.out _ (by omega))); have fO1 := frozen_at HO1.out; have o11 := hk1.cell o0 (HOU.out _ (by omega))))
            go_roundg (n - (i + 1))
            case measure => have := HG.out; omega
            case rel =>
              have hgl := hown1.lt gg rfl
              have hlen : (out ++ [y]).length = out.length + 1 := by simp
              refine ⟨i + 1, .slice (some ⟨gg, 0, none⟩) (out.length + 1) gcap, out ++ [y], by omega, by rfl, by go_num, by rw [hlen]; omega, by rw [HD.out]; unfold comStep; rw [HH.out, HU.out]; rfl, ?_⟩
              refine ⟨?_, ?_, ?_, ?_, ?_, ⟨?_, ?_⟩⟩
              · refine Chg.setCell ?_ _ _ (fun q => by simp at q; omega)
                exact HST.out.same.then_ hk1 (fun i hi q => HOU.out i (by omega) q)
              · exact at_setCell_other _ (by omega) (hk1.at_ HST.out.ha (HOU.out _ (by omega)))
              · exact at_setCell_other _ (by omega) (hk1.at_ HST.out.hb (HOU.out _ (by omega)))
              · exact at_setCell_other _ (by omega) (hk1.at_ HST.out.hr (HOU.out _ (by omega)))
              · exact at_setCell (i := 0) (.slice (some ⟨gg, 0, none⟩) (out.length + 1) gcap) (C := [.slice A' out.length cap', .int .i64 (bits BinOp.and IntKind.i64 (bits BinOp.and IntKind.i64 aA aB) 7)]) HO1.out
              · rw [hlen]
                unfold strVals
                rw [List.map_append]
                exact hown1.kept (grownBy_setCell _ _ _ _) (.inr (fun e => by simp [Value.ownBlock] at e; omega))
              · have := hk1.size
                simp
                omega
        · have HU := Lib.hid hu
          clear hu
          as_aux_lemma =>
            go_wp2_with (first | (go_at_call 26; refine (contains_v _ _ m cb gs y _ (HB.out.same HST.out.same) (by omega) HH.out).mono ?_; rintro e w9 ⟨rfl, rfl⟩) | (go_at_call 26; refine (contains_v _ _ _ _ out y _ HSA.out.1 (by omega) HU.out).mono ?_; rintro e w9 ⟨rfl, rfl⟩))
            go_roundg (n - (i + 1))
            case measure => have := HG.out; omega
            case rel => exact ⟨i + 1, _, out, by omega, by rfl, by go_num, by omega, by rw [HD.out]; unfold comStep; rw [HH.out, HU.out]; rfl, HST.out⟩
    · have hb1 : ¬ (i : Int) < (n : Int) := by omega
      have HE := Lib.hid (show comV fs gs = out by rw [HCOM.out, show i = fs.length by rw [HA.out.1]; omega, List.drop_length]; rfl)
      have hbel := HST.out.same.size
      go_wp2
      refine bodyPost_ret (results_cell1 Try.results24 rfl (run_load_of (a := .slice A' out.length cap') (b := .int .i64 (bits BinOp.and IntKind.i64 (bits BinOp.and IntKind.i64 aA aB) 7)) ?_)) rfl ⟨A', out.length, cap', rfl, ?_, ?_⟩
      · refine at_setCell (i := 1) (C := [.slice A' out.length cap', .int .i64 0]) _ ?_
        refine at_setCell (i := 0) (C := [.slice none 0 0, .int .i64 0]) _ ?_
        exact HST.out.hr
      · rw [HE.out]
        refine ⟨?_, HSA.out.2⟩
        refine HSA.out.1.chg (S := fun x => x = w.heap.size + 1 + 1) ?_ ?_
        · repeat (refine Chg.setCell ?_ _ _ (fun q => by simp))
          exact Chg.refl _ _
        · rintro b o rfl hb
          subst hb
          exact HOU.out (w.heap.size + 1 + 1) (by omega) rfl
      · repeat (refine Chg.setCell ?_ _ _ (fun q => by simp at q; omega))
        exact HST.out.same
end Go.Proofs.Ytnbmpdjphmbofaa
