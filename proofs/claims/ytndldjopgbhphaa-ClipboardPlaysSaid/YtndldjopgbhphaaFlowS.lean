/- ClipboardFlows: where its loop stands: the clipboard with one transfer, the reference's pipe in a block of the law's own. -/
import Derived.Test.YtndldjopgbhphaaPk50
import Derived.Test.YtndldjopgbhphaaQBox
import Derived.Test.YtndldjopgbhphaaPk01
import Derived.Deep.LoopGhost
import Derived.Deep.DeepCutAuto
import Derived.Deep.RegionHeld3
set_option linter.unusedVariables false
set_option linter.unusedSimpArgs false
set_option maxRecDepth 100000
namespace Go.Proofs.Ytndldjopgbhphaa
open Go.RowKit

def flL : SLog := SLog.new.issue 1 1 9
def flC (q : PSt) (pb : Nat) (Rp : Nat → Prop) : CSt := ⟨1, [tp], 2, 1, true, 1, [⟨pb, Rp, q, 1, 2, true⟩]⟩
theorem fl_n : SLog.new.issueN 1 1 9 = 1 := by decide +kernel
theorem fl_a : CSt.setE CSt.new flL 1 [tp] 1 1 = 0 := by decide +kernel
theorem fl_a' : CSt.set CSt.new flL 1 [tp] 1 1 = ⟨1, [tp], 0, 0, true, 1, []⟩ := by unfold CSt.set; rw [if_pos fl_a]; rfl
theorem fl_has : hasS [tp] tp = true := by decide +kernel
theorem fl_rcv (win : Int) : CSt.rcvE ⟨1, [tp], 2, 1, true, 1, []⟩ 2 tp win = if win < 1 ∨ 65536 < win then 6 else 0 := by
  unfold CSt.rcvE
  rw [if_neg (by simp), if_neg (by rw [show (⟨1, [tp], 2, 1, true, 1, []⟩ : CSt).fmts = [tp] from rfl, fl_has]; simp)]

/-- The program's pipe in state q, the reference's in state r. -/
structure FlS (w wr : World) (lb b Y pb : Nat) (R Rp : Nat → Prop) (q r : PSt) (A : Option Addr) (n cap : Nat) : Prop where
  ses : Ses w wr lb b R flL (flC q pb Rp)
  ny : ¬ R Y
  yl : Y ≠ lb
  yw : w.heap.size ≤ Y
  at_ : wr.heap[Y]? = some (.cells (qcells r A n cap).toArray 83 (0, 0))
  bytes : BytesAt wr (fun x => ¬ R x ∧ x ≠ Y) A n cap r.bs
  op : q.cl = false ∧ q.cn = false
section
variable {w wr w1 : World} {lb b Y pb : Nat} {R Rp : Nat → Prop} {q r : PSt} {A : Option Addr} {n cap : Nat}
theorem FlS.same (h : FlS w wr lb b Y pb R Rp q r A n cap) (k : Same wr w1) : FlS w w1 lb b Y pb R Rp q r A n cap :=
  ⟨h.ses.keep k, h.ny, h.yl, h.yw, k.at_ h.at_ (fun q => q), h.bytes.chg k (fun _ _ q => q), h.op⟩
theorem FlS.pipe (h : FlS w wr lb b Y pb R Rp q r A n cap) : Pip w wr pb Rp q := h.ses.pipe (i := 0) rfl
theorem FlS.ylt (h : FlS w wr lb b Y pb R Rp q r A n cap) : Y < wr.heap.size := lt_of_at h.at_
/-- The program's pipe is used. -/
theorem FlS.used (h : FlS w wr lb b Y pb R Rp q r A n cap) {R2 : Nat → Prop} {q2 : PSt} (k : Chg Rp wr w1) (hp : PipeAt w1 pb R2 q2) (hR2 : ∀ j, R2 j → Rp j ∨ wr.heap.size ≤ j) (ho : q2.cl = false ∧ q2.cn = false) :
    ∃ R', FlS w w1 lb b Y pb R' R2 q2 r A n cap := by
  obtain ⟨R', hs, hown⟩ := h.ses.used (i := 0) rfl k hp hR2
  exact ⟨R', hs, hown.not h.ylt h.ny, h.yl, h.yw, hown.chg.at_ h.at_ h.ny, bytes_wrote h.bytes hown.chg hown.new, ho⟩
/-- The reference's state is laid into the block. -/
theorem FlS.laid (h : FlS w wr lb b Y pb R Rp q r A n cap) {w2 : World} {r2 : PSt} {A2 : Option Addr} {n2 cap2 : Nat} (k1 : Same wr w1) (hb : BytesAt w1 (fun x => ¬ R x ∧ x ≠ Y) A2 n2 cap2 r2.bs)
    (k : Chg (fun x => x = Y) w1 w2) (hat : w2.heap[Y]? = some (.cells (qcells r2 A2 n2 cap2).toArray 83 (0, 0))) : FlS w w2 lb b Y pb R Rp q r2 A2 n2 cap2 := by
  have hk : Chg (fun x => x = Y) wr w2 := (Chg.of_same k1).trans k
  exact ⟨h.ses.chg hk (fun x e => by subst e; exact ⟨h.ny, h.yl, h.yw⟩), h.ny, h.yl, h.yw, hat, hb.chg k (fun x hx => hx.2), h.op⟩
/-- What the reference's call gives lies apart from what the clipboard owns. -/
theorem FlS.far (h : FlS w wr lb b Y pb R Rp q r A n cap) {A2 : Option Addr} {n2 cap2 : Nat} {xs : List Int} (k : Same wr w1) (hb : BytesAt w1 (fun x => (¬ R x ∧ x ≠ Y) ∨ wr.heap.size ≤ x) A2 n2 cap2 xs) : BytesAt w1 (fun x => ¬ R x ∧ x ≠ Y) A2 n2 cap2 xs :=
  hb.mono (fun x _ hx => hx.elim id (fun h2 => ⟨fun hr => by have := h.ses.clip.lt x hr; omega, fun e => by have := h.ylt; omega⟩))
end
/-- The five stores of a pipe's value, behind them a new block. -/
theorem box_chg (w4 : World) (Y : Nat) (r : PSt) (A : Option Addr) (n cap : Nat) (O : Obj) : Chg (fun x => x = Y) w4 ((((((w4.setCell ⟨Y, 0, none⟩ (.int .i64 r.win)).setCell ⟨Y, 1, none⟩ (.int .i64 r.cr)).setCell ⟨Y, 2, none⟩ (.slice A n cap)).setCell ⟨Y, 3, none⟩ (.bool (r.cl && !r.cn))).setCell ⟨Y, 4, none⟩ (.bool r.cn)).alloc O) := by
  refine Chg.alloc (Chg.setCell (Chg.setCell (Chg.setCell (Chg.setCell (Chg.setCell (Chg.refl (fun x => x = Y) w4) _ _ ?_) _ _ ?_) _ _ ?_) _ _ ?_) _ _ ?_) O
  all_goals exact fun _ => rfl
theorem box_at {w4 : World} {Y : Nat} {q : PSt} {A0 : Option Addr} {n0 cap0 : Nat} (h : w4.heap[Y]? = some (.cells (qcells q A0 n0 cap0).toArray 83 (0, 0))) (r : PSt) (A : Option Addr) (n cap : Nat) (O : Obj) :
    ((((((w4.setCell ⟨Y, 0, none⟩ (.int .i64 r.win)).setCell ⟨Y, 1, none⟩ (.int .i64 r.cr)).setCell ⟨Y, 2, none⟩ (.slice A n cap)).setCell ⟨Y, 3, none⟩ (.bool (r.cl && !r.cn))).setCell ⟨Y, 4, none⟩ (.bool r.cn)).alloc O).heap[Y]? = some (.cells (qcells r A n cap).toArray 83 (0, 0)) :=
  at_alloc (at_setCell (i := 4) (.bool r.cn) (at_setCell (i := 3) (.bool (r.cl && !r.cn)) (at_setCell (i := 2) (.slice A n cap) (at_setCell (i := 1) (.int .i64 r.cr) (at_setCell (i := 0) (.int .i64 r.win) h)))))
theorem grant_op {q : PSt} (m : Int) (h : q.cl = false ∧ q.cn = false) : (q.grant m).cl = false ∧ (q.grant m).cn = false := by unfold PSt.grant; split <;> exact h
theorem cancel_open {q : PSt} (h : q.cl = false ∧ q.cn = false) : q.cancel = { q with cn := true, cr := 0, bs := [] } := by
  unfold PSt.cancel PSt.done; rw [h.1, h.2]; rfl
theorem cancel_rd {q : PSt} (h : q.cl = false ∧ q.cn = false) : q.cancel.rdE 1 = 20 ∧ q.cancel.rd 1 = [] ∧ q.cancel.read 1 = q.cancel := by
  rw [cancel_open h]
  refine ⟨rfl, ?_, ?_⟩
  · unfold PSt.rd; simp
  · unfold PSt.read; simp
theorem cancel_wr {q : PSt} (h : q.cl = false ∧ q.cn = false) : q.cancel.wrE = 20 ∧ q.cancel.wrN 1 = 0 ∧ q.cancel.write [1] = q.cancel := by
  rw [cancel_open h]
  have ho : PSt.over { q with cn := true, cr := 0, bs := [] } = true := by unfold PSt.over; simp
  have hn : ∀ l, PSt.wrN { q with cn := true, cr := 0, bs := [] } l = 0 := fun l => by unfold PSt.wrN; rw [if_pos ho]
  refine ⟨by unfold PSt.wrE; rw [if_pos ho], hn 1, ?_⟩
  unfold PSt.write
  rw [hn]
  simp
/-- make([]byte, m). -/
def zeroB (m : Nat) : Array Value := ((List.replicate m (0 : Int)).map (Value.int .u8)).toArray
theorem run_make_bytes (m : Nat) (hm : m ≤ 1000000) (w : World) : (Instr.makeSlice 22 (.int .i64 m) (.int .i64 m)).run Try.prog w = .ok (.slice (some ⟨w.heap.size, 0, none⟩) m m) (w.alloc (.cells (zeroB m) 5)) := by
  obtain ⟨i, hi0, hz0, hz1, hz2⟩ := info_parts info_u8
  have hr := run_makeSlice (P := Try.prog) w 22 5 i _ Try.underlying22 hi0 hz0 .i64 .i64 m m (by omega) (by omega) (by rw [hz1]; simp; omega) (by rw [hz2]; omega) (by omega)
  rw [hr]
  simp only [Int.toNat_natCast]
  congr 3
  rw [hz1, Nat.mul_one]
  apply Array.ext
  · simp [madeCells, zeroB]
  · intro j h1 h2
    simp [madeCells, zeroB, Value.cells, Nat.mod_one]
theorem bytes_zeroK (w : World) (m k : Nat) (hm : m ≤ 1000000) (hk : k = w.heap.size) : BytesAt (w.alloc (.cells (zeroB m) 5)) (fun _ => True) (some ⟨k, 0, none⟩) m m (List.replicate m 0) := by
  subst hk; exact bytes_new w _ _ m _ _ rfl (by simp) (by unfold maxLen; omega)
theorem bytes_zero (w : World) (m : Nat) (hm : m ≤ 1000000) : BytesAt (w.alloc (.cells (zeroB m) 5)) (fun _ => True) (some ⟨w.heap.size, 0, none⟩) m m (List.replicate m 0) :=
  bytes_new w _ _ m _ _ rfl (by simp) (by unfold maxLen; omega)
theorem box5 {w : World} {g : Nat} {a b c d e : Value} {T : TypeId} (h : w.heap[g]? = some (.cells #[a, b, c, d, e] T (0, 0))) :
    w.cell? ⟨g, 0, none⟩ = some a ∧ w.cell? ⟨g, 1, none⟩ = some b ∧ w.cell? ⟨g, 2, none⟩ = some c ∧ w.cell? ⟨g, 3, none⟩ = some d ∧ w.cell? ⟨g, 4, none⟩ = some e ∧ (∀ i, w.frozen? ⟨g, i, none⟩ = false) ∧ g < w.heap.size :=
  ⟨by rw [cell_at (C := [a, b, c, d, e]) h]; rfl, by rw [cell_at (C := [a, b, c, d, e]) h]; rfl, by rw [cell_at (C := [a, b, c, d, e]) h]; rfl, by rw [cell_at (C := [a, b, c, d, e]) h]; rfl, by rw [cell_at (C := [a, b, c, d, e]) h]; rfl, frozen_at h, lt_of_at h⟩
def boxZ : Obj := .cells #[.int .i64 0, .int .i64 0, .slice none 0 0, .bool false, .bool false] 83
/-- What the reference's Write gives, the world before it being wr with new blocks. -/
def FWr (wr : World) (R : Nat → Prop) (Y : Nat) (q' : PSt) (kk vv : Int) (ok : World → Prop) (e : Ending) (w' : World) : Prop :=
  ∃ A n cap, e = .returned (.tuple #[.agg #[.int .i64 q'.win, .int .i64 q'.cr, .slice A n cap, .bool (q'.cl && !q'.cn), .bool q'.cn], .int .i64 kk, .int .i64 vv]) ∧ BytesAt w' (fun x => ¬ R x ∧ x ≠ Y) A n cap q'.bs ∧ Same wr w' ∧ ok w'
theorem fwr_any {w wr w1 : World} {lb b Y pb : Nat} {R Rp : Nat → Prop} {q r : PSt} {A : Option Addr} {n cap : Nat} (h : FlS w wr lb b Y pb R Rp q r A n cap) (hr : r = q) (q' : PSt) (kk vv : Int) (m k : Nat) (ok : World → Prop)
    (h1 : q.write (List.replicate m 0) = q') (h2 : q.wrE = vv) (h3 : (q.wrN (List.replicate m (0 : Int)).length : Int) = kk) (hs : Same wr w1) (hb : BytesAt w1 (fun _ => True) (some ⟨k, 0, none⟩) m m (List.replicate m 0)) (hok : ∀ w', Same w1 w' → ok w') :
    Calls Try.prog 40 #[.agg #[.int .i64 q.win, .int .i64 q.cr, .slice A n cap, .bool (q.cl && !q.cn), .bool q.cn], .slice (some ⟨k, 0, none⟩) m m] w1 (FWr wr R Y q' kk vv ok) := by
  subst hr
  refine (qwrite_q q' kk vv _ m m (List.replicate m 0) (h.bytes.chg hs (fun _ _ q => q)) hb h.pipe.pipe.ok h3 h2 h1).mono ?_
  rintro e w' ⟨A', n', cap', rfl, hb', hs'⟩
  refine ⟨A', n', cap', rfl, hb'.mono (fun x _ hx => hx.elim id (fun h2 => ?_)), hs.trans hs', hok w' hs'⟩
  have := hs.size
  exact ⟨fun hr => by have := h.ses.clip.lt x hr; omega, fun e => by have := h.ylt; omega⟩
theorem at_new2s (w : World) (o o2 : Obj) (k : Nat) (hk : w.heap.size + 1 = k) : ((w.alloc o).alloc o2).drew.heap[k]? = some o2 := at_newK w o o2 k hk
theorem at_new1s (w : World) (o o2 : Obj) : ((w.alloc o).alloc o2).drew.heap[w.heap.size]? = some o := at_alloc (at_new w o)
/-- Bytes do not lie in a block that holds no byte. -/
theorem BytesAt.offbox {w : World} {R : Nat → Prop} {A : Option Addr} {n cap g : Nat} {xs : List Int} {C : List Value} {T : TypeId} {F : Nat × Nat} (h : BytesAt w R A n cap xs) (hg : w.heap[g]? = some (.cells C.toArray T F)) (hC : ∀ x : Int, Value.int .u8 x ∉ C) :
    BytesAt w (fun x => R x ∧ x ≠ g) A n cap xs := by
  refine ⟨h.1, h.2.1, h.2.2.1, fun hn => ?_⟩
  obtain ⟨b, o, hA, hb, hlt, hc⟩ := h.2.2.2 hn
  refine ⟨b, o, hA, ⟨hb, fun e => ?_⟩, hlt, hc⟩
  subst e
  obtain ⟨x, hx⟩ : ∃ x, xs[0]? = some x := by
    have := h.1
    exact ⟨xs[0]'(by omega), List.getElem?_eq_getElem (by omega)⟩
  have hx2 := hc 0 x hx
  rw [cell_at hg] at hx2
  exact hC x (List.mem_of_getElem? hx2)
theorem box_nob {x : Int} : Value.int .u8 x ∉ [Value.int .i64 0, .int .i64 0, .slice none 0 0, .bool false, .bool false] := by simp
theorem BytesAt.laidbox {w w' : World} {R : Nat → Prop} {A : Option Addr} {n cap g : Nat} {xs : List Int} (h : BytesAt w R A n cap xs) (hg : w.heap[g]? = some boxZ) (k : Chg (fun x => x = g) w w') : BytesAt w' R A n cap xs :=
  (BytesAt.chg (h.offbox (C := [Value.int .i64 0, .int .i64 0, .slice none 0 0, .bool false, .bool false]) hg (fun _ => box_nob)) k (fun x hx => hx.2)).mono (fun x _ hx => hx.1)
theorem box_laid {w : World} {g : Nat} (h : w.heap[g]? = some boxZ) (r : PSt) (A : Option Addr) (n cap : Nat) :
    (((((w.setCell ⟨g, 0, none⟩ (.int .i64 r.win)).setCell ⟨g, 1, none⟩ (.int .i64 r.cr)).setCell ⟨g, 2, none⟩ (.slice A n cap)).setCell ⟨g, 3, none⟩ (.bool (r.cl && !r.cn))).setCell ⟨g, 4, none⟩ (.bool r.cn)).heap[g]? = some (.cells (qcells r A n cap).toArray 83 (0, 0)) :=
  at_setCell (i := 4) (.bool r.cn) (at_setCell (i := 3) (.bool (r.cl && !r.cn)) (at_setCell (i := 2) (.slice A n cap) (at_setCell (i := 1) (.int .i64 r.cr) (at_setCell (i := 0) (.int .i64 r.win) (C := [Value.int .i64 0, .int .i64 0, .slice none 0 0, .bool false, .bool false]) h))))
theorem box_chgN (w4 : World) (Y : Nat) (r : PSt) (A : Option Addr) (n cap : Nat) : Chg (fun x => x = Y) w4 (((((w4.setCell ⟨Y, 0, none⟩ (.int .i64 r.win)).setCell ⟨Y, 1, none⟩ (.int .i64 r.cr)).setCell ⟨Y, 2, none⟩ (.slice A n cap)).setCell ⟨Y, 3, none⟩ (.bool (r.cl && !r.cn))).setCell ⟨Y, 4, none⟩ (.bool r.cn)) := by
  refine Chg.setCell (Chg.setCell (Chg.setCell (Chg.setCell (Chg.setCell (Chg.refl (fun x => x = Y) w4) _ _ ?_) _ _ ?_) _ _ ?_) _ _ ?_) _ _ ?_
  all_goals exact fun _ => rfl
end Go.Proofs.Ytndldjopgbhphaa
