/- Parts of the walk, packed: Arg42, Ark42. -/
import Derived.Test.YtndldjopgbhphaaPk14
import Derived.Test.YtndldjopgbhphaaPk10
import Derived.Test.YtndldjopgbhphaaSes
import Derived.Deep.LoopGhost
set_option linter.unusedVariables false
set_option linter.unusedSimpArgs false
set_option maxRecDepth 100000
namespace Go.Proofs.Ytndldjopgbhphaa
open Go.RowKit Go.ChangeShapes Go.WideShapes Go.Deep

structure COp where
  kind : Int
  client : Int
  n : Int
  acts : Int
  A : Option Addr
  len : Nat
  cap : Nat
  fs : List ByteArray
def COp.cells (x : COp) : List Value := [.int .i64 x.kind, .int .i64 x.client, .int .i64 x.n, .int .i64 x.acts, .slice x.A x.len x.cap]
def inI (x : Int) : Prop := -9223372036854775808 ≤ x ∧ x ≤ 9223372036854775807
def COp.ok (w : World) (x : COp) : Prop := inI x.kind ∧ inI x.client ∧ inI x.n ∧ inI x.acts ∧ SArg w x.A x.len x.cap x.fs
theorem cellsCOp : Try.prog.cellsOf 49 = 5 := by kernel_rfl
section
variable {H : Type} {enc : TypeId × Value → H} {w : World} {base : Nat} {spare : Nat → Bool} {held : Bool}
theorem conv_cop (cs' : List Value) (m : Nat) (y : DataW H × List MemPlace) (h : DataW.trod enc Try.prog w base spare held m 49 cs' = some y) : ∃ x : COp, cs' = x.cells ∧ x.ok w := by
  obtain ⟨hl, hf⟩ := fields_one Try.underlying49 (by kernel_rfl) (by kernel_rfl) h
  obtain ⟨v0, y0, n0, e0, t0⟩ := hf 0 _ rfl
  obtain ⟨v1, y1, n1, e1, t1⟩ := hf 1 _ rfl
  obtain ⟨v2, y2, n2, e2, t2⟩ := hf 2 _ rfl
  obtain ⟨v3, y3, n3, e3, t3⟩ := hf 3 _ rfl
  obtain ⟨v4, y4, n4, e4, t4⟩ := hf 4 _ rfl
  obtain ⟨a0, q0, _, w0⟩ := DataW.trod_int Try.underlying3 t0
  obtain ⟨a1, q1, _, w1⟩ := DataW.trod_int Try.underlying3 t1
  obtain ⟨a2, q2, _, w2⟩ := DataW.trod_int Try.underlying3 t2
  obtain ⟨a3, q3, _, w3⟩ := DataW.trod_int Try.underlying3 t3
  obtain ⟨A, len, cap, xs, q4, hb⟩ := open_strsT t4
  refine ⟨⟨a0, a1, a2, a3, A, len, cap, xs⟩, ?_, of_wf_int w0, of_wf_int w1, of_wf_int w2, of_wf_int w3, hb⟩
  match cs', hl with
  | [u0, u1, u2, u3, u4], _ =>
    simp at e0 e1 e2 e3 e4 q0 q1 q2 q3 q4
    subst e0 e1 e2 e3 e4 q0 q1 q2 q3 q4
    rfl
def COpsAt (w : World) (A : Option Addr) (len : Nat) (l : List COp) : Prop := RowsAt w A len 5 COp.cells l ∧ (∀ x ∈ l, x.ok w) ∧ len ≤ maxLen
theorem open_cops {r : Reach} {b0 : Nat} {v : Value} {d : DataW H} {p : List MemPlace} (hv : Value.okWide Try.prog w r b0 46 v) (h : DataW.Trod enc Try.prog w base spare held 46 v d p) :
    ∃ (A : Option Addr) (len cap : Nat) (l : List COp), v = .slice A len cap ∧ COpsAt w A len l :=
  open_rows COp.cells (COp.ok w) Try.underlying46 cellsCOp (by omega) conv_cop hv h
end

theorem COpsAt.at_ {w : World} {A : Option Addr} {len : Nat} {l : List COp} (h : COpsAt w A len l) {i : Nat} (hi : i < len) :
    ∃ b o x, A = some ⟨b, o, none⟩ ∧ b < w.heap.size ∧ l[i]? = some x ∧ x.ok w ∧ w.cell? ⟨b, o + i * 5, none⟩ = some (.int .i64 x.kind) ∧ w.cell? ⟨b, o + i * 5 + 1, none⟩ = some (.int .i64 x.client) ∧ w.cell? ⟨b, o + i * 5 + 2, none⟩ = some (.int .i64 x.n)
      ∧ w.cell? ⟨b, o + i * 5 + 3, none⟩ = some (.int .i64 x.acts) ∧ w.cell? ⟨b, o + i * 5 + 4, none⟩ = some (.slice x.A x.len x.cap) := by
  obtain ⟨b, o, hA, hb, hc⟩ := h.1.2 (by omega)
  have hx : l[i]? = some (l[i]'(by rw [h.1.1]; exact hi)) := List.getElem?_eq_getElem (by rw [h.1.1]; exact hi)
  exact ⟨b, o, _, hA, hb, hx, h.2.1 _ (List.getElem_mem _), hc i _ hx 0 _ rfl, hc i _ hx 1 _ rfl, hc i _ hx 2 _ rfl, hc i _ hx 3 _ rfl, hc i _ hx 4 _ rfl⟩

def HeavyOut (len : Nat) (w : World) (e : Ending) (w' : World) : Prop := ∃ v, e = .returned (.bool v) ∧ w = w' ∧ (v = false → len ≤ 80)
set_option maxRecDepth 100000 in
theorem heavy_ok (A : Option Addr) (len cap : Nat) (l : List COp) (w : World) (h : COpsAt w A len l) :
    Calls Try.prog 19 #[.slice A len cap] w (HeavyOut len w) := by
  have hm := h.2.2
  unfold maxLen at hm
  have HO := Lib.hid h
  by_cases hg : 80 < len
  · clear h
    go_enter Try.func19, Try.ntmps19
    go_wp2
    go_ret
    exact ⟨true, rfl, rfl, fun q => by cases q⟩
  · clear h
    have hl80 : len ≤ 80 := by omega
    go_enter Try.func19, Try.ntmps19
    go_wp2
    go_loop [3] (fun v3 => ∃ i : Nat, i ≤ len ∧ v3 = .int .i64 i) (fun v3 => len - (intOf v3).toNat)
    case atStart => exact ⟨0, by omega, rfl⟩
    case round =>
      obtain ⟨i, hi, rfl⟩ := hrel
      by_cases hlt : i < len
      · obtain ⟨b, o, x, rfl, hbw, _, hok, c0, c1, c2, c3, c4⟩ := HO.out.at_ hlt
        have hxl : x.len ≤ 9223372036854775807 := by have h1 := hok.2.2.2.2.2; unfold maxLen at h1; omega
        have HS := Lib.hid hok.2.2.2.2.1
        have hii : (i : Int) < len := by omega
        clear hok
        by_cases hxg : 20 < x.len
        · go_wp2
          go_ret
          exact ⟨true, rfl, rfl, fun q => by cases q⟩
        · go_wp2
          go_loop [4] (fun v4 => ∃ k : Nat, k ≤ x.len ∧ v4 = .int .i64 k) (fun v4 => x.len - (intOf v4).toNat)
          case atStart => exact ⟨0, by omega, rfl⟩
          case round =>
            obtain ⟨k, hk, rfl⟩ := hrel
            by_cases hkt : k < x.len
            · have hkk : (k : Int) < x.len := by omega
              obtain ⟨b2, o2, hA2, hb2, hc2⟩ := HS.out.2 (by omega)
              have hx2 : x.fs[k]? = some (x.fs[k]'(by rw [HS.out.1]; exact hkt)) := List.getElem?_eq_getElem (by rw [HS.out.1]; exact hkt)
              have c5 := hc2 k _ hx2
              generalize x.fs[k]'(by rw [HS.out.1]; exact hkt) = s at c5
              rw [hA2] at c4
              clear hc2 hx2
              by_cases hsg : 100 < (s.size : Int)
              · go_wp2
                go_ret
                exact ⟨true, rfl, rfl, fun q => by cases q⟩
              · go_wp2
                go_round
                case rel => exact ⟨k + 1, by omega, by go_num⟩
                case measure => simp [intOf]; omega
            · have hkk : ¬ (k : Int) < x.len := by omega
              go_wp2
              go_round
              case rel => exact ⟨i + 1, by omega, by go_num⟩
              case measure => simp [intOf]; omega
      · have hlt' : ¬ (i : Int) < len := by omega
        go_wp2
        go_ret
        exact ⟨false, rfl, rfl, fun _ => hl80⟩

def quoteV (issued n : Int) : Int := (issued - bits BinOp.and IntKind.i64 n 255 % 4294967296) % 4294967296
theorem quoted_ok (issued k cl n a : Int) (A : Option Addr) (len cap : Nat) (w : World) : Calls Try.prog 20 #[.int .u32 issued, .agg #[.int .i64 k, .int .i64 cl, .int .i64 n, .int .i64 a, .slice A len cap]] w fun e w' => e = .returned (.int .u32 (quoteV issued n)) ∧ Same w w' := by
  go_enter Try.func20, Try.ntmps20
  go_wp2
  go_ret
  exact ⟨rfl, (Chg.refl _ _).alloc _⟩
end Go.Proofs.Ytndldjopgbhphaa

namespace Go.Proofs.Ytndldjopgbhphaa
open Go.RowKit

def LightC (x : COp) : Prop := x.len ≤ 20 ∧ ∀ f ∈ x.fs, f.size ≤ 100
def HeavyOut2 (len : Nat) (l : List COp) (w : World) (e : Ending) (w' : World) : Prop := ∃ v, e = .returned (.bool v) ∧ w = w' ∧ (v = false → len ≤ 80 ∧ ∀ x ∈ l, LightC x)
set_option maxRecDepth 100000 in
theorem heavy2_ok (A : Option Addr) (len cap : Nat) (l : List COp) (w : World) (h : COpsAt w A len l) :
    Calls Try.prog 19 #[.slice A len cap] w (HeavyOut2 len l w) := by
  have hm := h.2.2
  unfold maxLen at hm
  have HO := Lib.hid h
  by_cases hg : 80 < len
  · clear h
    go_enter Try.func19, Try.ntmps19
    go_wp2
    go_ret
    exact ⟨true, rfl, rfl, fun q => by cases q⟩
  · clear h
    have hl80 : len ≤ 80 := by omega
    go_enter Try.func19, Try.ntmps19
    go_wp2
    go_loop [3] (fun v3 => ∃ i : Nat, i ≤ len ∧ v3 = .int .i64 i ∧ ∀ (j : Nat) (x : COp), j < i → l[j]? = some x → LightC x) (fun v3 => len - (intOf v3).toNat)
    case atStart => exact ⟨0, by omega, rfl, fun j x hj => by omega⟩
    case round =>
      obtain ⟨i, hi, rfl, hli⟩ := hrel
      have HLI := Lib.hid hli
      clear hli
      by_cases hlt : i < len
      · obtain ⟨b, o, x, rfl, hbw, hxl0, hok, c0, c1, c2, c3, c4⟩ := HO.out.at_ hlt
        have HXI := Lib.hid hxl0
        clear hxl0
        have hxl : x.len ≤ 9223372036854775807 := by have h1 := hok.2.2.2.2.2; unfold maxLen at h1; omega
        have HS := Lib.hid hok.2.2.2.2.1
        have hii : (i : Int) < len := by omega
        clear hok
        by_cases hxg : 20 < x.len
        · go_wp2
          go_ret
          exact ⟨true, rfl, rfl, fun q => by cases q⟩
        · go_wp2
          go_loop [4] (fun v4 => ∃ k : Nat, k ≤ x.len ∧ v4 = .int .i64 k ∧ ∀ (j : Nat) (s : ByteArray), j < k → x.fs[j]? = some s → s.size ≤ 100) (fun v4 => x.len - (intOf v4).toNat)
          case atStart => exact ⟨0, by omega, rfl, fun j s hj => by omega⟩
          case round =>
            obtain ⟨k, hk, rfl, hlk⟩ := hrel
            have HLK := Lib.hid hlk
            clear hlk
            by_cases hkt : k < x.len
            · have hkk : (k : Int) < x.len := by omega
              obtain ⟨b2, o2, hA2, hb2, hc2⟩ := HS.out.2 (by omega)
              have hx2 : x.fs[k]? = some (x.fs[k]'(by rw [HS.out.1]; exact hkt)) := List.getElem?_eq_getElem (by rw [HS.out.1]; exact hkt)
              have c5 := hc2 k _ hx2
              generalize x.fs[k]'(by rw [HS.out.1]; exact hkt) = s at c5 hx2
              have HX2 := Lib.hid hx2
              rw [hA2] at c4
              clear hc2 hx2
              by_cases hsg : 100 < (s.size : Int)
              · go_wp2
                go_ret
                exact ⟨true, rfl, rfl, fun q => by cases q⟩
              · go_wp2
                go_round
                case rel =>
                  refine ⟨k + 1, by omega, by go_num, fun j s2 hj hs2 => ?_⟩
                  by_cases e : j = k
                  · subst e
                    rw [HX2.out] at hs2
                    cases hs2
                    omega
                  · exact HLK.out j s2 (by omega) hs2
                case measure => simp [intOf]; omega
            · have hkk : ¬ (k : Int) < x.len := by omega
              go_wp2
              go_round
              case rel =>
                refine ⟨i + 1, by omega, by go_num, fun j y hj hy => ?_⟩
                by_cases e : j = i
                · subst e
                  rw [HXI.out] at hy
                  cases hy
                  refine ⟨by omega, fun f hf => ?_⟩
                  obtain ⟨q, hq⟩ := List.getElem?_of_mem hf
                  have hql := (List.getElem?_eq_some_iff.1 hq).1
                  rw [HS.out.1] at hql
                  exact HLK.out q f (by omega) hq
                · exact HLI.out j y (by omega) hy
              case measure => simp [intOf]; omega
      · have hlt' : ¬ (i : Int) < len := by omega
        go_wp2
        go_ret
        refine ⟨false, rfl, rfl, fun _ => ⟨hl80, fun x hx => ?_⟩⟩
        obtain ⟨q, hq⟩ := List.getElem?_of_mem hx
        have hql := (List.getElem?_eq_some_iff.1 hq).1
        rw [HO.out.1.1] at hql
        exact HLI.out q x (by omega) hq


/-- The format that a call names. -/
def fmtV (fs : List ByteArray) : ByteArray := fs.head?.getD tp
theorem format_ok (k cl n a : Int) (A : Option Addr) (len cap : Nat) (fs : List ByteArray) (w : World) (h : StrsAt w A len fs) (hl : len ≤ 1000) : Calls Try.prog 30 #[.agg #[.int .i64 k, .int .i64 cl, .int .i64 n, .int .i64 a, .slice A len cap]] w fun e w' => e = .returned (.string (fmtV fs)) ∧ Same w w' := by
  by_cases h0 : len = 0
  · subst h0
    have hf : fs = [] := List.eq_nil_of_length_eq_zero h.1
    subst hf
    go_enter Try.func30, Try.ntmps30
    go_wp2
    go_ret
    exact ⟨rfl, (Chg.refl _ _).alloc _⟩
  · obtain ⟨b, o, rfl, hb, hc⟩ := h.2 (by omega)
    obtain ⟨f, fs', rfl⟩ : ∃ f fs', fs = f :: fs' := by
      cases fs with
      | nil => have := h.1; simp at this; omega
      | cons f fs' => exact ⟨f, fs', rfl⟩
    have c0 := hc 0 f rfl
    rw [Nat.add_zero] at c0
    have hp : (0 : Int) < len := by omega
    have hp2 : 0 < len := by omega
    clear h hc h0
    go_enter Try.func30, Try.ntmps30
    go_wp2
    go_ret
    exact ⟨rfl, (Chg.refl _ _).alloc _⟩
set_option maxRecDepth 100000 in
set_option maxHeartbeats 2000000 in
theorem texts_ok (A B : Option Addr) (n ca cb : Nat) (xs : List ByteArray) (w : World) (ha : StrsAt w A n xs) (hb : StrsAt w B n xs) (hn : n ≤ 1000000) :
    Calls Try.prog 35 #[.slice A n ca, .slice B n cb] w fun e w' => e = .returned (.bool true) ∧ Same w w' := by
  have HA := Lib.hid (And.intro ha hb)
  clear ha hb
  go_enter Try.func35, Try.ntmps35
  go_wp2
  go_loopw [5] (fun v5 wr => ∃ i : Nat, i ≤ n ∧ v5 = .int .i64 i ∧ Same w wr) (fun v5 _ => n - (intOf v5).toNat)
  case atStart => exact ⟨0, by omega, rfl, Chg.refl _ _⟩
  case round =>
    obtain ⟨i, hi, rfl, hs⟩ := hrel
    have HS := Lib.hid hs
    by_cases hlt : i < n
    · have hii : (i : Int) < n := by omega
      obtain ⟨b, o, rfl, hbl, hc⟩ := HA.out.1.2 (by omega)
      obtain ⟨b2, o2, rfl, hbl2, hc2⟩ := HA.out.2.2 (by omega)
      obtain ⟨y, hy⟩ : ∃ y, xs[i]? = some y := ⟨_, List.getElem?_eq_getElem (by rw [HA.out.1.1]; exact hlt)⟩
      have c1 := hs.cell (hc i y hy) (fun q => q)
      have c2 := hs.cell (hc2 i y hy) (fun q => q)
      have l1 := Nat.lt_of_lt_of_le hbl hs.size
      have l2 := Nat.lt_of_lt_of_le hbl2 hs.size
      clear hc hc2 hy hs hbl hbl2
      go_wp2
      refine wp_still (by kernel_rfl) (by kernel_rfl) ?_
      repeat still_step
      try refine wpStill_nil ?_
      go_wp2
      go_roundw
      case rel => exact ⟨i + 1, by omega, by go_num, HS.out.drew⟩
      case measure => simp [intOf]; omega
    · have hii : ¬ (i : Int) < n := by omega
      go_wp2
      go_ret
      exact ⟨rfl, HS.out⟩
end Go.Proofs.Ytndldjopgbhphaa
