/- Slices of int, of bytes with their bounds, of pairs of bytes as arguments. -/
import Derived.Test.YtndldjopgbhphaaArgs
set_option linter.unusedVariables false
set_option linter.unusedSimpArgs false
set_option maxRecDepth 100000
namespace Go.Proofs.Ytndldjopgbhphaa
open Go.RowKit Go.ChangeShapes Go.WideShapes Go.Deep

def icell (x : Int) : List Value := [.int .i64 x]
def intIn (x : Int) : Prop := -9223372036854775808 ≤ x ∧ x ≤ 9223372036854775807
def IntsAt (w : World) (A : Option Addr) (len : Nat) (l : List Int) : Prop := RowsAt w A len 1 icell l ∧ (∀ x ∈ l, intIn x) ∧ len ≤ maxLen
theorem cellsInt : Try.prog.cellsOf 3 = 1 := by kernel_rfl
section
variable {H : Type} {enc : TypeId × Value → H} {w : World} {base : Nat} {spare : Nat → Bool} {held : Bool}
theorem open_intsA {r : Reach} {b0 : Nat} {v : Value} {d : DataW H} {p : List MemPlace} (hv : Value.okWide Try.prog w r b0 40 v) (h : DataW.Trod enc Try.prog w base spare held 40 v d p) :
    ∃ (A : Option Addr) (len cap : Nat) (l : List Int), v = .slice A len cap ∧ IntsAt w A len l :=
  open_rows icell intIn Try.underlying40 cellsInt (by omega) (fun cs' m y h => by
    obtain ⟨n, rfl, _, hw⟩ := DataW.trod_int Try.underlying3 h
    exact ⟨n, rfl, of_wf_int hw⟩) hv h
end
theorem IntsAt.at_ {w : World} {A : Option Addr} {len : Nat} {l : List Int} (h : IntsAt w A len l) {i : Nat} (hi : i < len) :
    ∃ b o x, A = some ⟨b, o, none⟩ ∧ b < w.heap.size ∧ l[i]? = some x ∧ intIn x ∧ w.cell? ⟨b, o + i, none⟩ = some (.int .i64 x) := by
  obtain ⟨b, o, hA, hb, hc⟩ := h.1.2 (by omega)
  have hx : l[i]? = some (l[i]'(by rw [h.1.1]; exact hi)) := List.getElem?_eq_getElem (by rw [h.1.1]; exact hi)
  refine ⟨b, o, _, hA, hb, hx, h.2.1 _ (List.getElem_mem _), ?_⟩
  have := hc i _ hx 0 _ rfl
  rw [Nat.mul_one] at this
  exact this
theorem IntsAt.same {w w' : World} {A : Option Addr} {len : Nat} {l : List Int} (h : IntsAt w A len l) (k : Same w w') : IntsAt w' A len l := ⟨h.1.chg k (fun _ _ q => q), h.2⟩
def ucell (x : Int) : List Value := [.int .u8 x]
def u8In (x : Int) : Prop := 0 ≤ x ∧ x ≤ 255
def U8sAt (w : World) (A : Option Addr) (len : Nat) (l : List Int) : Prop := RowsAt w A len 1 ucell l ∧ (∀ x ∈ l, u8In x) ∧ len ≤ maxLen
theorem cellsU8A : Try.prog.cellsOf 5 = 1 := by kernel_rfl
section
variable {H : Type} {enc : TypeId × Value → H} {w : World} {base : Nat} {spare : Nat → Bool} {held : Bool}
theorem open_u8s {r : Reach} {b0 : Nat} {v : Value} {d : DataW H} {p : List MemPlace} (hv : Value.okWide Try.prog w r b0 22 v) (h : DataW.Trod enc Try.prog w base spare held 22 v d p) :
    ∃ (A : Option Addr) (len cap : Nat) (l : List Int), v = .slice A len cap ∧ U8sAt w A len l :=
  open_rows ucell u8In Try.underlying22 cellsU8A (by omega) (fun cs' m y h => by
    obtain ⟨n, rfl, _, hw⟩ := DataW.trod_int Try.underlying5 h
    exact ⟨n, rfl, of_wf_u8 hw⟩) hv h
end
theorem U8sAt.at_ {w : World} {A : Option Addr} {len : Nat} {l : List Int} (h : U8sAt w A len l) {i : Nat} (hi : i < len) :
    ∃ b o x, A = some ⟨b, o, none⟩ ∧ b < w.heap.size ∧ l[i]? = some x ∧ u8In x ∧ w.cell? ⟨b, o + i, none⟩ = some (.int .u8 x) := by
  obtain ⟨b, o, hA, hb, hc⟩ := h.1.2 (by omega)
  have hx : l[i]? = some (l[i]'(by rw [h.1.1]; exact hi)) := List.getElem?_eq_getElem (by rw [h.1.1]; exact hi)
  refine ⟨b, o, _, hA, hb, hx, h.2.1 _ (List.getElem_mem _), ?_⟩
  have := hc i _ hx 0 _ rfl
  rw [Nat.mul_one] at this
  exact this
theorem U8sAt.same {w w' : World} {A : Option Addr} {len : Nat} {l : List Int} (h : U8sAt w A len l) (k : Same w w') : U8sAt w' A len l := ⟨h.1.chg k (fun _ _ q => q), h.2⟩
def pcell (x : Int × Int) : List Value := [.int .u8 x.1, .int .u8 x.2]
def pairIn (x : Int × Int) : Prop := u8In x.1 ∧ u8In x.2
def PairsAt (w : World) (A : Option Addr) (len : Nat) (l : List (Int × Int)) : Prop := RowsAt w A len 2 pcell l ∧ (∀ x ∈ l, pairIn x) ∧ len ≤ maxLen
theorem cellsPair : Try.prog.cellsOf 31 = 2 := by kernel_rfl
section
variable {H : Type} {enc : TypeId × Value → H} {w : World} {base : Nat} {spare : Nat → Bool} {held : Bool}
theorem conv_pair (cs' : List Value) (m : Nat) (y : DataW H × List MemPlace) (h : DataW.trod enc Try.prog w base spare held m 31 cs' = some y) : ∃ x : Int × Int, cs' = pcell x ∧ pairIn x := by
  obtain ⟨xs, m', _, _, hl, hxs, hi⟩ := DataW.trod_array Try.underlying31 h
  rw [cellsPair] at hl
  rw [cellsU8A] at hi
  have h0 := hi 0 (by omega)
  have h1 := hi 1 (by omega)
  match cs', hl with
  | [u0, u1], _ =>
    simp only [Nat.zero_mul, List.drop_zero, List.take_succ_cons, List.take_zero, Nat.one_mul, List.drop_succ_cons] at h0 h1
    rw [List.getElem?_eq_getElem (by omega)] at h0 h1
    obtain ⟨a, ha, _, wa⟩ := DataW.trod_int Try.underlying5 h0
    obtain ⟨b, hb, _, wb⟩ := DataW.trod_int Try.underlying5 h1
    simp only [List.cons.injEq, and_true] at ha hb
    subst ha hb
    exact ⟨(a, b), rfl, of_wf_u8 wa, of_wf_u8 wb⟩
theorem open_pairs {r : Reach} {b0 : Nat} {v : Value} {d : DataW H} {p : List MemPlace} (hv : Value.okWide Try.prog w r b0 23 v) (h : DataW.Trod enc Try.prog w base spare held 23 v d p) :
    ∃ (A : Option Addr) (len cap : Nat) (l : List (Int × Int)), v = .slice A len cap ∧ PairsAt w A len l :=
  open_rows pcell pairIn Try.underlying23 cellsPair (by omega) conv_pair hv h
end
theorem PairsAt.at_ {w : World} {A : Option Addr} {len : Nat} {l : List (Int × Int)} (h : PairsAt w A len l) {i : Nat} (hi : i < len) :
    ∃ b o x y, A = some ⟨b, o, none⟩ ∧ b < w.heap.size ∧ l[i]? = some (x, y) ∧ u8In x ∧ u8In y ∧ w.cell? ⟨b, o + i * 2, none⟩ = some (.int .u8 x) ∧ w.cell? ⟨b, o + i * 2 + 1, none⟩ = some (.int .u8 y) := by
  obtain ⟨b, o, hA, hb, hc⟩ := h.1.2 (by omega)
  have hx : l[i]? = some (l[i]'(by rw [h.1.1]; exact hi)) := List.getElem?_eq_getElem (by rw [h.1.1]; exact hi)
  have hp := h.2.1 _ (List.getElem_mem (by rw [h.1.1]; exact hi))
  exact ⟨b, o, _, _, hA, hb, hx, hp.1, hp.2, hc i _ hx 0 _ rfl, hc i _ hx 1 _ rfl⟩
theorem PairsAt.same {w w' : World} {A : Option Addr} {len : Nat} {l : List (Int × Int)} (h : PairsAt w A len l) (k : Same w w') : PairsAt w' A len l := ⟨h.1.chg k (fun _ _ q => q), h.2⟩
end Go.Proofs.Ytndldjopgbhphaa
