/- Parts of the walk, packed: Chk, SArg, OffB, Own. -/
import Derived.Test.YteolilggeaffaaaPk04
import Derived.SliceStrings
set_option linter.unusedVariables false
set_option linter.unusedSimpArgs false
set_option maxRecDepth 100000
namespace Go.Proofs.Yteolilggeaffaaa
open Go.RowKit

theorem StrsAt.chg {S : Nat → Prop} {w w' : World} {A : Option Addr} {n : Nat} {xs : List ByteArray} (h : StrsAt w A n xs) (k : Chg S w w') (hs : ∀ b o, A = some ⟨b, o, none⟩ → ¬ S b) : StrsAt w' A n xs := by
  refine ⟨h.1, fun hn => ?_⟩
  obtain ⟨b, o, hA, hb, hc⟩ := h.2 hn
  exact ⟨b, o, hA, Nat.lt_of_lt_of_le hb k.size, fun j x hx => k.cell (hc j x hx) (fun hS => hs b o hA hS)⟩
theorem StrsAt.same {w w' : World} {A : Option Addr} {n : Nat} {xs : List ByteArray} (h : StrsAt w A n xs) (k : Same w w') : StrsAt w' A n xs := h.chg k (fun _ _ _ q => q)
theorem StrsAt.take {w : World} {A : Option Addr} {n : Nat} {xs : List ByteArray} (h : StrsAt w A n xs) {i : Nat} (hi : i ≤ n) : StrsAt w A i (xs.take i) := by
  refine ⟨by rw [List.length_take, h.1]; omega, fun hp => ?_⟩
  obtain ⟨b, o, hA, hb, hc⟩ := h.2 (by omega)
  refine ⟨b, o, hA, hb, fun j x hx => hc j x ?_⟩
  rw [List.getElem?_take] at hx
  split at hx
  · exact hx
  · simp at hx

/-- Some earlier one is equal to the i-th. -/
def dupAt (fs : List ByteArray) (i : Nat) : Bool := hasS (fs.take i) (fs.getD i ByteArray.empty)
def dupS (fs : List ByteArray) : Bool := (List.range fs.length).any (dupAt fs)
/-- offer.Check. -/
def checkV (fs : List ByteArray) (acts : Int) : Int :=
  if 16 < fs.length then 5 else if fs.any (fun f => !validB f) then 3 else if dupS fs then 7 else if acts < 0 ∨ 7 < acts then 2 else 0
theorem check_limit {fs : List ByteArray} {acts : Int} (h : 16 < fs.length) : checkV fs acts = 5 := if_pos h
theorem check_syntax {fs : List ByteArray} {acts : Int} {i : Nat} {x : ByteArray} (h : ¬ 16 < fs.length) (hx : fs[i]? = some x) (hv : validB x = false) : checkV fs acts = 3 := by
  unfold checkV
  rw [if_neg h, if_pos]
  exact List.any_eq_true.2 ⟨x, List.mem_of_getElem? hx, by rw [hv]; rfl⟩
theorem none_bad {fs : List ByteArray} (h : ∀ (j : Nat) x, fs[j]? = some x → validB x = true) : fs.any (fun f => !validB f) = false := by
  rw [List.any_eq_false]
  intro x hx
  obtain ⟨j, hj⟩ := List.getElem?_of_mem hx
  rw [h j x hj]
  decide
theorem check_dup {fs : List ByteArray} {acts : Int} {i : Nat} (h : ¬ 16 < fs.length) (ha : ∀ (j : Nat) x, fs[j]? = some x → validB x = true) (hi : i < fs.length) (hd : dupAt fs i = true) : checkV fs acts = 7 := by
  unfold checkV
  rw [if_neg h, none_bad ha, if_neg (by decide), if_pos]
  exact List.any_eq_true.2 ⟨i, List.mem_range.2 hi, hd⟩
theorem check_end {fs : List ByteArray} {acts : Int} (h : ¬ 16 < fs.length) (ha : ∀ (j : Nat) x, fs[j]? = some x → validB x = true) (hd : ∀ j, j < fs.length → dupAt fs j = false) : checkV fs acts = if acts < 0 ∨ 7 < acts then 2 else 0 := by
  unfold checkV
  rw [if_neg h, none_bad ha, if_neg (by decide), if_neg]
  intro hc
  obtain ⟨i, hi, he⟩ := List.any_eq_true.1 hc
  rw [hd i (List.mem_range.1 hi)] at he
  cases he

set_option maxRecDepth 100000 in
set_option maxHeartbeats 4000000 in
theorem ocheck_ok (A : Option Addr) (n cap : Nat) (fs : List ByteArray) (acts : Int) (w : World) (h : StrsAt w A n fs) (hc : n ≤ cap) (hm : cap ≤ maxLen) :
    Calls Try.prog 58 #[.agg #[.slice A n cap, .int .i64 acts]] w fun e w' => e = .returned (.int .i64 (checkV fs acts)) ∧ Same w w' := by
  have hl := h.1
  have HA := Lib.hid (h.same ((Chg.refl (fun _ => False) w).alloc (.cells #[.slice A n cap, .int .i64 acts] 74)))
  have hcap : cap ≤ 9223372036854775807 := by unfold maxLen at hm; exact hm
  clear hm h
  by_cases h16 : 16 < n
  · have HE := Lib.hid (check_limit (acts := acts) (show 16 < fs.length by omega))
    have h16' : (16 : Int) < n := by omega
    go_enter Try.func58, Try.ntmps58
    go_wp2
    go_ret
    exact ⟨by rw [HE.out]; rfl, (Chg.refl (fun _ => False) w).alloc _⟩
  · have h16' : ¬ (16 : Int) < n := by omega
    have H16 := Lib.hid (show ¬ 16 < fs.length by omega)
    have HL := Lib.hid hl
    clear hl
    go_enter Try.func58, Try.ntmps58
    go_wp2
    go_loop [14] (fun v14 => ∃ i : Nat, i ≤ n ∧ v14 = .int .i64 i ∧ ∀ (j : Nat) x, j < i → fs[j]? = some x → validB x = true) (fun v14 => n - (intOf v14).toNat)
    case atStart => exact ⟨0, by omega, rfl, fun j _ hj => by omega⟩
    case round =>
      obtain ⟨i, hi, rfl, hf⟩ := hrel
      have HF := Lib.hid hf
      clear hf
      by_cases hlt : i < n
      · have hil : i < fs.length := by rw [HL.out]; exact hlt
        obtain ⟨b, o, rfl, hbl, hc⟩ := HA.out.2 (by omega)
        obtain ⟨y, hy⟩ : ∃ y, y = fs[i] := ⟨_, rfl⟩
        have hy2 : fs[i]? = some y := by rw [hy]; exact List.getElem?_eq_getElem hil
        have hcell := hc i y hy2
        have HY := Lib.hid hy2
        have hii : (i : Int) < n := by omega
        clear hc hy hy2 hbl hil
        cases hb : validB y
        · have HB := Lib.hid hb
          go_wp2_with fail
          refine (valid_ok y _).mono ?_
          rw [hb]
          rintro e w' ⟨rfl, rfl⟩
          go_wp2
          go_ret
          exact ⟨by rw [check_syntax H16.out HY.out HB.out]; rfl, (Chg.refl (fun _ => False) w).alloc _⟩
        · have HB := Lib.hid hb
          go_wp2_with fail
          refine (valid_ok y _).mono ?_
          rw [hb]
          rintro e w' ⟨rfl, rfl⟩
          go_wp2
          go_round
          case rel =>
            refine ⟨i + 1, by omega, by go_num, fun j x hj hx => ?_⟩
            by_cases hji : j = i
            · subst hji
              rw [HY.out] at hx
              cases hx
              exact HB.out
            · exact HF.out j x (by omega) hx
          case measure => simp [intOf]; omega
      · have hie : i = n := by omega
        have hlt' : ¬ (i : Int) < n := by omega
        have HV := Lib.hid (show ∀ (j : Nat) x, fs[j]? = some x → validB x = true from fun j x hx => HF.out j x (by rw [hie, ← HL.out]; exact (List.getElem?_eq_some_iff.1 hx).1) hx)
        clear HF hie
        go_wp2
        go_loop [25] (fun v25 => ∃ i : Nat, i ≤ n ∧ v25 = .int .i64 i ∧ ∀ j, j < i → dupAt fs j = false) (fun v25 => n - (intOf v25).toNat)
        case atStart => exact ⟨0, by omega, rfl, fun j hj => by omega⟩
        case round =>
          obtain ⟨i, hi, rfl, hf⟩ := hrel
          have HF := Lib.hid hf
          clear hf
          by_cases hlt : i < n
          · have hil : i < fs.length := by rw [HL.out]; exact hlt
            have HT := Lib.hid (HA.out.take hi)
            obtain ⟨b, o, rfl, hbl, hc⟩ := HA.out.2 (by omega)
            obtain ⟨y, hy⟩ : ∃ y, y = fs[i] := ⟨_, rfl⟩
            have hy2 : fs[i]? = some y := by rw [hy]; exact List.getElem?_eq_getElem hil
            have hcell := hc i y hy2
            have hdd : dupAt fs i = hasS (fs.take i) y := by unfold dupAt; rw [List.getD_eq_getElem?_getD, hy2]; rfl
            have HY := Lib.hid hdd
            have HIL := Lib.hid hil
            have hii : (i : Int) < n := by omega
            have hic : (i : Int) ≤ cap := by omega
            clear hc hy hy2 hbl hil hdd
            cases hb : hasS (fs.take i) y
            · have HB := Lib.hid hb
              go_wp2_with fail
              refine (containsStrs_ok _ i cap (fs.take i) y _ HT.out (by omega)).mono ?_
              rw [hb]
              rintro e w' ⟨rfl, rfl⟩
              go_wp2
              go_round
              case rel =>
                refine ⟨i + 1, by omega, by go_num, fun j hj => ?_⟩
                by_cases hji : j = i
                · rw [hji, HY.out, HB.out]
                · exact HF.out j (by omega)
              case measure => simp [intOf]; omega
            · have HB := Lib.hid hb
              go_wp2_with fail
              refine (containsStrs_ok _ i cap (fs.take i) y _ HT.out (by omega)).mono ?_
              rw [hb]
              rintro e w' ⟨rfl, rfl⟩
              go_wp2
              go_ret
              exact ⟨by rw [check_dup H16.out HV.out HIL.out (HY.out.trans HB.out)]; rfl, (Chg.refl (fun _ => False) w).alloc _⟩
          · have hie : i = n := by omega
            have hlt' : ¬ (i : Int) < n := by omega
            have HE := Lib.hid (check_end (acts := acts) H16.out HV.out (fun j hj => HF.out j (by rw [hie, ← HL.out]; exact hj)))
            clear HF hie
            by_cases h0 : acts < 0
            · go_wp2
              go_ret
              exact ⟨by rw [HE.out, if_pos (.inl h0)]; rfl, (Chg.refl (fun _ => False) w).alloc _⟩
            · by_cases h7 : 7 < acts
              · go_wp2
                go_ret
                exact ⟨by rw [HE.out, if_pos (.inr h7)]; rfl, (Chg.refl (fun _ => False) w).alloc _⟩
              · go_wp2
                go_ret
                exact ⟨by rw [HE.out, if_neg (by omega)]; rfl, (Chg.refl (fun _ => False) w).alloc _⟩
end Go.Proofs.Yteolilggeaffaaa

namespace Go.Proofs.Yteolilggeaffaaa
open Go.RowKit Go.ChangeShapes Go.WideShapes Go.Deep

def SArg (w : World) (A : Option Addr) (len cap : Nat) (fs : List ByteArray) : Prop := StrsAt w A len fs ∧ len ≤ cap ∧ cap ≤ maxLen
section
variable {H : Type} {enc : TypeId × Value → H} {w : World} {base : Nat} {spare : Nat → Bool} {held : Bool}
theorem cellsStr : Try.prog.cellsOf 9 = 1 := by kernel_rfl
theorem open_strsT {fuel : Nat} {v : Value} {x : DataW H × List MemPlace} (h : DataW.trod enc Try.prog w base spare held fuel 22 [v] = some x) :
    ∃ (A : Option Addr) (len cap : Nat) (xs : List ByteArray), v = .slice A len cap ∧ SArg w A len cap xs := by
  rcases open_strings Try.underlying22 Try.underlying9 cellsStr h with ⟨hcs, _⟩ | ⟨a, len, cap, zs, hcs, _, hl, hm, hzl, _, hc, _⟩
  · simp only [List.cons.injEq, and_true] at hcs
    exact ⟨none, 0, 0, [], hcs, ⟨rfl, fun h => absurd h (by omega)⟩, Nat.le_refl _, by unfold maxLen; omega⟩
  · simp only [List.cons.injEq, and_true] at hcs
    have hll : len ≤ zs.length := by rw [hzl]; split <;> omega
    refine ⟨some a, len, cap, zs.take len, hcs, ⟨by rw [List.length_take]; omega, fun hn => ?_⟩, hl, hm⟩
    have hsp : a.spot = none := by
      have := hc 0 (by omega)
      rw [show a.add 0 = a by simp [Addr.add]] at this
      unfold World.cell? at this
      split at this
      · split at this
        · cases this
        · rename_i hsn; simpa using hsn
      · cases this
    obtain ⟨b, o, s⟩ := a
    simp only at hsp
    subst hsp
    refine ⟨b, o, rfl, ?_, fun j x hj => ?_⟩
    · have := hc 0 (by omega)
      rw [add_plain] at this
      exact World.block_lt_of_cell? w _ this
    · have hjl : j < len := by have := (List.getElem?_eq_some_iff.1 hj).1; rw [List.length_take] at this; omega
      have := hc j (by omega)
      rw [add_plain] at this
      rw [this]
      rw [List.getElem?_take, if_pos hjl] at hj
      rw [List.getD_eq_getElem?_getD, hj]
      rfl
theorem open_strs {r : Reach} {b0 : Nat} {v : Value} {d : DataW H} {p : List MemPlace} (hv : Value.okWide Try.prog w r b0 22 v) (h : DataW.Trod enc Try.prog w base spare held 22 v d p) :
    ∃ (A : Option Addr) (len cap : Nat) (xs : List ByteArray), v = .slice A len cap ∧ SArg w A len cap xs := by
  obtain ⟨a0, len0, cap0, rfl⟩ := okWide_slice Try.underlying22 hv
  obtain ⟨fuel, hf⟩ := h
  exact open_strsT hf
end
end Go.Proofs.Yteolilggeaffaaa

namespace Go.Proofs.Yteolilggeaffaaa
open Go.RowKit

theorem valid_v (s : ByteArray) (b : Bool) (w : World) (h : validB s = b) : Calls Try.prog 78 #[.string s] w fun e w' => e = .returned (.bool b) ∧ w = w' := by
  subst h
  exact valid_ok s w
theorem ocheck_v (v : Int) (A : Option Addr) (n cap : Nat) (fs : List ByteArray) (acts : Int) (w : World) (h : StrsAt w A n fs) (hc : n ≤ cap) (hm : cap ≤ maxLen) (hv : checkV fs acts = v) :
    Calls Try.prog 58 #[.agg #[.slice A n cap, .int .i64 acts]] w fun e w' => e = .returned (.int .i64 v) ∧ Same w w' := by
  subst hv
  exact ocheck_ok A n cap fs acts w h hc hm
theorem strs_new (w : World) (T : TypeId) (F : Nat × Nat) (n : Nat) (xs : List ByteArray) (C : Array Value) (hC : C = (xs.map Value.string).toArray) (hn : xs.length = n) (k : Nat) (hk : k = w.heap.size) : StrsAt (w.alloc (.cells C T F)) (some ⟨k, 0, none⟩) n xs := by
  subst hC hk
  refine ⟨hn, fun _ => ⟨w.heap.size, 0, rfl, by simp, fun j x hj => ?_⟩⟩
  rw [cell_of_row _ _ _ _ _ _ (at_new w _), Nat.zero_add]
  simp [hj]
theorem StrsAt.alloc {w : World} {A : Option Addr} {n : Nat} {xs : List ByteArray} (h : StrsAt w A n xs) (o : Obj) : StrsAt (w.alloc o) A n xs := h.same ((Chg.refl (fun _ => False) w).alloc o)
end Go.Proofs.Yteolilggeaffaaa

namespace Go.Proofs.Yteolilggeaffaaa
open Go.RowKit

structure Own (R R' : Nat → Prop) (w w' : World) : Prop where
  chg : Chg R w w'
  new : ∀ x, R' x → R x ∨ w.heap.size ≤ x
section
variable {R R' R'' S : Nat → Prop} {u v w : World}
theorem Own.refl (R : Nat → Prop) (w : World) : Own R R w w := ⟨Chg.refl _ _, fun _ h => .inl h⟩
theorem Own.trans (h : Own R R' u v) (k : Own R' R'' v w) : Own R R'' u w :=
  ⟨h.chg.then_ k.chg (fun i hi q => (h.new i q).resolve_right (by omega)), fun x hx => by
    rcases k.new x hx with q | q
    · exact h.new x q
    · exact .inr (by have := h.chg.size; omega)⟩
theorem Own.same (h : Own R R' u v) (k : Same v w) : Own R R' u w :=
  ⟨h.chg.then_ k (fun _ _ q => q.elim), h.new⟩
theorem Own.of_same (h : Same u v) (hn : ∀ x, R' x → R x ∨ u.heap.size ≤ x) : Own R R' u v := ⟨Chg.of_same h, hn⟩
theorem Own.size (h : Own R R' u v) : u.heap.size ≤ v.heap.size := h.chg.size
theorem Own.same_of (h : Own R R' u v) (w0 : World) (hs : Same w0 u) (hf : ∀ x, R x → w0.heap.size ≤ x) : Same w0 v :=
  hs.then_ h.chg (fun i hi q => by have := hf i q; omega)
theorem Own.base {B : Nat} (h : Own R R' u v) (hf : ∀ x, R x → B ≤ x) (hB : B ≤ u.heap.size) : ∀ x, R' x → B ≤ x := fun x hx => by
  rcases h.new x hx with q | q
  · exact hf x q
  · omega
theorem Own.not {k : Nat} (h : Own R R' u v) (hk : k < u.heap.size) (hn : ¬ R k) : ¬ R' k := fun q => by
  rcases h.new k q with q | q
  · exact hn q
  · omega
end

theorem Chg.set1 {S : Nat → Prop} {u v : World} (h : Chg S u v) (b i : Nat) (x : Value) (hb : S b) : Chg S u (v.setCell ⟨b, i, none⟩ x) := h.setCell _ _ (fun _ => hb)
theorem Chg.set2 {S : Nat → Prop} {u v : World} (h : Chg S u v) (b i j : Nat) (x y : Value) (hb : S b) : Chg S u ((v.setCell ⟨b, i, none⟩ x).setCell ⟨b, j, none⟩ y) := (h.set1 b i x hb).set1 b j y hb
theorem StrsAt.chg2 {S : Nat → Prop} {w w' : World} {A : Option Addr} {n : Nat} {xs : List ByteArray} (h : StrsAt w A n xs) (k : Chg S w w') (hs : 0 < n → ∀ b o, A = some ⟨b, o, none⟩ → ¬ S b) : StrsAt w' A n xs := by
  refine ⟨h.1, fun hn => ?_⟩
  obtain ⟨b, o, hA, hb, hc⟩ := h.2 hn
  exact ⟨b, o, hA, Nat.lt_of_lt_of_le hb k.size, fun j x hx => k.cell (hc j x hx) (fun hS => hs hn b o hA hS)⟩
theorem SArg.chg2 {S : Nat → Prop} {w w' : World} {A : Option Addr} {n cap : Nat} {xs : List ByteArray} (h : SArg w A n cap xs) (k : Chg S w w') (hs : 0 < n → ∀ b o, A = some ⟨b, o, none⟩ → ¬ S b) : SArg w' A n cap xs := ⟨h.1.chg2 k hs, h.2⟩
theorem SArg.same {w w' : World} {A : Option Addr} {n cap : Nat} {xs : List ByteArray} (h : SArg w A n cap xs) (k : Same w w') : SArg w' A n cap xs := ⟨h.1.same k, h.2⟩
theorem SArg.nil (w : World) : SArg w none 0 0 [] := ⟨⟨rfl, fun h => absurd h (by omega)⟩, by omega, by unfold maxLen; omega⟩
/-- What lies in w keeps lying there under a change of blocks that are new since w. -/
theorem StrsAt.old {S : Nat → Prop} {w w' : World} {A : Option Addr} {n : Nat} {xs : List ByteArray} (h : StrsAt w A n xs) (k : Chg S w w') (hs : ∀ b, b < w.heap.size → ¬ S b) : StrsAt w' A n xs :=
  h.chg2 k (fun hn b o hA => by
    obtain ⟨b', o', hA', hb, _⟩ := h.2 hn
    rw [hA] at hA'
    cases hA'
    exact hs b hb)
end Go.Proofs.Yteolilggeaffaaa
