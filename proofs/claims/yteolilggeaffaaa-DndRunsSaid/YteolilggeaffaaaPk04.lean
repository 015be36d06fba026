/- Parts of the walk, packed: Args, Form, ContS. -/
import Derived.Test.YteolilggeaffaaaPk00
import Derived.ProofKit
import Derived.OpenShut
import Derived.ShutString
import Derived.ChangeOld
import Derived.SizedLaws
import Derived.Deep.Slices
import Derived.Deep.Fields
import Derived.ChangeSame
import Derived.WalkMore
import Derived.Deep.LoopGhost
set_option linter.unusedVariables false
set_option linter.unusedSimpArgs false
set_option maxRecDepth 100000
namespace Go.Proofs.Yteolilggeaffaaa
open Go.RowKit Go.ChangeShapes Go.WideShapes Go.Deep

section
variable {H : Type} {enc : TypeId × Value → H} {P : Program} {w : World} {base : Nat} {spare : Nat → Bool} {held : Bool}

/-- A struct of one-cell fields, field by field. -/
theorem fields_one {t : TypeId} {fs : Array Field} {fuel : Nat} {cs : List Value} {x : DataW H × List MemPlace} (ht : P.underlying t = some (.struct fs)) (hone : oneCellFields P fs = true) (hC : P.cellsOf t = fs.size)
    (h : DataW.trod enc P w base spare held fuel t cs = some x) :
    cs.length = fs.size ∧ ∀ (j : Nat) (f : Field), fs[j]? = some f → ∃ (v : Value) (y : DataW H × List MemPlace) (n : Nat), cs[j]? = some v ∧ DataW.trod enc P w base spare held n f.type [v] = some y := by
  obtain ⟨ys, n', hn', hy, hlen, hyl, hf⟩ := DataW.trod_struct ht h
  rw [hC] at hlen
  refine ⟨hlen, fun j f hj => ?_⟩
  obtain ⟨ho, hk⟩ := hone_of hone j f hj
  have hjl : j < fs.size := (Array.getElem?_eq_some_iff.1 hj).1
  have h1 := hf j f hj
  rw [ho, hk] at h1
  have hone' : (cs.drop j).take 1 = [cs[j]'(by omega)] := by
    rw [List.drop_eq_getElem_cons (by omega)]
    rfl
  rw [hone'] at h1
  have hys : ys[j]? = some (ys[j]'(by omega)) := List.getElem?_eq_getElem (by omega)
  exact ⟨cs[j]'(by omega), _, n', List.getElem?_eq_getElem (by omega), h1.trans hys⟩

/-- A slice of len elements of n cells each that reads as l. -/
def RowsAt {α : Type} (w : World) (A : Option Addr) (len n : Nat) (f : α → List Value) (l : List α) : Prop :=
  l.length = len ∧ (0 < len → ∃ b o, A = some ⟨b, o, none⟩ ∧ b < w.heap.size ∧ ∀ i x, l[i]? = some x → ∀ j v, (f x)[j]? = some v → w.cell? ⟨b, o + i * n + j, none⟩ = some v)

theorem RowsAt.chg {α : Type} {S : Nat → Prop} {w w' : World} {A : Option Addr} {len n : Nat} {f : α → List Value} {l : List α} (h : RowsAt w A len n f l) (k : Chg S w w') (hs : ∀ b, b < w.heap.size → ¬ S b) : RowsAt w' A len n f l := by
  refine ⟨h.1, fun hl => ?_⟩
  obtain ⟨b, o, hA, hb, hc⟩ := h.2 hl
  exact ⟨b, o, hA, Nat.lt_of_lt_of_le hb k.size, fun i x hx j v hv => k.cell (hc i x hx j v hv) (hs b hb)⟩

theorem open_rows {α : Type} {t e : TypeId} {n : Nat} (f : α → List Value) (ok : α → Prop) {r : Reach} {b0 : Nat} {v : Value} {d : DataW H} {p : List MemPlace} (ht : P.underlying t = some (.slice e)) (hn : P.cellsOf e = n) (hn0 : 0 < n)
    (conv : ∀ cs' m y, DataW.trod enc P w base spare held m e cs' = some y → ∃ x : α, cs' = f x ∧ ok x)
    (hv : Value.okWide P w r b0 t v) (h : DataW.Trod enc P w base spare held t v d p) :
    ∃ (A : Option Addr) (len cap : Nat) (l : List α), v = .slice A len cap ∧ RowsAt w A len n f l ∧ (∀ x ∈ l, ok x) ∧ len ≤ maxLen := by
  obtain ⟨a0, len0, cap0, rfl⟩ := okWide_slice ht hv
  obtain ⟨fuel, hf⟩ := h
  rcases open_slice ht hf with ⟨hcs, hx⟩ | ⟨a, len, cap, m, k, D, Pl, hcs, hb, hl, hm, hmm, hx, hi⟩
  · simp [Value.cells] at hcs
    obtain ⟨rfl, rfl, rfl⟩ := hcs
    exact ⟨_, _, _, [], rfl, ⟨rfl, fun h => absurd h (by omega)⟩, fun x hx => by simp at hx, by unfold maxLen; omega⟩
  · simp [Value.cells] at hcs
    obtain ⟨rfl, rfl, rfl⟩ := hcs
    have hml : len0 ≤ m := by rw [hmm]; split <;> omega
    have hall : ∀ i, i < len0 → ∃ x : α, ok x ∧ w.cells? base (a.add (i * n)) n = some (f x) := by
      intro i hil
      obtain ⟨cs', hc, ht'⟩ := hi i (by omega)
      rw [hn] at hc
      obtain ⟨x, rfl, hok⟩ := conv cs' _ _ ht'
      exact ⟨x, hok, hc⟩
    by_cases h0 : len0 = 0
    · subst h0
      exact ⟨_, _, _, [], rfl, ⟨rfl, fun h => absurd h (by omega)⟩, fun x hx => by simp at hx, by unfold maxLen; omega⟩
    · obtain ⟨x0, _, _⟩ := hall 0 (by omega)
      haveI : Inhabited α := ⟨x0⟩
      obtain ⟨g, hg⟩ := choose_lt hall
      have hsp : a.spot = none := by
        obtain ⟨_, hlen, hat⟩ := World.cells?_some (hg 0 (by omega)).2
        have := hat 0 hn0
        have e : (a.add (0 * n)).add 0 = a := by simp [Addr.add]
        rw [e] at this
        have hsome : (f (g 0))[0]? = some ((f (g 0))[0]'(by omega)) := List.getElem?_eq_getElem (by omega)
        rw [hsome] at this
        unfold World.cell? at this
        split at this
        · split at this
          · cases this
          · rename_i hsn; simpa using hsn
        · cases this
      obtain ⟨b, o, s⟩ := a
      simp only at hsp
      subst hsp
      refine ⟨_, _, _, (List.range len0).map g, rfl, ⟨by simp, fun _ => ⟨b, o, rfl, ?_, ?_⟩⟩, ?_, by omega⟩
      · obtain ⟨_, hlen, hat⟩ := World.cells?_some (hg 0 (by omega)).2
        have := hat 0 hn0
        have e : ((⟨b, o, none⟩ : Addr).add (0 * n)).add 0 = ⟨b, o, none⟩ := by simp [Addr.add]
        rw [e] at this
        have hsome : (f (g 0))[0]? = some ((f (g 0))[0]'(by omega)) := List.getElem?_eq_getElem (by omega)
        rw [hsome] at this
        exact World.block_lt_of_cell? w _ this
      · intro i x hx j v hv
        have hil : i < len0 := by
          have := (List.getElem?_eq_some_iff.1 hx).1
          simpa using this
        have hxe : x = g i := by
          rw [List.getElem?_map, List.getElem?_range hil] at hx
          simpa using hx.symm
        subst hxe
        obtain ⟨_, hlen, hat⟩ := World.cells?_some (hg i hil).2
        have hj : j < n := by
          have := (List.getElem?_eq_some_iff.1 hv).1
          omega
        have := hat j hj
        rw [add_plain, add_plain] at this
        rw [this, hv]
      · intro x hx
        simp at hx
        obtain ⟨i, hil, rfl⟩ := hx
        exact (hg i hil).1
end
end Go.Proofs.Yteolilggeaffaaa

namespace Go.Proofs.Yteolilggeaffaaa
open Go.RowKit

/-- The bytes of a string as numbers. -/
def strB (s : ByteArray) : List Int := s.data.toList.map fun b => (b.toNat : Int)
theorem strB_length (s : ByteArray) : (strB s).length = s.size := by simp [strB]
theorem run_at {s : ByteArray} {i : Nat} {x : Int} (h : (strB s)[i]? = some x) (w : World) : (Instr.index 9 (.string s) (.int .i64 i)).run Try.prog w = .ok (.int .u8 x) w := by
  have hi : i < s.size := by rw [← strB_length]; exact (List.getElem?_eq_some_iff.1 h).1
  rw [run_index_string w _ s .i64 i Try.underlying9, dif_pos ⟨by omega, by omega⟩]
  unfold strB at h
  rw [List.getElem?_map, List.getElem?_eq_getElem (by simpa using hi)] at h
  simp only [Option.map_some, Option.some.injEq] at h
  rw [← h]
  rfl

/-- offer.letter. -/
def letterB (c : Int) : Bool := decide (97 ≤ c ∧ c ≤ 122) || decide (48 ≤ c ∧ c ≤ 57) || decide (c = 43) || decide (c = 45) || decide (c = 46)
set_option maxRecDepth 100000 in
theorem letter_ok (c : Int) (w : World) : Calls Try.prog 88 #[.int .u8 c] w fun e w' => e = .returned (.bool (letterB c)) ∧ w = w' := by
  have fin : ∀ b : Bool, letterB c = b → Calls Try.prog 88 #[.int .u8 c] w (fun e w' => e = .returned (.bool b) ∧ w = w') → Calls Try.prog 88 #[.int .u8 c] w fun e w' => e = .returned (.bool (letterB c)) ∧ w = w' := by
    intro b hb h; rw [hb]; exact h
  have fact : ∀ b1 b2 b3 b4 b5 b6 b7 : Bool, decide (97 ≤ c) = b1 → decide (c ≤ 122) = b2 → decide (48 ≤ c) = b3 → decide (c ≤ 57) = b4 → (c == 43) = b5 → (c == 45) = b6 → (c == 46) = b7 → letterB c = (b1 && b2 || b3 && b4 || b5 || b6 || b7) := by
    rintro _ _ _ _ _ _ _ rfl rfl rfl rfl rfl rfl rfl
    unfold letterB
    simp [Bool.beq_eq_decide_eq]
  by_cases h1 : 97 ≤ c
  · by_cases h2 : c ≤ 122
    · refine fin true (by unfold letterB; simp; omega) ?_
      clear fin fact
      go_enter Try.func88, Try.ntmps88
      go_wp2
      go_ret
      exact ⟨rfl, rfl⟩
    · refine fin false (by unfold letterB; simp; omega) ?_
      clear fin fact
      have h3 : 48 ≤ c := by omega
      have h4 : ¬ c ≤ 57 := by omega
      have h5 : (c == 43) = false := by simp; omega
      have h6 : (c == 45) = false := by simp; omega
      have h7 : (c == 46) = false := by simp; omega
      go_enter Try.func88, Try.ntmps88
      go_wp2
      go_ret
      exact ⟨rfl, rfl⟩
  · by_cases h3 : 48 ≤ c
    · by_cases h4 : c ≤ 57
      · refine fin true (by unfold letterB; simp; omega) ?_
        clear fin fact
        go_enter Try.func88, Try.ntmps88
        go_wp2
        go_ret
        exact ⟨rfl, rfl⟩
      · refine fin false (by unfold letterB; simp; omega) ?_
        clear fin fact
        have h5 : (c == 43) = false := by simp; omega
        have h6 : (c == 45) = false := by simp; omega
        have h7 : (c == 46) = false := by simp; omega
        go_enter Try.func88, Try.ntmps88
        go_wp2
        go_ret
        exact ⟨rfl, rfl⟩
    · by_cases h5 : c = 43
      · subst h5
        refine fin true (by decide) ?_
        clear fin fact
        go_enter Try.func88, Try.ntmps88
        go_wp2
        go_ret
        exact ⟨rfl, rfl⟩
      by_cases h6 : c = 45
      · subst h6
        refine fin true (by decide) ?_
        clear fin fact
        go_enter Try.func88, Try.ntmps88
        go_wp2
        go_ret
        exact ⟨rfl, rfl⟩
      by_cases h7 : c = 46
      · subst h7
        refine fin true (by decide) ?_
        clear fin fact
        go_enter Try.func88, Try.ntmps88
        go_wp2
        go_ret
        exact ⟨rfl, rfl⟩
      refine fin false (by unfold letterB; simp; omega) ?_
      clear fin fact
      have h5' : (c == 43) = false := by simp; omega
      have h6' : (c == 45) = false := by simp; omega
      have h7' : (c == 46) = false := by simp; omega
      go_enter Try.func88, Try.ntmps88
      go_wp2
      go_ret
      exact ⟨rfl, rfl⟩

/-- offer.ValidFormat from a place on: the separator expected, the length of the word, the separators so far. -/
def vfB : List Int → Int → Int → Int → Bool
  | [], e, l, s => decide (0 < s) && (e == 59) && decide (0 < l)
  | c :: cs, e, l, s => if letterB c then vfB cs e (l + 1) s else if c != e || l == 0 then false else vfB cs (if e == 59 then 61 else 59) 0 (s + 1)
def validB (s : ByteArray) : Bool := decide (s.size ≤ 64) && vfB (strB s) 47 0 0

set_option maxRecDepth 100000 in
set_option maxHeartbeats 2000000 in
theorem valid_ok (s : ByteArray) (w : World) : Calls Try.prog 78 #[.string s] w fun e w' => e = .returned (.bool (validB s)) ∧ w = w' := by
  by_cases hs : s.size ≤ 64
  · have hv : validB s = vfB (strB s) 47 0 0 := by unfold validB; rw [decide_eq_true hs]; rfl
    have HV := Lib.hid hv
    have hs2 : ¬ (64 : Int) < s.size := by omega
    have HL := Lib.hid (strB_length s)
    clear hv
    go_enter Try.func78, Try.ntmps78
    go_wp2
    go_step3
    go_wp2
    go_step3
    go_wp2
    go_loop [3, 4, 5, 6, 12] (fun v3 v4 v5 v6 v12 => ∃ (i : Nat) (e l sp : Int), i ≤ s.size ∧ 0 ≤ e ∧ e ≤ 255 ∧ 0 ≤ l ∧ l ≤ i ∧ 0 ≤ sp ∧ sp ≤ i ∧ v3 = .int .u8 e ∧ v4 = .int .i64 l ∧ v5 = .int .i64 sp ∧ v12 = .int .i64 i ∧ vfB (strB s) 47 0 0 = vfB ((strB s).drop i) e l sp) (fun v3 v4 v5 v6 v12 => s.size - (intOf v12).toNat)
    case atStart => exact ⟨0, 47, 0, 0, by omega, by omega, by omega, by omega, by omega, by omega, by omega, rfl, rfl, rfl, rfl, rfl⟩
    case round =>
      obtain ⟨i, e, l, sp, hi, he0, he1, hl0, hl1, hp0, hp1, rfl, rfl, rfl, rfl, hf⟩ := hrel
      have HF := Lib.hid hf
      clear hf
      by_cases hlt : i < s.size
      · have hii : (i : Int) < s.size := by omega
        have hx : (strB s)[i]? = some ((strB s)[i]'(by rw [HL.out]; exact hlt)) := List.getElem?_eq_getElem (by rw [HL.out]; exact hlt)
        have hd : (strB s).drop i = (strB s)[i]'(by rw [HL.out]; exact hlt) :: (strB s).drop (i + 1) := List.drop_eq_getElem_cons (by rw [HL.out]; exact hlt)
        generalize (strB s)[i]'(by rw [HL.out]; exact hlt) = x at hx hd
        have hrun := run_at hx w
        have HD := Lib.hid hd
        clear hx hd
        cases hb : letterB x
        · have HB := Lib.hid hb
          by_cases hne : (x != e) = true
          · have HN := Lib.hid hne
            go_wp2_with (go_at_call 88; refine (letter_ok x _).mono ?_; rintro e w' ⟨rfl, rfl⟩; try rw [hb])
            try rw [Exit.noGoto_ret]
            go_ret
            refine ⟨?_, rfl⟩
            rw [HV.out, HF.out, HD.out]
            unfold vfB
            rw [HB.out, HN.out]
            rfl
          · have hxe : x = e := by simpa using hne
            subst hxe
            clear hne
            by_cases hlz : l = 0
            · subst hlz
              go_wp2_with (go_at_call 88; refine (letter_ok x _).mono ?_; rintro e w' ⟨rfl, rfl⟩; try rw [hb])
              try rw [Exit.noGoto_ret]
              go_ret
              refine ⟨?_, rfl⟩
              rw [HV.out, HF.out, HD.out]
              unfold vfB
              rw [HB.out]
              simp
            · have hlz' : (l == 0) = false := by simpa using hlz
              by_cases h59 : x = 59
              · subst h59
                go_wp2_with (go_at_call 88; refine (letter_ok 59 _).mono ?_; rintro e w' ⟨rfl, rfl⟩; try rw [hb])
                go_round
                case rel => exact ⟨i + 1, 61, 0, sp + 1, by omega, by omega, by omega, by omega, by omega, by omega, by omega, rfl, rfl, by go_num, by go_num, by rw [HF.out, HD.out, vfB, HB.out, hlz']; rfl⟩
                case measure => simp [intOf]; omega
              · have h59' : (x == 59) = false := by simpa using h59
                go_wp2_with (go_at_call 88; refine (letter_ok x _).mono ?_; rintro e w' ⟨rfl, rfl⟩; try rw [hb])
                go_round
                case rel => exact ⟨i + 1, 59, 0, sp + 1, by omega, by omega, by omega, by omega, by omega, by omega, by omega, rfl, rfl, by go_num, by go_num, by rw [HF.out, HD.out, vfB, HB.out, hlz']; simp [h59']⟩
                case measure => simp [intOf]; omega
        · have HB := Lib.hid hb
          go_wp2_with (go_at_call 88; refine (letter_ok x _).mono ?_; rintro e w' ⟨rfl, rfl⟩; try rw [hb])
          go_round
          case rel => exact ⟨i + 1, e, l + 1, sp, by omega, by omega, by omega, by omega, by omega, by omega, by omega, rfl, by go_num, rfl, by go_num, by rw [HF.out, HD.out, vfB, HB.out]; rfl⟩
          case measure => simp [intOf]; omega
      · have hie : i = s.size := by omega
        have hlt' : ¬ (i : Int) < s.size := by omega
        have HI := Lib.hid hie
        clear hie
        have HR := Lib.hid (show vfB (strB s) 47 0 0 = (decide (0 < sp) && (e == 59) && decide (0 < l)) by rw [HF.out, HI.out, ← HL.out, List.drop_length]; rfl)
        by_cases hp : 0 < sp
        · by_cases h59 : e = 59
          · subst h59
            go_wp2
            try rw [Exit.noGoto_ret]
            go_ret
            refine ⟨?_, rfl⟩
            rw [HV.out, HR.out, decide_eq_true hp]
            rfl
          · have h59' : (e == 59) = false := by simpa using h59
            go_wp2
            try rw [Exit.noGoto_ret]
            go_ret
            refine ⟨?_, rfl⟩
            rw [HV.out, HR.out, h59']
            simp
        · go_wp2
          try rw [Exit.noGoto_ret]
          go_ret
          refine ⟨?_, rfl⟩
          have e0 : decide (0 < sp) = false := decide_eq_false (by omega)
          rw [HV.out, HR.out, e0, Bool.false_and, Bool.false_and]
          rfl
  · have hv : validB s = false := by unfold validB; rw [decide_eq_false hs]; rfl
    have HV := Lib.hid hv
    have hs2 : (64 : Int) < s.size := by omega
    clear hv
    go_enter Try.func78, Try.ntmps78
    go_wp2
    go_step3
    go_wp2
    try rw [Exit.noGoto_ret]
    go_ret
    exact ⟨by rw [HV.out]; rfl, rfl⟩
end Go.Proofs.Yteolilggeaffaaa

namespace Go.Proofs.Yteolilggeaffaaa
open Go.RowKit

def hasS (xs : List ByteArray) (x : ByteArray) : Bool := xs.any fun a => decide (x = a)
theorem toList_ne {x y : ByteArray} (h : ¬ x = y) : (x.toList == y.toList) = false := by
  rw [beq_eq_false_iff_ne]
  intro e
  apply h
  rw [ByteArray.toList_eq, ByteArray.toList_eq] at e
  cases x
  cases y
  congr
  exact Array.toList_inj.1 e

/-! ### at []string -/
/-- A slice of strings that is read. -/
def StrsAt (w : World) (A : Option Addr) (n : Nat) (xs : List ByteArray) : Prop := xs.length = n ∧ (0 < n → ∃ b o, A = some ⟨b, o, none⟩ ∧ b < w.heap.size ∧ ∀ j x, xs[j]? = some x → w.cell? ⟨b, o + j, none⟩ = some (.string x))
def idxStrs (xs : List ByteArray) (x : ByteArray) : Int := match xs.findIdx? (fun a => decide (x = a)) with | some i => (i : Int) | none => -1
theorem idxStrs_has (xs : List ByteArray) (x : ByteArray) : decide (0 ≤ idxStrs xs x) = hasS xs x := by
  unfold idxStrs
  cases h : xs.findIdx? (fun a => decide (x = a)) with
  | none =>
    rw [List.findIdx?_eq_none_iff] at h
    have : hasS xs x = false := by
      unfold hasS
      rw [List.any_eq_false]
      intro a ha
      have := h a ha
      simpa using this
    rw [this]
    decide
  | some i =>
    obtain ⟨hi, hb, _⟩ := List.findIdx?_eq_some_iff_getElem.1 h
    have : hasS xs x = true := List.any_eq_true.2 ⟨xs[i], List.getElem_mem hi, hb⟩
    rw [this]
    simp only [decide_eq_true_eq]
    omega
/-- None of the first i is x. -/
def noneStrs (xs : List ByteArray) (x : ByteArray) (i : Nat) : Prop := ∀ j (h : j < xs.length), j < i → decide (x = xs[j]) = false
theorem idxStrs_at {xs : List ByteArray} {x : ByteArray} {i : Nat} (hi : i < xs.length) (h : noneStrs xs x i) (he : decide (x = xs[i]) = true) : idxStrs xs x = i := by
  unfold idxStrs
  rw [show xs.findIdx? (fun a => decide (x = a)) = some i from List.findIdx?_eq_some_iff_getElem.2 ⟨hi, he, fun j hj => by simpa using h j (by omega) hj⟩]
theorem idxStrs_none {xs : List ByteArray} {x : ByteArray} (h : noneStrs xs x xs.length) : idxStrs xs x = -1 := by
  unfold idxStrs
  rw [show xs.findIdx? (fun a => decide (x = a)) = none from List.findIdx?_eq_none_iff.2 (fun a ha => by
    obtain ⟨j, hj, rfl⟩ := List.getElem_of_mem ha
    exact h j hj hj)]
theorem noneStrs_succ {xs : List ByteArray} {x : ByteArray} {i : Nat} (h : noneStrs xs x i) (hi : i < xs.length) (he : decide (x = xs[i]) = false) : noneStrs xs x (i + 1) := by
  intro j hj hji
  by_cases e : j = i
  · subst e; exact he
  · exact h j hj (by omega)
theorem indexStrs_ok (A : Option Addr) (n cap : Nat) (xs : List ByteArray) (x : ByteArray) (w : World) (h : StrsAt w A n xs) (hn : n ≤ 1000000) :
    Calls Try.prog 66 #[.slice A n cap, .string x] w fun e w' => e = .returned (.int .i64 (idxStrs xs x)) ∧ w = w' := by
  have HA := Lib.hid h
  clear h
  go_enter Try.func66, Try.ntmps66
  go_wp2
  go_loop [8] (fun v8 => ∃ i : Nat, i ≤ n ∧ v8 = .int .i64 i ∧ noneStrs xs x i) (fun v8 => n - (intOf v8).toNat)
  case atStart => exact ⟨0, by omega, rfl, fun j _ hj => by omega⟩
  case round =>
    obtain ⟨i, hi, rfl, hf⟩ := hrel
    have HF := Lib.hid hf
    clear hf
    by_cases hlt : i < n
    · have hil : i < xs.length := by rw [HA.out.1]; exact hlt
      obtain ⟨b, o, rfl, hbl, hc⟩ := HA.out.2 (by omega)
      obtain ⟨y, hy⟩ : ∃ y, y = xs[i] := ⟨_, rfl⟩
      have hcell := hc i y (by rw [hy]; exact List.getElem?_eq_getElem hil)
      have HY := Lib.hid hy
      have hii : (i : Int) < n := by omega
      have HIL := Lib.hid hil
      clear hc hy
      by_cases hb : x = y
      · subst hb
        go_wp2
        go_ret
        exact ⟨by rw [idxStrs_at HIL.out HF.out (by rw [← HY.out]; exact decide_eq_true rfl)]; rfl, rfl⟩
      · have hb' : decide (x = y) = false := decide_eq_false hb
        have hne := toList_ne hb
        have HB := Lib.hid hb'
        clear hb
        go_wp2
        go_round
        case rel => exact ⟨i + 1, by omega, by go_num, noneStrs_succ HF.out HIL.out (by rw [← HY.out]; exact HB.out)⟩
        case measure => simp [intOf]; omega
    · have hie : i = n := by omega
      have hlt' : ¬ (i : Int) < n := by omega
      have HI := Lib.hid hie
      clear hie
      go_wp2
      go_ret
      refine ⟨?_, rfl⟩
      have := HF.out
      rw [HI.out, ← HA.out.1] at this
      rw [idxStrs_none this]
      rfl
theorem containsStrs_ok (A : Option Addr) (n cap : Nat) (xs : List ByteArray) (x : ByteArray) (w : World) (h : StrsAt w A n xs) (hn : n ≤ 1000000) :
    Calls Try.prog 41 #[.slice A n cap, .string x] w fun e w' => e = .returned (.bool (hasS xs x)) ∧ w = w' := by
  have HI := Lib.hid (indexStrs_ok A n cap xs x w h hn)
  rw [← idxStrs_has]
  clear h
  go_enter Try.func41, Try.ntmps41
  go_wp2_with fail
  refine HI.out.mono ?_
  rintro e w' ⟨rfl, rfl⟩
  go_wp2
  go_ret
  exact ⟨rfl, rfl⟩
end Go.Proofs.Yteolilggeaffaaa
