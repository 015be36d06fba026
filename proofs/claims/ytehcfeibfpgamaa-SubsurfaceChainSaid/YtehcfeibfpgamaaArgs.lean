/- Arguments opened to cells: slices of structs, structs by value; whatever their number of fields. -/
import Derived.Test.YtehcfeibfpgamaaBase
import Derived.ProofKit
import Derived.OpenShut
import Derived.ShutString
import Derived.ChangeOld
import Derived.SizedLaws
import Derived.Deep.Slices
import Derived.Deep.Fields
import Derived.ChangeSame
set_option linter.unusedVariables false
set_option linter.unusedSimpArgs false
set_option maxRecDepth 100000
namespace Go.Proofs.Ytehcfeibfpgamaa
open Go.RowKit Go.ChangeShapes Go.WideShapes Go.Deep

section
variable {H : Type} {enc : TypeId × Value → H} {P : Program} {w : World} {base : Nat} {spare : Nat → Bool} {held : Bool}

/-- A struct of one-cell fields, field by field. -/
theorem fields_one {t : TypeId} {fs : Array Field} {fuel : Nat} {cs : List Value} {x : DataW H × List MemPlace} (ht : P.underlying t = some (.struct fs)) (hone : oneCellFields P fs = true) (hC : P.cellsOf t = fs.size)
    (h : DataW.trod enc P w base spare held fuel t cs = some x) :
    cs.length = fs.size ∧ ∀ (j : Nat) (f : Field), fs[j]? = some f → ∃ (v : Value) (y : DataW H × List MemPlace) (n : Nat), cs[j]? = some v ∧ DataW.trod enc P w base spare held n f.type [v] = some y := by
  obtain ⟨ys, n', hn', hy, hlen, hyl, hf⟩ := DataW.trod_struct ht h
  rw [hC] at hlen
  refine ⟨hlen, fun j f hj => ?_⟩
  obtain ⟨ho, hk⟩ := hone_of hone j f hj
  have hjl : j < fs.size := (Array.getElem?_eq_some_iff.1 hj).1
  have h1 := hf j f hj
  rw [ho, hk] at h1
  have hone' : (cs.drop j).take 1 = [cs[j]'(by omega)] := by
    rw [List.drop_eq_getElem_cons (by omega)]
    rfl
  rw [hone'] at h1
  have hys : ys[j]? = some (ys[j]'(by omega)) := List.getElem?_eq_getElem (by omega)
  exact ⟨cs[j]'(by omega), _, n', List.getElem?_eq_getElem (by omega), h1.trans hys⟩

/-- A slice of len elements of n cells each that reads as l. -/
def RowsAt {α : Type} (w : World) (A : Option Addr) (len n : Nat) (f : α → List Value) (l : List α) : Prop :=
  l.length = len ∧ (0 < len → ∃ b o, A = some ⟨b, o, none⟩ ∧ b < w.heap.size ∧ ∀ i x, l[i]? = some x → ∀ j v, (f x)[j]? = some v → w.cell? ⟨b, o + i * n + j, none⟩ = some v)

theorem RowsAt.chg {α : Type} {S : Nat → Prop} {w w' : World} {A : Option Addr} {len n : Nat} {f : α → List Value} {l : List α} (h : RowsAt w A len n f l) (k : Chg S w w') (hs : ∀ b, b < w.heap.size → ¬ S b) : RowsAt w' A len n f l := by
  refine ⟨h.1, fun hl => ?_⟩
  obtain ⟨b, o, hA, hb, hc⟩ := h.2 hl
  exact ⟨b, o, hA, Nat.lt_of_lt_of_le hb k.size, fun i x hx j v hv => k.cell (hc i x hx j v hv) (hs b hb)⟩

theorem open_rows {α : Type} {t e : TypeId} {n : Nat} (f : α → List Value) (ok : α → Prop) {r : Reach} {b0 : Nat} {v : Value} {d : DataW H} {p : List MemPlace} (ht : P.underlying t = some (.slice e)) (hn : P.cellsOf e = n) (hn0 : 0 < n)
    (conv : ∀ cs' m y, DataW.trod enc P w base spare held m e cs' = some y → ∃ x : α, cs' = f x ∧ ok x)
    (hv : Value.okWide P w r b0 t v) (h : DataW.Trod enc P w base spare held t v d p) :
    ∃ (A : Option Addr) (len cap : Nat) (l : List α), v = .slice A len cap ∧ RowsAt w A len n f l ∧ (∀ x ∈ l, ok x) ∧ len ≤ maxLen := by
  obtain ⟨a0, len0, cap0, rfl⟩ := okWide_slice ht hv
  obtain ⟨fuel, hf⟩ := h
  rcases open_slice ht hf with ⟨hcs, hx⟩ | ⟨a, len, cap, m, k, D, Pl, hcs, hb, hl, hm, hmm, hx, hi⟩
  · simp [Value.cells] at hcs
    obtain ⟨rfl, rfl, rfl⟩ := hcs
    exact ⟨_, _, _, [], rfl, ⟨rfl, fun h => absurd h (by omega)⟩, fun x hx => by simp at hx, by unfold maxLen; omega⟩
  · simp [Value.cells] at hcs
    obtain ⟨rfl, rfl, rfl⟩ := hcs
    have hml : len0 ≤ m := by rw [hmm]; split <;> omega
    have hall : ∀ i, i < len0 → ∃ x : α, ok x ∧ w.cells? base (a.add (i * n)) n = some (f x) := by
      intro i hil
      obtain ⟨cs', hc, ht'⟩ := hi i (by omega)
      rw [hn] at hc
      obtain ⟨x, rfl, hok⟩ := conv cs' _ _ ht'
      exact ⟨x, hok, hc⟩
    by_cases h0 : len0 = 0
    · subst h0
      exact ⟨_, _, _, [], rfl, ⟨rfl, fun h => absurd h (by omega)⟩, fun x hx => by simp at hx, by unfold maxLen; omega⟩
    · obtain ⟨x0, _, _⟩ := hall 0 (by omega)
      haveI : Inhabited α := ⟨x0⟩
      obtain ⟨g, hg⟩ := choose_lt hall
      have hsp : a.spot = none := by
        obtain ⟨_, hlen, hat⟩ := World.cells?_some (hg 0 (by omega)).2
        have := hat 0 hn0
        have e : (a.add (0 * n)).add 0 = a := by simp [Addr.add]
        rw [e] at this
        have hsome : (f (g 0))[0]? = some ((f (g 0))[0]'(by omega)) := List.getElem?_eq_getElem (by omega)
        rw [hsome] at this
        unfold World.cell? at this
        split at this
        · split at this
          · cases this
          · rename_i hsn; simpa using hsn
        · cases this
      obtain ⟨b, o, s⟩ := a
      simp only at hsp
      subst hsp
      refine ⟨_, _, _, (List.range len0).map g, rfl, ⟨by simp, fun _ => ⟨b, o, rfl, ?_, ?_⟩⟩, ?_, by omega⟩
      · obtain ⟨_, hlen, hat⟩ := World.cells?_some (hg 0 (by omega)).2
        have := hat 0 hn0
        have e : ((⟨b, o, none⟩ : Addr).add (0 * n)).add 0 = ⟨b, o, none⟩ := by simp [Addr.add]
        rw [e] at this
        have hsome : (f (g 0))[0]? = some ((f (g 0))[0]'(by omega)) := List.getElem?_eq_getElem (by omega)
        rw [hsome] at this
        exact World.block_lt_of_cell? w _ this
      · intro i x hx j v hv
        have hil : i < len0 := by
          have := (List.getElem?_eq_some_iff.1 hx).1
          simpa using this
        have hxe : x = g i := by
          rw [List.getElem?_map, List.getElem?_range hil] at hx
          simpa using hx.symm
        subst hxe
        obtain ⟨_, hlen, hat⟩ := World.cells?_some (hg i hil).2
        have hj : j < n := by
          have := (List.getElem?_eq_some_iff.1 hv).1
          omega
        have := hat j hj
        rw [add_plain, add_plain] at this
        rw [this, hv]
      · intro x hx
        simp at hx
        obtain ⟨i, hil, rfl⟩ := hx
        exact (hg i hil).1
end
end Go.Proofs.Ytehcfeibfpgamaa
