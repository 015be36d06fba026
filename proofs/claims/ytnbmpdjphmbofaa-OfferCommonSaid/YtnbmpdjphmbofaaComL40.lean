/- What Common gives, in plain Lean: the same formats in both orders, each once; idempotent; its head is what Choose returns. -/
import Derived.Test.YtnbmpdjphmbofaaUCom40
set_option linter.unusedVariables false
set_option linter.unusedSimpArgs false
set_option maxRecDepth 100000
namespace Go.Proofs.Ytnbmpdjphmbofaa
open Go.RowKit

theorem has_iff {xs : List ByteArray} {x : ByteArray} : hasS xs x = true ↔ x ∈ xs := by
  unfold hasS
  rw [List.any_eq_true]
  constructor
  · rintro ⟨y, hy, h⟩
    have := of_decide_eq_true h
    rw [this]; exact hy
  · exact fun h => ⟨x, h, decide_eq_true rfl⟩
theorem has_no {xs : List ByteArray} {x : ByteArray} : hasS xs x = false ↔ x ∉ xs := by
  rw [← Bool.not_eq_true, has_iff]
theorem comStep_mem (gs out : List ByteArray) (f x : ByteArray) : x ∈ comStep gs out f ↔ x ∈ out ∨ (x = f ∧ f ∈ gs) := by
  unfold comStep
  cases h1 : hasS gs f
  · have := has_no.1 h1
    simp
    rintro rfl h; exact absurd h this
  · have g1 := has_iff.1 h1
    cases h2 : hasS out f
    · simp [g1]
    · have g2 := has_iff.1 h2
      simp
      rintro rfl _; exact g2
theorem comFrom_mem (gs : List ByteArray) (x : ByteArray) : ∀ (fs out : List ByteArray), x ∈ comFrom gs out fs ↔ x ∈ out ∨ (x ∈ fs ∧ x ∈ gs)
  | [], out => by simp [comFrom]
  | f :: fs, out => by
    rw [comFrom_cons, comFrom_mem gs x fs, comStep_mem]
    constructor
    · rintro ((h | ⟨rfl, h⟩) | ⟨h1, h2⟩)
      · exact .inl h
      · exact .inr ⟨List.mem_cons_self, h⟩
      · exact .inr ⟨List.mem_cons_of_mem _ h1, h2⟩
    · rintro (h | ⟨h1, h2⟩)
      · exact .inl (.inl h)
      · rcases List.mem_cons.1 h1 with rfl | h3
        · exact .inl (.inr ⟨rfl, h2⟩)
        · exact .inr ⟨h3, h2⟩
theorem com_mem {fs gs : List ByteArray} {x : ByteArray} : x ∈ comV fs gs ↔ x ∈ fs ∧ x ∈ gs := by
  unfold comV
  rw [comFrom_mem]
  simp
theorem comStep_nodup (gs out : List ByteArray) (f : ByteArray) (h : out.Nodup) : (comStep gs out f).Nodup := by
  unfold comStep
  split
  · rename_i hc
    rw [Bool.and_eq_true] at hc
    have h2 : hasS out f = false := by simpa using hc.2
    rw [List.nodup_append]
    refine ⟨h, by simp, fun a ha b hb => ?_⟩
    have : b = f := by simpa using hb
    rintro rfl
    exact has_no.1 h2 (this ▸ ha)
  · exact h
theorem comFrom_nodup (gs : List ByteArray) : ∀ (fs out : List ByteArray), out.Nodup → (comFrom gs out fs).Nodup
  | [], out, h => h
  | f :: fs, out, h => by rw [comFrom_cons]; exact comFrom_nodup gs fs _ (comStep_nodup gs out f h)
theorem com_nodup (fs gs : List ByteArray) : (comV fs gs).Nodup := comFrom_nodup gs fs [] List.nodup_nil
theorem nodup_le : ∀ (l m : List ByteArray), l.Nodup → (∀ x ∈ l, x ∈ m) → l.length ≤ m.length
  | [], m, _, _ => by simp
  | a :: l, m, h, hs => by
    have ha := hs a List.mem_cons_self
    have h2 := List.nodup_cons.1 h
    have h3 := nodup_le l (m.filter fun y => !decide (y = a)) h2.2 (fun x hx => List.mem_filter.2 ⟨hs x (List.mem_cons_of_mem _ hx), by
      have : ¬ x = a := fun e => h2.1 (by rw [← e]; exact hx)
      simp [this]⟩)
    have h4 : (m.filter fun y => !decide (y = a)).length < m.length := List.length_filter_lt_length_iff_exists.2 ⟨a, ha, by simp⟩
    rw [List.length_cons]
    omega
theorem com_len (fs gs : List ByteArray) : (comV fs gs).length = (comV gs fs).length :=
  Nat.le_antisymm (nodup_le _ _ (com_nodup fs gs) (fun x hx => com_mem.2 (com_mem.1 hx).symm)) (nodup_le _ _ (com_nodup gs fs) (fun x hx => com_mem.2 (com_mem.1 hx).symm))
theorem comFrom_all (gs : List ByteArray) : ∀ (l out : List ByteArray), (out ++ l).Nodup → (∀ x ∈ l, x ∈ gs) → comFrom gs out l = out ++ l
  | [], out, _, _ => by simp [comFrom]
  | f :: l, out, h, hs => by
    have hf := hs f List.mem_cons_self
    have ho : f ∉ out := fun q => (List.nodup_append.1 h).2.2 f q f List.mem_cons_self rfl
    have e : comStep gs out f = out ++ [f] := by unfold comStep; rw [has_iff.2 hf, has_no.2 ho]; rfl
    rw [comFrom_cons, e, comFrom_all gs l (out ++ [f]) (by simpa using h) (fun x hx => hs x (List.mem_cons_of_mem _ hx))]
    simp
theorem com_self (fs gs : List ByteArray) : comV (comV fs gs) (comV fs gs) = comV fs gs := by
  unfold comV
  exact comFrom_all _ _ [] (com_nodup fs gs) (fun x hx => hx)
theorem com_again (fs gs : List ByteArray) : comV (comV fs gs) gs = comV fs gs := by
  show comFrom gs [] (comV fs gs) = _
  exact comFrom_all _ _ [] (com_nodup fs gs) (fun x hx => (com_mem.1 hx).2)
theorem comFrom_head (gs : List ByteArray) : ∀ (fs out : List ByteArray) (a : ByteArray) (o : List ByteArray), out = a :: o → ∃ o', comFrom gs out fs = a :: o'
  | [], out, a, o, h => ⟨o, h⟩
  | f :: fs, out, a, o, h => by
    rw [comFrom_cons]
    have : ∃ o', comStep gs out f = a :: o' := by
      unfold comStep
      split
      · exact ⟨o ++ [f], by rw [h]; rfl⟩
      · exact ⟨o, h⟩
    obtain ⟨o', e⟩ := this
    exact comFrom_head gs fs _ a o' e
/-- Choose's answer is the head of Common's formats. -/
theorem com_choose (gs : List ByteArray) : ∀ fs : List ByteArray, chooseV gs fs = match (comV fs gs) with | x :: _ => (x, true) | [] => (ByteArray.empty, false)
  | [] => rfl
  | f :: fs => by
    rw [choose_cons]
    show _ = match comFrom gs [] (f :: fs) with | x :: _ => (x, true) | [] => (ByteArray.empty, false)
    rw [comFrom_cons]
    cases h : hasS gs f
    · have e : comStep gs [] f = [] := by unfold comStep; rw [h]; rfl
      rw [e]
      exact com_choose gs fs
    · have e : comStep gs [] f = [f] := by unfold comStep; rw [h]; rfl
      rw [e]
      obtain ⟨o', e2⟩ := comFrom_head gs fs [f] f [] rfl
      rw [e2]
      rfl
theorem ofInt_wrap (n : Int) : BitVec.ofInt 64 (IntKind.i64.wrap n) = BitVec.ofInt 64 n := by
  apply BitVec.eq_of_toNat_eq
  rw [BitVec.toNat_ofInt, BitVec.toNat_ofInt]
  have h : IntKind.i64.wrap n = n % 18446744073709551616 ∨ IntKind.i64.wrap n = n % 18446744073709551616 - 18446744073709551616 := by
    unfold IntKind.wrap
    dsimp only
    split
    · exact .inr rfl
    · exact .inl rfl
  rcases h with h | h <;> rw [h] <;> omega
theorem ofInt_bits (s t : Int) : BitVec.ofInt 64 (bits BinOp.and IntKind.i64 s t) = BitVec.ofInt 64 s &&& BitVec.ofInt 64 t := by
  have e : bits BinOp.and IntKind.i64 s t = IntKind.i64.wrap ((BitVec.ofInt 64 s &&& BitVec.ofInt 64 t).toNat : Int) := rfl
  rw [e, ofInt_wrap, BitVec.ofInt_natCast, BitVec.ofNat_toNat, BitVec.setWidth_eq]
theorem common_form (s t : Int) : commonV s t = IntKind.i64.wrap ((BitVec.ofInt 64 s &&& BitVec.ofInt 64 t &&& BitVec.ofInt 64 7).toNat : Int) := by
  have e : commonV s t = IntKind.i64.wrap ((BitVec.ofInt 64 (bits BinOp.and IntKind.i64 s t) &&& BitVec.ofInt 64 7).toNat : Int) := rfl
  rw [e, ofInt_bits]
theorem ofInt_common (s t : Int) : BitVec.ofInt 64 (commonV s t) = BitVec.ofInt 64 s &&& BitVec.ofInt 64 t &&& BitVec.ofInt 64 7 := by
  rw [common_form, ofInt_wrap, BitVec.ofInt_natCast, BitVec.ofNat_toNat, BitVec.setWidth_eq]
theorem and_idem (X Y Z : BitVec 64) : X &&& Y &&& Z &&& (X &&& Y &&& Z) &&& Z = X &&& Y &&& Z := by
  ext i hi
  simp only [BitVec.getElem_and]
  cases X[i] <;> cases Y[i] <;> cases Z[i] <;> rfl
theorem and_again (X Y Z : BitVec 64) : X &&& Y &&& Z &&& Y &&& Z = X &&& Y &&& Z := by
  ext i hi
  simp only [BitVec.getElem_and]
  cases X[i] <;> cases Y[i] <;> cases Z[i] <;> rfl
theorem common_self (s t : Int) : commonV (commonV s t) (commonV s t) = commonV s t := by
  rw [common_form (commonV s t), ofInt_common, and_idem, ← common_form]
theorem common_again (s t : Int) : commonV (commonV s t) t = commonV s t := by
  rw [common_form (commonV s t), ofInt_common, and_again, ← common_form]
theorem bits_comm (s t : Int) : bits BinOp.and IntKind.i64 s t = bits BinOp.and IntKind.i64 t s := by
  unfold bits
  dsimp only
  rw [BitVec.and_comm]
theorem common_comm (s t : Int) : commonV s t = commonV t s := by unfold commonV; rw [bits_comm s t]
end Go.Proofs.Ytnbmpdjphmbofaa
