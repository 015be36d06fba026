/- The plain side of the serial log: entries, the log's state, what each call makes of it. No program. -/
import Derived.Test.YtndldjopgbhphaaBase
set_option linter.unusedVariables false
set_option linter.unusedSimpArgs false
set_option maxRecDepth 100000
namespace Go.Proofs.Ytndldjopgbhphaa
open Go.RowKit

/-! ### Lists of equal pieces laid end to end -/
theorem flat_length {α : Type} (f : α → List Value) (n : Nat) (hf : ∀ x, (f x).length = n) (l : List α) : (l.flatMap f).length = l.length * n := by
  induction l with
  | nil => simp
  | cons x l ih => simp [List.flatMap_cons, hf, ih, Nat.add_mul, Nat.add_comm]
theorem flat_get {α : Type} (f : α → List Value) (n : Nat) (hf : ∀ x, (f x).length = n) (l : List α) (i j : Nat) (x : α) (hx : l[i]? = some x) (hj : j < n) : (l.flatMap f)[i * n + j]? = (f x)[j]? := by
  induction l generalizing i with
  | nil => simp at hx
  | cons y l ih =>
    cases i with
    | zero =>
      simp at hx; subst hx
      rw [List.flatMap_cons, List.getElem?_append_left (by rw [hf]; omega)]; simp
    | succ i =>
      simp at hx
      rw [List.flatMap_cons, List.getElem?_append_right (by rw [hf, Nat.add_mul]; omega), hf, ← ih i hx]
      congr 1; rw [Nat.add_mul]; omega
theorem flat_take {α : Type} (f : α → List Value) (n : Nat) (hf : ∀ x, (f x).length = n) (l : List α) (i : Nat) (x : α) (hx : l[i]? = some x) : ((l.flatMap f).drop (i * n)).take n = f x := by
  induction l generalizing i with
  | nil => simp at hx
  | cons y l ih =>
    cases i with
    | zero =>
      simp at hx; subst hx
      rw [List.flatMap_cons]; simp [hf]
    | succ i =>
      simp at hx
      rw [List.flatMap_cons, List.drop_append, List.drop_of_length_le (by rw [hf, Nat.add_mul]; omega), hf, List.nil_append, ← ih i hx]
      congr 2; rw [Nat.add_mul]; omega
theorem flat_set {α : Type} (f : α → List Value) (n : Nat) (hf : ∀ x, (f x).length = n) (l : List α) (i : Nat) (y : α) (hi : i < l.length) :
    (l.set i y).flatMap f = (l.flatMap f).take (i * n) ++ f y ++ (l.flatMap f).drop (i * n + n) := by
  induction l generalizing i with
  | nil => simp at hi
  | cons x l ih =>
    cases i with
    | zero => simp [List.flatMap_cons, List.drop_append, hf]
    | succ i =>
      simp at hi
      rw [List.set_cons_succ, List.flatMap_cons, List.flatMap_cons, ih i hi]
      have e1 : (i + 1) * n = n + i * n := by rw [Nat.add_mul]; omega
      rw [e1, List.take_append, List.drop_append, hf]
      rw [List.take_of_length_le (l := f x) (by rw [hf]; omega), List.drop_of_length_le (l := f x) (by rw [hf]; omega)]
      simp only [List.append_assoc, List.nil_append]
      congr 3
      · congr 1; omega
      · congr 2; omega
/-- n stores one behind the other. -/
theorem set_run (A B : List Value) (o : Nat) : ∀ (ys xs : List Value), xs.length = ys.length → A.length = o →
    (List.range ys.length).foldl (fun c j => c.set (o + j) (ys.getD j undef)) (A ++ xs ++ B) = A ++ ys ++ B := by
  intro ys
  induction ys generalizing A o with
  | nil => intro xs hx ha; simp at hx; subst hx; simp
  | cons y ys ih =>
    intro xs hx ha
    cases xs with
    | nil => simp at hx
    | cons x xs =>
      simp at hx
      rw [List.length_cons, List.range_succ_eq_map, List.foldl_cons, List.foldl_map]
      have e : (A ++ x :: xs ++ B).set (o + 0) ((y :: ys).getD 0 undef) = (A ++ [y]) ++ xs ++ B := by
        subst ha; simp [List.set_append]
      rw [e]
      have := ih (A ++ [y]) (o + 1) xs hx (by simp [ha])
      simp only [List.append_assoc, List.singleton_append, List.cons_append, List.nil_append] at this ⊢
      rw [← this]
      congr 1
      funext c j
      simp [Nat.add_assoc, Nat.add_comm 1 j]

/-! ### The log -/
structure Ent where
  s : Int
  c : Int
  f : Int
  k : Int
  deriving DecidableEq
def Ent.cells (e : Ent) : List Value := [.int .u32 e.s, .int .i64 e.c, .int .i64 e.f, .int .i64 e.k]
def Ent.zero : Ent := ⟨0, 0, 0, 0⟩
theorem Ent.cells_len (e : Ent) : e.cells.length = 4 := rfl
/-- An entry of a log: empty, or one that was issued. -/
def Ent.ok (e : Ent) : Prop := e = Ent.zero ∨ (1 ≤ e.s ∧ e.s ≤ 4294967295 ∧ 1 ≤ e.c ∧ e.c ≤ 9223372036854775807 ∧ 0 ≤ e.f ∧ e.f ≤ 9223372036854775807 ∧ 0 ≤ e.k ∧ e.k ≤ 62)
theorem Ent.ok.bounds {e : Ent} (h : e.ok) : 0 ≤ e.s ∧ e.s ≤ 4294967295 ∧ 0 ≤ e.c ∧ e.c ≤ 9223372036854775807 ∧ 0 ≤ e.f ∧ e.f ≤ 9223372036854775807 ∧ 0 ≤ e.k ∧ e.k ≤ 62 := by
  rcases h with rfl | h
  · simp [Ent.zero]
  · omega
structure SLog where
  last : Int
  at_ : Nat
  ents : List Ent
def SLog.new : SLog := ⟨0, 0, List.replicate 256 Ent.zero⟩
def SLog.cells (L : SLog) : List Value := .bool true :: .int .u32 L.last :: .int .i64 L.at_ :: L.ents.flatMap Ent.cells
structure SLog.ok (L : SLog) : Prop where
  len : L.ents.length = 256
  at_lt : L.at_ < 256
  last0 : 0 ≤ L.last
  last1 : L.last ≤ 4294967295
  ents : ∀ e ∈ L.ents, e.ok
def nxt (l : Int) : Int := if l = 4294967295 then 1 else l + 1
def SLog.issued (L : SLog) (c f k : Int) : SLog := ⟨nxt L.last, (L.at_ + 1) % 256, L.ents.set L.at_ ⟨nxt L.last, c, f, k⟩⟩
def good (c f k : Int) : Bool := decide (1 ≤ c) && decide (0 ≤ f) && decide (0 ≤ k) && decide (k ≤ 62)
def SLog.issue (L : SLog) (c f k : Int) : SLog := if good c f k then L.issued c f k else L
def SLog.issueN (L : SLog) (c f k : Int) : Int := if good c f k then nxt L.last else 0

theorem nxt_bd {l : Int} (h0 : 0 ≤ l) (h1 : l ≤ 4294967295) : 1 ≤ nxt l ∧ nxt l ≤ 4294967295 := by unfold nxt; split <;> omega

theorem SLog.new_ok : SLog.new.ok := ⟨List.length_replicate, Nat.zero_lt_succ _, Int.le_refl 0, (by show (0 : Int) ≤ 4294967295; omega), fun e he => .inl (List.eq_of_mem_replicate he)⟩
theorem SLog.issued_ok {L : SLog} (h : L.ok) {c f k : Int} (hc : 1 ≤ c) (hc2 : c ≤ 9223372036854775807) (hf : 0 ≤ f) (hf2 : f ≤ 9223372036854775807) (hk : 0 ≤ k) (hk2 : k ≤ 62) : (L.issued c f k).ok := by
  have hn := nxt_bd h.last0 h.last1
  refine ⟨by simp [SLog.issued, h.len], by simp [SLog.issued]; omega, by simp [SLog.issued]; omega, by simp [SLog.issued]; omega, ?_⟩
  intro e he
  rcases List.mem_or_eq_of_mem_set he with h1 | rfl
  · exact h.ents e h1
  · exact .inr (by simp; omega)
theorem SLog.issue_ok {L : SLog} (h : L.ok) {c f k : Int} (hc2 : c ≤ 9223372036854775807) (hf2 : f ≤ 9223372036854775807) : (L.issue c f k).ok := by
  unfold SLog.issue
  split
  · rename_i hg; simp [good] at hg; exact SLog.issued_ok h (by omega) hc2 (by omega) hf2 (by omega) (by omega)
  · exact h

/-- The stores of Issue, as cells. -/
theorem SLog.cells_issued (L : SLog) (h : L.ok) (c f k : Int) (C : List Value) (hC : C = L.cells) :
    ((((((C.set 1 (.int .u32 (nxt L.last))).set (3 + L.at_ * 4) (.int .u32 (nxt L.last))).set (3 + L.at_ * 4 + 1) (.int .i64 c)).set (3 + L.at_ * 4 + 2) (.int .i64 f)).set (3 + L.at_ * 4 + 3) (.int .i64 k)).set 2 (.int .i64 ((L.at_ + 1) % 256 : Nat)))
      = (L.issued c f k).cells := by
  subst hC
  have ha : L.at_ < L.ents.length := by rw [h.len]; exact h.at_lt
  have e0 := flat_set Ent.cells 4 Ent.cells_len L.ents L.at_ ⟨nxt L.last, c, f, k⟩ ha
  have hl := flat_length Ent.cells 4 Ent.cells_len L.ents
  unfold SLog.issued SLog.cells
  simp only []
  rw [e0]
  have hs := set_run ((L.ents.flatMap Ent.cells).take (L.at_ * 4)) ((L.ents.flatMap Ent.cells).drop (L.at_ * 4 + 4)) (L.at_ * 4) (Ent.cells ⟨nxt L.last, c, f, k⟩) (((L.ents.flatMap Ent.cells).drop (L.at_ * 4)).take 4) (by simp [Ent.cells, hl]; omega) (by simp [hl]; omega)
  have ec : (L.ents.flatMap Ent.cells).take (L.at_ * 4) ++ ((L.ents.flatMap Ent.cells).drop (L.at_ * 4)).take 4 ++ (L.ents.flatMap Ent.cells).drop (L.at_ * 4 + 4) = L.ents.flatMap Ent.cells := by
    rw [← List.drop_drop, List.append_assoc, List.take_append_drop, List.take_append_drop]
  rw [ec] at hs
  simp only [Ent.cells, List.length_cons, List.length_nil, Nat.reduceAdd, List.range_succ_eq_map, List.range_zero, List.map_nil, List.map_cons, List.foldl_cons, List.foldl_nil, List.getD_cons_zero, List.getD_cons_succ, Nat.add_zero, Nat.succ_eq_add_one, Nat.zero_add] at hs
  have h3 : ∀ n, 3 + n = n + 1 + 1 + 1 := by omega
  simp only [Ent.cells] at *
  rw [← hs]
  simp [h3, Nat.add_right_comm _ 1, List.set_cons_succ, List.set_cons_zero, Nat.add_assoc]

def EntsAt (L : SLog) (i : Nat) : Ent := L.ents.getD i Ent.zero
theorem SLog.cell_ent {L : SLog} (h : L.ok) {i j : Nat} (hi : i < 256) (hj : j < 4) : L.cells[3 + i * 4 + j]? = (EntsAt L i).cells[j]? := by
  have hx : L.ents[i]? = some (EntsAt L i) := by
    unfold EntsAt
    rw [List.getD_eq_getElem?_getD]
    have : i < L.ents.length := by rw [h.len]; exact hi
    simp [this]
  have e : 3 + i * 4 + j = (i * 4 + j) + 1 + 1 + 1 := by omega
  rw [e]
  simp only [SLog.cells, List.getElem?_cons_succ]
  exact flat_get Ent.cells 4 Ent.cells_len L.ents i j _ hx hj

def SLog.flat (L : SLog) : List Value := L.ents.flatMap Ent.cells
theorem SLog.flat_len {L : SLog} (h : L.ok) : L.flat.length = 1024 := by
  unfold SLog.flat; rw [flat_length Ent.cells 4 Ent.cells_len, h.len]
theorem SLog.cells_drop (L : SLog) (h : L.ok) : (L.cells.drop 3).take 1024 = L.flat := by
  have := SLog.flat_len h
  unfold SLog.cells
  simp only [List.drop_succ_cons, List.drop_zero]
  exact List.take_of_length_le (by unfold SLog.flat at this; omega)
theorem SLog.flat_take {L : SLog} (h : L.ok) {i : Nat} (hi : i < 256) : (L.flat.drop (i * 4)).take 4 = (EntsAt L i).cells := by
  have hx : L.ents[i]? = some (EntsAt L i) := by
    unfold EntsAt
    rw [List.getD_eq_getElem?_getD]
    have : i < L.ents.length := by rw [h.len]; exact hi
    simp [this]
  exact Go.Proofs.Ytndldjopgbhphaa.flat_take Ent.cells 4 Ent.cells_len L.ents i _ hx
theorem EntsAt_mem {L : SLog} (h : L.ok) {i : Nat} (hi : i < 256) : EntsAt L i ∈ L.ents := by
  have : i < L.ents.length := by rw [h.len]; exact hi
  unfold EntsAt
  rw [List.getD_eq_getElem?_getD, List.getElem?_eq_getElem this]
  exact List.getElem_mem this
theorem EntsAt_ok {L : SLog} (h : L.ok) (i : Nat) : (EntsAt L i).ok := by
  by_cases hi : i < 256
  · exact h.ents _ (EntsAt_mem h hi)
  · unfold EntsAt
    rw [List.getD_eq_getElem?_getD, List.getElem?_eq_none (by rw [h.len]; omega)]
    exact .inl rfl

/-! ### What the calls answer -/
def kbit (kinds k : Int) : Bool := bits BinOp.and IntKind.i64 (kinds / 2 ^ k.toNat) 1 == 1
def fitB (c k client kinds : Int) : Bool := (c != 0) && (c == client) && kbit kinds k
def hitB (n : Int) (e : Ent) : Bool := (e.s == n) && (e.c != 0)
def SLog.find (L : SLog) (n : Int) : Ent := if n = 0 then Ent.zero else (L.ents.find? (hitB n)).getD Ent.zero
def SLog.check (L : SLog) (n client kinds : Int) : Int := if (L.find n).c = 0 then 13 else if fitB (L.find n).c (L.find n).k client kinds then 0 else 13
def SLog.forget (L : SLog) (client : Int) : SLog := { L with ents := L.ents.map fun e => if e.c = client then Ent.zero else e }
/-- The place that Latest looks at in its i-th round. -/
def SLog.back (L : SLog) (i : Nat) : Nat := (L.at_ + 256 - 1 - i) % 256
def SLog.latest (L : SLog) (client kinds : Int) : Int := (((List.range 256).map fun i => EntsAt L (L.back i)).find? fun e => fitB e.c e.k client kinds).elim 0 (·.s)
def newerB (a b : Int) : Bool := decide (0 < wrap32 ((a - b) % 4294967296))

theorem find_zero_or (l : List Ent) (hl : ∀ e ∈ l, e.ok) (n : Int) : ((l.find? (hitB n)).getD Ent.zero).ok := by
  cases h : l.find? (hitB n) with
  | none => exact .inl rfl
  | some e => exact hl e (List.mem_of_find?_eq_some h)
theorem SLog.find_ok {L : SLog} (h : L.ok) (n : Int) : (L.find n).ok := by
  unfold SLog.find
  split
  · exact .inl rfl
  · exact find_zero_or _ h.ents n
theorem SLog.forget_ok {L : SLog} (h : L.ok) (c : Int) : (L.forget c).ok := by
  refine ⟨by simp [SLog.forget, h.len], h.at_lt, h.last0, h.last1, ?_⟩
  intro e he
  simp only [SLog.forget, List.mem_map] at he
  obtain ⟨x, hx, rfl⟩ := he
  split
  · exact .inl rfl
  · exact h.ents x hx
end Go.Proofs.Ytndldjopgbhphaa
