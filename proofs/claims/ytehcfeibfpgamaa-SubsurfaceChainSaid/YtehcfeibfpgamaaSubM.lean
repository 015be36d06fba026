/- Trees of subsurfaces, told plainly: nodes, paths to the root, what each call makes of them. No program. -/
import Derived.Test.YtehcfeibfpgamaaBas2
set_option linter.unusedVariables false
set_option linter.unusedSimpArgs false
set_option maxRecDepth 100000
namespace Go.Proofs.Ytehcfeibfpgamaa

/-! ### Paths along a function 'par' (0: none) -/
inductive IsPath (par : Int → Int) : Int → List Int → Prop
  | root (j : Int) (h : par j = 0) : IsPath par j [j]
  | up (j : Int) (l : List Int) (h : par j ≠ 0) (r : IsPath par (par j) l) : IsPath par j (j :: l)
def chain (par : Int → Int) : Nat → Int → List Int
  | 0, _ => []
  | k + 1, j => j :: (if par j = 0 then [] else chain par k (par j))
def Deep (par : Int → Int) : Prop := ∀ j, ∃ l, IsPath par j l ∧ l.length ≤ 9
def pathOf (par : Int → Int) (j : Int) : List Int := chain par 10 j
def plen (par : Int → Int) (j : Int) : Nat := if j = 0 then 0 else (pathOf par j).length
def inP (par : Int → Int) (a b : Int) : Bool := (pathOf par a).contains b
def rootP (par : Int → Int) (j : Int) : Int := ((pathOf par j).getLast?).getD 0
def anyUp (par : Int → Int) (f : Int → Bool) (j : Int) : Bool := (pathOf par j).any fun i => par i != 0 && f i

section
variable {par par' : Int → Int} {j : Int} {l l' : List Int}
theorem IsPath.shape (h : IsPath par j l) : ∃ t, l = j :: t := by cases h <;> exact ⟨_, rfl⟩
theorem IsPath.uniq (h : IsPath par j l) : ∀ {l'}, IsPath par j l' → l = l' := by
  induction h with
  | root j hj => intro l' k; cases k with
    | root _ _ => rfl
    | up _ _ h _ => exact absurd hj h
  | up j l hj _ ih => intro l' k; cases k with
    | root _ h => exact absurd h hj
    | up _ l2 _ r => rw [ih r]
theorem IsPath.sub (h : IsPath par j l) : ∀ {b}, b ∈ l → ∃ pre l2, l = pre ++ l2 ∧ IsPath par b l2 := by
  induction h with
  | root j hj => intro b hb; simp at hb; subst hb; exact ⟨[], [b], rfl, .root b hj⟩
  | up j l hj r ih =>
    intro b hb
    rcases List.mem_cons.1 hb with rfl | hb
    · exact ⟨[], b :: l, rfl, .up b l hj r⟩
    · obtain ⟨pre, l2, e, k⟩ := ih hb; exact ⟨j :: pre, l2, by rw [e]; rfl, k⟩
theorem IsPath.nodup (h : IsPath par j l) : l.Nodup := by
  induction h with
  | root j hj => simp
  | up j l hj r ih =>
    refine List.nodup_cons.2 ⟨fun hm => ?_, ih⟩
    obtain ⟨pre, l2, e, k⟩ := r.sub hm
    have e2 := (IsPath.up j l hj r).uniq k
    have := congrArg List.length e
    have := congrArg List.length e2
    simp at *
    omega
theorem IsPath.chain_eq (h : IsPath par j l) : ∀ {k}, l.length ≤ k → chain par k j = l := by
  induction h with
  | root j hj => intro k hk; cases k with
    | zero => simp at hk
    | succ k => simp [chain, hj]
  | up j l hj r ih => intro k hk; cases k with
    | zero => simp at hk
    | succ k => simp only [List.length_cons] at hk; simp [chain, hj, ih (show l.length ≤ k by omega)]
theorem IsPath.congr (h : IsPath par j l) : (∀ x ∈ l, par' x = par x) → IsPath par' j l := by
  induction h with
  | root j hj => intro e; exact .root j (by rw [e j (by simp)]; exact hj)
  | up j l hj r ih => intro e; exact .up j l (by rw [e j (by simp)]; exact hj) (by rw [e j (by simp)]; exact ih (fun x hx => e x (by simp [hx])))
theorem IsPath.graft {i p : Int} {lp : List Int} (h : IsPath par j l) : i ∈ l → par i = 0 → par' i = p → p ≠ 0 → (∀ x, x ≠ i → par' x = par x) → IsPath par' p lp → IsPath par' j (l ++ lp) := by
  induction h with
  | root j hj => intro hm hi h1 h2 h3 h4; simp at hm; subst hm; exact .up i lp (by rw [h1]; exact h2) (by rw [h1]; exact h4)
  | up j l hj r ih =>
    intro hm hi h1 h2 h3 h4
    have hne : j ≠ i := by rintro rfl; exact hj hi
    have hm' : i ∈ l := by rcases List.mem_cons.1 hm with e | e; exact absurd e.symm hne; exact e
    exact .up j (l ++ lp) (by rw [h3 j hne]; exact hj) (by rw [h3 j hne]; exact ih hm' hi h1 h2 h3 h4)
theorem IsPath.cut {i : Int} (h : IsPath par j l) : par' i = 0 → (∀ x, x ≠ i → par' x = par x) → ∃ l', IsPath par' j l' ∧ l'.length ≤ l.length := by
  induction h with
  | root j hj =>
    intro hi h3
    by_cases e : j = i
    · subst e; exact ⟨[j], .root j hi, Nat.le_refl _⟩
    · exact ⟨[j], .root j (by rw [h3 j e]; exact hj), Nat.le_refl _⟩
  | up j l hj r ih =>
    intro hi h3
    by_cases e : j = i
    · subst e; exact ⟨[j], .root j hi, by simp⟩
    · obtain ⟨l', k, hl⟩ := ih hi h3
      exact ⟨j :: l', .up j l' (by rw [h3 j e]; exact hj) (by rw [h3 j e]; exact k), by simpa using hl⟩
end

namespace Deep
variable {par par' : Int → Int}
theorem path (D : Deep par) (j : Int) : IsPath par j (pathOf par j) ∧ (pathOf par j).length ≤ 9 := by
  obtain ⟨l, h, hl⟩ := D j
  have : pathOf par j = l := h.chain_eq (by omega)
  rw [this]; exact ⟨h, hl⟩
theorem path_root (D : Deep par) {j : Int} (h : par j = 0) : pathOf par j = [j] := ((D.path j).1.uniq (.root j h))
theorem path_up (D : Deep par) {j : Int} (h : par j ≠ 0) : pathOf par j = j :: pathOf par (par j) := (D.path j).1.uniq (.up j _ h (D.path _).1)
theorem len (D : Deep par) (j : Int) : plen par j ≤ 9 := by unfold plen; split; exact Nat.zero_le _; exact (D.path j).2
theorem plen0 : plen par 0 = 0 := if_pos rfl
theorem plen_up (D : Deep par) {j : Int} (hj : j ≠ 0) : plen par j = plen par (par j) + 1 := by
  unfold plen
  rw [if_neg hj]
  by_cases h : par j = 0
  · rw [if_pos h, D.path_root h]; rfl
  · rw [if_neg h, D.path_up h]; rfl
theorem root0 (D : Deep par) {j : Int} (h : par j = 0) : rootP par j = j := by unfold rootP; rw [D.path_root h]; rfl
theorem root_up (D : Deep par) {j : Int} (h : par j ≠ 0) : rootP par j = rootP par (par j) := by
  unfold rootP
  rw [D.path_up h]
  obtain ⟨t, e⟩ := (D.path (par j)).1.shape
  rw [e, List.getLast?_cons_cons]
theorem in_eq (D : Deep par) (a b : Int) : inP par a b = (a == b || (par a != 0 && inP par (par a) b)) := by
  unfold inP
  have hc : (b == a) = (a == b) := by
    by_cases e : a = b
    · subst e; rfl
    · have e' : ¬ b = a := fun h => e h.symm
      rw [beq_eq_false_iff_ne.2 e, beq_eq_false_iff_ne.2 e']
  by_cases h : par a = 0
  · rw [D.path_root h, h, List.contains_cons, hc]; simp
  · rw [D.path_up h, List.contains_cons, hc]
    have : (par a != 0) = true := by simpa using h
    rw [this, Bool.true_and]
theorem any_eq (D : Deep par) (f : Int → Bool) (j : Int) : anyUp par f j = (par j != 0 && (f j || anyUp par f (par j))) := by
  unfold anyUp
  by_cases h : par j = 0
  · rw [D.path_root h, h]; simp [h]
  · rw [D.path_up h]
    have : (par j != 0) = true := by simpa using h
    simp [this]
theorem graft (D : Deep par) {i p : Int} (hi : par i = 0) (hp : p ≠ 0) (hn : inP par p i = false) (h1 : par' i = p) (h3 : ∀ x, x ≠ i → par' x = par x)
    (hl : ∀ j, inP par j i = true → (pathOf par j).length + (pathOf par p).length ≤ 9) : Deep par' := by
  have hpp : IsPath par' p (pathOf par p) := (D.path p).1.congr fun x hx => h3 x (by
    rintro rfl
    unfold inP at hn
    rw [List.contains_eq_mem, decide_eq_false_iff_not] at hn
    exact hn hx)
  intro j
  by_cases hj : inP par j i = true
  · refine ⟨pathOf par j ++ pathOf par p, (D.path j).1.graft ?_ hi h1 hp h3 hpp, ?_⟩
    · unfold inP at hj; rw [List.contains_eq_mem, decide_eq_true_iff] at hj; exact hj
    · rw [List.length_append]; exact hl j hj
  · refine ⟨pathOf par j, (D.path j).1.congr fun x hx => h3 x ?_, (D.path j).2⟩
    rintro rfl
    exact hj (by unfold inP; rw [List.contains_eq_mem, decide_eq_true_iff]; exact hx)
theorem cut (D : Deep par) {i : Int} (h1 : par' i = 0) (h3 : ∀ x, x ≠ i → par' x = par x) : Deep par' := fun j => by
  obtain ⟨l, h, hl⟩ := D j
  obtain ⟨l', h', hl'⟩ := h.cut h1 h3
  exact ⟨l', h', by omega⟩
end Deep

/-! ### The nodes -/
structure Nd where
  id : Int
  par : Int
  sync : Bool
  cached : Bool
  px : Int
  py : Int
  cx : Int
  cy : Int
  pend : List Int
  cur : List Int
  deriving DecidableEq
abbrev Fo := List Nd
def get (S : Fo) (i : Int) : Option Nd := S.find? (fun n => n.id == i)
def parOf (S : Fo) (i : Int) : Int := ((get S i).map Nd.par).getD 0
def hasB (S : Fo) (i : Int) : Bool := (get S i).isSome
def upd (S : Fo) (i : Int) (g : Nd → Nd) : Fo := S.map fun n => if n.id = i then g n else n
def kids (S : Fo) (i : Int) : Nat := S.countP fun n => n.par == i
def depth (S : Fo) (i : Int) : Nat := plen (parOf S) (parOf S i)
def heightL (S : Fo) (i : Int) : List Nd → Nat
  | [] => 0
  | n :: l => max (if inP (parOf S) n.id i then depth S n.id - depth S i else 0) (heightL S i l)
def height (S : Fo) (i : Int) : Nat := heightL S i S
def syncOf (S : Fo) (i : Int) : Bool := ((get S i).map Nd.sync).getD false
def cachedOf (S : Fo) (i : Int) : Bool := ((get S i).map Nd.cached).getD false
def curOf (S : Fo) (i : Int) : List Int := ((get S i).map Nd.cur).getD []
def pendOf (S : Fo) (i : Int) : List Int := ((get S i).map Nd.pend).getD []
def cxOf (S : Fo) (i : Int) : Int := ((get S i).map Nd.cx).getD 0
def cyOf (S : Fo) (i : Int) : Int := ((get S i).map Nd.cy).getD 0
def synB (S : Fo) (i : Int) : Bool := anyUp (parOf S) (syncOf S) i
def rootOf (S : Fo) (i : Int) : Int := if hasB S i then rootP (parOf S) i else 0

structure Fo.ok (S : Fo) : Prop where
  ids : (S.map Nd.id).Nodup
  pos : ∀ n ∈ S, 1 ≤ n.id
  par : ∀ n ∈ S, n.par = 0 ∨ n.par ∈ S.map Nd.id
  deep : Deep (parOf S)
  pnd : ∀ n ∈ S, n.pend.Nodup ∧ n.id ∈ n.pend ∧ (∀ c ∈ n.pend, c = n.id ∨ parOf S c = n.id) ∧ ∀ m ∈ S, m.par = n.id → m.id ∈ n.pend
  crr : ∀ n ∈ S, n.cur.Nodup ∧ n.id ∈ n.cur ∧ ∀ c ∈ n.cur, c = n.id ∨ parOf S c = n.id

section
variable {S : Fo} {i j : Int} {n : Nd}
theorem get_some (h : get S i = some n) : n ∈ S ∧ n.id = i := ⟨List.mem_of_find?_eq_some h, by simpa using List.find?_some h⟩
theorem get_none (h : get S i = none) : ∀ n ∈ S, n.id ≠ i := by simpa [get] using h
theorem hasB_iff : hasB S i = true ↔ i ∈ S.map Nd.id := by
  unfold hasB get
  rw [List.find?_isSome]
  simp
theorem get_map (g : Nd → Nd) (hg : ∀ n, (g n).id = n.id) : get (S.map g) i = (get S i).map g := by
  unfold get
  induction S with
  | nil => rfl
  | cons a l ih => simp only [List.map_cons, List.find?_cons, hg]; split; rfl; exact ih
theorem get_upd (g : Nd → Nd) (hg : ∀ n, (g n).id = n.id) : get (upd S i g) j = if j = i then (get S i).map g else get S j := by
  unfold upd
  rw [get_map _ (fun n => by split; exact hg n; rfl)]
  by_cases e : j = i
  · subst e
    rw [if_pos rfl]
    cases h : get S j with
    | none => rfl
    | some n => simp [(get_some h).2]
  · rw [if_neg e]
    cases h : get S j with
    | none => rfl
    | some n =>
      have := (get_some h).2
      simp only [Option.map_some, Option.some.injEq]
      rw [if_neg (by rw [this]; exact e)]
theorem get_of (hS : (S.map Nd.id).Nodup) (h : n ∈ S) : get S n.id = some n := by
  unfold get
  induction S with
  | nil => simp at h
  | cons a l ih =>
    simp only [List.map_cons, List.nodup_cons] at hS
    rcases List.mem_cons.1 h with rfl | hm
    · simp
    · rw [List.find?_cons]
      have : (a.id == n.id) = false := by
        rw [beq_eq_false_iff_ne]
        intro e
        exact hS.1 (by rw [e]; exact List.mem_map_of_mem hm)
      rw [this]
      exact ih hS.2 hm
theorem parOf_of (hS : (S.map Nd.id).Nodup) (h : n ∈ S) : parOf S n.id = n.par := by unfold parOf; rw [get_of hS h]; rfl
theorem parOf_get (h : get S i = some n) : parOf S i = n.par := by unfold parOf; rw [h]; rfl
theorem parOf_no (h : hasB S i = false) : parOf S i = 0 := by
  unfold parOf
  unfold hasB at h
  cases e : get S i with
  | none => rfl
  | some n => rw [e] at h; cases h
theorem has_get (h : hasB S i = true) : ∃ n, get S i = some n := Option.isSome_iff_exists.1 h
theorem Fo.ok.par_has (h : S.ok) (hi : parOf S i ≠ 0) : hasB S (parOf S i) = true := by
  cases e : get S i with
  | none => exact absurd (by unfold parOf; rw [e]; rfl) hi
  | some n =>
    have := h.par n (get_some e).1
    rw [parOf_get e] at hi ⊢
    rcases this with q | q
    · exact absurd q hi
    · exact hasB_iff.2 q
theorem Fo.ok.has_of_par (h : S.ok) (hi : parOf S i ≠ 0) : hasB S i = true := by
  cases e : hasB S i with
  | true => rfl
  | false => exact absurd (parOf_no e) hi
theorem Fo.ok.has_ne (h : S.ok) (hi : hasB S i = true) : i ≠ 0 := by
  obtain ⟨n, e⟩ := has_get hi
  have := h.pos n (get_some e).1
  rw [(get_some e).2] at this
  omega
theorem Fo.ok.par_ne (h : S.ok) (i : Int) (hi : i ≠ 0) : parOf S i ≠ i := fun e => by
  have h1 := h.deep.plen_up hi
  rw [e] at h1
  omega
theorem Fo.ok.self_in (h : S.ok) (i : Int) : inP (parOf S) i i = true := by rw [Deep.in_eq h.deep]; simp
end
end Go.Proofs.Ytehcfeibfpgamaa
