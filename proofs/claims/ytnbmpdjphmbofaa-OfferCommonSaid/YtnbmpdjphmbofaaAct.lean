/- offer.Action: the order is searched for the first action that is common. -/
import Derived.Test.YtnbmpdjphmbofaaIns
import Derived.Test.YtnbmpdjphmbofaaContI
import Derived.Deep.AppendLies
set_option linter.unusedVariables false
set_option linter.unusedSimpArgs false
set_option maxRecDepth 100000
namespace Go.Proofs.Ytnbmpdjphmbofaa
open Go.RowKit

theorem IntsAt.of_own {w : World} {base n : Nat} {v : Value} {xs : List Int} (h : w.ownsRow base 3 1 v n (ints xs)) : ∃ A cap, v = .slice A n cap ∧ IntsAt w A n xs := by
  have hl : xs.length = n := by have := h.1; simpa [ints] using this
  rcases h.2 with ⟨rfl, rfl⟩ | ⟨g, cap, cur, rfl, hb, hg, hc, hm, hs, ht⟩
  · exact ⟨none, 0, rfl, hl, fun h => absurd h (by omega)⟩
  · refine ⟨_, cap, rfl, hl, fun _ => ⟨g, 0, rfl, fun j x hj => ?_⟩⟩
    have := h.cells (g := g) rfl j (.int .i64 x) (by unfold ints; rw [List.getElem?_map, hj]; rfl)
    rw [add_plain] at this
    exact this
theorem IntsAt.drew {w : World} {A : Option Addr} {n : Nat} {xs : List Int} (h : IntsAt w A n xs) : IntsAt w.drew A n xs := h

/-- The first of xs that has a bit with c in common. -/
def firstV (c : Int) (xs : List Int) : Int := ((xs.find? fun a => bits BinOp.and IntKind.i64 c a != 0).getD 0)
theorem firstV_nil (c : Int) : firstV c [] = 0 := rfl
theorem firstV_cons (c x : Int) (xs : List Int) : firstV c (x :: xs) = if bits BinOp.and IntKind.i64 c x != 0 then x else firstV c xs := by
  unfold firstV
  rw [List.find?_cons]
  split <;> simp_all

theorem first_ok (c : Int) (A : Option Addr) (n cap : Nat) (xs : List Int) (w : World) (h : IntsAt w A n xs) (hn : n ≤ 1000) :
    Calls Try.prog 31 #[.int .i64 c, .slice A n cap] w fun e w' => e = .returned (.int .i64 (firstV c xs)) ∧ w = w' := by
  have HA := Lib.hid h
  clear h
  go_enter Try.func31, Try.ntmps31
  go_wp2
  go_loop [9] (fun v9 => ∃ i : Nat, i ≤ n ∧ v9 = .int .i64 i ∧ firstV c xs = firstV c (xs.drop i)) (fun v9 => n - (intOf v9).toNat)
  case atStart => exact ⟨0, by omega, rfl, rfl⟩
  case round =>
    obtain ⟨i, hi, rfl, hf⟩ := hrel
    have HF := Lib.hid hf
    clear hf
    by_cases hlt : i < n
    · obtain ⟨b, o, rfl, hc⟩ := HA.out.2 (by omega)
      have hx : xs[i]? = some (xs[i]'(by rw [HA.out.1]; exact hlt)) := List.getElem?_eq_getElem (by rw [HA.out.1]; exact hlt)
      obtain ⟨x, hxe⟩ : ∃ x, x = xs[i]'(by rw [HA.out.1]; exact hlt) := ⟨_, rfl⟩
      rw [← hxe] at hx
      have hcell := hc i x hx
      have hd : xs.drop i = x :: xs.drop (i + 1) := by rw [List.drop_eq_getElem_cons (by rw [HA.out.1]; exact hlt), hxe]
      have HD := Lib.hid hd
      have hii : (i : Int) < n := by omega
      clear hx hxe hc hd
      by_cases hb : (bits BinOp.and IntKind.i64 c x != 0) = true
      · have HB := Lib.hid hb
        have hb2 : (bits BinOp.and IntKind.i64 c x == 0) = false := by simpa using hb
        go_wp2
        go_ret
        refine ⟨?_, rfl⟩
        rw [HF.out, HD.out, firstV_cons, if_pos HB.out]
        rfl
      · have hb' : (bits BinOp.and IntKind.i64 c x != 0) = false := by simpa using hb
        have hb2 : (bits BinOp.and IntKind.i64 c x == 0) = true := by simpa using hb
        have HB := Lib.hid hb
        clear hb
        go_wp2
        go_round
        case rel => exact ⟨i + 1, by omega, by go_num, by rw [HF.out, HD.out, firstV_cons, if_neg HB.out]⟩
        case measure => simp [intOf]; omega
    · have hie : i = n := by omega
      have hlt' : ¬ (i : Int) < n := by omega
      have HI := Lib.hid hie
      clear hie
      go_wp2
      go_ret
      refine ⟨?_, rfl⟩
      rw [HF.out, HI.out, ← HA.out.1, List.drop_length]
      rfl

/-! ### Action -/
/-- The order in which actions are tried. -/
def ordP (p : Int) : List Int := if ([1, 2, 4] : List Int).contains p then p :: [1, 2, 4] else [1, 2, 4]
def ordM (p m : Int) : List Int := if bits BinOp.and IntKind.i64 m 1 != 0 then 2 :: ordP p else ordP p
def ordC (p m : Int) : List Int := if bits BinOp.and IntKind.i64 m 4 != 0 then 1 :: ordM p m else ordM p m
def commonV (s t : Int) : Int := bits BinOp.and IntKind.i64 (bits BinOp.and IntKind.i64 s t) 7
def actionV (s t p m : Int) : Int := firstV (commonV s t) (ordC p m)

/-- The order's row, made by the call. -/
structure OwnI (base : Nat) (w : World) (g n cap : Nat) (xs : List Int) : Prop where
  own : w.ownsRow base 3 1 (.slice (some ⟨g, 0, none⟩) n cap) n (ints xs)
  le : base ≤ w.heap.size
  pos : 0 < n
  small : n ≤ 90
def InsV (base : Nat) (w : World) (n : Nat) (ys : List Int) (e : Ending) (w' : World) : Prop :=
  ∃ g cap, e = .returned (.slice (some ⟨g, 0, none⟩) n cap) ∧ OwnI base w' g n cap ys ∧ Chg (fun x => base ≤ x) w w'
theorem insert_v {base : Nat} {w : World} {g n cap : Nat} {xs : List Int} (h : OwnI base w g n cap xs) (n' : Nat) (hn : n' = n + 1) (hs : n' ≤ 90) (x : Int) (k : Nat) (hk : k = w.heap.size) :
    Calls Try.prog 30 #[.slice (some ⟨g, 0, none⟩) n cap, .int .i64 0, .slice (some ⟨k, 0, none⟩) 1 1] (w.alloc (.cells #[.int .i64 x] 3)) (InsV base w n' (x :: xs)) := by
  subst hn hk
  refine (insert_ok base g n cap xs x w h.own h.pos (by have := h.small; omega) h.le).mono ?_
  rintro e w' ⟨g', cap', rfl, ho, hc⟩
  have hc' : Chg (fun x => base ≤ x) w w' := ((Chg.refl _ _).alloc _).trans hc
  exact ⟨g', cap', rfl, ⟨ho, Nat.le_trans h.le hc'.size, by omega, hs⟩, hc'⟩
theorem OwnI.ints {base : Nat} {w : World} {g n cap : Nat} {xs : List Int} (h : OwnI base w g n cap xs) : IntsAt w (some ⟨g, 0, none⟩) n xs := by
  obtain ⟨A, c, hv, hi⟩ := IntsAt.of_own h.own
  cases hv
  exact hi
theorem ord_at (w : World) : OwnI w.heap.size (w.alloc (.cells #[.int .i64 1, .int .i64 2, .int .i64 4] 3)) w.heap.size 3 3 [1, 2, 4] :=
  ⟨⟨rfl, .inr ⟨w.heap.size, 3, _, rfl, Nat.le_refl _, at_new w _, by omega, by unfold maxLen; omega, rfl, rfl⟩⟩, by simp, by omega, by omega⟩

theorem beq_of_bne {x : Int} : ∀ b : Bool, (x != 0) = b → (x == 0) = !b := by
  intro b h
  rw [← h]
  simp [bne]

set_option maxRecDepth 100000 in
set_option maxHeartbeats 2000000 in
theorem action_ok (s t p m : Int) (w : World) : Calls Try.prog 17 #[.int .i64 s, .int .i64 t, .int .i64 p, .int .i64 m] w fun e w' => e = .returned (.int .i64 (actionV s t p m)) ∧ Same w w' := by
  have HO := Lib.hid (ord_at w)
  have HC := Lib.hid (containsInts_ok _ 3 3 [1, 2, 4] p _ (ord_at w).ints (by omega))
  cases hb : ([1, 2, 4] : List Int).contains p <;> cases h1 : (bits BinOp.and IntKind.i64 m 1 != 0) <;> cases h4 : (bits BinOp.and IntKind.i64 m 4 != 0)
  all_goals
    rw [hb] at HC
    have HV := Lib.hid (show actionV s t p m = firstV (commonV s t) (ordC p m) from rfl)
    unfold ordC ordM ordP at HV
    rw [hb, h1, h4] at HV
    simp only [Bool.false_eq_true, if_false, if_true] at HV
    have h1' := beq_of_bne _ h1
    have h4' := beq_of_bne _ h4
    simp only [Bool.not_true, Bool.not_false] at h1' h4'
    clear hb h1 h4
    go_enter Try.func17, Try.ntmps17
    go_wp2_with fail
    refine HC.out.mono ?_
    rintro e w' ⟨rfl, rfl⟩
    have hown := HO.out
    have hchg : Chg (fun x => w.heap.size ≤ x) w (w.alloc (.cells #[.int .i64 1, .int .i64 2, .int .i64 4] 3)) := (Chg.refl _ _).alloc _
    go_wp2_with (go_at_call 30; refine (insert_v hown _ rfl (by omega) _ _ (by simp)).mono ?_; rintro e w2 ⟨g2, cap2, rfl, ho2, hc2⟩; have hown2 := ho2; clear hown; have hown := hown2; clear hown2 ho2; have hchg2 := hchg.trans hc2; clear hchg hc2; have hchg := hchg2; clear hchg2)
    refine (first_ok _ _ _ _ _ _ hown.ints (by have := hown.small; omega)).mono ?_
    rintro e w3 ⟨rfl, rfl⟩
    go_wp2
    go_ret
    exact ⟨by rw [HV.out]; rfl, hchg.mono (fun _ h h2 => by omega)⟩
end Go.Proofs.Ytnbmpdjphmbofaa
