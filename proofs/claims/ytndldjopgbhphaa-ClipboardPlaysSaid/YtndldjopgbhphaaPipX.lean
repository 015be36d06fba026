/- The walks of package transfer: New, Grant, Close, Cancel. -/
import Derived.Test.YtndldjopgbhphaaPipW
import Derived.Conc.SmallLaws
set_option linter.unusedVariables false
set_option linter.unusedSimpArgs false
set_option maxRecDepth 100000
namespace Go.Proofs.Ytndldjopgbhphaa
open Go.RowKit
theorem info_bytes : (Try.prog.info? 22).map (fun i => (i.zero, i.size, i.bytes)) = some (some (.slice none 0 0), 1, 24) := by kernel_rfl
theorem run_mk (w : World) (m : Nat) (h : m ≤ 65536) : (Instr.makeChan 140 (.int .i64 m)).run Try.prog w = .ok (.chan (some w.heap.size)) (w.alloc (.chan m #[] false 0 0 false)) := by
  obtain ⟨i, hi, hz0, hz1, hz2⟩ := info_parts info_bytes
  exact Go.Conc.run_makeChan Try.underlying140 hi .i64 m (by omega) (by rw [hz2]; omega)
theorem new_at (w : World) (m : Nat) (h0 : 1 ≤ (m : Int)) (h1 : (m : Int) ≤ 65536) :
    PipeAt ((w.alloc (.chan m #[] false 0 0 false)).alloc (.cells (pcells (PSt.new m) (some w.heap.size) (.slice none 0 0)).toArray 142)) (w.heap.size + 1) (fun x => x = w.heap.size ∨ x = w.heap.size + 1) (PSt.new m) := by
  have hs : (w.alloc (.chan m #[] false 0 0 false)).heap.size = w.heap.size + 1 := by simp
  refine .inl ⟨w.heap.size, none, 0, 0, [], [], [], PSt.new_ok h0 h1, rfl, ?_, .inr rfl, .inl rfl, ?_, ⟨0, 0, ?_⟩, BytesAt.nil _ _, trivial, rfl⟩
  · intro x hx; simp; omega
  · have := at_new (w.alloc (.chan m #[] false 0 0 false)) (.cells (pcells (PSt.new m) (some w.heap.size) (.slice none 0 0)).toArray 142)
    rw [hs] at this
    exact this
  · have := at_alloc (o' := .cells (pcells (PSt.new m) (some w.heap.size) (.slice none 0 0)).toArray 142) (at_new w (.chan m #[] false 0 0 false))
    simpa [PSt.new] using this
theorem pnew_ok (w : World) (n : Int) (h0 : 1 ≤ n) (h1 : n ≤ 65536) : Calls Try.prog 62 #[.int .i64 n] w fun e w' => e = .returned (.tuple #[.pointer (some ⟨w.heap.size + 1, 0, none⟩), .int .i64 0]) ∧
    PipeAt w' (w.heap.size + 1) (fun x => x = w.heap.size ∨ x = w.heap.size + 1) (PSt.new n) ∧ Same w w' := by
  obtain ⟨m, rfl⟩ : ∃ m : Nat, n = (m : Int) := ⟨n.toNat, by omega⟩
  have hmk := run_mk w m (by omega)
  go_enter Try.func62, Try.ntmps62
  go_wp2
  go_ret2
  exact ⟨rfl, new_at w m h0 h1, ((Chg.refl _ _).alloc _).alloc _⟩
theorem pnew_bad (w : World) (n : Int) (h : n < 1 ∨ 65536 < n) : Calls Try.prog 62 #[.int .i64 n] w fun e w' => e = .returned (.tuple #[.pointer none, .int .i64 6]) ∧ w = w' := by
  by_cases h0 : n < 1
  · have h2 : ¬ 65536 < n := by omega
    clear h
    go_enter Try.func62, Try.ntmps62
    go_wp2
    go_ret2
    exact ⟨rfl, rfl⟩
  · have h2 : 65536 < n := by omega
    clear h
    go_enter Try.func62, Try.ntmps62
    go_wp2
    go_ret2
    exact ⟨rfl, rfl⟩

/-! ### Grant -/
theorem pgrant_ok (b : Nat) (w : World) (R : Nat → Prop) (q : PSt) (n : Int) (h : PipeAt w b R q) (hn1 : n ≤ 9223372036854775807) :
    Calls Try.prog 39 #[.pointer (some ⟨b, 0, none⟩), .int .i64 n] w fun e w' => e = .returned (.int .i64 (q.grE n)) ∧ PipeAt w' b R (q.grant n) ∧ Chg (fun x => x = b) w w' := by
  have HU := Lib.hid (pusable_at h)
  have HH := Lib.hid h
  have c0 := h.c0
  have c1 := h.c1
  have c2 := h.c2
  have c3 := h.c3
  have c4 := h.c4
  have fr := h.fr
  have hok := h.ok
  have hsum := hok.sum
  have hw0 := hok.w0
  have hw1 := hok.w1
  have hc0 := hok.c0
  by_cases h6 : n < 0
  · have e1 : q.grE n = 6 := by unfold PSt.grE; rw [if_pos h6]
    have e2 : q.grant n = q := by unfold PSt.grant; rw [e1]; simp
    rw [e1, e2]
    clear h c0 c1 c2 c3 c4 fr hok e1 e2
    go_enter Try.func39, Try.ntmps39
    go_wp2_with fail
    refine HU.out.mono ?_
    rintro e w' ⟨rfl, rfl⟩
    go_wp2
    go_ret
    exact ⟨rfl, HH.out, Chg.refl _ _⟩
  by_cases h20 : q.over = true
  · have e1 : q.grE n = 20 := by unfold PSt.grE; rw [if_neg h6, if_pos h20]
    have e2 : q.grant n = q := by unfold PSt.grant; rw [e1]; simp
    rw [e1, e2]
    have h7 : 0 ≤ n := by omega
    unfold PSt.over at h20
    cases hcl : q.cl <;> cases hcn : q.cn
    · rw [hcl, hcn] at h20; cases h20
    all_goals
      rw [hcl] at c3
      rw [hcn] at c4
      clear h c0 c1 c2 fr hok e1 e2 h20 hcl hcn
      go_enter Try.func39, Try.ntmps39
      go_wp2_with fail
      refine HU.out.mono ?_
      rintro e w' ⟨rfl, rfl⟩
      go_wp2
      go_ret
      exact ⟨rfl, HH.out, Chg.refl _ _⟩
  have h7 : 0 ≤ n := by omega
  have hov : q.cl = false ∧ q.cn = false := by unfold PSt.over at h20; simpa using h20
  rw [hov.1] at c3
  rw [hov.2] at c4
  by_cases h18 : n > q.win - q.cr - q.bs.length
  · have e1 : q.grE n = 18 := by unfold PSt.grE; rw [if_neg h6, if_neg h20, if_pos h18]
    have e2 : q.grant n = q := by unfold PSt.grant; rw [e1]; simp
    rw [e1, e2]
    obtain ⟨win, cr, bs, cl, cn⟩ := q
    simp only at *
    have hl0 : 0 ≤ (bs.length : Int) := Int.natCast_nonneg _
    clear h fr hok e1 e2 h20 hov
    generalize hL : (bs.length : Int) = L at *
    have s1 : IntKind.i64.wrap (win - cr) = win - cr := IntWalk.i64_in _ (by omega)
    have s2 : IntKind.i64.wrap (win - cr - L) = win - cr - L := IntWalk.i64_in _ (by omega)
    have HL := Lib.hid hL
    clear hL
    go_enter Try.func39, Try.ntmps39
    go_wp2_with fail
    refine HU.out.mono ?_
    rintro e w' ⟨rfl, rfl⟩
    go_wp2
    refine wp_still (by kernel_rfl) (by kernel_rfl) ?_
    repeat still_step
    try refine wpStill_nil ?_
    go_wp2
    go_ret
    exact ⟨rfl, HH.out.chg (Chg.refl (fun _ => False) w).drew (fun _ _ q => q), (Chg.refl _ _).drew⟩
  · have e1 : q.grE n = 0 := by unfold PSt.grE; rw [if_neg h6, if_neg h20, if_neg h18]
    have e2 : q.grant n = { q with cr := q.cr + n } := by unfold PSt.grant; rw [if_pos e1]
    have hok' := PSt.grant_ok hok n
    rw [e1, e2]
    rw [e2] at hok'
    have h18' : n ≤ q.win - q.cr - q.bs.length := by omega
    have HK := Lib.hid hok'
    obtain ⟨win, cr, bs, cl, cn⟩ := q
    simp only at *
    have hl0 : 0 ≤ (bs.length : Int) := Int.natCast_nonneg _
    clear h hok e1 e2 h20 hov hok'
    generalize hL : (bs.length : Int) = L at *
    have s1 : IntKind.i64.wrap (win - cr) = win - cr := IntWalk.i64_in _ (by omega)
    have s2 : IntKind.i64.wrap (win - cr - L) = win - cr - L := IntWalk.i64_in _ (by omega)
    have HL := Lib.hid hL
    clear hL
    go_enter Try.func39, Try.ntmps39
    go_wp2_with fail
    refine HU.out.mono ?_
    rintro e w' ⟨rfl, rfl⟩
    go_wp2
    refine wp_still (by kernel_rfl) (by kernel_rfl) ?_
    repeat still_step
    try refine wpStill_nil ?_
    go_wp2
    go_ret
    refine ⟨rfl, PipeAt.upd (w := w) HH.out (cr + n) cl HK.out ?_ ?_, ?_⟩
    · exact ((Chg.refl (fun x => x = b) w).setCell _ _ (fun _ => rfl)).drew
    · intro ch hv hat
      exact at_setCell (i := 1) (.int .i64 (cr + n)) hat
    · exact ((Chg.refl (fun x => x = b) w).setCell _ _ (fun _ => rfl)).drew

/-! ### Close -/
theorem pclose_ok (b : Nat) (w : World) (R : Nat → Prop) (q : PSt) (h : PipeAt w b R q) :
    Calls Try.prog 53 #[.pointer (some ⟨b, 0, none⟩)] w fun e w' => e = .returned (.int .i64 q.clE) ∧ PipeAt w' b R q.close ∧ Chg (fun x => x = b) w w' := by
  have HU := Lib.hid (pusable_at h)
  have HH := Lib.hid h
  have c0 := h.c0
  have c1 := h.c1
  have c3 := h.c3
  have c4 := h.c4
  have fr := h.fr
  have hok := PSt.close_ok h.ok
  by_cases h20 : q.over = true
  · have e1 : q.clE = 20 := by unfold PSt.clE; rw [if_pos h20]
    have e2 : q.close = q := by unfold PSt.close; rw [if_pos h20]
    rw [e1, e2]
    unfold PSt.over at h20
    cases hcl : q.cl <;> cases hcn : q.cn
    · rw [hcl, hcn] at h20; cases h20
    all_goals
      rw [hcl] at c3
      rw [hcn] at c4
      clear h fr hok e1 e2 h20 hcl hcn
      go_enter Try.func53, Try.ntmps53
      go_wp2_with fail
      refine HU.out.mono ?_
      rintro e w' ⟨rfl, rfl⟩
      go_wp2
      go_ret
      exact ⟨rfl, HH.out, Chg.refl _ _⟩
  · have e1 : q.clE = 0 := by unfold PSt.clE; rw [if_neg h20]
    have e2 : q.close = { q with cl := true, cr := 0 } := by unfold PSt.close; rw [if_neg h20]
    have hov : q.cl = false ∧ q.cn = false := by unfold PSt.over at h20; simpa using h20
    rw [hov.1] at c3
    rw [hov.2] at c4
    rw [e1, e2]
    rw [e2] at hok
    have HK := Lib.hid hok
    have HO := Lib.hid hov
    clear h hok e1 e2 h20 hov
    go_enter Try.func53, Try.ntmps53
    go_wp2_with fail
    refine HU.out.mono ?_
    rintro e w' ⟨rfl, rfl⟩
    go_wp2
    go_ret
    have hk : Chg (fun x => x = b) w ((w.setCell ⟨b, 3, none⟩ (.bool true)).setCell ⟨b, 1, none⟩ (.int .i64 0)) := ((Chg.refl (fun x => x = b) w).setCell _ _ (fun _ => rfl)).setCell _ _ (fun _ => rfl)
    refine ⟨rfl, PipeAt.upd (w := w) HH.out 0 true HK.out hk ?_, hk⟩
    intro ch hv hat
    exact at_setCell (i := 1) (.int .i64 0) (at_setCell (i := 3) (.bool true) hat)

/-! ### Cancel -/
theorem pcancel_ok (b : Nat) (w : World) (R : Nat → Prop) (q : PSt) (h : PipeAt w b R q) :
    Calls Try.prog 66 #[.pointer (some ⟨b, 0, none⟩)] w fun e w' => e = .returned (.int .i64 q.caE) ∧ PipeAt w' b R q.cancel ∧ Chg (fun x => x = b) w w' := by
  have HU := Lib.hid (pusable_at h)
  have HD := Lib.hid (pdone_ok b w R q h)
  have HH := Lib.hid h
  have c0 := h.c0
  have c1 := h.c1
  have c2 := h.c2
  have c4 := h.c4
  have fr := h.fr
  by_cases hcn : q.cn = true
  · have e1 : q.caE = 20 := by unfold PSt.caE; rw [hcn]; rfl
    have e2 : q.cancel = q := by unfold PSt.cancel; rw [hcn]; rfl
    rw [e1, e2]
    rw [hcn] at c4
    clear h fr e1 e2 hcn
    go_enter Try.func66, Try.ntmps66
    go_wp2_with fail
    refine HU.out.mono ?_
    rintro e w' ⟨rfl, rfl⟩
    go_wp2
    go_ret
    exact ⟨rfl, HH.out, Chg.refl _ _⟩
  have hcn' : q.cn = false := by simpa using hcn
  by_cases hdn : q.done = true
  · have e1 : q.caE = 20 := by unfold PSt.caE; rw [hdn]; simp
    have e2 : q.cancel = q := by unfold PSt.cancel; rw [hdn]; simp
    rw [e1, e2]
    rw [hcn'] at c4
    rw [hdn] at HD
    clear h fr e1 e2 hcn hcn' hdn
    go_enter Try.func66, Try.ntmps66
    go_wp2_with fail
    refine HU.out.mono ?_
    rintro e w' ⟨rfl, rfl⟩
    go_wp2_with fail
    refine HD.out.mono ?_
    rintro e w' ⟨rfl, rfl⟩
    go_wp2
    go_ret
    exact ⟨rfl, HH.out, Chg.refl _ _⟩
  · have hdn' : q.done = false := by simpa using hdn
    have e1 : q.caE = 0 := by unfold PSt.caE; rw [hdn', hcn']; simp
    have e2 : q.cancel = { q with cn := true, cr := 0, bs := [] } := by unfold PSt.cancel; rw [hdn', hcn']; simp
    have hok := PSt.cancel_ok h.ok
    rw [e1, e2]
    rw [e2] at hok
    have HK := Lib.hid hok
    rw [hcn'] at c4
    rw [hdn'] at HD
    obtain ⟨ch, hv, hat⟩ := h.at_
    have HA := Lib.hid hat
    have hlt := h.lt
    have hrb := h.rb
    have c5 : w.cell? ⟨b, 5, none⟩ = some (.chan ch) := by rw [cell_at hat]; rfl
    have c6 : w.cell? ⟨b, 6, none⟩ = some hv := by rw [cell_at hat]; rfl
    clear h hok e1 e2 hcn hcn' hdn hdn' hat
    go_enter Try.func66, Try.ntmps66
    go_wp2_with fail
    refine HU.out.mono ?_
    rintro e w' ⟨rfl, rfl⟩
    go_wp2_with fail
    refine HD.out.mono ?_
    rintro e w' ⟨rfl, rfl⟩
    go_wp2
    go_ret
    have hk : Chg (fun x => x = b) w (((((w.setCell ⟨b, 4, none⟩ (.bool true)).setCell ⟨b, 1, none⟩ (.int .i64 0)).setCell ⟨b, 2, none⟩ (.int .i64 0)).setCell ⟨b, 6, none⟩ (.slice none 0 0)).setCell ⟨b, 5, none⟩ (.chan none)) := by
      repeat refine Chg.setCell ?_ _ _ (fun _ => rfl)
      exact Chg.refl _ _
    refine ⟨rfl, .inr ⟨HK.out, rfl, fun x hx => Nat.lt_of_lt_of_le (hlt x hx) hk.size, hrb, ?_⟩, hk⟩
    exact at_setCell (i := 5) (.chan none) (at_setCell (i := 6) (.slice none 0 0) (at_setCell (i := 2) (.int .i64 0) (at_setCell (i := 1) (.int .i64 0) (at_setCell (i := 4) (.bool true) HA.out))))
end Go.Proofs.Ytndldjopgbhphaa
