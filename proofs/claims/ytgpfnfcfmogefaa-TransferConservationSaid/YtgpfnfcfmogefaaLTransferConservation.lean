/- The walk of TransferConservation: for all arguments it returns true and leaves what was there as it was. -/
import Derived.Test.YtgpfnfcfmogefaaEx41
import Derived.Test.YtgpfnfcfmogefaaConsM
import Derived.Deep.LoopGhost
import Derived.Deep.DeepCutAuto
import Derived.Deep.CutBlock
set_option linter.unusedVariables false
set_option linter.unusedSimpArgs false
namespace Go.Proofs.Ytgpfnfcfmogefaa
open Go.RowKit

/-- What stands between the calls: the pipe, the rows 'in' and 'out', the numbers. -/
def CnR (w : World) (b : Nat) (win : Int) (i : Nat) (v7 v8 v9 v10 v11 : Value) (wr : World) : Prop :=
  ∃ (q : PSt) (R : Nat → Prop) (ins outs : List Int) (G : Int), Pip w wr b R q ∧ OwnG w wr (fun x => R x ∨ v8.ownBlock = some x) v7 ins ∧ OwnG w wr (fun x => R x ∨ v7.ownBlock = some x) v8 outs ∧
    v9 = .int .i64 G ∧ v10 = .bool q.cl ∧ v11 = .bool q.cn ∧ CInv win i q ins outs G

set_option maxRecDepth 100000 in
set_option maxHeartbeats 2000000 in
theorem cons_large (win : Int) (A : Option Addr) (len cap : Nat) (l : List TOp) (w : World) (h : TOpsAt w A len l) (hl : largeB l = true) :
    Calls Try.prog 6 #[.int .i64 win, .slice A len cap] w fun e w' => e = .returned (.bool true) ∧ Same w w' := by
  have HL := Lib.hid (large_ok A len cap l w h)
  rw [hl] at HL
  clear h hl
  go_enter Try.func6, Try.ntmps6
  go_wp2_with fail
  refine HL.out.mono ?_
  rintro e w' ⟨rfl, rfl⟩
  go_wp2_with fail
  refine (example41_ok _).mono ?_
  rintro e w1 ⟨rfl, hs⟩
  have HS := Lib.hid hs
  clear hs
  go_wp2
  go_ret
  exact ⟨rfl, HS.out⟩
set_option maxRecDepth 100000 in
set_option maxHeartbeats 2000000 in
theorem cons_bad (win : Int) (A : Option Addr) (len cap : Nat) (l : List TOp) (w : World) (h : TOpsAt w A len l) (hl : largeB l = false) (hw : win < 1 ∨ 65536 < win) :
    Calls Try.prog 6 #[.int .i64 win, .slice A len cap] w fun e w' => e = .returned (.bool true) ∧ Same w w' := by
  have HL := Lib.hid (large_ok A len cap l w h)
  rw [hl] at HL
  have HN := Lib.hid (pnew_bad w win hw)
  clear h hl
  by_cases h0 : win < 1
  all_goals
    first
      | have h2 : ¬ 65536 < win := by omega
      | have h2 : 65536 < win := by omega
    clear hw
    go_enter Try.func6, Try.ntmps6
    go_wp2_with fail
    refine HL.out.mono ?_
    rintro e w' ⟨rfl, rfl⟩
    go_wp2_with fail
    refine HN.out.mono ?_
    rintro e w' ⟨rfl, rfl⟩
    go_wp2_with fail
    refine (example41_ok _).mono ?_
    rintro e w1 ⟨rfl, hs⟩
    have HS := Lib.hid hs
    clear hs
    go_wp2
    go_ret
    exact ⟨rfl, HS.out⟩

theorem own_swap {w w0 w' : World} {R : Nat → Prop} {v7 v7' v8 : Value} {ins' outs : List Int} (hin' : OwnG w w' (fun x => R x ∨ v8.ownBlock = some x) v7' ins') (hout : OwnG w w0 (fun x => R x ∨ v7.ownBlock = some x) v8 outs) (hk : Chg (fun x => v7.ownBlock = some x) w0 w') :
    OwnG w w' (fun x => R x ∨ v7'.ownBlock = some x) v8 outs :=
  ⟨hout.own.chg hk (fun x hx h7 => hout.off x hx (.inr h7)), fun x hx hs => hs.elim (fun hr => hout.off x hx (.inl hr)) (fun h7 => hin'.off x h7 (.inr hx))⟩
theorem own_wrote {w w0 w' : World} {R R' : Nat → Prop} {v7 v8 : Value} {ins : List Int} (h : OwnG w w0 (fun x => R x ∨ v8.ownBlock = some x) v7 ins) (hc : Chg R w0 w') (hR : ∀ x, R' x → R x ∨ w0.heap.size ≤ x) : OwnG w w' (fun x => R' x ∨ v8.ownBlock = some x) v7 ins :=
  ⟨(h.chg hc (fun x hr hx => h.off x hx (.inl hr))).own, fun x hx hs => hs.elim (fun hr => (hR x hr).elim (fun h2 => h.off x hx (.inl h2)) (fun h2 => by have := (h.own.lt x hx).2; omega)) (fun h8 => h.off x hx (.inr h8))⟩
theorem own_alloc {w w0 : World} {S : Nat → Prop} {v : Value} {ys : List Int} (h : OwnG w w0 S v ys) (o : Obj) : OwnG w (w0.alloc o) S v ys := h.chg ((Chg.refl (fun _ => False) w0).alloc o) (fun _ q _ => q)
theorem own_lt2 {w w0 : World} {b : Nat} {R : Nat → Prop} {q : PSt} {S : Nat → Prop} {v8 : Value} {ys : List Int} (hp : Pip w w0 b R q) (h : OwnG w w0 S v8 ys) : ∀ x, (R x ∨ v8.ownBlock = some x) → x < w0.heap.size :=
  fun x hx => hx.elim (hp.pipe.lt x) (fun h8 => (h.own.lt x h8).2)

theorem run_cvD {w : World} {R : Nat → Prop} {A : Option Addr} {n cap : Nat} {xs : List Int} {st : ByteArray} (h : BytesAt w R A n cap xs) (hs : st = strOfNums xs) : (convert 22 9 (.slice A n cap)).run Try.prog w.drew = .ok (.string st) w.drew := by
  rw [hs]
  exact run_cv (h.chg (Chg.refl (fun _ => False) w).drew (fun _ _ q => q))

set_option maxRecDepth 100000 in
set_option maxHeartbeats 16000000 in
theorem cons_main (win : Int) (A0 : Option Addr) (len cap0 : Nat) (l : List TOp) (w : World) (h : TOpsAt w A0 len l) (hl : largeB l = false) (hw0 : 1 ≤ win) (hw1 : win ≤ 65536) :
    Calls Try.prog 6 #[.int .i64 win, .slice A0 len cap0] w fun e w' => e = .returned (.bool true) ∧ Same w w' := by
  have HL := Lib.hid (large_ok A0 len cap0 l w h)
  rw [hl] at HL
  have hlen : len ≤ 100 := by have h1 := h.1.1; unfold largeB at hl; simp at hl; omega
  have hx4 : ∀ x ∈ l, x.len ≤ 4000 := by unfold largeB at hl; simp at hl; exact hl.2
  have HX4 := Lib.hid hx4
  have HO := Lib.hid h
  clear h hl hx4
  go_enter Try.func6, Try.ntmps6
  go_wp2_with fail
  refine HL.out.mono ?_
  rintro e w' ⟨rfl, rfl⟩
  go_wp2_with fail
  refine (pnew_v _ win hw0 hw1).mono ?_
  rintro e w1 ⟨b, R, rfl, hp, hc⟩
  have HP1 := Lib.hid hp
  clear hp hc
  go_wp2_with fail
  go_loopg [7, 8, 9, 10, 11, 43] len (fun g v7 v8 v9 v10 v11 v43 wr => ∃ i : Nat, i ≤ len ∧ g = len - i ∧ v43 = .int .i64 i ∧ CnR w b win i v7 v8 v9 v10 v11 wr)
  case atStart => exact ⟨0, by omega, by omega, rfl, _, R, [], [], 0, HP1.out, OwnG.nil _ _ _, OwnG.nil _ _ _, rfl, rfl, rfl, CInv.new hw0 hw1⟩
  case round =>
    obtain ⟨i, hi, hg, rfl, q, R1, ins, outs, G, hp, hin, hout, rfl, rfl, rfl, hinv⟩ := hrel
    have HP := Lib.hid hp
    have HIN := Lib.hid hin
    have HOUT := Lib.hid hout
    have HINV := Lib.hid hinv
    have HG := Lib.hid hg
    clear hp hin hout hinv hg
    by_cases hlt : i < len
    · obtain ⟨bb, o, x, rfl, hbw, hx, hok, c0, c1, c2⟩ := HO.out.at_ hlt
      have hii : (i : Int) < len := by omega
      have d0 := HP.out.same.cell c0 (fun q => q)
      have d1 := HP.out.same.cell c1 (fun q => q)
      have d2 := HP.out.same.cell c2 (fun q => q)
      have HOK := Lib.hid hok
      have hx4 := HX4.out _ (List.mem_of_getElem? hx)
      obtain ⟨kd, m, Ax, lx, cx, xs⟩ := x
      simp only at d0 d1 d2 hx4
      have hm2 : m ≤ 9223372036854775807 := hok.2.1.2
      clear hx hok c0 c1 c2
      go_upto_block 2 with fail
      go_cut [7, 8, 9, 10, 11] (fun v7 v8 v9 v10 v11 wx => CnR w b win (i + 1) v7 v8 v9 v10 v11 wx)
      case first =>
        by_cases hk0 : kd = 0
        · as_aux_lemma =>
          subst hk0
          cases ho : q.over
          · as_aux_lemma =>
            obtain ⟨kn, hkn⟩ : ∃ kn : Nat, kn = q.wrN xs.length := ⟨_, rfl⟩
            have hv : q.wrE = 0 := by unfold PSt.wrE; rw [if_neg (by rw [ho]; simp)]
            have hknl : kn ≤ lx := by have := (q.wrN_le xs.length).1; rw [← hkn, HOK.out.2.2.1] at this; exact this
            have hkc : kn ≤ cx := by have := HOK.out.2.2.2.1; simp only at this; omega
            have hcx : cx ≤ 9223372036854775807 := by have := HOK.out.2.2.2.2.1; unfold maxLen at this; exact this
            have HKN := Lib.hid hkn
            have HV := Lib.hid hv
            clear hkn hv ho
            go_wp2_with fail
            refine (pwrite_v (q.write xs) kn 0 Ax lx cx xs (HP.out.same_ ((Chg.refl _ _).alloc _)) (HOK.out.2.2.chg (HP.out.same.alloc _) (fun _ _ q => q)) (by rw [HKN.out]) HV.out rfl).mono ?_
            rintro e w3 ⟨rfl, R3, hp3, hR3, hc3⟩
            have HX0 := Lib.hid (hc3.at_ (at_new wr (.cells #[.int .i64 0, .int .i64 m, .slice Ax lx cx] 44)) (fun hr => by have := HP.out.pipe.lt _ hr; omega))
            have HP3 := Lib.hid hp3
            have HIN3 := Lib.hid (own_wrote (own_alloc HIN.out _) hc3 hR3)
            have HOUT3 := Lib.hid (own_wrote (own_alloc HOUT.out _) hc3 hR3)
            have x2 : w3.cell? ⟨wr.heap.size, 2, none⟩ = some (.slice Ax lx cx) := by rw [cell_of_row w3 _ 2 _ _ _ HX0.out]; rfl
            have HIL : Hid (ins.length ≤ 400000) := Lib.hid (by have h1 := HINV.out.il; have h2 : i * 4000 ≤ 100 * 4000 := Nat.mul_le_mul_right _ (by omega); omega)
            clear hp3 hR3 hc3 d0 d1 d2
            go_wp2_with (at_builtin; refine wpl_appendG HIN3.out (own_lt2 HP3.out HOUT3.out) rfl Ax kn cx (xs.take kn) rfl ((HOK.out.2.2.take (by omega)).chg HP3.out.same (fun _ _ q => q)) (by have := HIL.out; omega) HP3.out.same.size ?_; intro A6 c6 w6 ho6 hk6; have HO6 := Lib.hid ho6; have HK6 := Lib.hid hk6; clear ho6 hk6)
            go_meet
            exact ⟨q.write xs, R3, ins ++ xs.take kn, outs, G, HP3.out.next HK6.out (fun x hx => ⟨fun hr => HIN3.out.off x hx (.inl hr), (HIN3.out.own.lt x hx).1⟩), HO6.out, own_swap HO6.out HOUT3.out HK6.out, rfl, rfl, rfl, by rw [HKN.out]; exact HINV.out.write xs (by rw [HOK.out.2.2.1]; exact hx4)⟩
          · as_aux_lemma =>
            obtain ⟨kn, hkn⟩ : ∃ kn : Nat, kn = q.wrN xs.length := ⟨_, rfl⟩
            have hv : q.wrE = 20 := by unfold PSt.wrE; rw [if_pos ho]
            have hkz : kn = 0 := by rw [hkn]; unfold PSt.wrN; rw [if_pos ho]
            subst hkz
            have hkc : 0 ≤ cx := by have := HOK.out.2.2.2.1; simp only at this; omega
            have hcx : cx ≤ 9223372036854775807 := by have := HOK.out.2.2.2.2.1; unfold maxLen at this; exact this
            have HKN := Lib.hid hkn
            have HV := Lib.hid hv
            clear hkn hv ho
            go_wp2_with fail
            refine (pwrite_v (q.write xs) ((0 : Nat) : Int) 20 Ax lx cx xs (HP.out.same_ ((Chg.refl _ _).alloc _)) (HOK.out.2.2.chg (HP.out.same.alloc _) (fun _ _ q => q)) (by rw [HKN.out]) HV.out rfl).mono ?_
            rintro e w3 ⟨rfl, R3, hp3, hR3, hc3⟩
            have HX0 := Lib.hid (hc3.at_ (at_new wr (.cells #[.int .i64 0, .int .i64 m, .slice Ax lx cx] 44)) (fun hr => by have := HP.out.pipe.lt _ hr; omega))
            have HP3 := Lib.hid hp3
            have HIN3 := Lib.hid (own_wrote (own_alloc HIN.out _) hc3 hR3)
            have HOUT3 := Lib.hid (own_wrote (own_alloc HOUT.out _) hc3 hR3)
            have x2 : w3.cell? ⟨wr.heap.size, 2, none⟩ = some (.slice Ax lx cx) := by rw [cell_of_row w3 _ 2 _ _ _ HX0.out]; rfl
            have HIL : Hid (ins.length ≤ 400000) := Lib.hid (by have h1 := HINV.out.il; have h2 : i * 4000 ≤ 100 * 4000 := Nat.mul_le_mul_right _ (by omega); omega)
            clear hp3 hR3 hc3 d0 d1 d2
            go_wp2_with (at_builtin; refine wpl_appendG HIN3.out (own_lt2 HP3.out HOUT3.out) rfl Ax 0 cx (xs.take 0) rfl ((HOK.out.2.2.take (by omega)).chg HP3.out.same (fun _ _ q => q)) (by have := HIL.out; omega) HP3.out.same.size ?_; intro A6 c6 w6 ho6 hk6; have HO6 := Lib.hid ho6; have HK6 := Lib.hid hk6; clear ho6 hk6)
            go_meet
            exact ⟨q.write xs, R3, ins ++ xs.take 0, outs, G, HP3.out.next HK6.out (fun x hx => ⟨fun hr => HIN3.out.off x hx (.inl hr), (HIN3.out.own.lt x hx).1⟩), HO6.out, own_swap HO6.out HOUT3.out HK6.out, rfl, rfl, rfl, by have h0 := HINV.out.write xs (by rw [HOK.out.2.2.1]; exact hx4); rw [← HKN.out] at h0; exact h0⟩
        have e0 : (kd == 0) = false := by simpa using hk0
        by_cases hk1 : kd = 1
        · as_aux_lemma =>
          subst hk1
          clear hk0 e0
          obtain ⟨ys, hys⟩ : ∃ ys, ys = q.rd m := ⟨_, rfl⟩
          obtain ⟨ny, hny⟩ : ∃ ny, ny = ys.length := ⟨_, rfl⟩
          obtain ⟨vv, hvv⟩ : ∃ vv, vv = q.rdE m := ⟨_, rfl⟩
          have hyl : ny ≤ 65536 := by
            rw [hny, hys]
            unfold PSt.rd
            rw [List.length_take]
            have h1 := HINV.out.ok.sum
            have h2 := HINV.out.ok.w1
            have h3 := HINV.out.ok.c0
            omega
          have HYS := Lib.hid (And.intro hys (And.intro hny hvv))
          clear hys hny hvv
          go_wp2_with fail
          refine (pread_n (q.read m) ys ny vv m (HP.out.same_ ((Chg.refl _ _).alloc _)) HYS.out.1.symm HYS.out.2.1.symm HYS.out.2.2.symm rfl).mono ?_
          rintro e w3 ⟨A7, c7, rfl, hb7, hp3, hc3⟩
          have HP3 := Lib.hid hp3
          have HIN3 := Lib.hid (own_wrote (own_alloc HIN.out _) hc3 (fun _ h => .inl h))
          have HOUT3 := Lib.hid (own_wrote (own_alloc HOUT.out _) hc3 (fun _ h => .inl h))
          have HB7 := Lib.hid hb7
          have HIL : Hid (outs.length ≤ 400000) := Lib.hid (by have h0 := HINV.out.len.1; have h1 := HINV.out.il; have h2 : i * 4000 ≤ 100 * 4000 := Nat.mul_le_mul_right _ (by omega); omega)
          clear hp3 hc3 hb7 d0 d1 d2
          go_wp2_with (at_builtin; refine wpl_appendG HOUT3.out (own_lt2 HP3.out HIN3.out) rfl A7 ny c7 ys rfl HB7.out (by have := HIL.out; omega) HP3.out.same.size ?_; intro A6 c6 w6 ho6 hk6; have HO6 := Lib.hid ho6; have HK6 := Lib.hid hk6; clear ho6 hk6)
          go_meet
          exact ⟨q.read m, R1, ins, outs ++ ys, G, HP3.out.next HK6.out (fun x hx => ⟨fun hr => HOUT3.out.off x hx (.inl hr), (HOUT3.out.own.lt x hx).1⟩), own_swap HO6.out HIN3.out HK6.out, HO6.out, rfl, rfl, rfl, by rw [HYS.out.1]; exact HINV.out.read m⟩
        have e1 : (kd == 1) = false := by simpa using hk1
        by_cases hk2 : kd = 2
        · as_aux_lemma =>
          subst hk2
          clear hk0 hk1 e0 e1
          by_cases hz : q.grE m = 0
          · as_aux_lemma =>
            have hgo := HINV.out.grantOk m hz
            have hm0 := hgo.2.1
            have hm6 := hgo.2.2
            have hG0 := HINV.out.g0
            have hG1 : G ≤ 6553600 := by have h1 := HINV.out.g1; have h2 : (i : Int) * 65536 ≤ 100 * 65536 := Int.mul_le_mul_of_nonneg_right (by omega) (by decide); exact Int.le_trans h1 (Int.le_trans h2 (by decide))
            have HZ := Lib.hid hz
            have HCL : Hid (Value.bool q.cl = .bool (q.grant m).cl ∧ Value.bool q.cn = .bool (q.grant m).cn) := Lib.hid (by unfold PSt.grant; split <;> exact ⟨rfl, rfl⟩)
            clear hz hgo
            go_wp2_with fail
            refine (pgrant_v (q.grant m) 0 m (HP.out.same_ ((Chg.refl _ _).alloc _)) hm2 HZ.out rfl).mono ?_
            rintro e w3 ⟨rfl, hp3, hc3⟩
            have HP3 := Lib.hid hp3
            have HIN3 := Lib.hid (own_wrote (own_alloc HIN.out _) hc3 (fun _ h => .inl h))
            have HOUT3 := Lib.hid (own_wrote (own_alloc HOUT.out _) hc3 (fun _ h => .inl h))
            have HX0 := Lib.hid (hc3.at_ (at_new wr (.cells #[.int .i64 2, .int .i64 m, .slice Ax lx cx] 44)) (fun hr => by have := HP.out.pipe.lt _ hr; omega))
            have x1 : w3.cell? ⟨wr.heap.size, 1, none⟩ = some (.int .i64 m) := by rw [cell_of_row w3 _ 1 _ _ _ HX0.out]; rfl
            clear hp3 hc3 d0 d1 d2
            go_wp2_with fail
            go_meet
            exact ⟨_, R1, ins, outs, G + m, HP3.out, HIN3.out, HOUT3.out, rfl, HCL.out.1, HCL.out.2, (HINV.out.grantOk m HZ.out).1⟩
          · as_aux_lemma =>
            obtain ⟨vv, hvv⟩ : ∃ vv, vv = q.grE m := ⟨_, rfl⟩
            have hv0 : (vv == 0) = false := by rw [hvv]; simpa using hz
            have HZ := Lib.hid (And.intro hz hvv)
            have HCL : Hid (Value.bool q.cl = .bool (q.grant m).cl ∧ Value.bool q.cn = .bool (q.grant m).cn) := Lib.hid (by unfold PSt.grant; split <;> exact ⟨rfl, rfl⟩)
            clear hz hvv
            go_wp2_with fail
            refine (pgrant_v (q.grant m) vv m (HP.out.same_ ((Chg.refl _ _).alloc _)) hm2 HZ.out.2.symm rfl).mono ?_
            rintro e w3 ⟨rfl, hp3, hc3⟩
            have HP3 := Lib.hid hp3
            have HIN3 := Lib.hid (own_wrote (own_alloc HIN.out _) hc3 (fun _ h => .inl h))
            have HOUT3 := Lib.hid (own_wrote (own_alloc HOUT.out _) hc3 (fun _ h => .inl h))
            have HX0 := Lib.hid (hc3.at_ (at_new wr (.cells #[.int .i64 2, .int .i64 m, .slice Ax lx cx] 44)) (fun hr => by have := HP.out.pipe.lt _ hr; omega))
            have x1 : w3.cell? ⟨wr.heap.size, 1, none⟩ = some (.int .i64 m) := by rw [cell_of_row w3 _ 1 _ _ _ HX0.out]; rfl
            clear hp3 hc3 d0 d1 d2
            go_wp2_with fail
            go_meet
            exact ⟨_, R1, ins, outs, G, HP3.out, HIN3.out, HOUT3.out, rfl, HCL.out.1, HCL.out.2, HINV.out.grantNo m HZ.out.1⟩
        have e2 : (kd == 2) = false := by simpa using hk2
        by_cases hk3 : kd = 3
        · as_aux_lemma =>
          subst hk3
          clear hk0 hk1 hk2 e0 e1 e2
          cases ho : q.over
          · as_aux_lemma =>
            have HZ := Lib.hid (show q.clE = 0 ∧ Value.bool true = .bool q.close.cl ∧ Value.bool q.cn = .bool q.close.cn by unfold PSt.clE PSt.close; rw [if_neg (by rw [ho]; simp)]; rw [if_neg (by rw [ho]; simp)]; exact ⟨rfl, rfl, rfl⟩)
            clear ho
            go_wp2_with fail
            refine (pclose_v q.close 0 (HP.out.same_ ((Chg.refl _ _).alloc _)) HZ.out.1 rfl).mono ?_
            rintro e w3 ⟨rfl, hp3, hc3⟩
            have HP3 := Lib.hid hp3
            have HIN3 := Lib.hid (own_wrote (own_alloc HIN.out _) hc3 (fun _ h => .inl h))
            have HOUT3 := Lib.hid (own_wrote (own_alloc HOUT.out _) hc3 (fun _ h => .inl h))
            have HX0 := Lib.hid (hc3.at_ (at_new wr (.cells #[.int .i64 3, .int .i64 m, .slice Ax lx cx] 44)) (fun hr => by have := HP.out.pipe.lt _ hr; omega))
            have x1 : w3.cell? ⟨wr.heap.size, 1, none⟩ = some (.int .i64 m) := by rw [cell_of_row w3 _ 1 _ _ _ HX0.out]; rfl
            clear hp3 hc3 d0 d1 d2
            go_wp2_with fail
            go_meet
            exact ⟨_, R1, ins, outs, G, HP3.out, HIN3.out, HOUT3.out, rfl, HZ.out.2.1, HZ.out.2.2, HINV.out.close⟩
          · as_aux_lemma =>
            have HZ := Lib.hid (show q.clE = 20 ∧ Value.bool q.cl = .bool q.close.cl ∧ Value.bool q.cn = .bool q.close.cn by unfold PSt.clE PSt.close; rw [if_pos ho]; rw [if_pos ho]; exact ⟨rfl, rfl, rfl⟩)
            clear ho
            go_wp2_with fail
            refine (pclose_v q.close 20 (HP.out.same_ ((Chg.refl _ _).alloc _)) HZ.out.1 rfl).mono ?_
            rintro e w3 ⟨rfl, hp3, hc3⟩
            have HP3 := Lib.hid hp3
            have HIN3 := Lib.hid (own_wrote (own_alloc HIN.out _) hc3 (fun _ h => .inl h))
            have HOUT3 := Lib.hid (own_wrote (own_alloc HOUT.out _) hc3 (fun _ h => .inl h))
            have HX0 := Lib.hid (hc3.at_ (at_new wr (.cells #[.int .i64 3, .int .i64 m, .slice Ax lx cx] 44)) (fun hr => by have := HP.out.pipe.lt _ hr; omega))
            have x1 : w3.cell? ⟨wr.heap.size, 1, none⟩ = some (.int .i64 m) := by rw [cell_of_row w3 _ 1 _ _ _ HX0.out]; rfl
            clear hp3 hc3 d0 d1 d2
            go_wp2_with fail
            go_meet
            exact ⟨_, R1, ins, outs, G, HP3.out, HIN3.out, HOUT3.out, rfl, HZ.out.2.1, HZ.out.2.2, HINV.out.close⟩
        have e3 : (kd == 3) = false := by simpa using hk3
        clear hk0 hk1 hk2 hk3
        cases hd : (q.cn || q.done)
        · as_aux_lemma =>
          have HZ := Lib.hid (show q.caE = 0 ∧ Value.bool q.cl = .bool q.cancel.cl ∧ Value.bool true = .bool q.cancel.cn by unfold PSt.caE PSt.cancel; rw [if_neg (by rw [hd]; simp)]; rw [if_neg (by rw [hd]; simp)]; exact ⟨rfl, rfl, rfl⟩)
          clear hd
          go_wp2_with fail
          refine (pcancel_v q.cancel 0 (HP.out.same_ ((Chg.refl _ _).alloc _)) HZ.out.1 rfl).mono ?_
          rintro e w3 ⟨rfl, hp3, hc3⟩
          have HP3 := Lib.hid hp3
          have HIN3 := Lib.hid (own_wrote (own_alloc HIN.out _) hc3 (fun _ h => .inl h))
          have HOUT3 := Lib.hid (own_wrote (own_alloc HOUT.out _) hc3 (fun _ h => .inl h))
          have HX0 := Lib.hid (hc3.at_ (at_new wr (.cells #[.int .i64 kd, .int .i64 m, .slice Ax lx cx] 44)) (fun hr => by have := HP.out.pipe.lt _ hr; omega))
          have x1 : w3.cell? ⟨wr.heap.size, 1, none⟩ = some (.int .i64 m) := by rw [cell_of_row w3 _ 1 _ _ _ HX0.out]; rfl
          clear hp3 hc3 d0 d1 d2
          go_wp2_with fail
          go_meet
          exact ⟨_, R1, ins, outs, G, HP3.out, HIN3.out, HOUT3.out, rfl, HZ.out.2.1, HZ.out.2.2, HINV.out.cancel⟩
        · as_aux_lemma =>
          have HZ := Lib.hid (show q.caE = 20 ∧ Value.bool q.cl = .bool q.cancel.cl ∧ Value.bool q.cn = .bool q.cancel.cn by unfold PSt.caE PSt.cancel; rw [if_pos hd]; rw [if_pos hd]; exact ⟨rfl, rfl, rfl⟩)
          clear hd
          go_wp2_with fail
          refine (pcancel_v q.cancel 20 (HP.out.same_ ((Chg.refl _ _).alloc _)) HZ.out.1 rfl).mono ?_
          rintro e w3 ⟨rfl, hp3, hc3⟩
          have HP3 := Lib.hid hp3
          have HIN3 := Lib.hid (own_wrote (own_alloc HIN.out _) hc3 (fun _ h => .inl h))
          have HOUT3 := Lib.hid (own_wrote (own_alloc HOUT.out _) hc3 (fun _ h => .inl h))
          have HX0 := Lib.hid (hc3.at_ (at_new wr (.cells #[.int .i64 kd, .int .i64 m, .slice Ax lx cx] 44)) (fun hr => by have := HP.out.pipe.lt _ hr; omega))
          have x1 : w3.cell? ⟨wr.heap.size, 1, none⟩ = some (.int .i64 m) := by rw [cell_of_row w3 _ 1 _ _ _ HX0.out]; rfl
          clear hp3 hc3 d0 d1 d2
          go_wp2_with fail
          go_meet
          exact ⟨_, R1, ins, outs, G, HP3.out, HIN3.out, HOUT3.out, rfl, HZ.out.2.1, HZ.out.2.2, HINV.out.cancel⟩
      case rest =>
        as_aux_lemma =>
        clear d0 d1 d2
        obtain ⟨q3, R3, ins3, outs3, G3, hp3, hin3, hout3, rfl, rfl, rfl, hinv3⟩ := hcut
        have HP3 := Lib.hid hp3
        have HIN3 := Lib.hid hin3
        have HOUT3 := Lib.hid hout3
        have HINV3 := Lib.hid hinv3
        obtain ⟨A7, c7, h7e, hb7⟩ := hin3.bytes
        obtain ⟨A8, c8, h8e, hb8⟩ := hout3.bytes
        subst h7e h8e
        have hln := hinv3.len
        have hok3 := hinv3.ok
        have hg30 := hinv3.g0
        have hgr3 := hinv3.gr
        have hdn3 : q3.done = (q3.cl && q3.bs.isEmpty && !q3.cn) := rfl
        have hbe3 : q3.bs.isEmpty = decide ((q3.bs.length : Int) = 0) := by cases q3.bs <;> simp <;> omega
        have HLN := Lib.hid (And.intro hln (And.intro hgr3 (And.intro hdn3 hbe3)))
        have hli : ins3.length ≤ 400000 := by have h1 := hinv3.il; have h2 : (i + 1) * 4000 ≤ 100 * 4000 := Nat.mul_le_mul_right _ (by omega); omega
        have hlo : outs3.length ≤ ins3.length := hln.1
        have hcr0 : 0 ≤ q3.cr := hln.2.2.2.2.2
        have hsum : q3.cr + q3.bs.length ≤ win := hln.2.2.2.2.1
        have hbs0 : 0 ≤ (q3.bs.length : Int) := Int.natCast_nonneg _
        have hc7 : outs3.length ≤ c7 := by have := hb7.2.1; omega
        have HB7 := Lib.hid hb7
        have HB8 := Lib.hid hb8
        clear hp3 hin3 hout3 hinv3 hb7 hb8 hln hok3 hgr3 hdn3 hbe3
        have v8 := run_cv HB8.out
        have v7 := run_cv (HB7.out.take hlo)
        rw [HLN.out.1.2.1] at v7
        obtain ⟨st, hst⟩ : ∃ st, st = strOfNums outs3 := ⟨_, rfl⟩
        rw [← hst] at v7 v8
        have HST := Lib.hid hst
        clear hst
        have h28 : ¬ (ins3.length < outs3.length) := by omega
        have hwr : IntKind.i64.wrap (q3.cr + (q3.bs.length : Int)) = q3.cr + (q3.bs.length : Int) := IntWalk.i64_in _ (by omega)
        have hd1 : decide (win < q3.cr + (q3.bs.length : Int)) = false := by rw [decide_eq_false_iff_not]; omega
        have hd2 : decide (q3.cr < 0) = false := by rw [decide_eq_false_iff_not]; omega
        go_wp2_with fail
        refine region_path (S := (fun w' => (convert 22 9 (.slice A8 outs3.length c8)).run Try.prog w' = .ok (.string st) w' ∧ (convert 22 9 (.slice A7 outs3.length c7)).run Try.prog w' = .ok (.string st) w')) 99 [(0, true), (1, true), (2, true), (3, true), (4, true), (5, true), (6, true), (7, true), (8, true), (9, true), (10, true), (11, true), (12, true), (13, true), (14, true), (15, true), (16, true), (18, true), (21, true), (17, false), (19, false), (20, true), (22, true), (23, true), (24, true), (25, true), (26, false), (27, true), (28, true)] (by kernel_rfl) (by kernel_rfl) (by kernel_rfl) ⟨run_cvD HB8.out HST.out, run_cvD (HB7.out.take hlo) (by rw [HLN.out.1.2.1]; exact HST.out)⟩ ?_
        refine path_read (i := 0) (v := ?v1_0) rfl (by rfl) (fun _ _ _ h => h) ?hy1_0 ?_
        case hy1_0 => ((intro w hSw; (try dsimp only at hSw); go_simp) <;> (try with_reducible rfl))
        try simp only [Act.put, List.setIfInBounds_toArray, List.set_cons_zero, List.set_cons_succ]
        refine path_read (i := 1) (v := ?v1_1) rfl (by rfl) (fun _ _ _ h => h) ?hy1_1 ?_
        case hy1_1 => ((intro w hSw; (try dsimp only at hSw); go_simp) <;> (try with_reducible rfl))
        try simp only [Act.put, List.setIfInBounds_toArray, List.set_cons_zero, List.set_cons_succ]
        refine path_read (i := 2) (v := ?v1_2) rfl (by rfl) (fun _ _ _ h => h) ?hy1_2 ?_
        case hy1_2 => ((intro w hSw; (try dsimp only at hSw); go_simp) <;> (try with_reducible rfl))
        try simp only [Act.put, List.setIfInBounds_toArray, List.set_cons_zero, List.set_cons_succ]
        refine path_read (i := 3) (v := ?v1_3) rfl (by rfl) (fun _ _ _ h => h) ?hy1_3 ?_
        case hy1_3 => ((intro w hSw; (try dsimp only at hSw); go_simp) <;> (try with_reducible rfl))
        try simp only [Act.put, List.setIfInBounds_toArray, List.set_cons_zero, List.set_cons_succ]
        refine path_read (i := 4) (v := ?v1_4) rfl (by rfl) (fun _ _ _ h => h) ?hy1_4 ?_
        case hy1_4 => ((intro w hSw; (try dsimp only at hSw); go_simp) <;> (try with_reducible rfl))
        try simp only [Act.put, List.setIfInBounds_toArray, List.set_cons_zero, List.set_cons_succ]
        refine path_read (i := 5) (v := ?v1_5) rfl (by rfl) (fun _ _ _ h => h) ?hy1_5 ?_
        case hy1_5 => ((intro w hSw; (try dsimp only at hSw); go_simp) <;> (try with_reducible rfl))
        try simp only [Act.put, List.setIfInBounds_toArray, List.set_cons_zero, List.set_cons_succ]
        refine path_read (i := 6) (v := ?v1_6) rfl (by rfl) (fun _ _ _ h => h) ?hy1_6 ?_
        case hy1_6 => ((intro w hSw; (try dsimp only at hSw); go_simp) <;> (try with_reducible rfl))
        try simp only [Act.put, List.setIfInBounds_toArray, List.set_cons_zero, List.set_cons_succ]
        refine path_read (i := 7) (v := ?v1_7) rfl (by rfl) (fun _ _ _ h => h) ?hy1_7 ?_
        case hy1_7 => ((intro w hSw; (try dsimp only at hSw); go_simp) <;> (try with_reducible rfl))
        try simp only [Act.put, List.setIfInBounds_toArray, List.set_cons_zero, List.set_cons_succ]
        refine path_read (i := 8) (v := ?v1_8) rfl (by rfl) (fun _ _ _ h => h) ?hy1_8 ?_
        case hy1_8 => ((intro w hSw; (try dsimp only at hSw); go_simp) <;> (try with_reducible rfl))
        try simp only [Act.put, List.setIfInBounds_toArray, List.set_cons_zero, List.set_cons_succ]
        refine path_read (i := 9) (v := ?v1_9) rfl (by rfl) (fun _ _ _ h => h) ?hy1_9 ?_
        case hy1_9 => ((intro w hSw; (try dsimp only at hSw); go_simp) <;> (try with_reducible rfl))
        try simp only [Act.put, List.setIfInBounds_toArray, List.set_cons_zero, List.set_cons_succ]
        refine path_read (i := 10) (v := ?v1_10) rfl (by rfl) (fun _ _ _ h => h) ?hy1_10 ?_
        case hy1_10 => ((intro w hSw; (try dsimp only at hSw); go_simp) <;> (try with_reducible rfl))
        try simp only [Act.put, List.setIfInBounds_toArray, List.set_cons_zero, List.set_cons_succ]
        refine path_read (i := 11) (v := ?v1_11) rfl (by rfl) (fun _ _ _ h => h) ?hy1_11 ?_
        case hy1_11 => ((intro w hSw; (try dsimp only at hSw); go_simp) <;> (try with_reducible rfl))
        try simp only [Act.put, List.setIfInBounds_toArray, List.set_cons_zero, List.set_cons_succ]
        refine path_read (i := 12) (v := ?v1_12) rfl (by rfl) (fun _ _ _ h => h) ?hy1_12 ?_
        case hy1_12 => ((intro w hSw; (try dsimp only at hSw); go_simp) <;> (try with_reducible rfl))
        try simp only [Act.put, List.setIfInBounds_toArray, List.set_cons_zero, List.set_cons_succ]
        refine path_read (i := 13) (v := ?v1_13) rfl (by rfl) (fun _ _ _ h => h) ?hy1_13 ?_
        case hy1_13 => ((intro w hSw; (try dsimp only at hSw); go_simp) <;> (try with_reducible rfl))
        try simp only [Act.put, List.setIfInBounds_toArray, List.set_cons_zero, List.set_cons_succ]
        refine path_read (i := 14) (v := ?v1_14) rfl (by rfl) (fun _ _ _ h => h) ?hy1_14 ?_
        case hy1_14 => ((intro w hSw; (try dsimp only at hSw); go_simp) <;> (try with_reducible rfl))
        try simp only [Act.put, List.setIfInBounds_toArray, List.set_cons_zero, List.set_cons_succ]
        refine path_read (i := 15) (v := ?v1_15) rfl (by rfl) (fun _ _ _ h => h) ?hy1_15 ?_
        case hy1_15 => ((intro w hSw; (try dsimp only at hSw); go_simp) <;> (try with_reducible rfl))
        try simp only [Act.put, List.setIfInBounds_toArray, List.set_cons_zero, List.set_cons_succ]
        refine path_read (i := 16) (v := ?v1_16) rfl (by rfl) (fun _ _ _ h => h) ?hy1_16 ?_
        case hy1_16 => ((intro w hSw; (try dsimp only at hSw); go_simp) <;> (try with_reducible rfl))
        try simp only [Act.put, List.setIfInBounds_toArray, List.set_cons_zero, List.set_cons_succ]
        refine path_read (i := 18) (v := ?v1_18) rfl (by rfl) (fun _ _ _ h => h) ?hy1_18 ?_
        case hy1_18 => ((intro w hSw; (try dsimp only at hSw); go_simp) <;> (try with_reducible rfl))
        try simp only [Act.put, List.setIfInBounds_toArray, List.set_cons_zero, List.set_cons_succ]
        refine path_read (i := 21) (v := ?v1_21) rfl (by rfl) (fun _ _ _ h => h) ?hy1_21 ?_
        case hy1_21 => ((intro w hSw; (try dsimp only at hSw); go_simp) <;> (try with_reducible rfl))
        try simp only [Act.put, List.setIfInBounds_toArray, List.set_cons_zero, List.set_cons_succ]
        refine path_do (i := 17) rfl ?_
        go_wp2_with ((first | (go_at_call 17; refine (pcredit_v q3.cr (HP3.out.same_ (Chg.refl (fun _ => False) _).drew) rfl).mono ?_; rintro e wq ⟨rfl, rfl⟩) | (go_at_call 18; refine (pbuffered_v q3.bs.length (HP3.out.same_ (Chg.refl (fun _ => False) _).drew) rfl).mono ?_; rintro e wq ⟨rfl, rfl⟩)))
        refine ⟨.inr ?keep1_17, ?_⟩
        case keep1_17 => ((exact ⟨run_cvD HB8.out HST.out, run_cvD (HB7.out.take hlo) (by rw [HLN.out.1.2.1]; exact HST.out)⟩))
        try simp only [Act.put, List.setIfInBounds_toArray, List.set_cons_zero, List.set_cons_succ]
        refine path_do (i := 19) rfl ?_
        go_wp2_with ((first | (go_at_call 17; refine (pcredit_v q3.cr (HP3.out.same_ (Chg.refl (fun _ => False) _).drew) rfl).mono ?_; rintro e wq ⟨rfl, rfl⟩) | (go_at_call 18; refine (pbuffered_v q3.bs.length (HP3.out.same_ (Chg.refl (fun _ => False) _).drew) rfl).mono ?_; rintro e wq ⟨rfl, rfl⟩)))
        refine ⟨.inr ?keep1_19, ?_⟩
        case keep1_19 => ((exact ⟨run_cvD HB8.out HST.out, run_cvD (HB7.out.take hlo) (by rw [HLN.out.1.2.1]; exact HST.out)⟩))
        try simp only [Act.put, List.setIfInBounds_toArray, List.set_cons_zero, List.set_cons_succ]
        refine path_read (i := 20) (v := ?v1_20) rfl (by rfl) (fun _ _ _ h => h) ?hy1_20 ?_
        case hy1_20 => ((intro w hSw; (try dsimp only at hSw); go_simp) <;> (try with_reducible rfl))
        try simp only [Act.put, List.setIfInBounds_toArray, List.set_cons_zero, List.set_cons_succ]
        refine path_read (i := 22) (v := ?v1_22) rfl (by rfl) (fun _ _ _ h => h) ?hy1_22 ?_
        case hy1_22 => ((intro w hSw; (try dsimp only at hSw); go_simp) <;> (try with_reducible rfl))
        try simp only [Act.put, List.setIfInBounds_toArray, List.set_cons_zero, List.set_cons_succ]
        refine path_read (i := 23) (v := ?v1_23) rfl (by rfl) (fun _ _ _ h => h) ?hy1_23 ?_
        case hy1_23 => ((intro w hSw; (try dsimp only at hSw); go_simp) <;> (try with_reducible rfl))
        try simp only [Act.put, List.setIfInBounds_toArray, List.set_cons_zero, List.set_cons_succ]
        refine path_read (i := 24) (v := ?v1_24) rfl (by rfl) (fun _ _ _ h => h) ?hy1_24 ?_
        case hy1_24 => ((intro w hSw; (try dsimp only at hSw); go_simp) <;> (try with_reducible rfl))
        try simp only [Act.put, List.setIfInBounds_toArray, List.set_cons_zero, List.set_cons_succ]
        refine path_read (i := 25) (v := ?v1_25) rfl (by rfl) (fun _ _ _ h => h) ?hy1_25 ?_
        case hy1_25 => ((intro w hSw; (try dsimp only at hSw); go_simp) <;> (try with_reducible rfl))
        try simp only [Act.put, List.setIfInBounds_toArray, List.set_cons_zero, List.set_cons_succ]
        refine path_do (i := 26) rfl ?_
        go_wp2_with ((first | (go_at_call 17; refine (pcredit_v q3.cr (HP3.out.same_ (Chg.refl (fun _ => False) _).drew) rfl).mono ?_; rintro e wq ⟨rfl, rfl⟩) | (go_at_call 18; refine (pbuffered_v q3.bs.length (HP3.out.same_ (Chg.refl (fun _ => False) _).drew) rfl).mono ?_; rintro e wq ⟨rfl, rfl⟩)))
        refine ⟨.inr ?keep1_26, ?_⟩
        case keep1_26 => ((exact ⟨run_cvD HB8.out HST.out, run_cvD (HB7.out.take hlo) (by rw [HLN.out.1.2.1]; exact HST.out)⟩))
        try simp only [Act.put, List.setIfInBounds_toArray, List.set_cons_zero, List.set_cons_succ]
        refine path_read (i := 27) (v := ?v1_27) rfl (by rfl) (fun _ _ _ h => h) ?hy1_27 ?_
        case hy1_27 => ((intro w hSw; (try dsimp only at hSw); go_simp) <;> (try with_reducible rfl))
        try simp only [Act.put, List.setIfInBounds_toArray, List.set_cons_zero, List.set_cons_succ]
        refine path_read (i := 28) (v := ?v1_28) rfl (by rfl) (fun _ _ _ h => h) ?hy1_28 ?_
        case hy1_28 => ((intro w hSw; (try dsimp only at hSw); go_simp) <;> (try with_reducible rfl))
        try simp only [Act.put, List.setIfInBounds_toArray, List.set_cons_zero, List.set_cons_succ]
        refine path_end ?_
        have HPd := Lib.hid (HP3.out.same_ (Chg.refl (fun _ => False) wc).drew)
        clear v7 v8 h28 hwr hd1 hd2
        generalize hLi : ins3.length = Li at *
        generalize hLo : outs3.length = Lo at *
        have HLi := Lib.hid hLi
        have HLo := Lib.hid hLo
        clear hLi hLo
        cases hcl : q3.cl <;> cases hcn : q3.cn
        all_goals
          have HCL := Lib.hid hcl
          have HCN := Lib.hid hcn
          clear hcl hcn
        · as_aux_lemma =>
          have HBF : Hid ((q3.bs.length : Int) = (Li : Int) - Lo) := Lib.hid (HLN.out.1.2.2.1 HCN.out)
          have HDN : Hid (q3.done = false) := Lib.hid (by rw [HLN.out.2.2.1, HCL.out]; rfl)
          have hG : G3 = (Li : Int) + q3.cr := (HLN.out.2.1 HCL.out HCN.out).symm
          subst hG
          go_wp2_with (first | (go_at_call 18; refine (pbuffered_v ((Li : Int) - Lo) HPd.out HBF.out).mono ?_; rintro e wq ⟨rfl, rfl⟩) | (go_at_call 17; refine (pcredit_v q3.cr HPd.out rfl).mono ?_; rintro e wq ⟨rfl, rfl⟩) | (go_at_call 15; refine (pdone_v false HPd.out HDN.out).mono ?_; rintro e wq ⟨rfl, rfl⟩))
          go_roundg (len - (i + 1))
          case measure => have := HG.out; omega
          case rel => exact ⟨i + 1, by omega, by rfl, by go_num, q3, R3, ins3, outs3, _, HPd.out, HIN3.out.chg (Chg.refl (fun _ => False) wc).drew (fun _ q _ => q), HOUT3.out.chg (Chg.refl (fun _ => False) wc).drew (fun _ q _ => q), rfl, by rw [HCL.out], by rw [HCN.out], HINV3.out⟩
        · as_aux_lemma =>
          have HBZ : Hid ((q3.bs.length : Int) = 0) := Lib.hid (HLN.out.1.2.2.2.1 HCN.out).1
          have HCR : Hid (q3.cr = 0) := Lib.hid (HLN.out.1.2.2.2.1 HCN.out).2
          have HDN : Hid (q3.done = false) := Lib.hid (by rw [HLN.out.2.2.1, HCN.out]; simp)
          go_wp2_with (first | (go_at_call 18; refine (pbuffered_v 0 HPd.out HBZ.out).mono ?_; rintro e wq ⟨rfl, rfl⟩) | (go_at_call 17; refine (pcredit_v 0 HPd.out HCR.out).mono ?_; rintro e wq ⟨rfl, rfl⟩) | (go_at_call 15; refine (pdone_v false HPd.out HDN.out).mono ?_; rintro e wq ⟨rfl, rfl⟩))
          go_roundg (len - (i + 1))
          case measure => have := HG.out; omega
          case rel => exact ⟨i + 1, by omega, by rfl, by go_num, q3, R3, ins3, outs3, _, HPd.out, HIN3.out.chg (Chg.refl (fun _ => False) wc).drew (fun _ q _ => q), HOUT3.out.chg (Chg.refl (fun _ => False) wc).drew (fun _ q _ => q), rfl, by rw [HCL.out], by rw [HCN.out], HINV3.out⟩
        · as_aux_lemma =>
          have HBF : Hid ((q3.bs.length : Int) = (Li : Int) - Lo) := Lib.hid (HLN.out.1.2.2.1 HCN.out)
          have HCR : Hid (q3.cr = 0) := Lib.hid (HINV3.out.ok.cl0 HCL.out)
          by_cases hLL : Li = Lo
          · as_aux_lemma =>
            have HDN : Hid (q3.done = true) := Lib.hid (by have h0 : (q3.bs.length : Int) = 0 := by { have := HBF.out; omega }; rw [HLN.out.2.2.1, HLN.out.2.2.2, HCL.out, HCN.out, decide_eq_true h0]; rfl)
            subst hLL
            go_wp2_with (first | (go_at_call 18; refine (pbuffered_v ((Li : Int) - Li) HPd.out HBF.out).mono ?_; rintro e wq ⟨rfl, rfl⟩) | (go_at_call 17; refine (pcredit_v 0 HPd.out HCR.out).mono ?_; rintro e wq ⟨rfl, rfl⟩) | (go_at_call 15; refine (pdone_v true HPd.out HDN.out).mono ?_; rintro e wq ⟨rfl, rfl⟩))
            go_roundg (len - (i + 1))
            case measure => have := HG.out; omega
            case rel => exact ⟨i + 1, by omega, by rfl, by go_num, q3, R3, ins3, outs3, _, HPd.out, HIN3.out.chg (Chg.refl (fun _ => False) wc).drew (fun _ q _ => q), HOUT3.out.chg (Chg.refl (fun _ => False) wc).drew (fun _ q _ => q), rfl, by rw [HCL.out], by rw [HCN.out], HINV3.out⟩
          · as_aux_lemma =>
            have HDN : Hid (q3.done = false) := Lib.hid (by have h0 : ¬ (q3.bs.length : Int) = 0 := by { have := HBF.out; omega }; rw [HLN.out.2.2.1, HLN.out.2.2.2, HCL.out, HCN.out, decide_eq_false h0]; rfl)
            have hl1 : ((Li : Int) == (Lo : Int)) = false := by rw [beq_eq_false_iff_ne]; omega
            have hl2 : (Li == Lo) = false := by rw [beq_eq_false_iff_ne]; exact hLL
            go_wp2_with (first | (go_at_call 18; refine (pbuffered_v ((Li : Int) - Lo) HPd.out HBF.out).mono ?_; rintro e wq ⟨rfl, rfl⟩) | (go_at_call 17; refine (pcredit_v 0 HPd.out HCR.out).mono ?_; rintro e wq ⟨rfl, rfl⟩) | (go_at_call 15; refine (pdone_v false HPd.out HDN.out).mono ?_; rintro e wq ⟨rfl, rfl⟩))
            go_roundg (len - (i + 1))
            case measure => have := HG.out; omega
            case rel => exact ⟨i + 1, by omega, by rfl, by go_num, q3, R3, ins3, outs3, _, HPd.out, HIN3.out.chg (Chg.refl (fun _ => False) wc).drew (fun _ q _ => q), HOUT3.out.chg (Chg.refl (fun _ => False) wc).drew (fun _ q _ => q), rfl, by rw [HCL.out], by rw [HCN.out], HINV3.out⟩
        · as_aux_lemma =>
          have HBZ : Hid ((q3.bs.length : Int) = 0) := Lib.hid (HLN.out.1.2.2.2.1 HCN.out).1
          have HCR : Hid (q3.cr = 0) := Lib.hid (HLN.out.1.2.2.2.1 HCN.out).2
          have HDN : Hid (q3.done = false) := Lib.hid (by rw [HLN.out.2.2.1, HCN.out]; simp)
          go_wp2_with (first | (go_at_call 18; refine (pbuffered_v 0 HPd.out HBZ.out).mono ?_; rintro e wq ⟨rfl, rfl⟩) | (go_at_call 17; refine (pcredit_v 0 HPd.out HCR.out).mono ?_; rintro e wq ⟨rfl, rfl⟩) | (go_at_call 15; refine (pdone_v false HPd.out HDN.out).mono ?_; rintro e wq ⟨rfl, rfl⟩))
          go_roundg (len - (i + 1))
          case measure => have := HG.out; omega
          case rel => exact ⟨i + 1, by omega, by rfl, by go_num, q3, R3, ins3, outs3, _, HPd.out, HIN3.out.chg (Chg.refl (fun _ => False) wc).drew (fun _ q _ => q), HOUT3.out.chg (Chg.refl (fun _ => False) wc).drew (fun _ q _ => q), rfl, by rw [HCL.out], by rw [HCN.out], HINV3.out⟩
    · have hie : ¬ (i : Int) < len := by omega
      go_wp2_with fail
      refine (example41_ok _).mono ?_
      rintro e w10 ⟨rfl, hs⟩
      have HS10 := Lib.hid hs
      clear hs
      go_wp2
      go_ret
      exact ⟨rfl, HP.out.same.trans HS10.out⟩

theorem TransferConservation_walk (win : Int) (A : Option Addr) (len cap : Nat) (l : List TOp) (w : World) (h : TOpsAt w A len l) :
    Calls Try.prog 6 #[.int .i64 win, .slice A len cap] w fun e w' => e = .returned (.bool true) ∧ Same w w' := by
  by_cases hl : largeB l = true
  · exact cons_large win A len cap l w h hl
  have hl' : largeB l = false := by simpa using hl
  by_cases hw : win < 1 ∨ 65536 < win
  · exact cons_bad win A len cap l w h hl' hw
  · exact cons_main win A len cap l w h hl' (by omega) (by omega)
end Go.Proofs.Ytgpfnfcfmogefaa
