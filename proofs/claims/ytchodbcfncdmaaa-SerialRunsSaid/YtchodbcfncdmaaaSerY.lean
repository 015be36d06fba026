/- The walks of package serial, the end: Check, Latest, Forget. -/
import Derived.Test.YtchodbcfncdmaaaSerX
set_option linter.unusedVariables false
set_option linter.unusedSimpArgs false
namespace Go.Proofs.Ytchodbcfncdmaaa
open Go.RowKit

theorem entRes_zero : entRes Ent.zero = .tuple #[.agg #[.int .u32 0, .int .i64 0, .int .i64 0, .int .i64 0], .bool false] := rfl
theorem find_ok (b : Nat) (w : World) (n : Int) (L : SLog) (h : LogAt w b L) :
    Calls Try.prog 21 #[.pointer (some ⟨b, 0, none⟩), .int .u32 n] w fun e w' => e = .returned (entRes (L.find n)) ∧ Same w w' := by
  by_cases hn : n = 0
  · have : L.find n = Ent.zero := by unfold SLog.find; rw [if_pos hn]
    rw [this, entRes_zero]
    exact find_none b w n h.c0 (by simpa using hn)
  · exact find_some b w n L h (by simpa using hn)

set_option maxRecDepth 100000 in
theorem check_ok (b : Nat) (w : World) (n client kinds : Int) (L : SLog) (h : LogAt w b L) :
    Calls Try.prog 13 #[.pointer (some ⟨b, 0, none⟩), .int .u32 n, .int .i64 client, .int .i64 kinds] w fun e w' => e = .returned (.int .i64 (L.check n client kinds)) ∧ Same w w' := by
  have hbd := (SLog.find_ok h.2 n).bounds
  have hf := find_ok b w n L h
  have h0 := h.c0
  clear h
  have hck : L.check n client kinds = if (L.find n).c = 0 then 13 else if fitB (L.find n).c (L.find n).k client kinds then 0 else 13 := rfl
  rw [hck]
  clear hck
  generalize L.find n = x at *
  obtain ⟨s, c, f, k⟩ := x
  simp only [entRes] at hf
  obtain ⟨_, _, _, _, _, _, hk0, hk1⟩ := hbd
  simp only at hk0 hk1 ⊢
  have HF := Lib.hid hf
  clear hf
  by_cases hc : c = 0
  · have hc' : (c != 0) = false := by simp [hc]
    rw [if_pos hc]
    rw [hc'] at HF
    clear hc hc'
    go_enter Try.func13, Try.ntmps13
    go_wp2_with (first | (go_at_call 22; refine (usable_ok _ _ (by assumption)).mono ?_; rintro e w' ⟨rfl, rfl⟩) | (go_at_call 21; refine HF.out.mono ?_; rintro e w1 ⟨rfl, hs1⟩; have HS := Lib.hid hs1; clear hs1))
    go_ret
    refine ⟨rfl, ?_⟩
    repeat (first | (with_reducible refine Chg.drew ?_) | (with_reducible refine Chg.drewN ?_ _) | (with_reducible refine Chg.alloc ?_ _) | (with_reducible refine Chg.setCell ?_ _ _ ?_; rotate_left 1; · (intro q; first | (simp; done) | (exfalso; revert q; simp; done) | (exfalso; revert q; simp; omega) | (simp; omega))))
    exact HS.out
  · have hc' : (c != 0) = true := by simp [hc]
    rw [if_neg hc]
    rw [hc'] at HF
    have hm := fun w => matches_ok s c f k client kinds w hk0 hk1
    have HM := Lib.hid hm
    clear hm hc hc'
    cases hfit : fitB c k client kinds with
    | true =>
      rw [hfit] at HM
      rw [if_pos rfl]
      clear hfit
      go_enter Try.func13, Try.ntmps13
      go_wp2_with (first | (go_at_call 22; refine (usable_ok _ _ (by assumption)).mono ?_; rintro e w' ⟨rfl, rfl⟩) | (go_at_call 21; refine HF.out.mono ?_; rintro e w1 ⟨rfl, hs1⟩; have HS := Lib.hid hs1; clear hs1) | (go_at_call 23; refine (HM.out _).mono ?_; rintro e w2 ⟨rfl, hs2⟩; have HS2 := Lib.hid hs2; clear hs2))
      go_ret
      refine ⟨rfl, Chg.trans ?_ HS2.out⟩
      repeat (first | (with_reducible refine Chg.drew ?_) | (with_reducible refine Chg.drewN ?_ _) | (with_reducible refine Chg.alloc ?_ _) | (with_reducible refine Chg.setCell ?_ _ _ ?_; rotate_left 1; · (intro q; first | (simp; done) | (exfalso; revert q; simp; done) | (exfalso; revert q; simp; omega) | (simp; omega))))
      exact HS.out
    | false =>
      rw [hfit] at HM
      rw [if_neg (by decide)]
      clear hfit
      go_enter Try.func13, Try.ntmps13
      go_wp2_with (first | (go_at_call 22; refine (usable_ok _ _ (by assumption)).mono ?_; rintro e w' ⟨rfl, rfl⟩) | (go_at_call 21; refine HF.out.mono ?_; rintro e w1 ⟨rfl, hs1⟩; have HS := Lib.hid hs1; clear hs1) | (go_at_call 23; refine (HM.out _).mono ?_; rintro e w2 ⟨rfl, hs2⟩; have HS2 := Lib.hid hs2; clear hs2))
      go_ret
      refine ⟨rfl, Chg.trans ?_ HS2.out⟩
      repeat (first | (with_reducible refine Chg.drew ?_) | (with_reducible refine Chg.drewN ?_ _) | (with_reducible refine Chg.alloc ?_ _) | (with_reducible refine Chg.setCell ?_ _ _ ?_; rotate_left 1; · (intro q; first | (simp; done) | (exfalso; revert q; simp; done) | (exfalso; revert q; simp; omega) | (simp; omega))))
      exact HS.out

/-! ### Latest -/
theorem run_load_ent {w : World} {b : Nat} {L : SLog} (h : LogAt w b L) (i : Nat) (hi : i < 256) :
    (loadVar 47 ⟨b, 3 + i * 4, none⟩).run Try.prog w = .ok (.agg #[.int .u32 (EntsAt L i).s, .int .i64 (EntsAt L i).c, .int .i64 (EntsAt L i).f, .int .i64 (EntsAt L i).k]) w := by
  have hl : L.cells.length = 1027 := by
    unfold SLog.cells
    have := SLog.flat_len h.2
    unfold SLog.flat at this
    simp [this]
  have := run_loadMid (P := Try.prog) 47 (3 + i * 4) 4 _ h.1 infoEntry Try.underlying47 rfl (by omega)
  have e : (L.cells.drop (3 + i * 4)).take 4 = (EntsAt L i).cells := by
    have := SLog.flat_take h.2 hi
    unfold SLog.cells
    have e3 : 3 + i * 4 = i * 4 + 1 + 1 + 1 := by omega
    rw [e3]
    simp only [List.drop_succ_cons]
    exact this
  rw [e] at this
  exact this

theorem back_eq (a i : Nat) (ha : a < 256) (hi : i < 256) : (IntKind.i64.wrap (IntKind.i64.wrap (IntKind.i64.wrap ((a : Int) + 256) - 1) - (i : Int))).tmod 256 = (((a + 256 - 1 - i) % 256 : Nat) : Int) := by
  have e1 : IntKind.i64.wrap ((a : Int) + 256) = (a : Int) + 256 := IntWalk.i64_in _ (by omega)
  have e2 : IntKind.i64.wrap ((a : Int) + 256 - 1) = (a : Int) + 256 - 1 := IntWalk.i64_in _ (by omega)
  have e3 : IntKind.i64.wrap ((a : Int) + 256 - 1 - (i : Int)) = (a : Int) + 256 - 1 - (i : Int) := IntWalk.i64_in _ (by omega)
  rw [e1, e2, e3, Int.tmod_eq_emod_of_nonneg (by omega)]
  omega
def LatRel (w : World) (L : SLog) (client kinds : Int) (v : Value) (wr : World) : Prop :=
  ∃ i : Nat, i ≤ 256 ∧ v = .int .i64 i ∧ (∀ j, j < i → fitB (EntsAt L (L.back j)).c (EntsAt L (L.back j)).k client kinds = false) ∧ Same w wr

set_option maxRecDepth 100000 in
set_option maxHeartbeats 1000000 in
theorem latest_ok (b : Nat) (w : World) (client kinds : Int) (L : SLog) (h : LogAt w b L) :
    Calls Try.prog 18 #[.pointer (some ⟨b, 0, none⟩), .int .i64 client, .int .i64 kinds] w fun e w' => e = .returned (.int .u32 (L.latest client kinds)) ∧ Same w w' := by
  have h0 := h.c0
  have HL := Lib.hid h
  clear h
  go_enter Try.func18, Try.ntmps18
  go_wp2_with (first | (go_at_call 22; refine (usable_ok _ _ (by assumption)).mono ?_; rintro e w' ⟨rfl, rfl⟩))
  go_loopw [12] (fun v wr => LatRel w L client kinds v wr) (fun v _ => 256 - (intOf v).toNat)
  case atStart => exact ⟨0, by omega, rfl, fun j hj => by omega, Chg.refl _ w⟩
  case round =>
    obtain ⟨i, hi, rfl, hno, hsame⟩ := hrel
    have hL := HL.out.chg hsame (fun q => q)
    have c2 := hL.c2
    have HS := Lib.hid hsame
    have HN := Lib.hid hno
    have HR := Lib.hid hL
    have ha := hL.2.at_lt
    have ha' : (L.at_ : Int) < 256 := by omega
    clear hsame hno hL h0
    by_cases hlt2 : i < 256
    · have hb2 : (i : Int) < 256 := by omega
      have hback := back_eq L.at_ i ha hlt2
      have hlb : L.back i < 256 := Nat.mod_lt _ (by omega)
      have hbi : L.back i = (L.at_ + 256 - 1 - i) % 256 := rfl
      rw [← hbi] at hback
      have g0 := HR.out.e0 hlb
      have g1 := HR.out.e1 hlb
      have g2 := HR.out.e2 hlb
      have g3 := HR.out.e3 hlb
      have hek := (EntsAt_ok HR.out.2 (L.back i)).bounds
      have HX : Hid (EntsAt L (L.back i) = EntsAt L (L.back i)) := rfl
      clear hbi
      generalize hp : L.back i = p at *
      generalize he : EntsAt L p = x at *
      obtain ⟨s, c, f, k⟩ := x
      obtain ⟨_, _, _, _, _, _, hk0, hk1⟩ := hek
      simp only at hk0 hk1 g0 g1 g2 g3
      have HP := Lib.hid hp
      have HE := Lib.hid he
      have hp' : (p : Int) < 256 := by omega
      have HM := Lib.hid (fun w => matches_ok s c f k client kinds w hk0 hk1)
      clear hp he HX
      have hLn : b < wr.heap.size := lt_of_at HR.out.1
      cases hfit : fitB c k client kinds with
      | true =>
        rw [hfit] at HM
        have HFit := Lib.hid hfit
        clear hfit
        go_wp2
        go_region
        all_goals
          go_wp2_with (go_at_call 23; refine (HM.out _).mono ?_; rintro e w2 ⟨rfl, hs2⟩; have cx := hs2.cell (b := wr.heap.size) (o := 0) (x := .int .u32 s) (by simp) (fun q => q); have HS2 := Lib.hid hs2; clear hs2)
          go_ret
          have hfin : L.latest client kinds = s := by
            unfold SLog.latest
            rw [find_first (fun e => fitB e.c e.k client kinds) (fun i => EntsAt L (L.back i)) 256 i hlt2 HN.out (by rw [HP.out, HE.out]; exact HFit.out), HP.out, HE.out]
            rfl
          refine ⟨by rw [hfin]; rfl, Chg.trans ?_ HS2.out⟩
          repeat (first | (with_reducible refine Chg.drew ?_) | (with_reducible refine Chg.drewN ?_ _) | (with_reducible refine Chg.alloc ?_ _) | (with_reducible refine Chg.setCell ?_ _ _ ?_; rotate_left 1; · (intro q; first | (simp; done) | (exfalso; revert q; simp; done) | (exfalso; revert q; simp; omega) | (simp; omega))))
          exact HS.out
      | false =>
        rw [hfit] at HM
        have HFit := Lib.hid hfit
        clear hfit
        go_wp2
        go_region
        all_goals
          go_wp2_with (go_at_call 23; refine (HM.out _).mono ?_; rintro e w2 ⟨rfl, hs2⟩; have HS2 := Lib.hid hs2; clear hs2)
          go_roundw
          case rel =>
            refine ⟨i + 1, by omega, by go_num, fun j hj => ?_, Chg.trans ?_ HS2.out⟩
            · rcases Nat.lt_succ_iff_lt_or_eq.1 hj with h1 | rfl
              · exact HN.out j h1
              · rw [HP.out, HE.out]; exact HFit.out
            ·
              repeat (first | (with_reducible refine Chg.drew ?_) | (with_reducible refine Chg.drewN ?_ _) | (with_reducible refine Chg.alloc ?_ _) | (with_reducible refine Chg.setCell ?_ _ _ ?_; rotate_left 1; · (intro q; first | (simp; done) | (exfalso; revert q; simp; done) | (exfalso; revert q; simp; omega) | (simp; omega))))
              exact HS.out
          case measure => simp [intOf]; omega
    · have hb2 : ¬ (i : Int) < 256 := by omega
      go_wp2
      go_ret
      have hfin : L.latest client kinds = 0 := by
        unfold SLog.latest
        rw [find_nobody (fun e => fitB e.c e.k client kinds) (fun i => EntsAt L (L.back i)) 256 (fun j hj => HN.out j (by omega))]
        rfl
      exact ⟨by rw [hfin]; rfl, HS.out⟩

/-! ### Forget -/
theorem SLog.cells_set (L : SLog) (hl : L.ents.length = 256) (i : Nat) (hi : i < 256) (e : Ent) :
    ((((L.cells.set (3 + i * 4) (.int .u32 e.s)).set (3 + i * 4 + 1) (.int .i64 e.c)).set (3 + i * 4 + 2) (.int .i64 e.f)).set (3 + i * 4 + 3) (.int .i64 e.k)) = (SLog.mk L.last L.at_ (L.ents.set i e)).cells := by
  have ha : i < L.ents.length := by omega
  have e0 := flat_set Ent.cells 4 Ent.cells_len L.ents i e ha
  have hlf := flat_length Ent.cells 4 Ent.cells_len L.ents
  unfold SLog.cells
  simp only []
  rw [e0]
  have hs := set_run ((L.ents.flatMap Ent.cells).take (i * 4)) ((L.ents.flatMap Ent.cells).drop (i * 4 + 4)) (i * 4) (Ent.cells e) (((L.ents.flatMap Ent.cells).drop (i * 4)).take 4) (by simp [Ent.cells, hlf]; omega) (by simp [hlf]; omega)
  have ec : (L.ents.flatMap Ent.cells).take (i * 4) ++ ((L.ents.flatMap Ent.cells).drop (i * 4)).take 4 ++ (L.ents.flatMap Ent.cells).drop (i * 4 + 4) = L.ents.flatMap Ent.cells := by
    rw [← List.drop_drop, List.append_assoc, List.take_append_drop, List.take_append_drop]
  rw [ec] at hs
  simp only [Ent.cells, List.length_cons, List.length_nil, Nat.reduceAdd, List.range_succ_eq_map, List.range_zero, List.map_nil, List.map_cons, List.foldl_cons, List.foldl_nil, List.getD_cons_zero, List.getD_cons_succ, Nat.add_zero, Nat.succ_eq_add_one, Nat.zero_add] at hs
  have h3 : ∀ n, 3 + n = n + 1 + 1 + 1 := by omega
  simp only [Ent.cells] at *
  rw [← hs]
  simp [h3, Nat.add_right_comm _ 1, List.set_cons_succ, Nat.add_assoc]

def SLog.forgetTo (L : SLog) (client : Int) (i : Nat) : SLog := ⟨L.last, L.at_, (List.range 256).map fun j => if j < i ∧ (EntsAt L j).c = client then Ent.zero else EntsAt L j⟩
theorem SLog.forgetTo_zero (L : SLog) (h : L.ok) (client : Int) : L.forgetTo client 0 = L := by
  obtain ⟨l, a, es⟩ := L
  unfold SLog.forgetTo
  congr 1
  have := ents_split h
  simpa using this.symm
theorem SLog.forgetTo_all (L : SLog) (h : L.ok) (client : Int) : L.forgetTo client 256 = L.forget client := by
  unfold SLog.forgetTo SLog.forget
  congr 1
  conv => rhs; rw [ents_split h]
  rw [List.map_map]
  apply List.map_congr_left
  intro j hj
  have : j < 256 := by simpa using hj
  simp [this]
theorem SLog.forgetTo_ok {L : SLog} (h : L.ok) (client : Int) (i : Nat) : (L.forgetTo client i).ok := by
  refine ⟨by simp [SLog.forgetTo], h.at_lt, h.last0, h.last1, ?_⟩
  intro e he
  simp only [SLog.forgetTo, List.mem_map] at he
  obtain ⟨x, _, rfl⟩ := he
  split
  · exact .inl rfl
  · exact EntsAt_ok h x
theorem SLog.forgetTo_hit (L : SLog) (client : Int) (i : Nat) (hi : i < 256) (hc : (EntsAt L i).c = client) : L.forgetTo client (i + 1) = ⟨L.last, L.at_, (L.forgetTo client i).ents.set i Ent.zero⟩ := by
  unfold SLog.forgetTo
  congr 1
  apply List.ext_getElem (by simp)
  intro j h1 h2
  simp only [List.getElem_map, List.getElem_range, List.getElem_set]
  by_cases hj : i = j
  · subst hj; simp [hc]
  · rw [if_neg hj]
    have : (j < i + 1 ↔ j < i) := by omega
    simp only [this]
theorem SLog.forgetTo_miss (L : SLog) (client : Int) (i : Nat) (hc : (EntsAt L i).c ≠ client) : L.forgetTo client (i + 1) = L.forgetTo client i := by
  unfold SLog.forgetTo
  congr 1
  apply List.map_congr_left
  intro j hj
  by_cases hj : i = j
  · subst hj; simp [hc]
  · have : (j < i + 1 ↔ j < i) := by omega
    simp only [this]

def ForgetRel (w : World) (b : Nat) (L : SLog) (client : Int) (v : Value) (wr : World) : Prop :=
  ∃ i : Nat, i ≤ 256 ∧ v = .int .i64 i ∧ LogAt wr b (L.forgetTo client i) ∧ Chg (fun x => x = b) w wr

set_option maxRecDepth 100000 in
set_option maxHeartbeats 1000000 in
theorem forget_ok (b : Nat) (w : World) (client : Int) (L : SLog) (h : LogAt w b L) :
    Calls Try.prog 17 #[.pointer (some ⟨b, 0, none⟩), .int .i64 client] w fun e w' => e = .returned (.tuple #[]) ∧ LogAt w' b (L.forget client) ∧ Chg (fun x => x = b) w w' := by
  have h0 := h.c0
  have hent := run_load_entries h
  have HL := Lib.hid h
  go_enter Try.func17, Try.ntmps17
  go_wp2_with (first | (go_at_call 22; refine (usable_ok _ _ (by assumption)).mono ?_; rintro e w' ⟨rfl, rfl⟩) | (refine wpl_loadv (t := 51) _ ⟨b, 3, none⟩ (.agg L.flat.toArray) ?_ hent ?_; · simp [Act.eval]))
  clear hent h
  go_loopw [13] (fun v wr => ForgetRel w b L client v wr) (fun v _ => 256 - (intOf v).toNat)
  case atStart => exact ⟨0, by omega, rfl, by rw [SLog.forgetTo_zero L HL.out.2]; exact HL.out, Chg.refl _ w⟩
  case round =>
    obtain ⟨i, hi, rfl, hL, hsame⟩ := hrel
    have HS := Lib.hid hsame
    have HR := Lib.hid hL
    have hLn : b < wr.heap.size := lt_of_at hL.1
    have hbn : b ≠ wr.heap.size := by omega
    clear h0
    by_cases hlt2 : i < 256
    · have hb2 : (i : Int) < 256 := by omega
      have hix := fun (w' : World) => run_index_entries (w := w') HL.out.2 i hlt2
      have g0 := hL.e0 hlt2
      have g1 := hL.e1 hlt2
      have g2 := hL.e2 hlt2
      have g3 := hL.e3 hlt2
      generalize EntsAt (L.forgetTo client i) i = y at g0 g1 g2 g3
      have hfr := hL.fr
      obtain ⟨s, c, f, k, he⟩ : ∃ s c f k, EntsAt L i = ⟨s, c, f, k⟩ := ⟨_, _, _, _, rfl⟩
      rw [he] at hix
      have HE := Lib.hid he
      clear hsame hL he
      cases hc : (c == client) with
      | true =>
        go_wp2
        go_roundw
        case rel =>
          have hcl : (EntsAt L i).c = client := by rw [HE.out]; simpa using hc
          refine ⟨i + 1, by omega, by go_num, ⟨?_, SLog.forgetTo_ok HL.out.2 client _⟩, ?_⟩
          · rw [SLog.forgetTo_hit L client i hlt2 hcl]
            have := SLog.cells_set (L.forgetTo client i) (by simp [SLog.forgetTo]) i hlt2 Ent.zero
            simp only [show Ent.zero.s = 0 from rfl, show Ent.zero.c = 0 from rfl, show Ent.zero.f = 0 from rfl, show Ent.zero.k = 0 from rfl] at this
            have e : (SLog.mk (L.forgetTo client i).last (L.forgetTo client i).at_ ((L.forgetTo client i).ents.set i Ent.zero)) = SLog.mk L.last L.at_ ((L.forgetTo client i).ents.set i Ent.zero) := rfl
            rw [← e, ← this]
            repeat (first | (with_reducible refine at_alloc ?_) | (with_reducible refine at_setCell _ ?_))
            exact HR.out.1
          ·
            repeat (first | (with_reducible refine Chg.drew ?_) | (with_reducible refine Chg.drewN ?_ _) | (with_reducible refine Chg.alloc ?_ _) | (with_reducible refine Chg.setCell ?_ _ _ ?_; rotate_left 1; · (intro q; first | (simp; done) | (exfalso; revert q; simp; done) | (exfalso; revert q; simp; omega) | (simp; omega))))
            exact HS.out
        case measure => simp [intOf]; omega
      | false =>
        go_wp2
        go_roundw
        case rel =>
          have hcl : (EntsAt L i).c ≠ client := by rw [HE.out]; simpa using hc
          refine ⟨i + 1, by omega, by go_num, ?_, ?_⟩
          · rw [SLog.forgetTo_miss L client i hcl]
            exact HR.out.chg ((Chg.refl (fun _ => False) _).alloc _) (fun q => q)
          ·
            repeat (first | (with_reducible refine Chg.drew ?_) | (with_reducible refine Chg.drewN ?_ _) | (with_reducible refine Chg.alloc ?_ _) | (with_reducible refine Chg.setCell ?_ _ _ ?_; rotate_left 1; · (intro q; first | (simp; done) | (exfalso; revert q; simp; done) | (exfalso; revert q; simp; omega) | (simp; omega))))
            exact HS.out
        case measure => simp [intOf]; omega
    · have hb2 : ¬ (i : Int) < 256 := by omega
      clear hsame hL
      go_wp2
      go_end0
      have : i = 256 := by omega
      subst this
      exact ⟨rfl, by rw [← SLog.forgetTo_all L HL.out.2]; exact HR.out, HS.out⟩
end Go.Proofs.Ytchodbcfncdmaaa
