/- The walk of SerialFreshness: for all arguments it returns true and leaves what was there as it was. -/
import Derived.Test.YtchodbcfncdmaaaBuild31
set_option linter.unusedVariables false
set_option linter.unusedSimpArgs false
namespace Go.Proofs.Ytchodbcfncdmaaa
open Go.RowKit

def badEv (x : LOp) : Bool := decide (x.client < 1) || decide (x.event < 0) || decide (62 < x.event) || decide (x.surface < 0)
/-- The entry of the m-th serial, the events taken in turn. -/
def evEnt (l : List LOp) (m : Nat) : Ent :=
  match l[(m - 1) % l.length]? with
  | some x => ⟨m, x.client, x.surface, x.event⟩
  | none => ⟨m, 1, 0, 0⟩
theorem evEnt_s (l : List LOp) (m : Nat) : (evEnt l m).s = m := by unfold evEnt; split <;> rfl

def FreshRel (w : World) (B : Nat) (C : List Value) (l : List LOp) (many : Int) (v9 : Value) (wr : World) : Prop :=
  ∃ (i : Nat) (L : SLog), v9 = .int .i64 i ∧ (i : Int) ≤ many ∧ L.inv i (evEnt l) ∧ LogAt wr B L ∧ Same w wr ∧ wr.heap[w.heap.size]? = some (.cells C.toArray 25 (0, 0))
def EvRel (w : World) (C : List Value) (l : List LOp) (v7 : Value) (wr : World) : Prop :=
  ∃ i : Nat, v7 = .int .i64 i ∧ i ≤ l.length ∧ (∀ x ∈ l.take i, badEv x = false) ∧ Same w wr ∧ wr.heap[w.heap.size]? = some (.cells C.toArray 25 (0, 0))

set_option maxRecDepth 100000 in
set_option maxHeartbeats 4000000 in
theorem SerialFreshness_walk (A : Option Addr) (len cap : Nat) (l : List LOp) (many : Int) (ask : LOp) (w : World) (h : OpsAt w A len l) (hm : -9223372036854775808 ≤ many ∧ many ≤ 9223372036854775807) (hask : ask.ok) :
    Calls Try.prog 3 #[.slice A len cap, .int .i64 many, .agg ask.cells.toArray] w fun e w' => e = .returned (.bool true) ∧ Same w w' := by
  obtain ⟨k, m, ac, s, e, ms, bk⟩ := ask
  simp only [LOp.cells]
  obtain ⟨_, _, hac, _, _, hms, hbk⟩ := hask
  simp only [i64ok] at hac hms hbk
  have HO := Lib.hid h
  have hlen := h.1.1
  clear h
  by_cases hsz : 1 ≤ len ∧ len ≤ 40 ∧ 1 ≤ many ∧ many ≤ 700
  · obtain ⟨z1, z2, z3, z4⟩ := hsz
    have y1 : (1 : Int) ≤ (len : Int) := by omega
    have y2 : (len : Int) ≤ 40 := by omega
    go_enter Try.func3, Try.ntmps3
    go_wp2_with fail
    go_loopw [7] (fun v7 wr => EvRel w [.int .i64 k, .int .i64 m, .int .i64 ac, .int .i64 s, .int .i64 e, .int .i64 ms, .int .u32 bk] l v7 wr) (fun v7 _ => len - (intOf v7).toNat)
    case atStart => exact ⟨0, rfl, by omega, fun x hx => by simp at hx, (Chg.refl _ w).alloc _, at_new _ _⟩
    case round =>
      obtain ⟨i, rfl, hi, hgood, hs, hblk⟩ := hrel
      have HS := Lib.hid hs
      have HB := Lib.hid hblk
      have HG := Lib.hid hgood
      rw [hlen] at hi
      have HLEN := Lib.hid hlen
      clear hgood
      by_cases hlt2 : i < len
      · have hb2 : (i : Int) < len := by omega
        obtain ⟨b, o, x, rfl, hbw, hx, hc⟩ := HO.out.1.at_ hlt2
        have HX := Lib.hid hx
        obtain ⟨xk, xm, xc, xs, xe, xms, xb⟩ := x
        have c2 := hs.cell (hc 2 _ rfl) (fun q => q)
        have c3 := hs.cell (hc 3 _ rfl) (fun q => q)
        have c4 := hs.cell (hc 4 _ rfl) (fun q => q)
        simp only at c2 c3 c4
        clear hc hx hs hblk hlen
        by_cases h1 : xc < 1
        ·
          go_wp2_with fail
          refine (example31_ok _).mono ?_
          rintro e7 w7 ⟨rfl, hs7⟩
          have HS7 := Lib.hid (HS.out.trans hs7)
          clear hs7
          go_wp2
          go_ret
          exact ⟨rfl, HS7.out⟩
        · by_cases h2 : xe < 0
          ·
            go_wp2_with fail
            refine (example31_ok _).mono ?_
            rintro e7 w7 ⟨rfl, hs7⟩
            have HS7 := Lib.hid (HS.out.trans hs7)
            clear hs7
            go_wp2
            go_ret
            exact ⟨rfl, HS7.out⟩
          · by_cases h3 : 62 < xe
            ·
              go_wp2_with fail
              refine (example31_ok _).mono ?_
              rintro e7 w7 ⟨rfl, hs7⟩
              have HS7 := Lib.hid (HS.out.trans hs7)
              clear hs7
              go_wp2
              go_ret
              exact ⟨rfl, HS7.out⟩
            · by_cases h4 : xs < 0
              ·
                go_wp2_with fail
                refine (example31_ok _).mono ?_
                rintro e7 w7 ⟨rfl, hs7⟩
                have HS7 := Lib.hid (HS.out.trans hs7)
                clear hs7
                go_wp2
                go_ret
                exact ⟨rfl, HS7.out⟩
              · go_wp2
                go_roundw
                case rel =>
                  refine ⟨i + 1, by go_num, by rw [HLEN.out]; omega, fun y hy => ?_, HS.out, HB.out⟩
                  rw [List.take_add_one, HX.out] at hy
                  rcases List.mem_append.1 hy with hy | hy
                  · exact HG.out y hy
                  · simp at hy; subst hy; simp [badEv]; omega
                case measure => simp [intOf]; omega
      · have hb2 : ¬ (i : Int) < len := by omega
        have hall : ∀ x ∈ l, badEv x = false := by
          have e : l.take i = l := List.take_of_length_le (by rw [hlen]; omega)
          rw [← e]; exact HG.out
        have HA := Lib.hid hall
        clear hs hblk hlen hall
        go_wp2_with fail
        refine (new_ok _).mono ?_
        rintro e1 w1 ⟨rfl, hL1, hs1, hlt1⟩
        have hBw : w.heap.size < wr.heap.size := lt_of_at HB.out
        generalize hB : wr.heap.size = B at *
        have HL1 := Lib.hid hL1
        have HS1 := Lib.hid (HS.out.trans hs1)
        have HB1 := Lib.hid (hs1.at_ HB.out (fun q => q))
        clear hL1 hs1 hB
        go_wp2_with fail
        go_loopw [9] (fun v9 wr => FreshRel w B [.int .i64 k, .int .i64 m, .int .i64 ac, .int .i64 s, .int .i64 e, .int .i64 ms, .int .u32 bk] l many v9 wr) (fun v9 _ => many.toNat - (intOf v9).toNat)
        case atStart => exact ⟨0, _, rfl, by omega, SLog.inv_new _ (evEnt_s l), HL1.out, HS1.out, HB1.out⟩
        case round =>
          obtain ⟨j, L, rfl, hj, hinv, hL, hs, hblk⟩ := hrel
          by_cases hlt3 : (j : Int) < many
          · have hjm : j % len < len := Nat.mod_lt _ (by omega)
            obtain ⟨b, o, x, rfl, hbw, hx, hc⟩ := HO.out.1.at_ hjm
            have HX := Lib.hid hx
            have hxb := HA.out x (List.mem_of_getElem? hx)
            have hxo := HO.out.2.1 x (List.mem_of_getElem? hx)
            obtain ⟨xk, xm, xc, xs, xe, xms, xb⟩ := x
            obtain ⟨_, _, hxc, hxs, hxe, _, _⟩ := hxo
            simp only [i64ok] at hxc hxs hxe
            have p0 := hs.cell (hc 0 _ rfl) (fun q => q)
            have p1 := hs.cell (hc 1 _ rfl) (fun q => q)
            have p2 := hs.cell (hc 2 _ rfl) (fun q => q)
            have p3 := hs.cell (hc 3 _ rfl) (fun q => q)
            have p4 := hs.cell (hc 4 _ rfl) (fun q => q)
            have p5 := hs.cell (hc 5 _ rfl) (fun q => q)
            have p6 := hs.cell (hc 6 _ rfl) (fun q => q)
            simp only [Nat.add_zero] at p0 p1 p2 p3 p4 p5 p6
            have hgood : good xc xs xe = true := by simp [badEv] at hxb; simp [good]; omega
            have hgn : evEnt l (j + 1) = ⟨(j + 1 : Nat), xc, xs, xe⟩ := by
              unfold evEnt
              rw [HLEN.out, show j + 1 - 1 = j from rfl, HX.out]
            have hin : L.issueN xc xs xe = (j : Int) + 1 := by
              unfold SLog.issueN; rw [if_pos hgood, hinv.last]; unfold nxt; rw [if_neg (by omega)]
            have HI := Lib.hid (SLog.inv_issue hinv (by omega) xc xs xe hgood hxc.2 hxs.2 hgn)
            have HIN := Lib.hid hin
            have hL' := fun o => hL.chg ((Chg.refl (fun _ => False) wr).alloc o) (fun q => q)
            have HLr := Lib.hid hL'
            have HS2 := Lib.hid hs
            have HB2 := Lib.hid hblk
            clear hinv hL hL' hs hblk hgood hgn hin hc hx hxb
            go_wp2_with fail
            refine (issue_ok _ _ _ _ _ _ (HLr.out _) hxc.2 hxs.2).mono ?_
            rintro e2 w2 ⟨rfl, hL3, hs3⟩
            rw [HIN.out]
            have HL3 := Lib.hid hL3
            have HS3 := Lib.hid ((HS2.out.alloc _).then_ hs3 (fun i hi q => by omega))
            have HB3 := Lib.hid (hs3.at_ (at_alloc HB2.out) (by omega))
            clear hL3 hs3
            go_wp2
            go_roundw
            case rel => exact ⟨j + 1, _, by go_num, by omega, HI.out, HL3.out, HS3.out, HB3.out⟩
            case measure => simp [intOf]; omega
          · have hjm : many = j := by omega
            have HL := Lib.hid hL
            have HS2 := Lib.hid hs
            have HI := Lib.hid hinv
            have cb := cell_at hblk 6
            have cc := cell_at hblk 2
            have cm := cell_at hblk 5
            simp only [List.getElem?_cons_succ, List.getElem?_cons_zero] at cb cc cm
            have HB2 := Lib.hid hblk
            clear hL hs hinv hblk
            subst hjm
            by_cases hA : ((j : Int) - bk) % 4294967296 < 1
            · have hck := SLog.check_none (SLog.inv_find_none HI.out (((j : Int) - bk) % 4294967296) (by omega)) ac ms
              rw [show ((j : Int) - bk) % 4294967296 = (j : Int) - bk by omega] at hck
              have HCK := Lib.hid hck
              clear hck
              go_wp2_with fail
              refine (check_ok _ _ _ _ _ _ HL.out).mono ?_
              rintro e2 w2 ⟨rfl, hs2⟩
              rw [HCK.out]
              have HS3 := Lib.hid (HS2.out.trans hs2)
              clear hs2
              go_wp2_with fail
              refine (example31_ok _).mono ?_
              rintro e7 w7 ⟨rfl, hs7⟩
              have HS7 := Lib.hid (HS3.out.trans hs7)
              clear hs7
              go_wp2
              go_ret
              exact ⟨rfl, HS7.out⟩
            by_cases hA2 : (j : Int) < ((j : Int) - bk) % 4294967296
            · have HCK := Lib.hid (SLog.check_none (SLog.inv_find_none HI.out (((j : Int) - bk) % 4294967296) (by omega)) ac ms)
              go_wp2_with fail
              refine (check_ok _ _ _ _ _ _ HL.out).mono ?_
              rintro e2 w2 ⟨rfl, hs2⟩
              rw [HCK.out]
              have HS3 := Lib.hid (HS2.out.trans hs2)
              clear hs2
              go_wp2_with fail
              refine (example31_ok _).mono ?_
              rintro e7 w7 ⟨rfl, hs7⟩
              have HS7 := Lib.hid (HS3.out.trans hs7)
              clear hs7
              go_wp2
              go_ret
              exact ⟨rfl, HS7.out⟩
            obtain ⟨n, hn⟩ : ∃ n : Nat, ((j : Int) - bk) % 4294967296 = (n : Int) := ⟨(((j : Int) - bk) % 4294967296).toNat, by omega⟩
            have hn' : (j : Int) - bk = (n : Int) := by omega
            have HN := Lib.hid hn
            have hn1 : 1 ≤ n := by omega
            have hn2 : n ≤ j := by omega
            have hn3 : (1 : Int) ≤ (n : Int) := by omega
            have hn4 : ¬ (j : Int) < (n : Int) := by omega
            have hp : (n - 1) % len < len := Nat.mod_lt _ (by omega)
            obtain ⟨b, o, x, rfl, hbw, hx, hc⟩ := HO.out.1.at_ hp
            have hxb := HA.out x (List.mem_of_getElem? hx)
            have hg : evEnt l n = ⟨n, x.client, x.surface, x.event⟩ := by unfold evEnt; rw [HLEN.out, hx]
            obtain ⟨xk, xm, xc, xs, xe, xms, xb⟩ := x
            have p0 := HS2.out.cell (hc 0 _ rfl) (fun q => q)
            have p1 := HS2.out.cell (hc 1 _ rfl) (fun q => q)
            have p2 := HS2.out.cell (hc 2 _ rfl) (fun q => q)
            have p3 := HS2.out.cell (hc 3 _ rfl) (fun q => q)
            have p4 := HS2.out.cell (hc 4 _ rfl) (fun q => q)
            have p5 := HS2.out.cell (hc 5 _ rfl) (fun q => q)
            have p6 := HS2.out.cell (hc 6 _ rfl) (fun q => q)
            simp only [Nat.add_zero] at p0 p1 p2 p3 p4 p5 p6
            simp only at hg
            have hidx : ((n : Int) - 1) % (len : Int) = (((n - 1) % len : Nat) : Int) := by rw [show (n : Int) - 1 = ((n - 1 : Nat) : Int) by omega]; exact (Int.natCast_emod _ _).symm
            have hxr : 1 ≤ xc ∧ 0 ≤ xe ∧ xe ≤ 62 := by simp [badEv] at hxb; omega
            obtain ⟨hx1, hx2, hx3⟩ := hxr
            have hwr : w.heap.size < wr.heap.size := lt_of_at HB2.out
            have hckn : L.check n ac ms = if (j : Int) - 256 < n then (if fitB xc xe ac ms then 0 else 13) else 13 := by
              by_cases hwin : j < n + 256
              · rw [if_pos (by omega), SLog.check_of (SLog.inv_find HI.out hn1 hn2 hwin) (SLog.inv_gok HI.out hn1 hn2 hwin).1, hg]
              · rw [if_neg (by omega), SLog.check_none (SLog.inv_find_none HI.out n (by omega))]
            generalize (n - 1) % len = p at *
            have hpl : (p : Int) < (len : Int) := by omega
            clear hx hc hxb hg hA hA2 hn
            by_cases hwin : (j : Int) - 256 < (n : Int)
            · rw [if_pos hwin] at hckn
              cases hcl : (xc == ac) with
              | false =>
                have hf : fitB xc xe ac ms = false := by unfold fitB; rw [hcl]; simp
                rw [hf] at hckn
                have HCK : Hid (L.check n ac ms = 13) := hckn
                clear hf hckn
                go_wp2_with fail
                refine (check_ok _ _ _ _ _ _ (HL.out.chg ((Chg.refl (fun _ => False) _).alloc _) (fun q => q))).mono ?_
                rintro e2 w2 ⟨rfl, hs2⟩
                rw [HCK.out]
                have HS3 := Lib.hid ((HS2.out.alloc _).trans hs2)
                clear hs2
                go_wp2_with fail
                refine (example31_ok _).mono ?_
                rintro e7 w7 ⟨rfl, hs7⟩
                have HS7 := Lib.hid (HS3.out.trans hs7)
                clear hs7
                go_wp2
                go_ret
                exact ⟨rfl, HS7.out⟩
              | true =>
                cases hkb : (bits BinOp.and IntKind.i64 (ms / 2 ^ xe.toNat) 1 == 1) with
                | false =>
                  have hf : fitB xc xe ac ms = false := by unfold fitB kbit; rw [hcl, hkb]; simp
                  rw [hf] at hckn
                  have HCK : Hid (L.check n ac ms = 13) := hckn
                  clear hf hckn
                  go_wp2_with fail
                  refine (check_ok _ _ _ _ _ _ (HL.out.chg ((Chg.refl (fun _ => False) _).alloc _) (fun q => q))).mono ?_
                  rintro e2 w2 ⟨rfl, hs2⟩
                  rw [HCK.out]
                  have HS3 := Lib.hid ((HS2.out.alloc _).trans hs2)
                  clear hs2
                  go_wp2_with fail
                  refine (example31_ok _).mono ?_
                  rintro e7 w7 ⟨rfl, hs7⟩
                  have HS7 := Lib.hid (HS3.out.trans hs7)
                  clear hs7
                  go_wp2
                  go_ret
                  exact ⟨rfl, HS7.out⟩
                | true =>
                  have hf : fitB xc xe ac ms = true := by
                    unfold fitB kbit
                    rw [hcl, hkb, bne_iff_ne.2 (show xc ≠ 0 by omega)]; rfl
                  rw [hf] at hckn
                  have HCK : Hid (L.check n ac ms = 0) := hckn
                  clear hf hckn
                  go_wp2_with fail
                  refine (check_ok _ _ _ _ _ _ (HL.out.chg ((Chg.refl (fun _ => False) _).alloc _) (fun q => q))).mono ?_
                  rintro e2 w2 ⟨rfl, hs2⟩
                  rw [HCK.out]
                  have HS3 := Lib.hid ((HS2.out.alloc _).trans hs2)
                  clear hs2
                  go_wp2_with fail
                  refine (example31_ok _).mono ?_
                  rintro e7 w7 ⟨rfl, hs7⟩
                  have HS7 := Lib.hid (HS3.out.trans hs7)
                  clear hs7
                  go_wp2
                  go_ret
                  exact ⟨rfl, HS7.out⟩
            · rw [if_neg hwin] at hckn
              have HCK : Hid (L.check n ac ms = 13) := hckn
              clear hckn
              go_wp2_with fail
              refine (check_ok _ _ _ _ _ _ (HL.out.chg ((Chg.refl (fun _ => False) _).alloc _) (fun q => q))).mono ?_
              rintro e2 w2 ⟨rfl, hs2⟩
              rw [HCK.out]
              have HS3 := Lib.hid ((HS2.out.alloc _).trans hs2)
              clear hs2
              go_wp2_with fail
              refine (example31_ok _).mono ?_
              rintro e7 w7 ⟨rfl, hs7⟩
              have HS7 := Lib.hid (HS3.out.trans hs7)
              clear hs7
              go_wp2
              go_ret
              exact ⟨rfl, HS7.out⟩
  · by_cases z1 : len < 1
    · have y1 : (len : Int) < 1 := by omega
      clear hsz
      go_enter Try.func3, Try.ntmps3
      go_wp2_with fail
      refine (example31_ok _).mono ?_
      rintro e7 w7 ⟨rfl, hs7⟩
      have HS7 := Lib.hid (((Chg.refl _ w).alloc _).trans hs7)
      clear hs7
      go_wp2
      go_ret
      exact ⟨rfl, HS7.out⟩
    · have y1 : (1 : Int) ≤ (len : Int) := by omega
      by_cases z2 : 40 < len
      · have y2 : (40 : Int) < (len : Int) := by omega
        clear hsz
        go_enter Try.func3, Try.ntmps3
        go_wp2_with fail
        refine (example31_ok _).mono ?_
        rintro e7 w7 ⟨rfl, hs7⟩
        have HS7 := Lib.hid (((Chg.refl _ w).alloc _).trans hs7)
        clear hs7
        go_wp2
        go_ret
        exact ⟨rfl, HS7.out⟩
      · have y2 : (len : Int) ≤ 40 := by omega
        by_cases z3 : many < 1
        · clear hsz
          go_enter Try.func3, Try.ntmps3
          go_wp2_with fail
          refine (example31_ok _).mono ?_
          rintro e7 w7 ⟨rfl, hs7⟩
          have HS7 := Lib.hid (((Chg.refl _ w).alloc _).trans hs7)
          clear hs7
          go_wp2
          go_ret
          exact ⟨rfl, HS7.out⟩
        · have z4 : 700 < many := by omega
          clear hsz
          go_enter Try.func3, Try.ntmps3
          go_wp2_with fail
          refine (example31_ok _).mono ?_
          rintro e7 w7 ⟨rfl, hs7⟩
          have HS7 := Lib.hid (((Chg.refl _ w).alloc _).trans hs7)
          clear hs7
          go_wp2
          go_ret
          exact ⟨rfl, HS7.out⟩
end Go.Proofs.Ytchodbcfncdmaaa
