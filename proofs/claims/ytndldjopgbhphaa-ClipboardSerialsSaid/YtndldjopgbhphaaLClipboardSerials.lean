/- The walk of ClipboardSerials: for all arguments it returns true and leaves what was there as it was. -/
import Derived.Test.YtndldjopgbhphaaEx42
import Derived.Test.YtndldjopgbhphaaArgI
import Derived.Test.YtndldjopgbhphaaSerI
import Derived.Test.YtndldjopgbhphaaPath
import Derived.Deep.LoopGhost
set_option linter.unusedVariables false
set_option linter.unusedSimpArgs false
set_option maxRecDepth 100000
namespace Go.Proofs.Ytndldjopgbhphaa
open Go.RowKit

/-- The m-th serial of the law. -/
def csG (ks : List Int) (m : Nat) : Ent := ⟨m, 1 + (((m - 1) % 2 : Nat) : Int), 1, (ks.getD (m - 1) 0) % 16⟩
def csC (owner : Int) (last : Nat) : CSt := if last = 0 then CSt.new else ⟨owner, [tp], 0, 0, true, last, []⟩
theorem newer_small : ∀ a, a < 21 → ∀ b, b < 21 → newerB ((a : Nat) : Int) ((b : Nat) : Int) = decide (b < a) := by decide +kernel
def goodK (k : Int) : Bool := decide (k = 4) || decide (k = 9) || decide (k = 11)
theorem kbit_small : ∀ k, k < 16 → kbit 2576 ((k : Nat) : Int) = goodK ((k : Nat) : Int) := by decide +kernel
theorem cs_check {L : SLog} {N : Nat} {ks : List Int} (h : L.inv N (csG ks)) (hN : N ≤ 20) (hk : ∀ x ∈ ks, 0 ≤ x) (n : Nat) (hn : n < 21) (client : Int) :
    L.check n client 2576 = if 1 ≤ n ∧ n ≤ N ∧ 1 + (((n - 1) % 2 : Nat) : Int) = client ∧ goodK ((ks.getD (n - 1) 0) % 16) = true then 0 else 13 := by
  by_cases h1 : 1 ≤ n ∧ n ≤ N
  · rw [SLog.check_of (SLog.inv_find h h1.1 h1.2 (by omega)) (SLog.inv_gok h h1.1 h1.2 (by omega)).1]
    have hx : 0 ≤ ks.getD (n - 1) 0 := by
      rw [List.getD_eq_getElem?_getD]
      cases hq : ks[n - 1]? with
      | none => simp
      | some x => exact hk x (List.mem_of_getElem? hq)
    obtain ⟨k, hk16, hke⟩ : ∃ k : Nat, k < 16 ∧ (ks.getD (n - 1) 0) % 16 = (k : Int) := ⟨((ks.getD (n - 1) 0) % 16).toNat, by omega, by omega⟩
    have hf : fitB (csG ks n).c (csG ks n).k client 2576 = (decide (1 + (((n - 1) % 2 : Nat) : Int) = client) && goodK ((ks.getD (n - 1) 0) % 16)) := by
      unfold fitB csG
      simp only
      rw [hke, kbit_small k hk16]
      have : (1 + (((n - 1) % 2 : Nat) : Int) != 0) = true := by simp; omega
      rw [this, Bool.true_and]
      congr 1
    rw [hf]
    by_cases h2 : 1 + (((n - 1) % 2 : Nat) : Int) = client
    · rw [decide_eq_true h2, Bool.true_and]
      cases hg : goodK ((ks.getD (n - 1) 0) % 16)
      · rw [if_neg (by simp), if_neg (by simp)]
      · rw [if_pos rfl, if_pos ⟨h1.1, h1.2, h2, rfl⟩]
    · rw [decide_eq_false h2, Bool.false_and, if_neg (by simp), if_neg (fun q => h2 q.2.2.1)]
  · rw [if_neg (fun q => h1 ⟨q.1, q.2.1⟩)]
    exact SLog.check_none (SLog.inv_find_none h n (by omega)) _ _
/-- Is the try good? -/
def csOk (ks : List Int) (N last n : Nat) (client : Int) : Prop := 1 ≤ n ∧ n ≤ N ∧ 1 + (((n - 1) % 2 : Nat) : Int) = client ∧ goodK ((ks.getD (n - 1) 0) % 16) = true ∧ last < n
instance (ks : List Int) (N last n : Nat) (client : Int) : Decidable (csOk ks N last n client) := by unfold csOk; infer_instance
theorem cs_checkV : checkV [tp] 1 = 0 := by decide +kernel
theorem cs_last (n last : Nat) (hn : n < 21) (hl : last < 21) (owner : Int) : (!(csC owner last).used || newerB n (csC owner last).last) = (decide (last = 0) || decide (last < n)) := by
  unfold csC
  by_cases h0 : last = 0
  · rw [if_pos h0, decide_eq_true h0, show CSt.new.used = false from rfl, Bool.not_false, Bool.true_or, Bool.true_or]
  · rw [if_neg h0, decide_eq_false h0, Bool.false_or]
    simp only [Bool.not_true, Bool.false_or]
    exact newer_small n hn last hl
theorem cs_val {L : SLog} {N : Nat} {ks : List Int} (h : L.inv N (csG ks)) (hN : N ≤ 20) (hk : ∀ x ∈ ks, 0 ≤ x) (n last : Nat) (hn : n < 21) (hl : last < 21) (owner client : Int) : (csC owner last).validB L client n = decide (csOk ks N last n client) := by
  unfold CSt.validB
  rw [cs_check h hN hk n hn client, cs_last n last hn hl owner]
  by_cases h1 : 1 ≤ n ∧ n ≤ N ∧ 1 + (((n - 1) % 2 : Nat) : Int) = client ∧ goodK ((ks.getD (n - 1) 0) % 16) = true
  · rw [if_pos h1]
    by_cases h2 : last < n
    · rw [decide_eq_true (p := csOk ks N last n client) ⟨h1.1, h1.2.1, h1.2.2.1, h1.2.2.2, h2⟩, decide_eq_true h2]; simp
    · have h3 : ¬ last = 0 := by omega
      rw [decide_eq_false (p := csOk ks N last n client) (fun q => h2 q.2.2.2.2), decide_eq_false h2, decide_eq_false h3]; rfl
  · rw [if_neg h1, decide_eq_false (p := csOk ks N last n client) (fun q => h1 ⟨q.1, q.2.1, q.2.2.1, q.2.2.2.1⟩)]; rfl
theorem cs_yes (owner client : Int) (n last : Nat) (hn : n ≠ 0) : { csC owner last with owner := client, fmts := [tp], used := true, last := (n : Int) } = csC client n := by
  unfold csC
  rw [if_neg hn]
  by_cases h0 : last = 0
  · rw [if_pos h0]; rfl
  · rw [if_neg h0]
theorem cs_setE {L : SLog} {N : Nat} {ks : List Int} (h : L.inv N (csG ks)) (hN : N ≤ 20) (hk : ∀ x ∈ ks, 0 ≤ x) (n last : Nat) (hn : n < 21) (hl : last < 21) (owner client : Int) (hc : 1 ≤ client) :
    (csOk ks N last n client → (csC owner last).setE L client [tp] 1 n = 0 ∧ (csC owner last).set L client [tp] 1 n = csC client n) ∧
    (¬ csOk ks N last n client → (csC owner last).setE L client [tp] 1 n = 13 ∧ (csC owner last).set L client [tp] 1 n = csC owner last) := by
  have hE : (csC owner last).setE L client [tp] 1 n = if (csC owner last).validB L client n then 0 else 13 := by
    unfold CSt.setE
    rw [if_neg (by omega), cs_checkV, if_neg (fun q => q rfl)]
  rw [cs_val h hN hk n last hn hl owner client] at hE
  refine ⟨fun hok => ?_, fun hno => ?_⟩
  · rw [decide_eq_true hok, if_pos rfl] at hE
    refine ⟨hE, ?_⟩
    unfold CSt.set
    rw [if_pos hE]
    exact cs_yes owner client n last (by have := hok.1; omega)
  · rw [decide_eq_false hno, if_neg (by decide)] at hE
    refine ⟨hE, ?_⟩
    unfold CSt.set
    rw [if_neg (by rw [hE]; decide)]
theorem cs_issue {L : SLog} {i : Nat} {ks : List Int} {x : Int} (h : L.inv i (csG ks)) (hi : i < 20) (hx : ks[i]? = some x) (hx0 : 0 ≤ x) :
    L.issueN (1 + (i : Int) % 2) 1 (x % 16) = (i : Int) + 1 ∧ (L.issue (1 + (i : Int) % 2) 1 (x % 16)).inv (i + 1) (csG ks) := by
  have hg : good (1 + (i : Int) % 2) 1 (x % 16) = true := by unfold good; simp; omega
  refine ⟨?_, SLog.inv_issue h (by omega) _ _ _ hg (by omega) (by omega) ?_⟩
  · unfold SLog.issueN
    rw [if_pos hg, h.last]
    unfold nxt
    rw [if_neg (by omega)]
  · unfold csG
    rw [List.getD_eq_getElem?_getD, Nat.add_sub_cancel, hx]
    rfl
theorem cs_no {L : SLog} {N : Nat} {ks : List Int} (h : L.inv N (csG ks)) (hN : N ≤ 20) (hk : ∀ x ∈ ks, 0 ≤ x) (n last : Nat) (hn : n < 21) (hl : last < 21) (owner client sn : Int) (hc : 1 ≤ client) (hs : sn = (n : Int)) (hno : ¬ csOk ks N last n client) :
    (csC owner last).setE L client [tp] 1 sn = 13 ∧ (csC owner last).set L client [tp] 1 sn = csC owner last := by
  subst hs; exact (cs_setE h hN hk n last hn hl owner client hc).2 hno
theorem cs_ok {L : SLog} {N : Nat} {ks : List Int} (h : L.inv N (csG ks)) (hN : N ≤ 20) (hk : ∀ x ∈ ks, 0 ≤ x) (n last : Nat) (hn : n < 21) (hl : last < 21) (owner client sn : Int) (hc : 1 ≤ client) (hs : sn = (n : Int)) (hok : csOk ks N last n client) :
    (csC owner last).setE L client [tp] 1 sn = 0 ∧ (csC owner last).set L client [tp] 1 sn = csC client n := by
  subst hs; exact (cs_setE h hN hk n last hn hl owner client hc).1 hok
theorem cs_owner (owner : Int) (last : Nat) (h : last = 0 → owner = 0) : (csC owner last).owner = owner := by
  unfold csC
  by_cases h0 : last = 0
  · rw [if_pos h0, h h0]; rfl
  · rw [if_neg h0]
/-- Where the second loop stands. -/
structure SerS (w wr : World) (lb b : Nat) (R : Nat → Prop) (L : SLog) (owner : Int) (last : Nat) : Prop where
  ses : Ses w wr lb b R L (csC owner last)
  lt : last < 21
  ow : last = 0 → owner = 0

set_option maxHeartbeats 16000000 in
theorem ClipboardSerials_walk (A : Option Addr) (len cap : Nat) (ks : List Int) (B : Option Addr) (lb cb : Nat) (ts : List (Int × Int)) (w : World) (h : U8sAt w A len ks) (h2 : PairsAt w B lb ts) :
    Calls Try.prog 3 #[.slice A len cap, .slice B lb cb] w fun e w' => e = .returned (.bool true) ∧ Same w w' := by
  have HI := Lib.hid h
  have HP := Lib.hid h2
  have hlm := h.2.2
  have hlm2 := h2.2.2
  have hll := h.1.1
  have HLL := Lib.hid hll
  unfold maxLen at hlm hlm2
  clear h h2 hll
  by_cases hl : 20 < (len : Int)
  · go_enter Try.func3, Try.ntmps3
    go_wp2_with fail
    refine (example42_ok _).mono ?_
    rintro e w1 ⟨rfl, hs⟩
    have HS := Lib.hid hs
    clear hs
    go_wp2
    go_ret
    exact ⟨rfl, HS.out⟩
  by_cases hl2 : 60 < (lb : Int)
  · go_enter Try.func3, Try.ntmps3
    go_wp2_with fail
    refine (example42_ok _).mono ?_
    rintro e w1 ⟨rfl, hs⟩
    have HS := Lib.hid hs
    clear hs
    go_wp2
    go_ret
    exact ⟨rfl, HS.out⟩
  have hl' : len ≤ 20 := by omega
  have hl2' : lb ≤ 60 := by omega
  have HK : Hid (∀ x ∈ ks, 0 ≤ x) := Lib.hid (fun x hx => (HI.out.2.1 x hx).1)
  clear hlm hlm2
  go_enter Try.func3, Try.ntmps3
  go_wp2_with fail
  refine (ses_lognew _).mono ?_
  rintro e w1 ⟨rfl, hl1, hs1⟩
  have HL1 := Lib.hid hl1
  have HS1 := Lib.hid hs1
  clear hl1 hs1
  go_wp2_with fail
  refine (ses_new (w0 := w) HL1.out (Nat.le_refl _) HS1.out).mono ?_
  rintro e w2 ⟨b, R2, rfl, hses, _, _⟩
  have H2 := Lib.hid hses
  clear hses HL1 HS1
  go_wp2
  go_loopg [7] len (fun g v7 wr => ∃ (i : Nat), i ≤ len ∧ g = len - i ∧ v7 = .int .i64 i ∧ ∃ R L, L.inv i (csG ks) ∧ Ses w wr w.heap.size b R L CSt.new)
  case atStart => exact ⟨0, by omega, by omega, rfl, R2, SLog.new, SLog.inv_new _ (fun m => rfl), H2.out⟩
  case round =>
    obtain ⟨i, hi, hg, rfl, R, L, hinv, hses⟩ := hrel
    have HG := Lib.hid hg
    have HS := Lib.hid hses
    have HV := Lib.hid hinv
    clear hg hses hinv
    by_cases hlt : i < len
    · have hii : (i : Int) < len := by omega
      obtain ⟨ab, ao, x, rfl, hab, hx, hx0, hcell⟩ := HI.out.at_ hlt
      have hcr := HS.out.same.cell hcell (fun q => q)
      have hx1 := hx0.1
      have hx2 := hx0.2
      have HIS := Lib.hid (cs_issue HV.out (by omega) hx hx1)
      clear hcell hx hx0
      go_wp2_with fail
      refine (ses_issue _ _ _ 1 _ HS.out (by omega) (by omega) HIS.out.1 rfl).mono ?_
      rintro e w3 ⟨rfl, hses, _⟩
      have H3 := Lib.hid hses
      clear hses
      go_wp2
      go_roundg (len - (i + 1))
      case measure => have := HG.out; omega
      case rel => exact ⟨i + 1, by omega, by rfl, by go_num, R, _, HIS.out.2, H3.out⟩
    · have hii : ¬ (i : Int) < len := by omega
      obtain rfl : i = len := by omega
      go_wp2
      go_loopg [8, 9, 10] lb (fun g v8 v9 v10 wr => ∃ (j last : Nat) (owner : Int), j ≤ lb ∧ g = lb - j ∧ v10 = .int .i64 j ∧ v8 = .int .i64 last ∧ v9 = .int .i64 owner ∧ ∃ R, SerS w wr w.heap.size b R L owner last)
      case atStart => exact ⟨0, 0, 0, by omega, by omega, rfl, rfl, rfl, R, HS.out, by omega, fun _ => rfl⟩
      case round =>
        obtain ⟨j, last, owner, hj, hg, rfl, rfl, rfl, R, hst⟩ := hrel
        have HG := Lib.hid hg
        have HT := Lib.hid hst
        have hlast := hst.lt
        clear hg hst
        by_cases hlt : j < lb
        · have hjj : (j : Int) < lb := by omega
          obtain ⟨ab, ao, x, y, rfl, hab, _, hx0, hy0, hcx, hcy⟩ := HP.out.at_ hlt
          have gx := HT.out.ses.same.cell hcx (fun q => q)
          have gy := HT.out.ses.same.cell hcy (fun q => q)
          have hx1 := hx0.1
          have hx2 := hx0.2
          have hy1 := hy0.1
          have hy2 := hy0.2
          clear hcx hcy hx0 hy0
          obtain ⟨cl, hcl⟩ : ∃ cl, 1 + x % 2 = cl := ⟨_, rfl⟩
          have hcl1 : 1 ≤ cl := by omega
          have hcl2 : cl ≤ 2 := by omega
          by_cases hn0 : y % 21 = 0
          · have HNO : Hid (¬ csOk ks i last 0 cl) := Lib.hid (fun q => by have := q.1; omega)
            as_aux_lemma =>
              go_wp2_with fail
              refine wp_still (by kernel_rfl) (by kernel_rfl) ?_
              repeat still_step
              try refine wpStill_nil ?_
              go_wp2_with fail
              refine (plain_ok _).mono ?_
              rintro e w4 ⟨g4, rfl, hg, hsa, hk⟩
              have HG4 := Lib.hid (And.intro hg hsa)
              have H4 := Lib.hid (HT.out.ses.keep (((Chg.refl (fun _ => False) wr).drew).trans hk))
              have HN : Hid (¬ R g4) := Lib.hid (fun q => by have := HT.out.ses.clip.lt g4 q; have : wr.drew.heap.size = wr.heap.size := rfl; omega)
              clear hg hk hsa
              go_wp2_with fail
              refine (ses_set (csC owner last) 13 cl 1 _ _ 1 1 [tp] H4.out HG4.out.2 (fun _ g o e => by cases e; exact HN.out) (cs_no HV.out (by omega) HK.out 0 last (by omega) hlast owner cl _ hcl1 (by first | rfl | omega | (push_cast; rfl)) HNO.out).1 (cs_no HV.out (by omega) HK.out 0 last (by omega) hlast owner cl _ hcl1 (by first | rfl | omega) HNO.out).2).mono ?_
              rintro e w5 ⟨R5, rfl, hses, _⟩
              have H5 := Lib.hid hses
              clear hses
              go_wp2_with fail
              refine (ses_owner owner H5.out (cs_owner owner last HT.out.ow)).mono ?_
              rintro e w6 ⟨rfl, rfl⟩
              go_wp2
              go_roundg (lb - (j + 1))
              case measure => have := HG.out; omega
              case rel => exact ⟨j + 1, last, owner, by omega, by rfl, by go_num, by rfl, by rfl, R5, H5.out, hlast, HT.out.ow⟩
          · obtain ⟨m, hm⟩ : ∃ m : Nat, y % 21 = (m : Int) + 1 := ⟨(y % 21 - 1).toNat, by omega⟩
            have hm20 : m < 20 := by omega
            clear hn0
            by_cases c1 : m < i
            · have c1' : (m : Int) < (i : Int) := by omega
              by_cases c2 : last < m + 1
              · have c2' : (last : Int) < (m : Int) + 1 := by omega
                cases c3 : ((1 + (m : Int) % 2) == cl)
                · have HNO : Hid (¬ csOk ks i last (m + 1) cl) := Lib.hid (fun q => by have h1 := q.2.2.1; simp at c3; omega)
                  as_aux_lemma =>
                    go_wp2_with fail
                    refine wp_still (by kernel_rfl) (by kernel_rfl) ?_
                    repeat still_step
                    try refine wpStill_nil ?_
                    go_wp2_with fail
                    refine (plain_ok _).mono ?_
                    rintro e w4 ⟨g4, rfl, hg, hsa, hk⟩
                    have HG4 := Lib.hid (And.intro hg hsa)
                    have H4 := Lib.hid (HT.out.ses.keep (((Chg.refl (fun _ => False) wr).drew).trans hk))
                    have HN : Hid (¬ R g4) := Lib.hid (fun q => by have := HT.out.ses.clip.lt g4 q; have : wr.drew.heap.size = wr.heap.size := rfl; omega)
                    clear hg hk hsa
                    go_wp2_with fail
                    refine (ses_set (csC owner last) 13 cl 1 _ _ 1 1 [tp] H4.out HG4.out.2 (fun _ g o e => by cases e; exact HN.out) (cs_no HV.out (by omega) HK.out (m + 1) last (by omega) hlast owner cl _ hcl1 (by first | rfl | omega | (push_cast; rfl)) HNO.out).1 (cs_no HV.out (by omega) HK.out (m + 1) last (by omega) hlast owner cl _ hcl1 (by first | rfl | omega) HNO.out).2).mono ?_
                    rintro e w5 ⟨R5, rfl, hses, _⟩
                    have H5 := Lib.hid hses
                    clear hses
                    go_wp2_with fail
                    refine (ses_owner owner H5.out (cs_owner owner last HT.out.ow)).mono ?_
                    rintro e w6 ⟨rfl, rfl⟩
                    go_wp2
                    go_roundg (lb - (j + 1))
                    case measure => have := HG.out; omega
                    case rel => exact ⟨j + 1, last, owner, by omega, by rfl, by go_num, by rfl, by rfl, R5, H5.out, hlast, HT.out.ow⟩
                · obtain ⟨kb, ko, z, rfl, hkb, hz, hz0, hcz⟩ := HI.out.at_ c1
                  have gz := HT.out.ses.same.cell hcz (fun q => q)
                  have hz1 := hz0.1
                  have hz2 := hz0.2
                  have HZ := Lib.hid hz
                  have C3 := Lib.hid (show 1 + (m : Int) % 2 = cl by simpa using c3)
                  obtain ⟨k, hk⟩ : ∃ k, z % 16 = k := ⟨_, rfl⟩
                  have HKK := Lib.hid hk
                  clear hcz hz hz0
                  have hgd : (ks.getD (m + 1 - 1) 0) % 16 = k := by
                    rw [List.getD_eq_getElem?_getD, Nat.add_sub_cancel, HZ.out]; exact HKK.out
                  have HGD := Lib.hid hgd
                  clear hgd
                  cases k4 : (k == 4)
                  · cases k9 : (k == 9)
                    · cases k11 : (k == 11)
                      · have HNO : Hid (¬ csOk ks i last (m + 1) cl) := Lib.hid (fun q => by have h1 := q.2.2.2.1; rw [HGD.out] at h1; unfold goodK at h1; simp at h1 k4 k9 k11; omega)
                        as_aux_lemma =>
                          go_wp2_with fail
                          refine wp_still (by kernel_rfl) (by kernel_rfl) ?_
                          repeat still_step
                          try refine wpStill_nil ?_
                          go_wp2_with fail
                          refine (plain_ok _).mono ?_
                          rintro e w4 ⟨g4, rfl, hg, hsa, hk⟩
                          have HG4 := Lib.hid (And.intro hg hsa)
                          have H4 := Lib.hid (HT.out.ses.keep (((Chg.refl (fun _ => False) wr).drew).trans hk))
                          have HN : Hid (¬ R g4) := Lib.hid (fun q => by have := HT.out.ses.clip.lt g4 q; have : wr.drew.heap.size = wr.heap.size := rfl; omega)
                          clear hg hk hsa
                          go_wp2_with fail
                          refine (ses_set (csC owner last) 13 cl 1 _ _ 1 1 [tp] H4.out HG4.out.2 (fun _ g o e => by cases e; exact HN.out) (cs_no HV.out (by omega) HK.out (m + 1) last (by omega) hlast owner cl _ hcl1 (by first | rfl | omega | (push_cast; rfl)) HNO.out).1 (cs_no HV.out (by omega) HK.out (m + 1) last (by omega) hlast owner cl _ hcl1 (by first | rfl | omega) HNO.out).2).mono ?_
                          rintro e w5 ⟨R5, rfl, hses, _⟩
                          have H5 := Lib.hid hses
                          clear hses
                          go_wp2_with fail
                          refine (ses_owner owner H5.out (cs_owner owner last HT.out.ow)).mono ?_
                          rintro e w6 ⟨rfl, rfl⟩
                          go_wp2
                          go_roundg (lb - (j + 1))
                          case measure => have := HG.out; omega
                          case rel => exact ⟨j + 1, last, owner, by omega, by rfl, by go_num, by rfl, by rfl, R5, H5.out, hlast, HT.out.ow⟩
                      · have HOK : Hid (csOk ks i last (m + 1) cl) := Lib.hid ⟨by omega, by omega, by rw [← C3.out]; rfl, by rw [HGD.out]; unfold goodK; simp at k11; simp [k11], c2⟩
                        as_aux_lemma =>
                          go_wp2_with fail
                          refine wp_still (by kernel_rfl) (by kernel_rfl) ?_
                          repeat still_step
                          try refine wpStill_nil ?_
                          go_wp2_with fail
                          refine (plain_ok _).mono ?_
                          rintro e w4 ⟨g4, rfl, hg, hsa, hk⟩
                          have HG4 := Lib.hid (And.intro hg hsa)
                          have H4 := Lib.hid (HT.out.ses.keep (((Chg.refl (fun _ => False) wr).drew).trans hk))
                          have HN : Hid (¬ R g4) := Lib.hid (fun q => by have := HT.out.ses.clip.lt g4 q; have : wr.drew.heap.size = wr.heap.size := rfl; omega)
                          clear hg hk hsa
                          go_wp2_with fail
                          refine (ses_set (csC cl (m + 1)) 0 cl 1 _ _ 1 1 [tp] H4.out HG4.out.2 (fun _ g o e => by cases e; exact HN.out) (cs_ok HV.out (by omega) HK.out (m + 1) last (by omega) hlast owner cl _ hcl1 (by first | rfl | omega) HOK.out).1 (cs_ok HV.out (by omega) HK.out (m + 1) last (by omega) hlast owner cl _ hcl1 (by first | rfl | omega) HOK.out).2).mono ?_
                          rintro e w5 ⟨R5, rfl, hses, _⟩
                          have H5 := Lib.hid hses
                          clear hses
                          go_wp2_with fail
                          refine (ses_owner cl H5.out (cs_owner cl (m + 1) (fun q => by omega))).mono ?_
                          rintro e w6 ⟨rfl, rfl⟩
                          go_wp2
                          go_roundg (lb - (j + 1))
                          case measure => have := HG.out; omega
                          case rel => exact ⟨j + 1, m + 1, cl, by omega, by rfl, by go_num, by go_num, by rfl, R5, H5.out, by omega, fun q => by omega⟩
                    · have HOK : Hid (csOk ks i last (m + 1) cl) := Lib.hid ⟨by omega, by omega, by rw [← C3.out]; rfl, by rw [HGD.out]; unfold goodK; simp at k9; simp [k9], c2⟩
                      as_aux_lemma =>
                        go_wp2_with fail
                        refine wp_still (by kernel_rfl) (by kernel_rfl) ?_
                        repeat still_step
                        try refine wpStill_nil ?_
                        go_wp2_with fail
                        refine (plain_ok _).mono ?_
                        rintro e w4 ⟨g4, rfl, hg, hsa, hk⟩
                        have HG4 := Lib.hid (And.intro hg hsa)
                        have H4 := Lib.hid (HT.out.ses.keep (((Chg.refl (fun _ => False) wr).drew).trans hk))
                        have HN : Hid (¬ R g4) := Lib.hid (fun q => by have := HT.out.ses.clip.lt g4 q; have : wr.drew.heap.size = wr.heap.size := rfl; omega)
                        clear hg hk hsa
                        go_wp2_with fail
                        refine (ses_set (csC cl (m + 1)) 0 cl 1 _ _ 1 1 [tp] H4.out HG4.out.2 (fun _ g o e => by cases e; exact HN.out) (cs_ok HV.out (by omega) HK.out (m + 1) last (by omega) hlast owner cl _ hcl1 (by first | rfl | omega) HOK.out).1 (cs_ok HV.out (by omega) HK.out (m + 1) last (by omega) hlast owner cl _ hcl1 (by first | rfl | omega) HOK.out).2).mono ?_
                        rintro e w5 ⟨R5, rfl, hses, _⟩
                        have H5 := Lib.hid hses
                        clear hses
                        go_wp2_with fail
                        refine (ses_owner cl H5.out (cs_owner cl (m + 1) (fun q => by omega))).mono ?_
                        rintro e w6 ⟨rfl, rfl⟩
                        go_wp2
                        go_roundg (lb - (j + 1))
                        case measure => have := HG.out; omega
                        case rel => exact ⟨j + 1, m + 1, cl, by omega, by rfl, by go_num, by go_num, by rfl, R5, H5.out, by omega, fun q => by omega⟩
                  · have HOK : Hid (csOk ks i last (m + 1) cl) := Lib.hid ⟨by omega, by omega, by rw [← C3.out]; rfl, by rw [HGD.out]; unfold goodK; simp at k4; simp [k4], c2⟩
                    as_aux_lemma =>
                      go_wp2_with fail
                      refine wp_still (by kernel_rfl) (by kernel_rfl) ?_
                      repeat still_step
                      try refine wpStill_nil ?_
                      go_wp2_with fail
                      refine (plain_ok _).mono ?_
                      rintro e w4 ⟨g4, rfl, hg, hsa, hk⟩
                      have HG4 := Lib.hid (And.intro hg hsa)
                      have H4 := Lib.hid (HT.out.ses.keep (((Chg.refl (fun _ => False) wr).drew).trans hk))
                      have HN : Hid (¬ R g4) := Lib.hid (fun q => by have := HT.out.ses.clip.lt g4 q; have : wr.drew.heap.size = wr.heap.size := rfl; omega)
                      clear hg hk hsa
                      go_wp2_with fail
                      refine (ses_set (csC cl (m + 1)) 0 cl 1 _ _ 1 1 [tp] H4.out HG4.out.2 (fun _ g o e => by cases e; exact HN.out) (cs_ok HV.out (by omega) HK.out (m + 1) last (by omega) hlast owner cl _ hcl1 (by first | rfl | omega) HOK.out).1 (cs_ok HV.out (by omega) HK.out (m + 1) last (by omega) hlast owner cl _ hcl1 (by first | rfl | omega) HOK.out).2).mono ?_
                      rintro e w5 ⟨R5, rfl, hses, _⟩
                      have H5 := Lib.hid hses
                      clear hses
                      go_wp2_with fail
                      refine (ses_owner cl H5.out (cs_owner cl (m + 1) (fun q => by omega))).mono ?_
                      rintro e w6 ⟨rfl, rfl⟩
                      go_wp2
                      go_roundg (lb - (j + 1))
                      case measure => have := HG.out; omega
                      case rel => exact ⟨j + 1, m + 1, cl, by omega, by rfl, by go_num, by go_num, by rfl, R5, H5.out, by omega, fun q => by omega⟩
              · have c2' : ¬ (last : Int) < (m : Int) + 1 := by omega
                have HNO : Hid (¬ csOk ks i last (m + 1) cl) := Lib.hid (fun q => c2 q.2.2.2.2)
                as_aux_lemma =>
                  go_wp2_with fail
                  refine wp_still (by kernel_rfl) (by kernel_rfl) ?_
                  repeat still_step
                  try refine wpStill_nil ?_
                  go_wp2_with fail
                  refine (plain_ok _).mono ?_
                  rintro e w4 ⟨g4, rfl, hg, hsa, hk⟩
                  have HG4 := Lib.hid (And.intro hg hsa)
                  have H4 := Lib.hid (HT.out.ses.keep (((Chg.refl (fun _ => False) wr).drew).trans hk))
                  have HN : Hid (¬ R g4) := Lib.hid (fun q => by have := HT.out.ses.clip.lt g4 q; have : wr.drew.heap.size = wr.heap.size := rfl; omega)
                  clear hg hk hsa
                  go_wp2_with fail
                  refine (ses_set (csC owner last) 13 cl 1 _ _ 1 1 [tp] H4.out HG4.out.2 (fun _ g o e => by cases e; exact HN.out) (cs_no HV.out (by omega) HK.out (m + 1) last (by omega) hlast owner cl _ hcl1 (by first | rfl | omega | (push_cast; rfl)) HNO.out).1 (cs_no HV.out (by omega) HK.out (m + 1) last (by omega) hlast owner cl _ hcl1 (by first | rfl | omega) HNO.out).2).mono ?_
                  rintro e w5 ⟨R5, rfl, hses, _⟩
                  have H5 := Lib.hid hses
                  clear hses
                  go_wp2_with fail
                  refine (ses_owner owner H5.out (cs_owner owner last HT.out.ow)).mono ?_
                  rintro e w6 ⟨rfl, rfl⟩
                  go_wp2
                  go_roundg (lb - (j + 1))
                  case measure => have := HG.out; omega
                  case rel => exact ⟨j + 1, last, owner, by omega, by rfl, by go_num, by rfl, by rfl, R5, H5.out, hlast, HT.out.ow⟩
            · have c1' : ¬ (m : Int) < (i : Int) := by omega
              have HNO : Hid (¬ csOk ks i last (m + 1) cl) := Lib.hid (fun q => by have := q.2.1; omega)
              as_aux_lemma =>
                go_wp2_with fail
                refine wp_still (by kernel_rfl) (by kernel_rfl) ?_
                repeat still_step
                try refine wpStill_nil ?_
                go_wp2_with fail
                refine (plain_ok _).mono ?_
                rintro e w4 ⟨g4, rfl, hg, hsa, hk⟩
                have HG4 := Lib.hid (And.intro hg hsa)
                have H4 := Lib.hid (HT.out.ses.keep (((Chg.refl (fun _ => False) wr).drew).trans hk))
                have HN : Hid (¬ R g4) := Lib.hid (fun q => by have := HT.out.ses.clip.lt g4 q; have : wr.drew.heap.size = wr.heap.size := rfl; omega)
                clear hg hk hsa
                go_wp2_with fail
                refine (ses_set (csC owner last) 13 cl 1 _ _ 1 1 [tp] H4.out HG4.out.2 (fun _ g o e => by cases e; exact HN.out) (cs_no HV.out (by omega) HK.out (m + 1) last (by omega) hlast owner cl _ hcl1 (by first | rfl | omega | (push_cast; rfl)) HNO.out).1 (cs_no HV.out (by omega) HK.out (m + 1) last (by omega) hlast owner cl _ hcl1 (by first | rfl | omega) HNO.out).2).mono ?_
                rintro e w5 ⟨R5, rfl, hses, _⟩
                have H5 := Lib.hid hses
                clear hses
                go_wp2_with fail
                refine (ses_owner owner H5.out (cs_owner owner last HT.out.ow)).mono ?_
                rintro e w6 ⟨rfl, rfl⟩
                go_wp2
                go_roundg (lb - (j + 1))
                case measure => have := HG.out; omega
                case rel => exact ⟨j + 1, last, owner, by omega, by rfl, by go_num, by rfl, by rfl, R5, H5.out, hlast, HT.out.ow⟩
        · have hjj : ¬ (j : Int) < lb := by omega
          go_wp2_with fail
          refine (example42_ok _).mono ?_
          rintro e w3 ⟨rfl, hk⟩
          have HS := Lib.hid (HT.out.ses.same.trans hk)
          clear hk
          go_wp2
          go_ret
          exact ⟨rfl, HS.out⟩
end Go.Proofs.Ytndldjopgbhphaa
