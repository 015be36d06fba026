/- TransferConservation: what holds between the calls. No program. -/
import Derived.Test.YtgpfnfcfmogefaaOwnG
import Derived.Test.YtgpfnfcfmogefaaArg41
set_option linter.unusedVariables false
set_option linter.unusedSimpArgs false
namespace Go.Proofs.Ytgpfnfcfmogefaa
open Go.RowKit

theorem g1_step {G : Int} {i : Nat} (h : G ≤ (i : Int) * 65536) : G ≤ ((i + 1 : Nat) : Int) * 65536 := by
  rw [Int.natCast_add, Int.add_mul]
  omega
theorem g1_add {G m : Int} {i : Nat} (h : G ≤ (i : Int) * 65536) (hm : m ≤ 65536) : G + m ≤ ((i + 1 : Nat) : Int) * 65536 := by
  have e : ((i + 1 : Nat) : Int) * 65536 = (i : Int) * 65536 + 65536 := by rw [Int.natCast_succ, Int.add_mul, Int.one_mul]
  rw [e]
  exact Int.add_le_add h hm
theorem il_step {n : Nat} {i : Nat} (h : n ≤ i * 4000) : n ≤ (i + 1) * 4000 := Nat.le_trans h (Nat.mul_le_mul_right 4000 (Nat.le_succ i))
structure CInv (win : Int) (i : Nat) (q : PSt) (ins outs : List Int) (G : Int) : Prop where
  ok : q.ok
  win : q.win = win
  pre : ∃ rest, ins = outs ++ rest ∧ (q.cn = false → rest = q.bs)
  gr : q.cl = false → q.cn = false → (ins.length : Int) + q.cr = G
  g0 : 0 ≤ G
  g1 : G ≤ i * 65536
  il : ins.length ≤ i * 4000
theorem CInv.new {win : Int} (h0 : 1 ≤ win) (h1 : win ≤ 65536) : CInv win 0 (PSt.new win) [] [] 0 :=
  ⟨PSt.new_ok h0 h1, rfl, ⟨[], rfl, fun _ => rfl⟩, fun _ _ => by simp [PSt.new], by omega, by omega, by simp⟩
theorem CInv.write {win : Int} {i : Nat} {q : PSt} {ins outs : List Int} {G : Int} (h : CInv win i q ins outs G) (xs : List Int) (hx : xs.length ≤ 4000) : CInv win (i + 1) (q.write xs) (ins ++ xs.take (q.wrN xs.length)) outs G := by
  have hn := q.wrN_le xs.length
  obtain ⟨rest, hr, hq⟩ := h.pre
  refine ⟨PSt.write_ok h.ok xs, h.win, ⟨rest ++ xs.take (q.wrN xs.length), by rw [hr, List.append_assoc], fun hc => by show _ = q.bs ++ _; rw [hq hc]⟩, fun hc hd => ?_, h.g0, g1_step h.g1, ?_⟩
  · have := h.gr hc hd
    show ((ins ++ xs.take (q.wrN xs.length)).length : Int) + (q.cr - q.wrN xs.length) = G
    rw [List.length_append, List.length_take]
    omega
  · have := h.il
    rw [List.length_append, List.length_take]
    omega
theorem CInv.read {win : Int} {i : Nat} {q : PSt} {ins outs : List Int} {G : Int} (h : CInv win i q ins outs G) (m : Int) : CInv win (i + 1) (q.read m) ins (outs ++ q.rd m) G := by
  obtain ⟨rest, hr, hq⟩ := h.pre
  have hg := h.g1
  have hil := h.il
  have ok := PSt.read_ok h.ok m
  cases hcn : q.cn with
  | false =>
    refine ⟨ok, h.win, ⟨q.bs.drop (q.rdN m), ?_, fun _ => rfl⟩, h.gr, h.g0, g1_step h.g1, il_step h.il⟩
    rw [hr, hq hcn]
    unfold PSt.rd
    rw [List.append_assoc, List.take_append_drop]
  | true =>
    have hb := (h.ok.cn0 hcn).2
    have e : q.rd m = [] := by unfold PSt.rd; rw [hb]; simp
    rw [e, List.append_nil]
    exact ⟨ok, h.win, ⟨rest, hr, fun hc => by have : q.cn = false := hc; rw [hcn] at this; cases this⟩, h.gr, h.g0, g1_step h.g1, il_step h.il⟩
theorem CInv.grantOk {win : Int} {i : Nat} {q : PSt} {ins outs : List Int} {G : Int} (h : CInv win i q ins outs G) (m : Int) (hz : q.grE m = 0) : CInv win (i + 1) (q.grant m) ins outs (G + m) ∧ 0 ≤ m ∧ m ≤ 65536 := by
  obtain ⟨h1, h2, h3⟩ := PSt.grE_bd hz
  have e : q.grant m = { q with cr := q.cr + m } := by unfold PSt.grant; rw [if_pos hz]
  have ok := PSt.grant_ok h.ok m
  rw [e] at ok ⊢
  have hw := h.ok.w1
  have hc := h.ok.c0
  have hg := h.g1
  have hg0 := h.g0
  have hil := h.il
  have hm : m ≤ 65536 := by omega
  refine ⟨⟨ok, h.win, h.pre, fun hc hd => ?_, by omega, g1_add h.g1 hm, il_step h.il⟩, h1, hm⟩
  have := h.gr hc hd
  show (ins.length : Int) + (q.cr + m) = _
  omega
theorem CInv.step {win : Int} {i : Nat} {q : PSt} {ins outs : List Int} {G : Int} (h : CInv win i q ins outs G) : CInv win (i + 1) q ins outs G := by
  have hg := h.g1
  have hil := h.il
  exact ⟨h.ok, h.win, h.pre, h.gr, h.g0, g1_step h.g1, il_step h.il⟩
theorem CInv.grantNo {win : Int} {i : Nat} {q : PSt} {ins outs : List Int} {G : Int} (h : CInv win i q ins outs G) (m : Int) (hz : q.grE m ≠ 0) : CInv win (i + 1) (q.grant m) ins outs G := by
  have e : q.grant m = q := by unfold PSt.grant; rw [if_neg hz]
  rw [e]
  exact h.step
theorem CInv.close {win : Int} {i : Nat} {q : PSt} {ins outs : List Int} {G : Int} (h : CInv win i q ins outs G) : CInv win (i + 1) q.close ins outs G := by
  have ok := PSt.close_ok h.ok
  unfold PSt.close at ok ⊢
  split
  · exact h.step
  · rename_i ho
    rw [if_neg ho] at ok
    have hg := h.g1
    have hil := h.il
    exact ⟨ok, h.win, h.pre, (fun hc => by cases hc), h.g0, g1_step h.g1, il_step h.il⟩
theorem CInv.cancel {win : Int} {i : Nat} {q : PSt} {ins outs : List Int} {G : Int} (h : CInv win i q ins outs G) : CInv win (i + 1) q.cancel ins outs G := by
  have ok := PSt.cancel_ok h.ok
  unfold PSt.cancel at ok ⊢
  split
  · exact h.step
  · rename_i ho
    rw [if_neg ho] at ok
    have hg := h.g1
    have hil := h.il
    obtain ⟨rest, hr, _⟩ := h.pre
    exact ⟨ok, h.win, ⟨rest, hr, (fun hc => by cases hc)⟩, (fun _ hc => by cases hc), h.g0, g1_step h.g1, il_step h.il⟩
/-- What the law asks. -/
theorem CInv.len {win : Int} {i : Nat} {q : PSt} {ins outs : List Int} {G : Int} (h : CInv win i q ins outs G) : outs.length ≤ ins.length ∧ ins.take outs.length = outs ∧ (q.cn = false → (q.bs.length : Int) = (ins.length : Int) - outs.length) ∧ (q.cn = true → (q.bs.length : Int) = 0 ∧ q.cr = 0) ∧ q.cr + q.bs.length ≤ win ∧ 0 ≤ q.cr := by
  obtain ⟨rest, hr, hq⟩ := h.pre
  refine ⟨by rw [hr, List.length_append]; omega, by rw [hr, List.take_left], fun hc => ?_, fun hc => ?_, by have := h.ok.sum; rw [h.win] at this; exact this, h.ok.c0⟩
  · rw [hr, hq hc, List.length_append]; omega
  · have := h.ok.cn0 hc
    exact ⟨by rw [this.2]; rfl, this.1⟩
end Go.Proofs.Ytgpfnfcfmogefaa
