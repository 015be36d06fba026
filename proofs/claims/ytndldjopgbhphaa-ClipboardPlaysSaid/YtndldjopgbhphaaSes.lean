/- A log and a clipboard, made since a law began: each call with its results by name. -/
import Derived.Test.YtndldjopgbhphaaClipG
set_option linter.unusedVariables false
set_option linter.unusedSimpArgs false
set_option maxRecDepth 100000
namespace Go.Proofs.Ytndldjopgbhphaa
open Go.RowKit

structure Ses (w0 w : World) (lb b : Nat) (R : Nat → Prop) (L : SLog) (c : CSt) : Prop where
  log : LogAt w lb L
  clip : ClipAt w b lb R c
  fresh : ∀ x, R x → w0.heap.size ≤ x
  lfresh : w0.heap.size ≤ lb
  same : Same w0 w
section
variable {w0 w w' : World} {lb b : Nat} {R R' : Nat → Prop} {L : SLog} {c c' : CSt}
theorem Ses.llt (h : Ses w0 w lb b R L c) : lb < w.heap.size := lt_of_at h.log.1
theorem Ses.keep (h : Ses w0 w lb b R L c) (k : Same w w') : Ses w0 w' lb b R L c := ⟨h.log.chg k (fun q => q), h.clip.same k, h.fresh, h.lfresh, h.same.trans k⟩
/-- Other new blocks are written. -/
theorem Ses.chg {S : Nat → Prop} (h : Ses w0 w lb b R L c) (k : Chg S w w') (h1 : ∀ x, S x → ¬ R x ∧ x ≠ lb ∧ w0.heap.size ≤ x) : Ses w0 w' lb b R L c :=
  ⟨h.log.chg k (fun q => (h1 lb q).2.1 rfl), h.clip.chg k (fun x hx q => (h1 x q).1 hx), h.fresh, h.lfresh, h.same.then_ k (fun i hi q => by have := (h1 i q).2.2; omega)⟩
theorem Ses.own (h : Ses w0 w lb b R L c) (hc : ClipAt w' b lb R' c') (k : Own R R' w w') : Ses w0 w' lb b R' L c' :=
  ⟨h.log.chg k.chg (fun q => h.clip.rl q), hc, k.base h.fresh h.same.size, h.lfresh, k.same_of w0 h.same h.fresh⟩

def tp : ByteArray := ⟨#[116, 101, 120, 116, 47, 112, 108, 97, 105, 110]⟩
theorem ses_lognew (w : World) : Calls Try.prog 12 #[] w fun e w' => e = .returned (.pointer (some ⟨w.heap.size, 0, none⟩)) ∧ LogAt w' w.heap.size SLog.new ∧ Same w w' := by
  refine (new_ok w).mono ?_
  rintro e w' ⟨rfl, h1, h2, _⟩
  exact ⟨rfl, h1, h2⟩
def SesNew (w0 : World) (lb : Nat) (L : SLog) (w : World) (e : Ending) (w' : World) : Prop := ∃ b R, e = .returned (.pointer (some ⟨b, 0, none⟩)) ∧ Ses w0 w' lb b R L CSt.new ∧ Same w w' ∧ ∀ x, R x → w.heap.size ≤ x
theorem ses_new (hl : LogAt w lb L) (h0 : w0.heap.size ≤ lb) (hs : Same w0 w) : Calls Try.prog 13 #[.pointer (some ⟨lb, 0, none⟩)] w (SesNew w0 lb L w) := by
  refine (cnew_ok w lb (lt_of_at hl.1)).mono ?_
  rintro e w' ⟨b, R, rfl, hc, hk, hn⟩
  exact ⟨b, R, rfl, ⟨hl.chg hk (fun q => q), hc, fun x hx => by have := hn x hx; have := hs.size; omega, h0, hs.trans hk⟩, hk, hn⟩
theorem ses_issue (L' : SLog) (v cl f k : Int) (h : Ses w0 w lb b R L c) (h1 : cl ≤ 9223372036854775807) (h2 : f ≤ 9223372036854775807) (hv : L.issueN cl f k = v) (hL : L.issue cl f k = L') :
    Calls Try.prog 14 #[.pointer (some ⟨lb, 0, none⟩), .int .i64 cl, .int .i64 f, .int .i64 k] w fun e w' => e = .returned (.int .u32 v) ∧ Ses w0 w' lb b R L' c ∧ Chg (fun x => x = lb) w w' := by
  refine (issue_ok lb w L cl f k h.log h1 h2).mono ?_
  rintro e w' ⟨rfl, hl, hk⟩
  subst hv hL
  refine ⟨rfl, ⟨hl, h.clip.chg hk (fun x hx e => h.clip.rl (e ▸ hx)), h.fresh, h.lfresh, h.same.then_ hk (fun i hi e => by have := h.lfresh; omega)⟩, hk⟩
def SesI (w0 : World) (lb b : Nat) (R : Nat → Prop) (L : SLog) (c' : CSt) (v : Int) (w : World) (e : Ending) (w' : World) : Prop :=
  ∃ R', e = .returned (.int .i64 v) ∧ Ses w0 w' lb b R' L c' ∧ Own R R' w w'
theorem ses_set (c' : CSt) (v client acts sn : Int) (Ao : Option Addr) (no co : Nat) (fs : List ByteArray) (h : Ses w0 w lb b R L c) (hs : SArg w Ao no co fs) (hd : 0 < no → ∀ g o, Ao = some ⟨g, o, none⟩ → ¬ R g)
    (hv : c.setE L client fs acts sn = v) (hc : c.set L client fs acts sn = c') :
    Calls Try.prog 15 #[.pointer (some ⟨b, 0, none⟩), .int .i64 client, .agg #[.slice Ao no co, .int .i64 acts], .int .u32 sn] w (SesI w0 lb b R L c' v w) := by
  refine (cset_ok c' v client acts sn Ao no co fs h.clip h.log hs hd hv hc).mono ?_
  rintro e w' ⟨rfl, R', hcl, hk⟩
  exact ⟨R', rfl, h.own hcl hk, hk⟩
theorem ses_clear (c' : CSt) (v client sn : Int) (h : Ses w0 w lb b R L c) (hv : c.clrE L client sn = v) (hc : c.clear L client sn = c') :
    Calls Try.prog 27 #[.pointer (some ⟨b, 0, none⟩), .int .i64 client, .int .u32 sn] w (SesI w0 lb b R L c' v w) := by
  refine (cclear_ok c' v client sn h.clip h.log hv hc).mono ?_
  rintro e w' ⟨rfl, R', hcl, hk⟩
  exact ⟨R', rfl, h.own hcl hk, hk⟩
theorem ses_owner (v : Int) (h : Ses w0 w lb b R L c) (hv : c.owner = v) : Calls Try.prog 17 #[.pointer (some ⟨b, 0, none⟩)] w fun e w' => e = .returned (.int .i64 v) ∧ w = w' := cowner_ok v h.clip hv
theorem ses_formats (fs : List ByteArray) (client : Int) (n' : Nat) (h : Ses w0 w lb b R L c) (hv : c.sees client = fs) (hn : fs.length = n') : Calls Try.prog 21 #[.pointer (some ⟨b, 0, none⟩), .int .i64 client] w (CloneOut w n' fs) :=
  cformats_ok fs n' client h.clip hv hn
def SesF (w0 : World) (lb b : Nat) (R : Nat → Prop) (L : SLog) (c' : CSt) (client code : Int) (w : World) (e : Ending) (w' : World) : Prop :=
  ∃ R' g, e = .returned (.slice (some ⟨g, 0, none⟩) 1 1) ∧ w'.heap[g]? = some (.cells (delivCells client 0 18 0 0 0 code 0 0).toArray 44 (0, 0)) ∧ w.heap.size ≤ g ∧ ¬ R' g ∧ Ses w0 w' lb b R' L c' ∧ Own R R' w w'
theorem ses_focus (c' : CSt) (client code : Int) (h : Ses w0 w lb b R L c) (ho : c.offers < 1000000) (h1 : 1 ≤ client) (hcode : c.focCode = code) (hc : c.foc client = c') :
    Calls Try.prog 18 #[.pointer (some ⟨b, 0, none⟩), .int .i64 client] w (SesF w0 lb b R L c' client code w) := by
  refine (cfocus_ok client h.clip ho).mono ?_
  rintro e w' ⟨R', hcl, hk, hr⟩
  rw [if_neg (by omega)] at hr
  obtain ⟨g, rfl, hg, hn, hat⟩ := hr
  subst hc hcode
  exact ⟨R', g, rfl, hat, hg, hn, h.own hcl hk, hk⟩
def SesV (w0 : World) (lb b : Nat) (R : Nat → Prop) (L : SLog) (c' : CSt) (v : Value) (w : World) (e : Ending) (w' : World) : Prop :=
  ∃ R', e = .returned v ∧ Ses w0 w' lb b R' L c' ∧ Own R R' w w'
theorem ses_focus0 (c' : CSt) (client : Int) (h : Ses w0 w lb b R L c) (ho : c.offers < 1000000) (h1 : client < 1) (hc : c.foc client = c') :
    Calls Try.prog 18 #[.pointer (some ⟨b, 0, none⟩), .int .i64 client] w (SesV w0 lb b R L c' (.slice none 0 0) w) := by
  refine (cfocus_ok client h.clip ho).mono ?_
  rintro e w' ⟨R', hcl, hk, hr⟩
  rw [if_pos h1] at hr
  subst hc hr
  exact ⟨R', rfl, h.own hcl hk, hk⟩
theorem ses_rcv_no (v client win : Int) (f : ByteArray) (h : Ses w0 w lb b R L c) (hv : c.rcvE client f win = v) (h0 : v ≠ 0) :
    Calls Try.prog 22 #[.pointer (some ⟨b, 0, none⟩), .int .i64 client, .string f, .int .i64 win] w fun e w' => e = .returned (.tuple #[.pointer none, .int .i64 v]) ∧ w = w' :=
  crcv_no v client win f h.clip hv h0
def SesR (w0 : World) (lb b : Nat) (R : Nat → Prop) (L : SLog) (c : CSt) (client win : Int) (w : World) (e : Ending) (w' : World) : Prop :=
  ∃ R' pb Rp, e = .returned (.tuple #[.pointer (some ⟨pb, 0, none⟩), .int .i64 0]) ∧ Ses w0 w' lb b R' L { c with flows := c.flows ++ [⟨pb, Rp, PSt.new win, c.owner, client, true⟩] } ∧ Own R R' w w'
theorem ses_rcv (client win : Int) (f : ByteArray) (h : Ses w0 w lb b R L c) (hv : c.rcvE client f win = 0) (hf : c.flows.length < 1000) :
    Calls Try.prog 22 #[.pointer (some ⟨b, 0, none⟩), .int .i64 client, .string f, .int .i64 win] w (SesR w0 lb b R L c client win w) := by
  refine (crcv_yes client win f h.clip hv hf).mono ?_
  rintro e w' ⟨pb, Rp, rfl, _, R', hcl, hk⟩
  exact ⟨R', pb, Rp, rfl, h.own hcl hk, hk⟩
theorem ses_gone (c' : CSt) (client : Int) (h : Ses w0 w lb b R L c) (hc : c.gone client = c') :
    Calls Try.prog 32 #[.pointer (some ⟨b, 0, none⟩), .int .i64 client] w (SesV w0 lb b R L c' (.tuple #[]) w) := by
  refine (cgone_ok client h.clip).mono ?_
  rintro e w' ⟨rfl, R', hcl, hk⟩
  subst hc
  exact ⟨R', rfl, h.own hcl hk, hk⟩
/-- A pipe of the clipboard's, as the law holds it. -/
theorem Ses.pipe (h : Ses w0 w lb b R L c) {i : Nat} {x : CFlow} (hx : c.flows[i]? = some x) : Pip w0 w x.pb x.R x.q := by
  obtain ⟨A, n, cap, mb, hh⟩ := h.clip
  have hm := List.mem_of_getElem? hx
  exact ⟨hh.pipes x hm, fun j hj => h.fresh j (hh.sub x hm j hj).1, h.same⟩
theorem Ses.used (h : Ses w0 w lb b R L c) {i : Nat} {x : CFlow} (hx : c.flows[i]? = some x) {R2 : Nat → Prop} {q2 : PSt} (k : Chg x.R w w') (hp : PipeAt w' x.pb R2 q2) (hR2 : ∀ j, R2 j → x.R j ∨ w.heap.size ≤ j) :
    ∃ R', Ses w0 w' lb b R' L { c with flows := c.flows.set i { x with R := R2, q := q2 } } ∧ Own R R' w w' := by
  obtain ⟨A, n, cap, mb, hh⟩ := h.clip
  have hm := List.mem_of_getElem? hx
  have hk : Own R (fun j => R j ∨ R2 j) w w' := ⟨k.mono (fun j _ hj => (hh.sub x hm j hj).1), fun j hj => by
    rcases hj with hj | hj
    · exact .inl hj
    · rcases hR2 j hj with q | q
      · exact .inl (hh.sub x hm j q).1
      · exact .inr q⟩
  exact ⟨_, h.own ⟨A, n, cap, mb, hh.setFlow hx k hp hR2⟩ hk, hk⟩

/-- The offer of text. -/
def PlainOut (w : World) (e : Ending) (w' : World) : Prop := ∃ g, e = .returned (.agg #[.slice (some ⟨g, 0, none⟩) 1 1, .int .i64 1]) ∧ w.heap.size ≤ g ∧ SArg w' (some ⟨g, 0, none⟩) 1 1 [tp] ∧ Same w w'
theorem infoOff : (Try.prog.info? 36).map (fun i => i.size) = some 2 := by kernel_rfl
theorem run_load_off {w : World} {g : Nat} {a b : Value} (h : w.heap[g]? = some (.cells #[a, b] 36 (0, 0))) : (loadVar 36 ⟨g, 0, none⟩).run Try.prog w = .ok (.agg #[a, b]) w :=
  run_loadMid (P := Try.prog) (C := [a, b]) 36 0 2 _ h infoOff Try.underlying36 rfl (by simp)
theorem plain_ok (w : World) : Calls Try.prog 16 #[] w (PlainOut w) := by
  go_enter Try.func16, Try.ntmps16
  go_wp2
  refine bodyPost_ret (results_cell1 Try.results16 rfl (run_load_off (at_alloc (at_new _ _)))) rfl ⟨w.heap.size + 1, rfl, by omega, ⟨strs_new _ _ _ 1 [tp] _ rfl rfl _ (by simp), by omega, by unfold maxLen; omega⟩, ((Chg.refl _ _).alloc _).alloc _⟩
end
end Go.Proofs.Ytndldjopgbhphaa
