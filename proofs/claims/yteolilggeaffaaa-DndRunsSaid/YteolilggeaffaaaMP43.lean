/- compositorref43: Drop (printed by mdrop.py). -/
import Derived.Test.YteolilggeaffaaaMC43
import Derived.Test.YteolilggeaffaaaTree
set_option linter.unusedVariables false
set_option linter.unusedSimpArgs false
set_option maxRecDepth 100000
namespace Go.Proofs.Yteolilggeaffaaa
open Go.RowKit

theorem PRow.wide {w : World} {F : Nat → Prop} {A : Option Addr} {n : Nat} {rs : List RPp} (h : PRow w F A n rs) (m : Nat) : PRow w (fun x => F x ∨ (w.heap.size ≤ x ∧ x < m)) A n rs := by
  refine ⟨h.1, h.2.1, fun hn => ?_⟩
  obtain ⟨g, e, hF, hg, hc⟩ := h.2.2 hn
  exact ⟨g, e, fun q => by rcases q with q | q; exact hF q; omega, hg, hc⟩
theorem PRow.weak {w : World} {F F' : Nat → Prop} {A : Option Addr} {n : Nat} {rs : List RPp} (h : PRow w F A n rs) (k : ∀ x, F' x → F x) : PRow w F' A n rs := by
  refine ⟨h.1, h.2.1, fun hn => ?_⟩
  obtain ⟨g, e, hF, hg, hc⟩ := h.2.2 hn
  exact ⟨g, e, fun q => hF (k g q), hg, hc⟩
theorem PRow.chgF {w w' : World} {F S : Nat → Prop} {A : Option Addr} {n : Nat} {rs : List RPp} (h : PRow w F A n rs) (k : Chg S w w') (hS : ∀ x, S x → F x) : PRow w' F A n rs := by
  refine ⟨h.1, h.2.1, fun hn => ?_⟩
  obtain ⟨g, e, hF, hg, hc⟩ := h.2.2 hn
  exact ⟨g, e, hF, Nat.lt_of_lt_of_le hg k.size, fun i z hz j u hu => k.cell (hc i z hz j u hu) (fun q => hF (hS g q))⟩
theorem out_new {m : Nat} {u : World} (hz : m + 2 ≤ u.heap.size) (a1 a2 a3 a4 a5 a6 a7 a8 a9 : Int) : OutAt (m + 2) (u.alloc (.cells #[.int .i64 a1, .int .i64 a2, .int .i64 a3, .int .i64 a4, .int .i64 a5, .int .i64 a6, .int .i64 a7, .int .i64 a8, .int .u32 a9] 72)) (.slice (some ⟨u.heap.size, 0, none⟩) 1 1) [delivC a1 a2 a3 a4 a5 a6 a7 a8 a9] :=
  World.ownsRow.mono (out_one u a1 a2 a3 a4 a5 a6 a7 a8 a9) hz
theorem out_set {m : Nat} {u : World} {v : Value} {l : List (List Value)} (cs : Array Value) (h : OutAt (m + 2) u v l) : OutAt (m + 2) (u.setRow (m + 1) cs) v l :=
  row_chg h ((Chg.refl (fun x => x = m + 1) u).setRow (m + 1) cs (fun _ => rfl)) (fun x hx q => by have := (h.lt x hx).1; omega)
set_option maxHeartbeats 4000000 in
theorem mdrop_no (ph : Int) (src cl tg : Int) (A : Option Addr) (n cap : Nat) (acts : Int) (f : ByteArray) (a p nm : Int) (tm : Bool) (la : Int) (PA : Option Addr) (pn pc : Nat) (fst : Int) (w : World) (h : ph ≠ 1) :
    Calls Try.prog 53 #[.agg #[.int .i64 ph, .int .i64 src, .int .i64 cl, .int .i64 tg, .slice A n cap, .int .i64 acts, .string f, .int .i64 a, .int .i64 p, .int .i64 nm, .bool tm, .int .i64 la, .slice PA pn pc, .int .i64 fst]] w fun e w' => e = .returned (.tuple #[.agg #[.int .i64 ph, .int .i64 src, .int .i64 cl, .int .i64 tg, .slice A n cap, .int .i64 acts, .string f, .int .i64 a, .int .i64 p, .int .i64 nm, .bool tm, .int .i64 la, .slice PA pn pc, .int .i64 fst], .slice none 0 0, .bool false]) ∧ Same w w' := by
  have b1 : (ph != 1) = true := by simp [h]
  have b2 : (ph == 1) = false := by simp [h]
  clear h
  go_enter Try.func53, Try.ntmps53
  go_wp2
  refine bodyPost_ret (results_cell_tmp2 Try.results53 rfl (run_load_md (x := ⟨ph, src, cl, tg, A, n, cap, acts, f, a, p, nm, tm, la, PA, pn, pc, fst⟩) (VarAt.newk (by simp)))) rfl ⟨rfl, ((Chg.refl _ _).alloc _).alloc _⟩

set_option maxHeartbeats 4000000 in
theorem mdrop_un1 (src cl : Int) (A : Option Addr) (n cap : Nat) (acts : Int) (f : ByteArray) (a p nm : Int) (tm : Bool) (la : Int) (PA : Option Addr) (pn pc : Nat) (fst : Int) (rs : List RPp) (ds : List Dv) (w : World) (G : Nat → Prop) (hr : PRow w G PA pn rs) (hG : ∀ x, G x → x < w.heap.size) (hpn : pn ≤ 1000) (hd : MD.cancD ⟨1, src, cl, 0, A, n, cap, acts, f, a, p, nm, tm, la, PA, pn, pc, fst⟩ = ds)  :
    Calls Try.prog 53 #[.agg #[.int .i64 1, .int .i64 src, .int .i64 cl, .int .i64 0, .slice A n cap, .int .i64 acts, .string f, .int .i64 a, .int .i64 p, .int .i64 nm, .bool tm, .int .i64 la, .slice PA pn pc, .int .i64 fst]] w fun e w' => ∃ PA' pc' rs' VA vc, e = .returned (.tuple #[.agg (MD.over ⟨1, src, cl, 0, A, n, cap, acts, f, a, p, nm, tm, la, PA, pn, pc, fst⟩ PA' pc').cells.toArray, .slice VA ds.length vc, .bool false]) ∧ CancRow false fst rs rs' ∧ PRow w' G PA' pn rs' ∧ OutAt w.heap.size w' (.slice VA ds.length vc) (ds.map Dv.cells) ∧ Same w w' := by
  have HPR := Lib.hid (And.intro (hr.wide (w.heap.size + 2)) (And.intro hG hd))
  have HX : Hid (VarAt ((w.alloc (.cells #[.int .i64 1, .int .i64 src, .int .i64 cl, .int .i64 0, .slice A n cap, .int .i64 acts, .string f, .int .i64 a, .int .i64 p, .int .i64 nm, .bool tm, .int .i64 la, .slice PA pn pc, .int .i64 fst] 56)).alloc (.cells #[.int .i64 0, .int .i64 0, .int .i64 0, .int .i64 0, .slice none 0 0, .int .i64 0, .string ⟨#[]⟩, .int .i64 0, .int .i64 0, .int .i64 0, .bool false, .int .i64 0, .slice none 0 0, .int .i64 0] 56)) w.heap.size 56 #[.int .i64 1, .int .i64 src, .int .i64 cl, .int .i64 0, .slice A n cap, .int .i64 acts, .string f, .int .i64 a, .int .i64 p, .int .i64 nm, .bool tm, .int .i64 la, .slice PA pn pc, .int .i64 fst] ∧ VarAt ((w.alloc (.cells #[.int .i64 1, .int .i64 src, .int .i64 cl, .int .i64 0, .slice A n cap, .int .i64 acts, .string f, .int .i64 a, .int .i64 p, .int .i64 nm, .bool tm, .int .i64 la, .slice PA pn pc, .int .i64 fst] 56)).alloc (.cells #[.int .i64 0, .int .i64 0, .int .i64 0, .int .i64 0, .slice none 0 0, .int .i64 0, .string ⟨#[]⟩, .int .i64 0, .int .i64 0, .int .i64 0, .bool false, .int .i64 0, .slice none 0 0, .int .i64 0] 56)) (w.heap.size + 1) 56 #[.int .i64 0, .int .i64 0, .int .i64 0, .int .i64 0, .slice none 0 0, .int .i64 0, .string ⟨#[]⟩, .int .i64 0, .int .i64 0, .int .i64 0, .bool false, .int .i64 0, .slice none 0 0, .int .i64 0] ∧ Same w ((w.alloc (.cells #[.int .i64 1, .int .i64 src, .int .i64 cl, .int .i64 0, .slice A n cap, .int .i64 acts, .string f, .int .i64 a, .int .i64 p, .int .i64 nm, .bool tm, .int .i64 la, .slice PA pn pc, .int .i64 fst] 56)).alloc (.cells #[.int .i64 0, .int .i64 0, .int .i64 0, .int .i64 0, .slice none 0 0, .int .i64 0, .string ⟨#[]⟩, .int .i64 0, .int .i64 0, .int .i64 0, .bool false, .int .i64 0, .slice none 0 0, .int .i64 0] 56)) ∧ ((w.alloc (.cells #[.int .i64 1, .int .i64 src, .int .i64 cl, .int .i64 0, .slice A n cap, .int .i64 acts, .string f, .int .i64 a, .int .i64 p, .int .i64 nm, .bool tm, .int .i64 la, .slice PA pn pc, .int .i64 fst] 56)).alloc (.cells #[.int .i64 0, .int .i64 0, .int .i64 0, .int .i64 0, .slice none 0 0, .int .i64 0, .string ⟨#[]⟩, .int .i64 0, .int .i64 0, .int .i64 0, .bool false, .int .i64 0, .slice none 0 0, .int .i64 0] 56)).heap.size = w.heap.size + 2) :=
    Lib.hid ⟨(VarAt.new _ _ _).alloc _, VarAt.newk (by simp), ((Chg.refl _ _).alloc _).alloc _, by simp⟩
  clear hr hG hd
  go_enter Try.func53, Try.ntmps53
  go_wp2_with fail
  obtain ⟨w2, hw2⟩ : ∃ w2, ((w.alloc (.cells #[.int .i64 1, .int .i64 src, .int .i64 cl, .int .i64 0, .slice A n cap, .int .i64 acts, .string f, .int .i64 a, .int .i64 p, .int .i64 nm, .bool tm, .int .i64 la, .slice PA pn pc, .int .i64 fst] 56)).alloc (.cells #[.int .i64 0, .int .i64 0, .int .i64 0, .int .i64 0, .slice none 0 0, .int .i64 0, .string ⟨#[]⟩, .int .i64 0, .int .i64 0, .int .i64 0, .bool false, .int .i64 0, .slice none 0 0, .int .i64 0] 56)) = w2 := ⟨_, rfl⟩
  rw [hw2] at HX ⊢
  have HB := Lib.hid (And.intro HX.out.1 (And.intro HX.out.2.1 (And.intro HX.out.2.2.1 (show w.heap.size + 2 ≤ w2.heap.size by rw [HX.out.2.2.2]; omega))))
  clear hw2
  refine (mcancel_1 src cl 0 A n cap acts f a p nm tm la PA pn pc fst rs ds _ (fun x => G x ∨ (w.heap.size ≤ x ∧ x < w.heap.size + 2)) (HPR.out.1.same HB.out.2.2.1) (fun x hx => by have := HB.out.2.2.2; rcases hx with q | q; have := HPR.out.2.1 x q; omega; omega) hpn HPR.out.2.2).mono ?_
  rintro e w3 ⟨PA', pc', rs', VA, vc, rfl, hcr, hpr, hout, hs⟩
  dsimp only [MD.over, MD.aim, MD.cells]
  have h2 : VarAt (w3.alloc (.cells #[.int .i64 0, .int .i64 src, .int .i64 0, .int .i64 0, .slice A n cap, .int .i64 acts, .string ⟨#[]⟩, .int .i64 0, .int .i64 0, .int .i64 nm, .bool tm, .int .i64 la, .slice PA' pn pc', .int .i64 fst] 56)) (w.heap.size + 1) 56 #[.int .i64 0, .int .i64 0, .int .i64 0, .int .i64 0, .slice none 0 0, .int .i64 0, .string ⟨#[]⟩, .int .i64 0, .int .i64 0, .int .i64 0, .bool false, .int .i64 0, .slice none 0 0, .int .i64 0] := (HB.out.2.1.same hs).alloc _
  have HR := Lib.hid (And.intro hcr (And.intro hpr (And.intro hout hs)))
  have hz3 : w.heap.size + 2 ≤ w3.heap.size := Nat.le_trans HB.out.2.2.2 hs.size
  clear hcr hpr hout hs
  go_wp2_with (refine wpl_storeRow _ rfl rfl h2 (by kernel_rfl) rfl (by simp [Value.oneCell']) ?_)
  have hch : Chg (fun x => x = w.heap.size + 1) w3 ((w3.alloc (.cells #[.int .i64 0, .int .i64 src, .int .i64 0, .int .i64 0, .slice A n cap, .int .i64 acts, .string ⟨#[]⟩, .int .i64 0, .int .i64 0, .int .i64 nm, .bool tm, .int .i64 la, .slice PA' pn pc', .int .i64 fst] 56)).setRow (w.heap.size + 1) #[.int .i64 0, .int .i64 src, .int .i64 0, .int .i64 0, .slice A n cap, .int .i64 acts, .string ⟨#[]⟩, .int .i64 0, .int .i64 0, .int .i64 nm, .bool tm, .int .i64 la, .slice PA' pn pc', .int .i64 fst]) := ((Chg.refl _ _).alloc _).setRow _ _ (fun _ => rfl)
  refine bodyPost_ret (results_cell_tmp2 Try.results53 rfl (VarAt.ldD (x := MD.over ⟨1, src, cl, 0, A, n, cap, acts, f, a, p, nm, tm, la, PA, pn, pc, fst⟩ PA' pc') (h2.put _))) rfl ⟨PA', pc', rs', VA, vc, rfl, HR.out.1, ?_, ?_, ?_⟩
  · exact (HR.out.2.1.chgF hch (fun x hx => .inr (by omega))).weak (fun x hx => .inl hx)
  · exact World.ownsRow.mono (row_chg HR.out.2.2.1 hch (fun x hx q => by have := (HR.out.2.2.1.lt x hx).1; have := HB.out.2.2.2; omega)) (by have := HB.out.2.2.2; omega)
  · exact (HB.out.2.2.1.trans HR.out.2.2.2).then_ hch (fun j hj q => by omega)

set_option maxHeartbeats 4000000 in
theorem mdrop_un2 (src cl tg : Int) (A : Option Addr) (n cap : Nat) (acts : Int) (a p nm : Int) (tm : Bool) (la : Int) (PA : Option Addr) (pn pc : Nat) (fst : Int) (rs : List RPp) (ds : List Dv) (w : World) (G : Nat → Prop) (hr : PRow w G PA pn rs) (hG : ∀ x, G x → x < w.heap.size) (hpn : pn ≤ 1000) (hd : MD.cancD ⟨1, src, cl, tg, A, n, cap, acts, ByteArray.empty, a, p, nm, tm, la, PA, pn, pc, fst⟩ = ds) (h0 : tg ≠ 0) :
    Calls Try.prog 53 #[.agg #[.int .i64 1, .int .i64 src, .int .i64 cl, .int .i64 tg, .slice A n cap, .int .i64 acts, .string ByteArray.empty, .int .i64 a, .int .i64 p, .int .i64 nm, .bool tm, .int .i64 la, .slice PA pn pc, .int .i64 fst]] w fun e w' => ∃ PA' pc' rs' VA vc, e = .returned (.tuple #[.agg (MD.over ⟨1, src, cl, tg, A, n, cap, acts, ByteArray.empty, a, p, nm, tm, la, PA, pn, pc, fst⟩ PA' pc').cells.toArray, .slice VA ds.length vc, .bool false]) ∧ CancRow false fst rs rs' ∧ PRow w' G PA' pn rs' ∧ OutAt w.heap.size w' (.slice VA ds.length vc) (ds.map Dv.cells) ∧ Same w w' := by
  have HPR := Lib.hid (And.intro (hr.wide (w.heap.size + 2)) (And.intro hG hd))
  have HX : Hid (VarAt ((w.alloc (.cells #[.int .i64 1, .int .i64 src, .int .i64 cl, .int .i64 tg, .slice A n cap, .int .i64 acts, .string ByteArray.empty, .int .i64 a, .int .i64 p, .int .i64 nm, .bool tm, .int .i64 la, .slice PA pn pc, .int .i64 fst] 56)).alloc (.cells #[.int .i64 0, .int .i64 0, .int .i64 0, .int .i64 0, .slice none 0 0, .int .i64 0, .string ⟨#[]⟩, .int .i64 0, .int .i64 0, .int .i64 0, .bool false, .int .i64 0, .slice none 0 0, .int .i64 0] 56)) w.heap.size 56 #[.int .i64 1, .int .i64 src, .int .i64 cl, .int .i64 tg, .slice A n cap, .int .i64 acts, .string ByteArray.empty, .int .i64 a, .int .i64 p, .int .i64 nm, .bool tm, .int .i64 la, .slice PA pn pc, .int .i64 fst] ∧ VarAt ((w.alloc (.cells #[.int .i64 1, .int .i64 src, .int .i64 cl, .int .i64 tg, .slice A n cap, .int .i64 acts, .string ByteArray.empty, .int .i64 a, .int .i64 p, .int .i64 nm, .bool tm, .int .i64 la, .slice PA pn pc, .int .i64 fst] 56)).alloc (.cells #[.int .i64 0, .int .i64 0, .int .i64 0, .int .i64 0, .slice none 0 0, .int .i64 0, .string ⟨#[]⟩, .int .i64 0, .int .i64 0, .int .i64 0, .bool false, .int .i64 0, .slice none 0 0, .int .i64 0] 56)) (w.heap.size + 1) 56 #[.int .i64 0, .int .i64 0, .int .i64 0, .int .i64 0, .slice none 0 0, .int .i64 0, .string ⟨#[]⟩, .int .i64 0, .int .i64 0, .int .i64 0, .bool false, .int .i64 0, .slice none 0 0, .int .i64 0] ∧ Same w ((w.alloc (.cells #[.int .i64 1, .int .i64 src, .int .i64 cl, .int .i64 tg, .slice A n cap, .int .i64 acts, .string ByteArray.empty, .int .i64 a, .int .i64 p, .int .i64 nm, .bool tm, .int .i64 la, .slice PA pn pc, .int .i64 fst] 56)).alloc (.cells #[.int .i64 0, .int .i64 0, .int .i64 0, .int .i64 0, .slice none 0 0, .int .i64 0, .string ⟨#[]⟩, .int .i64 0, .int .i64 0, .int .i64 0, .bool false, .int .i64 0, .slice none 0 0, .int .i64 0] 56)) ∧ ((w.alloc (.cells #[.int .i64 1, .int .i64 src, .int .i64 cl, .int .i64 tg, .slice A n cap, .int .i64 acts, .string ByteArray.empty, .int .i64 a, .int .i64 p, .int .i64 nm, .bool tm, .int .i64 la, .slice PA pn pc, .int .i64 fst] 56)).alloc (.cells #[.int .i64 0, .int .i64 0, .int .i64 0, .int .i64 0, .slice none 0 0, .int .i64 0, .string ⟨#[]⟩, .int .i64 0, .int .i64 0, .int .i64 0, .bool false, .int .i64 0, .slice none 0 0, .int .i64 0] 56)).heap.size = w.heap.size + 2) :=
    Lib.hid ⟨(VarAt.new _ _ _).alloc _, VarAt.newk (by simp), ((Chg.refl _ _).alloc _).alloc _, by simp⟩
  have hem : ByteArray.empty.toList = [] := toList_nil
  have b0 : (tg == 0) = false := by simp [h0]
  clear h0
  clear hr hG hd
  go_enter Try.func53, Try.ntmps53
  go_wp2_with fail
  obtain ⟨w2, hw2⟩ : ∃ w2, ((w.alloc (.cells #[.int .i64 1, .int .i64 src, .int .i64 cl, .int .i64 tg, .slice A n cap, .int .i64 acts, .string ByteArray.empty, .int .i64 a, .int .i64 p, .int .i64 nm, .bool tm, .int .i64 la, .slice PA pn pc, .int .i64 fst] 56)).alloc (.cells #[.int .i64 0, .int .i64 0, .int .i64 0, .int .i64 0, .slice none 0 0, .int .i64 0, .string ⟨#[]⟩, .int .i64 0, .int .i64 0, .int .i64 0, .bool false, .int .i64 0, .slice none 0 0, .int .i64 0] 56)) = w2 := ⟨_, rfl⟩
  rw [hw2] at HX ⊢
  have HB := Lib.hid (And.intro HX.out.1 (And.intro HX.out.2.1 (And.intro HX.out.2.2.1 (show w.heap.size + 2 ≤ w2.heap.size by rw [HX.out.2.2.2]; omega))))
  clear hw2
  refine (mcancel_1 src cl tg A n cap acts ByteArray.empty a p nm tm la PA pn pc fst rs ds _ (fun x => G x ∨ (w.heap.size ≤ x ∧ x < w.heap.size + 2)) (HPR.out.1.same HB.out.2.2.1) (fun x hx => by have := HB.out.2.2.2; rcases hx with q | q; have := HPR.out.2.1 x q; omega; omega) hpn HPR.out.2.2).mono ?_
  rintro e w3 ⟨PA', pc', rs', VA, vc, rfl, hcr, hpr, hout, hs⟩
  dsimp only [MD.over, MD.aim, MD.cells]
  have h2 : VarAt (w3.alloc (.cells #[.int .i64 0, .int .i64 src, .int .i64 0, .int .i64 0, .slice A n cap, .int .i64 acts, .string ⟨#[]⟩, .int .i64 0, .int .i64 0, .int .i64 nm, .bool tm, .int .i64 la, .slice PA' pn pc', .int .i64 fst] 56)) (w.heap.size + 1) 56 #[.int .i64 0, .int .i64 0, .int .i64 0, .int .i64 0, .slice none 0 0, .int .i64 0, .string ⟨#[]⟩, .int .i64 0, .int .i64 0, .int .i64 0, .bool false, .int .i64 0, .slice none 0 0, .int .i64 0] := (HB.out.2.1.same hs).alloc _
  have HR := Lib.hid (And.intro hcr (And.intro hpr (And.intro hout hs)))
  have hz3 : w.heap.size + 2 ≤ w3.heap.size := Nat.le_trans HB.out.2.2.2 hs.size
  clear hcr hpr hout hs
  go_wp2_with (refine wpl_storeRow _ rfl rfl h2 (by kernel_rfl) rfl (by simp [Value.oneCell']) ?_)
  have hch : Chg (fun x => x = w.heap.size + 1) w3 ((w3.alloc (.cells #[.int .i64 0, .int .i64 src, .int .i64 0, .int .i64 0, .slice A n cap, .int .i64 acts, .string ⟨#[]⟩, .int .i64 0, .int .i64 0, .int .i64 nm, .bool tm, .int .i64 la, .slice PA' pn pc', .int .i64 fst] 56)).setRow (w.heap.size + 1) #[.int .i64 0, .int .i64 src, .int .i64 0, .int .i64 0, .slice A n cap, .int .i64 acts, .string ⟨#[]⟩, .int .i64 0, .int .i64 0, .int .i64 nm, .bool tm, .int .i64 la, .slice PA' pn pc', .int .i64 fst]) := ((Chg.refl _ _).alloc _).setRow _ _ (fun _ => rfl)
  refine bodyPost_ret (results_cell_tmp2 Try.results53 rfl (VarAt.ldD (x := MD.over ⟨1, src, cl, tg, A, n, cap, acts, ByteArray.empty, a, p, nm, tm, la, PA, pn, pc, fst⟩ PA' pc') (h2.put _))) rfl ⟨PA', pc', rs', VA, vc, rfl, HR.out.1, ?_, ?_, ?_⟩
  · exact (HR.out.2.1.chgF hch (fun x hx => .inr (by omega))).weak (fun x hx => .inl hx)
  · exact World.ownsRow.mono (row_chg HR.out.2.2.1 hch (fun x hx q => by have := (HR.out.2.2.1.lt x hx).1; have := HB.out.2.2.2; omega)) (by have := HB.out.2.2.2; omega)
  · exact (HB.out.2.2.1.trans HR.out.2.2.2).then_ hch (fun j hj q => by omega)

set_option maxHeartbeats 4000000 in
theorem mdrop_un3 (src cl tg : Int) (A : Option Addr) (n cap : Nat) (acts : Int) (f : ByteArray) (a p nm : Int) (tm : Bool) (la : Int) (PA : Option Addr) (pn pc : Nat) (fst : Int) (rs : List RPp) (ds : List Dv) (w : World) (G : Nat → Prop) (hr : PRow w G PA pn rs) (hG : ∀ x, G x → x < w.heap.size) (hpn : pn ≤ 1000) (hd : MD.cancD ⟨1, src, cl, tg, A, n, cap, acts, f, a, p, nm, tm, la, PA, pn, pc, fst⟩ = ds) (h0 : tg ≠ 0) (hf : f ≠ ByteArray.empty) (hac : MD.act ⟨1, src, cl, tg, A, n, cap, acts, f, a, p, nm, tm, la, PA, pn, pc, fst⟩ = 0) :
    Calls Try.prog 53 #[.agg #[.int .i64 1, .int .i64 src, .int .i64 cl, .int .i64 tg, .slice A n cap, .int .i64 acts, .string f, .int .i64 a, .int .i64 p, .int .i64 nm, .bool tm, .int .i64 la, .slice PA pn pc, .int .i64 fst]] w fun e w' => ∃ PA' pc' rs' VA vc, e = .returned (.tuple #[.agg (MD.over ⟨1, src, cl, tg, A, n, cap, acts, f, a, p, nm, tm, la, PA, pn, pc, fst⟩ PA' pc').cells.toArray, .slice VA ds.length vc, .bool false]) ∧ CancRow false fst rs rs' ∧ PRow w' G PA' pn rs' ∧ OutAt w.heap.size w' (.slice VA ds.length vc) (ds.map Dv.cells) ∧ Same w w' := by
  have HPR := Lib.hid (And.intro (hr.wide (w.heap.size + 2)) (And.intro hG hd))
  have HX : Hid (VarAt ((w.alloc (.cells #[.int .i64 1, .int .i64 src, .int .i64 cl, .int .i64 tg, .slice A n cap, .int .i64 acts, .string f, .int .i64 a, .int .i64 p, .int .i64 nm, .bool tm, .int .i64 la, .slice PA pn pc, .int .i64 fst] 56)).alloc (.cells #[.int .i64 0, .int .i64 0, .int .i64 0, .int .i64 0, .slice none 0 0, .int .i64 0, .string ⟨#[]⟩, .int .i64 0, .int .i64 0, .int .i64 0, .bool false, .int .i64 0, .slice none 0 0, .int .i64 0] 56)) w.heap.size 56 #[.int .i64 1, .int .i64 src, .int .i64 cl, .int .i64 tg, .slice A n cap, .int .i64 acts, .string f, .int .i64 a, .int .i64 p, .int .i64 nm, .bool tm, .int .i64 la, .slice PA pn pc, .int .i64 fst] ∧ VarAt ((w.alloc (.cells #[.int .i64 1, .int .i64 src, .int .i64 cl, .int .i64 tg, .slice A n cap, .int .i64 acts, .string f, .int .i64 a, .int .i64 p, .int .i64 nm, .bool tm, .int .i64 la, .slice PA pn pc, .int .i64 fst] 56)).alloc (.cells #[.int .i64 0, .int .i64 0, .int .i64 0, .int .i64 0, .slice none 0 0, .int .i64 0, .string ⟨#[]⟩, .int .i64 0, .int .i64 0, .int .i64 0, .bool false, .int .i64 0, .slice none 0 0, .int .i64 0] 56)) (w.heap.size + 1) 56 #[.int .i64 0, .int .i64 0, .int .i64 0, .int .i64 0, .slice none 0 0, .int .i64 0, .string ⟨#[]⟩, .int .i64 0, .int .i64 0, .int .i64 0, .bool false, .int .i64 0, .slice none 0 0, .int .i64 0] ∧ Same w ((w.alloc (.cells #[.int .i64 1, .int .i64 src, .int .i64 cl, .int .i64 tg, .slice A n cap, .int .i64 acts, .string f, .int .i64 a, .int .i64 p, .int .i64 nm, .bool tm, .int .i64 la, .slice PA pn pc, .int .i64 fst] 56)).alloc (.cells #[.int .i64 0, .int .i64 0, .int .i64 0, .int .i64 0, .slice none 0 0, .int .i64 0, .string ⟨#[]⟩, .int .i64 0, .int .i64 0, .int .i64 0, .bool false, .int .i64 0, .slice none 0 0, .int .i64 0] 56)) ∧ ((w.alloc (.cells #[.int .i64 1, .int .i64 src, .int .i64 cl, .int .i64 tg, .slice A n cap, .int .i64 acts, .string f, .int .i64 a, .int .i64 p, .int .i64 nm, .bool tm, .int .i64 la, .slice PA pn pc, .int .i64 fst] 56)).alloc (.cells #[.int .i64 0, .int .i64 0, .int .i64 0, .int .i64 0, .slice none 0 0, .int .i64 0, .string ⟨#[]⟩, .int .i64 0, .int .i64 0, .int .i64 0, .bool false, .int .i64 0, .slice none 0 0, .int .i64 0] 56)).heap.size = w.heap.size + 2) :=
    Lib.hid ⟨(VarAt.new _ _ _).alloc _, VarAt.newk (by simp), ((Chg.refl _ _).alloc _).alloc _, by simp⟩
  have h2e : ¬ f = ⟨#[]⟩ := hf
  have hne := toList_ne h2e
  have hne2 : ¬ f.toList = [] := toList_cons h2e
  have hne4 : f.toList.isEmpty = false := toList_emp h2e
  clear hf h2e
  have b0 : (tg == 0) = false := by simp [h0]
  clear h0
  have HAC := Lib.hid hac
  clear hac
  clear hr hG hd
  go_enter Try.func53, Try.ntmps53
  go_wp2_with fail
  refine (maction_ok 0 ⟨1, src, cl, tg, A, n, cap, acts, f, a, p, nm, tm, la, PA, pn, pc, fst⟩ _ HAC.out).mono ?_
  rintro e w2 ⟨rfl, hs⟩
  have HB := Lib.hid (And.intro (HX.out.1.same hs) (And.intro (HX.out.2.1.same hs) (And.intro (HX.out.2.2.1.trans hs) (show w.heap.size + 2 ≤ w2.heap.size by rw [← HX.out.2.2.2]; exact hs.size))))
  have hld := VarAt.ldD (x := ⟨1, src, cl, tg, A, n, cap, acts, f, a, p, nm, tm, la, PA, pn, pc, fst⟩) (HX.out.1.same hs)
  clear hs
  go_wp2_with (refine wpl_loadv _ _ _ rfl hld ?_)
  refine (mcancel_1 src cl tg A n cap acts f a p nm tm la PA pn pc fst rs ds _ (fun x => G x ∨ (w.heap.size ≤ x ∧ x < w.heap.size + 2)) (HPR.out.1.same HB.out.2.2.1) (fun x hx => by have := HB.out.2.2.2; rcases hx with q | q; have := HPR.out.2.1 x q; omega; omega) hpn HPR.out.2.2).mono ?_
  rintro e w3 ⟨PA', pc', rs', VA, vc, rfl, hcr, hpr, hout, hs⟩
  dsimp only [MD.over, MD.aim, MD.cells]
  have h2 : VarAt (w3.alloc (.cells #[.int .i64 0, .int .i64 src, .int .i64 0, .int .i64 0, .slice A n cap, .int .i64 acts, .string ⟨#[]⟩, .int .i64 0, .int .i64 0, .int .i64 nm, .bool tm, .int .i64 la, .slice PA' pn pc', .int .i64 fst] 56)) (w.heap.size + 1) 56 #[.int .i64 0, .int .i64 0, .int .i64 0, .int .i64 0, .slice none 0 0, .int .i64 0, .string ⟨#[]⟩, .int .i64 0, .int .i64 0, .int .i64 0, .bool false, .int .i64 0, .slice none 0 0, .int .i64 0] := (HB.out.2.1.same hs).alloc _
  have HR := Lib.hid (And.intro hcr (And.intro hpr (And.intro hout hs)))
  have hz3 : w.heap.size + 2 ≤ w3.heap.size := Nat.le_trans HB.out.2.2.2 hs.size
  clear hcr hpr hout hs
  go_wp2_with (refine wpl_storeRow _ rfl rfl h2 (by kernel_rfl) rfl (by simp [Value.oneCell']) ?_)
  have hch : Chg (fun x => x = w.heap.size + 1) w3 ((w3.alloc (.cells #[.int .i64 0, .int .i64 src, .int .i64 0, .int .i64 0, .slice A n cap, .int .i64 acts, .string ⟨#[]⟩, .int .i64 0, .int .i64 0, .int .i64 nm, .bool tm, .int .i64 la, .slice PA' pn pc', .int .i64 fst] 56)).setRow (w.heap.size + 1) #[.int .i64 0, .int .i64 src, .int .i64 0, .int .i64 0, .slice A n cap, .int .i64 acts, .string ⟨#[]⟩, .int .i64 0, .int .i64 0, .int .i64 nm, .bool tm, .int .i64 la, .slice PA' pn pc', .int .i64 fst]) := ((Chg.refl _ _).alloc _).setRow _ _ (fun _ => rfl)
  refine bodyPost_ret (results_cell_tmp2 Try.results53 rfl (VarAt.ldD (x := MD.over ⟨1, src, cl, tg, A, n, cap, acts, f, a, p, nm, tm, la, PA, pn, pc, fst⟩ PA' pc') (h2.put _))) rfl ⟨PA', pc', rs', VA, vc, rfl, HR.out.1, ?_, ?_, ?_⟩
  · exact (HR.out.2.1.chgF hch (fun x hx => .inr (by omega))).weak (fun x hx => .inl hx)
  · exact World.ownsRow.mono (row_chg HR.out.2.2.1 hch (fun x hx q => by have := (HR.out.2.2.1.lt x hx).1; have := HB.out.2.2.2; omega)) (by have := HB.out.2.2.2; omega)
  · exact (HB.out.2.2.1.trans HR.out.2.2.2).then_ hch (fun j hj q => by omega)

end Go.Proofs.Yteolilggeaffaaa
