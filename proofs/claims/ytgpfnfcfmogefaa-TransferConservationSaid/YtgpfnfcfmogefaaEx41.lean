/- The example of compositorlaw41 holds. -/
import Derived.Test.YtgpfnfcfmogefaaPipB
import Derived.Lib.SlBytesConst
set_option linter.unusedVariables false
set_option linter.unusedSimpArgs false
namespace Go.Proofs.Ytgpfnfcfmogefaa
open Go.RowKit

theorem BytesAt.off {w w' : World} {R : Nat → Prop} {A : Option Addr} {n cap : Nat} {xs : List Int} (h : BytesAt w' (fun x => w.heap.size ≤ x) A n cap xs) (hlt : ∀ x, R x → x < w.heap.size) : BytesAt w' (fun x => ¬ R x) A n cap xs :=
  h.mono (fun x _ hx hr => by have := hlt x hr; omega)
theorem bytes_new (w : World) (T : TypeId) (F : Nat × Nat) (n : Nat) (xs : List Int) (C : Array Value) (hC : C = (xs.map (Value.int .u8)).toArray) (hn : xs.length = n) (hm : n ≤ maxLen) : BytesAt (w.alloc (.cells C T F)) (fun _ => True) (some ⟨w.heap.size, 0, none⟩) n n xs := by
  subst hC
  refine ⟨hn, Nat.le_refl _, hm, fun _ => ⟨w.heap.size, 0, rfl, trivial, by simp, fun j x hj => ?_⟩⟩
  rw [cell_of_row _ _ _ _ _ _ (at_new w _), Nat.zero_add]
  simp [hj]

set_option maxRecDepth 100000 in
set_option maxHeartbeats 1000000 in
theorem example41_ok (w : World) : Calls Try.prog 9 #[] w fun e w' => e = .returned (.bool true) ∧ Same w w' := by
  have hcv := fun (w : World) (C : Array Value) (n c : Nat) => Lib.run_convert_bytes_const (P := Try.prog) w 22 5 C n c Try.underlying22 Try.underlying5
  go_enter Try.func9, Try.ntmps9
  go_wp2_with fail
  refine (pnew_v _ 4 (by omega) (by omega)).mono ?_
  rintro e w1 ⟨b, R, rfl, hp1, hc1⟩
  have HP1 := Lib.hid hp1
  clear hp1 hc1
  go_wp2_with fail
  refine (pwrite_v ⟨4, 0, [], false, false⟩ 0 0 _ 1 1 [120] (HP1.out.same_ ((Chg.refl _ _).alloc _)) (bytes_new _ _ _ 1 [120] _ rfl rfl (by unfold maxLen; omega)) (by rfl) (by rfl) (by rfl)).mono ?_
  rintro e w2 ⟨rfl, R2, hp, hR, hc⟩
  have HP2 := Lib.hid hp
  clear hp hR hc
  go_wp2_with fail
  refine (pgrant_v ⟨4, 0, [], false, false⟩ 18 5 HP2.out (by omega) (by rfl) (by rfl)).mono ?_
  rintro e w3 ⟨rfl, hp, hc⟩
  have HP3 := Lib.hid hp
  clear hp hc
  go_wp2_with fail
  refine (pgrant_v ⟨4, 3, [], false, false⟩ 0 3 HP3.out (by omega) (by rfl) (by rfl)).mono ?_
  rintro e w4 ⟨rfl, hp, hc⟩
  have HP4 := Lib.hid hp
  clear hp hc
  go_wp2_with fail
  refine (pwrite_v ⟨4, 0, [97, 98, 99], false, false⟩ 3 0 _ 4 4 [97, 98, 99, 100] (HP4.out.same_ ((Chg.refl _ _).alloc _)) (bytes_new _ _ _ 4 [97, 98, 99, 100] _ rfl rfl (by unfold maxLen; omega)) (by rfl) (by rfl) (by rfl)).mono ?_
  rintro e w5 ⟨rfl, R5, hp, hR, hc⟩
  have HP5 := Lib.hid hp
  clear hp hR hc
  go_wp2_with fail
  refine (pread_v ⟨4, 0, [99], false, false⟩ [97, 98] 0 2 HP5.out (by rfl) (by rfl) (by rfl)).mono ?_
  rintro e w6 ⟨A6, c6, rfl, hb, hp, hc⟩
  have HP6 := Lib.hid hp
  have HB6 := Lib.hid (BytesAt.off hb HP5.out.pipe.lt)
  clear hb hp hc
  go_wp2_with fail
  refine (pgrant_v ⟨4, 3, [99], false, false⟩ 0 3 HP6.out (by omega) (by rfl) (by rfl)).mono ?_
  rintro e w7 ⟨rfl, hp, hc⟩
  have HP7 := Lib.hid hp
  have HB6 := Lib.hid (HB6.out.chg hc (fun x hx hr => hx hr))
  clear hp hc
  go_wp2_with fail
  refine (pgrant_v ⟨4, 3, [99], false, false⟩ 18 1 HP7.out (by omega) (by rfl) (by rfl)).mono ?_
  rintro e w8 ⟨rfl, hp, hc⟩
  have HP8 := Lib.hid hp
  have HB6 := Lib.hid (HB6.out.chg hc (fun x hx hr => hx hr))
  clear hp hc
  go_wp2_with fail
  refine (pclose_v ⟨4, 0, [99], true, false⟩ 0 HP8.out (by rfl) (by rfl)).mono ?_
  rintro e w9 ⟨rfl, hp, hc⟩
  have HP9 := Lib.hid hp
  have HB6 := Lib.hid (HB6.out.chg hc (fun x hx hr => hx hr))
  clear hp hc
  go_wp2_with fail
  refine (pread_v ⟨4, 0, [], true, false⟩ [99] 0 9 HP9.out (by rfl) (by rfl) (by rfl)).mono ?_
  rintro e w10 ⟨A10, c10, rfl, hb, hp, hc⟩
  have HP10 := Lib.hid hp
  have HB6 := Lib.hid (HB6.out.chg hc (fun x hx hr => hx hr))
  have HB10 := Lib.hid (BytesAt.off hb HP9.out.pipe.lt)
  clear hb hp hc
  go_wp2_with fail
  refine (pread_v ⟨4, 0, [], true, false⟩ [] 20 9 HP10.out (by rfl) (by rfl) (by rfl)).mono ?_
  rintro e w11 ⟨A11, c11, rfl, hb, hp, hc⟩
  have HP11 := Lib.hid hp
  have HB6 := Lib.hid (HB6.out.chg hc (fun x hx hr => hx hr))
  have HB10 := Lib.hid (HB10.out.chg hc (fun x hx hr => hx hr))
  have HB11 := Lib.hid (BytesAt.off hb HP10.out.pipe.lt)
  clear hb hp hc
  have hv5 := run_cv HB6.out
  have hv9 := run_cv HB10.out
  rw [show strOfNums [97, 98] = ⟨#[97, 98]⟩ from rfl] at hv5
  rw [show strOfNums [99] = ⟨#[99]⟩ from rfl] at hv9
  simp only [List.length_cons, List.length_nil, Nat.reduceAdd] at hv5 hv9
  go_wp2_with (go_at_call 15; refine (pdone_ok _ _ _ _ HP11.out.pipe).mono ?_; rintro e wd ⟨rfl, rfl⟩)
  go_ret
  exact ⟨rfl, HP11.out.same⟩
end Go.Proofs.Ytgpfnfcfmogefaa
