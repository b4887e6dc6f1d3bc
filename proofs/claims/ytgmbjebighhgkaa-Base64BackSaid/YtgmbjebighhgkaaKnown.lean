/- The example of the chapter: known. -/
import Derived.Test.YtgmbjebighhgkaaEnc
import Derived.Lib.SlBytesConst
namespace Go.Proofs.Ytgmbjebighhgkaa
open Go.RowKit
set_option linter.unusedVariables false
set_option linter.unusedSimpArgs false
theorem kw1 : write fresh [89, 87, 74, 106] = (fresh, [97, 98, 99], 0) := by rfl
theorem kw2 : write fresh [90, 65] = (⟨[90, 65], false, false⟩, [], 0) := by rfl
theorem kf : fin ⟨[90, 65], false, false⟩ = (fresh, [100], 0) := by rfl
theorem ke : enc [97] = [89, 81, 61, 61] := by rfl
theorem res_str {w : World} {B : Nat} {u : Value} {xs : List Int} (h : Res w B u xs) : ∃ b n cap, u = .slice b n cap ∧ (convert 28 9 (.slice b n cap)).run Try.prog w = .ok (.string (strOfNums xs)) w := by
  obtain ⟨b, n, cap, rfl, h1, -⟩ := h
  exact ⟨b, n, cap, rfl, run_str (P := Try.prog) Try.underlying28 Try.underlying5 Try.underlying9 h1⟩
theorem Res.up {w w' : World} {B : Nat} {u : Value} {xs : List Int} (h : Res w B u xs) (hk : Kept (fun _ => False) w w') : Res w' B u xs := h.kept hk (fun _ _ => id)
set_option maxRecDepth 100000 in
set_option maxHeartbeats 8000000 in
theorem known_any (w : World) : Calls Try.prog 7 #[] w fun e w' => e = .returned (.bool true) ∧ Kept (fun _ => False) w w' := by
  have kc := fun (w : World) (C : Array Value) (n c : Nat) => Lib.run_convert_bytes_const (P := Try.prog) w 28 5 C n c Try.underlying28 Try.underlying5
  go_enter Try.func7, Try.ntmps7
  go_wp2_with fail
  refine (new_any w).mono ?_
  rintro e w1 ⟨rfl, hd1, hk1⟩
  obtain ⟨a, ha⟩ : ∃ a, w.heap.size = a := ⟨_, rfl⟩
  rw [ha] at hd1 ⊢
  have haw1 : a < w1.heap.size := lt_of_blk hd1
  have HA := Lib.hid (And.intro ha haw1)
  have HK1 := Lib.hid hk1
  have HW1 := Lib.hid (write_any a fresh (some ⟨w1.heap.size, 0, none⟩) 4 4 [89, 87, 74, 106] (w1.alloc (.cells #[.int .u8 89, .int .u8 87, .int .u8 74, .int .u8 106] 5 (4, 5))) ((fresh_dc hd1).kept ((Kept.refl (fun _ => False) w1).alloc _) id) sane_fresh (slAt_blk (blk_new w1 _) rfl rfl) (by decide) (by omega) (fun b off _ h => by cases h; omega))
  unfold WPost at HW1
  rw [kw1] at HW1
  have hal1 : Kept (fun _ => False) w (w1.alloc (.cells #[.int .u8 89, .int .u8 87, .int .u8 74, .int .u8 106] 5 (4, 5))) := hk1.alloc _
  have HAL1 := Lib.hid hal1
  clear hd1 hk1 ha haw1 hal1
  go_wp2_with fail
  refine HW1.out.mono ?_
  rintro e w2 ⟨u1, rfl, hr1, hd2, hk2⟩
  have HK2 := Lib.hid (HAL1.out.trans (hk2.mono fun i _ hi => Or.inr (by have := HA.out.1; omega)))
  have hsz2 : w1.heap.size < w2.heap.size := by have := hk2.size; simp at this; omega
  have HS2 := Lib.hid hsz2
  have HR1 := Lib.hid hr1
  have HW2 := Lib.hid (write_any a fresh (some ⟨w2.heap.size, 0, none⟩) 2 2 [90, 65] (w2.alloc (.cells #[.int .u8 90, .int .u8 65] 5 (2, 3))) (hd2.kept ((Kept.refl (fun _ => False) w2).alloc _) id) sane_fresh (slAt_blk (blk_new w2 _) rfl rfl) (by decide) (by omega) (fun b off _ h => by cases h; have := HA.out.2; omega))
  unfold WPost at HW2
  rw [kw2] at HW2
  have HAL2 := Lib.hid (HK2.out.alloc (.cells #[.int .u8 90, .int .u8 65] 5 (2, 3)))
  clear hr1 hd2 hk2 hsz2
  go_wp2_with fail
  refine HW2.out.mono ?_
  rintro e w3 ⟨u2, rfl, hr2, hd3, hk3⟩
  have HK3 := Lib.hid (HAL2.out.trans (hk3.mono fun i _ hi => Or.inr (by have := HA.out.1; omega)))
  have HR13 := Lib.hid ((HR1.out.up ((Kept.refl (fun _ => False) w2).alloc (.cells #[.int .u8 90, .int .u8 65] 5 (2, 3)))).kept hk3 (fun g hg (hS : g = a) => by have := HA.out.2; simp at hg; omega))
  have HR2 := Lib.hid hr2
  have HH := Lib.hid (held_any a _ _ _ _ _ w3 hd3.1)
  have HE := Lib.hid (end_any a _ w3 hd3)
  rw [kf] at HE
  have HS3 := Lib.hid (show w2.heap.size < w3.heap.size by have := hk3.size; simp at this; omega)
  clear hr2 hd3 hk3
  go_wp2_with fail
  refine HH.out.mono ?_
  rintro e w3' ⟨rfl, rfl⟩
  go_wp2_with fail
  refine HE.out.mono ?_
  rintro e w4 ⟨u3, rfl, ho3, hd4, hk4, hf3⟩
  have HK4 := Lib.hid (HK3.out.trans (hk4.mono fun i _ hi => Or.inr (by have := HA.out.1; omega)))
  obtain ⟨b1, n1, cp1, rfl, cv1⟩ := res_str (HR13.out.kept hk4 (fun g hg (hS : g = a) => by have := HA.out.2; simp at hg; omega))
  obtain ⟨b2, n2, cp2, rfl, cv2⟩ := res_str (HR2.out.kept hk4 (fun g hg (hS : g = a) => by have := HA.out.2; have := HS2.out; simp at hg; omega))
  obtain ⟨b3, n3, cp3, rfl, cv3⟩ := res_str (Res.of_own ho3 hf3)
  rw [show strOfNums (ints [97, 98, 99]) = ⟨#[97, 98, 99]⟩ from rfl] at cv1
  rw [show strOfNums (ints []) = ⟨#[]⟩ from rfl] at cv2
  rw [show strOfNums (ints [100]) = ⟨#[100]⟩ from rfl] at cv3
  have HEN := Lib.hid (encode_any (some ⟨w4.heap.size, 0, none⟩) 1 1 [97] (w4.alloc (.cells #[.int .u8 97] 5 (1, 2))) (by omega) (by omega) (slAt_blk (blk_new w4 _) rfl rfl) (by decide) (fun b off _ h => by cases h; simp) (by omega))
  unfold EPost at HEN
  rw [ke] at HEN
  have HAL4 := Lib.hid (HK4.out.alloc (.cells #[.int .u8 97] 5 (1, 2)))
  have l0 : IntKind.i64.wrap 0 = 0 := by decide
  clear ho3 hd4 hk4 hf3
  go_wp2_with fail
  refine HEN.out.mono ?_
  rintro e w5 ⟨u5, rfl, hr5, hk5⟩
  obtain ⟨b5, n5, cp5, rfl, cv5⟩ := res_str hr5
  rw [show strOfNums (ints [89, 81, 61, 61]) = ⟨#[89, 81, 61, 61]⟩ from rfl] at cv5
  have HK5 := Lib.hid (HAL4.out.then hk5)
  clear hr5 hk5
  go_wp2
  exact bodyPost_ret (v := .bool true) (by simp [results, Try.results7, go_sem]) rfl ⟨rfl, HK5.out⟩
end Go.Proofs.Ytgmbjebighhgkaa
