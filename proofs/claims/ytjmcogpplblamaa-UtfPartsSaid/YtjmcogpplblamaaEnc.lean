/- Characters laid as bytes: both functions. -/
import Derived.Test.YtjmcogpplblamaaKnown
import Derived.Test.YtjmcogpplblamaaPenc
namespace Go.Proofs.Ytjmcogpplblamaa
open Go.RowKit Pl
set_option linter.unusedVariables false
def ints (l : List Nat) : List Int := l.map (fun (n : Nat) => (n : Int))
def EncPost (res : List Int) (w : World) (en : Ending) (w' : World) : Prop := ∃ v, en = .returned v ∧ Own .u8 5 w' v res ∧ Kept (fun _ => False) w w' ∧ ∀ b, v.ownBlock = some b → w.heap.size ≤ b
set_option maxRecDepth 100000 in
set_option maxHeartbeats 2000000 in
theorem renc_a (c : Nat) (w : World) (hn : noneB c = false) (h : c < 128) :
    Calls Try.prog 23 #[.int .i64 c] w (EncPost (ints [c]) w) := by
  have g1 : decide ((c : Int) < 128) = true := decide_eq_true (by omega)
  have hcall : ∀ w, Calls Try.prog 31 #[.int .i64 c] w fun en w' => en = .returned (.bool false) ∧ w = w' := fun w => by have h := none_any c w; rw [hn] at h; exact h
  have HC := Lib.hid hcall
  have hfr : ∀ b, (Value.slice (some ⟨w.heap.size, 0, none⟩) 1 1).ownBlock = some b → w.heap.size ≤ b := fun b hb => by have h9 := Option.some.inj hb; have h8 : w.heap.size = b := h9; omega
  have HF := Lib.hid hfr
  clear hn hfr hcall
  go_enter Try.func23, Try.ntmps23
  go_wp2_with (go_at_call 31; refine (HC.out _).mono ?_; rintro e w' ⟨rfl, rfl⟩)
  go_ret
  exact ⟨_, rfl, Own.lit .u8 _ _ _ _ 1 (by simp) (by simp [ints]) rfl (by omega), (Kept.refl _ _).alloc _, HF.out⟩
set_option maxRecDepth 100000 in
set_option maxHeartbeats 2000000 in
theorem renc_b (c : Nat) (w : World) (hn : noneB c = false) (h1 : 128 ≤ c) (h : c < 2048) :
    Calls Try.prog 23 #[.int .i64 c] w (EncPost (ints [192 + c / 64, 128 + c % 64]) w) := by
  have g1 : decide ((c : Int) < 128) = false := decide_eq_false (by omega)
  have g2 : decide ((c : Int) < 2048) = true := decide_eq_true (by omega)
  have hcall : ∀ w, Calls Try.prog 31 #[.int .i64 c] w fun en w' => en = .returned (.bool false) ∧ w = w' := fun w => by have h := none_any c w; rw [hn] at h; exact h
  have HC := Lib.hid hcall
  have hfr : ∀ b, (Value.slice (some ⟨w.heap.size, 0, none⟩) 2 2).ownBlock = some b → w.heap.size ≤ b := fun b hb => by have h9 := Option.some.inj hb; have h8 : w.heap.size = b := h9; omega
  have HF := Lib.hid hfr
  clear hn hfr hcall
  go_enter Try.func23, Try.ntmps23
  go_wp2_with (go_at_call 31; refine (HC.out _).mono ?_; rintro e w' ⟨rfl, rfl⟩)
  go_ret
  exact ⟨_, rfl, Own.lit .u8 _ _ _ _ 2 (by simp) (by simp [ints]) rfl (by omega), (Kept.refl _ _).alloc _, HF.out⟩
set_option maxRecDepth 100000 in
set_option maxHeartbeats 2000000 in
theorem renc_c (c : Nat) (w : World) (hn : noneB c = false) (h1 : 2048 ≤ c) (h : c < 65536) :
    Calls Try.prog 23 #[.int .i64 c] w (EncPost (ints [224 + c / 4096, 128 + c / 64 % 64, 128 + c % 64]) w) := by
  have g1 : decide ((c : Int) < 128) = false := decide_eq_false (by omega)
  have g2 : decide ((c : Int) < 2048) = false := decide_eq_false (by omega)
  have g3 : decide ((c : Int) < 65536) = true := decide_eq_true (by omega)
  have hcall : ∀ w, Calls Try.prog 31 #[.int .i64 c] w fun en w' => en = .returned (.bool false) ∧ w = w' := fun w => by have h := none_any c w; rw [hn] at h; exact h
  have HC := Lib.hid hcall
  have hfr : ∀ b, (Value.slice (some ⟨w.heap.size, 0, none⟩) 3 3).ownBlock = some b → w.heap.size ≤ b := fun b hb => by have h9 := Option.some.inj hb; have h8 : w.heap.size = b := h9; omega
  have HF := Lib.hid hfr
  clear hn hfr hcall
  go_enter Try.func23, Try.ntmps23
  go_wp2_with (go_at_call 31; refine (HC.out _).mono ?_; rintro e w' ⟨rfl, rfl⟩)
  go_ret
  exact ⟨_, rfl, Own.lit .u8 _ _ _ _ 3 (by simp) (by simp [ints]) rfl (by omega), (Kept.refl _ _).alloc _, HF.out⟩
set_option maxRecDepth 100000 in
set_option maxHeartbeats 2000000 in
theorem renc_d (c : Nat) (w : World) (hn : noneB c = false) (h1 : 65536 ≤ c) (h : c < 1114112) :
    Calls Try.prog 23 #[.int .i64 c] w (EncPost (ints [240 + c / 262144, 128 + c / 4096 % 64, 128 + c / 64 % 64, 128 + c % 64]) w) := by
  have g1 : decide ((c : Int) < 128) = false := decide_eq_false (by omega)
  have g2 : decide ((c : Int) < 2048) = false := decide_eq_false (by omega)
  have g3 : decide ((c : Int) < 65536) = false := decide_eq_false (by omega)
  have hcall : ∀ w, Calls Try.prog 31 #[.int .i64 c] w fun en w' => en = .returned (.bool false) ∧ w = w' := fun w => by have h := none_any c w; rw [hn] at h; exact h
  have HC := Lib.hid hcall
  have hfr : ∀ b, (Value.slice (some ⟨w.heap.size, 0, none⟩) 4 4).ownBlock = some b → w.heap.size ≤ b := fun b hb => by have h9 := Option.some.inj hb; have h8 : w.heap.size = b := h9; omega
  have HF := Lib.hid hfr
  clear hn hfr hcall
  go_enter Try.func23, Try.ntmps23
  go_wp2_with (go_at_call 31; refine (HC.out _).mono ?_; rintro e w' ⟨rfl, rfl⟩)
  go_ret
  exact ⟨_, rfl, Own.lit .u8 _ _ _ _ 4 (by simp) (by simp [ints]) rfl (by omega), (Kept.refl _ _).alloc _, HF.out⟩
set_option maxRecDepth 100000 in
set_option maxHeartbeats 2000000 in
theorem renc_n (r : Int) (w : World) (hn : noneB r = true) :
    Calls Try.prog 23 #[.int .i64 r] w (EncPost (ints [239, 191, 189]) w) := by
  skip
  have hcall : ∀ w, Calls Try.prog 31 #[.int .i64 r] w fun en w' => en = .returned (.bool true) ∧ w = w' := fun w => by have h := none_any r w; rw [hn] at h; exact h
  have HC := Lib.hid hcall
  have hfr : ∀ b, (Value.slice (some ⟨w.heap.size, 0, none⟩) 3 3).ownBlock = some b → w.heap.size ≤ b := fun b hb => by have h9 := Option.some.inj hb; have h8 : w.heap.size = b := h9; omega
  have HF := Lib.hid hfr
  clear hn hfr hcall
  go_enter Try.func23, Try.ntmps23
  go_wp2_with (go_at_call 31; refine (HC.out _).mono ?_; rintro e w' ⟨rfl, rfl⟩)
  go_ret
  exact ⟨_, rfl, Own.lit .u8 _ _ _ _ 3 (by simp) (by simp [ints]) rfl (by omega), (Kept.refl _ _).alloc _, HF.out⟩
theorem renc_any (r : Int) (w : World) : Calls Try.prog 23 #[.int .i64 r] w (EncPost (ints (enc r)) w) := by
  obtain ⟨h1, h2⟩ := chI_ok r
  cases hn : noneB r with
  | true =>
    have e : enc r = [239, 191, 189] := by unfold enc chI; rw [if_pos hn]; rfl
    rw [e]; exact renc_n r w hn
  | false =>
    have hr : ¬ (r < 0 ∨ (55296 ≤ r ∧ r ≤ 57343) ∨ 1114111 < r) := of_decide_eq_false hn
    obtain ⟨c, rfl⟩ : ∃ c : Nat, r = c := ⟨r.toNat, by omega⟩
    have e : enc (c : Int) = encN c := by unfold enc chI; rw [if_neg (by rw [hn]; simp)]; simp
    rw [e]
    unfold encN
    by_cases a1 : c < 128
    · rw [if_pos a1]; exact renc_a c w hn a1
    by_cases a2 : c < 2048
    · rw [if_neg a1, if_pos a2]; exact renc_b c w hn (by omega) a2
    by_cases a3 : c < 65536
    · rw [if_neg a1, if_neg a2, if_pos a3]; exact renc_c c w hn (by omega) a3
    · rw [if_neg a1, if_neg a2, if_neg a3]; exact renc_d c w hn (by omega) (by omega)
end Go.Proofs.Ytjmcogpplblamaa
