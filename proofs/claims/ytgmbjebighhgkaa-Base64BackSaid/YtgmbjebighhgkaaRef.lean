/- The document's decoder: value, three, signs, fits. -/
import Derived.Test.YtgmbjebighhgkaaWrite
import Derived.Deep.LoopGhost
namespace Go.Proofs.Ytgmbjebighhgkaa
open Go.RowKit
set_option linter.unusedVariables false
set_option linter.unusedSimpArgs false
theorem val_up {c : Nat} (h : 65 ≤ c) (h2 : c ≤ 90) : val c = c - 65 := by unfold val; rw [if_pos ⟨h, h2⟩]
theorem val_low {c : Nat} (h : 97 ≤ c) (h2 : c ≤ 122) : val c = c - 71 := by unfold val; rw [if_neg (by omega), if_pos ⟨h, h2⟩]
theorem val_dig {c : Nat} (h : 48 ≤ c) (h2 : c ≤ 57) : val c = c + 4 := by unfold val; rw [if_neg (by omega), if_neg (by omega), if_pos ⟨h, h2⟩]
theorem val_none {c : Nat} (h1 : ¬ (65 ≤ c ∧ c ≤ 90)) (h2 : ¬ (97 ≤ c ∧ c ≤ 122)) (h3 : ¬ (48 ≤ c ∧ c ≤ 57)) (h4 : c ≠ 43) (h5 : c ≠ 47) : val c = 64 := by unfold val; rw [if_neg h1, if_neg h2, if_neg h3, if_neg h4, if_neg h5]
def valI (c : Nat) : Int := if val c = 64 then -1 else (val c : Int)

set_option maxRecDepth 100000 in
set_option maxHeartbeats 4000000 in
theorem value_up (c : Nat) (w : World) (h : 65 ≤ c) (h2 : c ≤ 90) : Calls Try.prog 30 #[.int .u8 c] w fun e w' => e = .returned (.int .i64 (valI c)) ∧ w' = w := by
  obtain ⟨r, hr⟩ : ∃ r : Int, valI c = r := ⟨_, rfl⟩
  have hv : r = (c : Int) - 65 := by rw [← hr]; unfold valI; rw [val_up h h2, if_neg (by omega)]; omega
  rw [hr]
  have g0 : decide (65 ≤ c) = true := decide_eq_true (by omega)
  have g1 : decide (c ≤ 90) = true := decide_eq_true (by omega)
  have w1 : IntKind.u8.wrap ((c : Int) - 65) = r := by rw [IntKind.wrap_u8]; omega
  have w2 : IntKind.i64.wrap r = r := IntWalk.i64_in _ (by omega)
  clear hr hv
  go_enter Try.func30, Try.ntmps30
  go_wp2
  exact bodyPost_ret (v := .int .i64 r) (by simp [results, Try.results30, go_sem]) rfl ⟨rfl, rfl⟩

set_option maxRecDepth 100000 in
set_option maxHeartbeats 4000000 in
theorem value_low (c : Nat) (w : World) (h : 97 ≤ c) (h2 : c ≤ 122) : Calls Try.prog 30 #[.int .u8 c] w fun e w' => e = .returned (.int .i64 (valI c)) ∧ w' = w := by
  obtain ⟨r, hr⟩ : ∃ r : Int, valI c = r := ⟨_, rfl⟩
  have hv : r = (c : Int) - 71 := by rw [← hr]; unfold valI; rw [val_low h h2, if_neg (by omega)]; omega
  rw [hr]
  have g0 : decide (65 ≤ c) = true := decide_eq_true (by omega)
  have g1 : decide (c ≤ 90) = false := decide_eq_false (by omega)
  have g2 : decide (97 ≤ c) = true := decide_eq_true (by omega)
  have g3 : decide (c ≤ 122) = true := decide_eq_true (by omega)
  obtain ⟨q, hq⟩ : ∃ q : Int, (c : Int) - 97 = q := ⟨_, rfl⟩
  have w1 : IntKind.u8.wrap ((c : Int) - 97) = q := by rw [IntKind.wrap_u8]; omega
  have w2 : IntKind.i64.wrap q = q := IntWalk.i64_in _ (by omega)
  have w3 : IntKind.i64.wrap (q + 26) = r := by rw [IntWalk.i64_in _ (by omega)]; omega
  clear hr hv hq
  go_enter Try.func30, Try.ntmps30
  go_wp2
  exact bodyPost_ret (v := .int .i64 r) (by simp [results, Try.results30, go_sem]) rfl ⟨rfl, rfl⟩

set_option maxRecDepth 100000 in
set_option maxHeartbeats 4000000 in
theorem value_dig (c : Nat) (w : World) (h : 48 ≤ c) (h2 : c ≤ 57) : Calls Try.prog 30 #[.int .u8 c] w fun e w' => e = .returned (.int .i64 (valI c)) ∧ w' = w := by
  obtain ⟨r, hr⟩ : ∃ r : Int, valI c = r := ⟨_, rfl⟩
  have hv : r = (c : Int) + 4 := by rw [← hr]; unfold valI; rw [val_dig h h2, if_neg (by omega)]; omega
  rw [hr]
  have g0 : decide (65 ≤ c) = false := decide_eq_false (by omega)
  have g1 : decide (97 ≤ c) = false := decide_eq_false (by omega)
  have g2 : decide (48 ≤ c) = true := decide_eq_true (by omega)
  have g3 : decide (c ≤ 57) = true := decide_eq_true (by omega)
  obtain ⟨q, hq⟩ : ∃ q : Int, (c : Int) - 48 = q := ⟨_, rfl⟩
  have w1 : IntKind.u8.wrap ((c : Int) - 48) = q := by rw [IntKind.wrap_u8]; omega
  have w2 : IntKind.i64.wrap q = q := IntWalk.i64_in _ (by omega)
  have w3 : IntKind.i64.wrap (q + 52) = r := by rw [IntWalk.i64_in _ (by omega)]; omega
  clear hr hv hq
  go_enter Try.func30, Try.ntmps30
  go_wp2
  exact bodyPost_ret (v := .int .i64 r) (by simp [results, Try.results30, go_sem]) rfl ⟨rfl, rfl⟩

set_option maxRecDepth 100000 in
set_option maxHeartbeats 4000000 in
theorem value_plus (w : World)  : Calls Try.prog 30 #[.int .u8 43] w fun e w' => e = .returned (.int .i64 (valI 43)) ∧ w' = w := by
  have hr : valI 43 = 62 := by decide
  rw [hr]
  go_enter Try.func30, Try.ntmps30
  go_wp2
  exact bodyPost_ret (v := .int .i64 62) (by simp [results, Try.results30, go_sem]) rfl ⟨rfl, rfl⟩

set_option maxRecDepth 100000 in
set_option maxHeartbeats 4000000 in
theorem value_slash (w : World)  : Calls Try.prog 30 #[.int .u8 47] w fun e w' => e = .returned (.int .i64 (valI 47)) ∧ w' = w := by
  have hr : valI 47 = 63 := by decide
  rw [hr]
  go_enter Try.func30, Try.ntmps30
  go_wp2
  exact bodyPost_ret (v := .int .i64 63) (by simp [results, Try.results30, go_sem]) rfl ⟨rfl, rfl⟩

set_option maxRecDepth 100000 in
set_option maxHeartbeats 4000000 in
theorem value_n0 (c : Nat) (w : World) (h : c < 43) : Calls Try.prog 30 #[.int .u8 c] w fun e w' => e = .returned (.int .i64 (valI c)) ∧ w' = w := by
  have hr : valI c = -1 := by unfold valI; rw [if_pos (val_none (by omega) (by omega) (by omega) (by omega) (by omega))]
  rw [hr]
  have g0 : decide (65 ≤ c) = false := decide_eq_false (by omega)
  have g1 : decide (97 ≤ c) = false := decide_eq_false (by omega)
  have g2 : decide (48 ≤ c) = false := decide_eq_false (by omega)
  have q1 : ((c : Int) == 43) = false := by simp; omega
  have q2 : ((c : Int) == 47) = false := by simp; omega
  go_enter Try.func30, Try.ntmps30
  go_wp2
  exact bodyPost_ret (v := .int .i64 (-1)) (by simp [results, Try.results30, go_sem]) rfl ⟨rfl, rfl⟩

set_option maxRecDepth 100000 in
set_option maxHeartbeats 4000000 in
theorem value_n1 (c : Nat) (w : World) (h : 43 < c) (h2 : c < 47) : Calls Try.prog 30 #[.int .u8 c] w fun e w' => e = .returned (.int .i64 (valI c)) ∧ w' = w := by
  have hr : valI c = -1 := by unfold valI; rw [if_pos (val_none (by omega) (by omega) (by omega) (by omega) (by omega))]
  rw [hr]
  have g0 : decide (65 ≤ c) = false := decide_eq_false (by omega)
  have g1 : decide (97 ≤ c) = false := decide_eq_false (by omega)
  have g2 : decide (48 ≤ c) = false := decide_eq_false (by omega)
  have q1 : ((c : Int) == 43) = false := by simp; omega
  have q2 : ((c : Int) == 47) = false := by simp; omega
  go_enter Try.func30, Try.ntmps30
  go_wp2
  exact bodyPost_ret (v := .int .i64 (-1)) (by simp [results, Try.results30, go_sem]) rfl ⟨rfl, rfl⟩

set_option maxRecDepth 100000 in
set_option maxHeartbeats 4000000 in
theorem value_n2 (c : Nat) (w : World) (h : 57 < c) (h2 : c < 65) : Calls Try.prog 30 #[.int .u8 c] w fun e w' => e = .returned (.int .i64 (valI c)) ∧ w' = w := by
  have hr : valI c = -1 := by unfold valI; rw [if_pos (val_none (by omega) (by omega) (by omega) (by omega) (by omega))]
  rw [hr]
  have g0 : decide (65 ≤ c) = false := decide_eq_false (by omega)
  have g1 : decide (97 ≤ c) = false := decide_eq_false (by omega)
  have g2 : decide (48 ≤ c) = true := decide_eq_true (by omega)
  have g3 : decide (c ≤ 57) = false := decide_eq_false (by omega)
  have q1 : ((c : Int) == 43) = false := by simp; omega
  have q2 : ((c : Int) == 47) = false := by simp; omega
  go_enter Try.func30, Try.ntmps30
  go_wp2
  exact bodyPost_ret (v := .int .i64 (-1)) (by simp [results, Try.results30, go_sem]) rfl ⟨rfl, rfl⟩

set_option maxRecDepth 100000 in
set_option maxHeartbeats 4000000 in
theorem value_n3 (c : Nat) (w : World) (h : 90 < c) (h2 : c < 97) : Calls Try.prog 30 #[.int .u8 c] w fun e w' => e = .returned (.int .i64 (valI c)) ∧ w' = w := by
  have hr : valI c = -1 := by unfold valI; rw [if_pos (val_none (by omega) (by omega) (by omega) (by omega) (by omega))]
  rw [hr]
  have g0 : decide (65 ≤ c) = true := decide_eq_true (by omega)
  have g1 : decide (c ≤ 90) = false := decide_eq_false (by omega)
  have g2 : decide (97 ≤ c) = false := decide_eq_false (by omega)
  have g3 : decide (48 ≤ c) = true := decide_eq_true (by omega)
  have g4 : decide (c ≤ 57) = false := decide_eq_false (by omega)
  have q1 : ((c : Int) == 43) = false := by simp; omega
  have q2 : ((c : Int) == 47) = false := by simp; omega
  go_enter Try.func30, Try.ntmps30
  go_wp2
  exact bodyPost_ret (v := .int .i64 (-1)) (by simp [results, Try.results30, go_sem]) rfl ⟨rfl, rfl⟩

set_option maxRecDepth 100000 in
set_option maxHeartbeats 4000000 in
theorem value_n4 (c : Nat) (w : World) (h : 122 < c) : Calls Try.prog 30 #[.int .u8 c] w fun e w' => e = .returned (.int .i64 (valI c)) ∧ w' = w := by
  have hr : valI c = -1 := by unfold valI; rw [if_pos (val_none (by omega) (by omega) (by omega) (by omega) (by omega))]
  rw [hr]
  have g0 : decide (65 ≤ c) = true := decide_eq_true (by omega)
  have g1 : decide (c ≤ 90) = false := decide_eq_false (by omega)
  have g2 : decide (97 ≤ c) = true := decide_eq_true (by omega)
  have g3 : decide (c ≤ 122) = false := decide_eq_false (by omega)
  have g4 : decide (48 ≤ c) = true := decide_eq_true (by omega)
  have g5 : decide (c ≤ 57) = false := decide_eq_false (by omega)
  have q1 : ((c : Int) == 43) = false := by simp; omega
  have q2 : ((c : Int) == 47) = false := by simp; omega
  go_enter Try.func30, Try.ntmps30
  go_wp2
  exact bodyPost_ret (v := .int .i64 (-1)) (by simp [results, Try.results30, go_sem]) rfl ⟨rfl, rfl⟩

theorem value_any (c : Nat) (hc : c < 256) (w : World) : Calls Try.prog 30 #[.int .u8 c] w fun e w' => e = .returned (.int .i64 (valI c)) ∧ w' = w := by
  by_cases h1 : 65 ≤ c ∧ c ≤ 90
  · exact value_up c w h1.1 h1.2
  by_cases h2 : 97 ≤ c ∧ c ≤ 122
  · exact value_low c w h2.1 h2.2
  by_cases h3 : 48 ≤ c ∧ c ≤ 57
  · exact value_dig c w h3.1 h3.2
  by_cases h4 : c = 43
  · subst h4; exact value_plus w
  by_cases h5 : c = 47
  · subst h5; exact value_slash w
  by_cases h6 : c < 43
  · exact value_n0 c w h6
  by_cases h7 : c < 47
  · exact value_n1 c w (by omega) h7
  by_cases h8 : c < 65
  · exact value_n2 c w (by omega) h8
  by_cases h9 : c < 97
  · exact value_n3 c w (by omega) h9
  · exact value_n4 c w (by omega)
theorem value_some (c : Nat) (hc : c < 256) (hv : val c < 64) (w : World) : Calls Try.prog 30 #[.int .u8 c] w fun e w' => e = .returned (.int .i64 (val c : Nat)) ∧ w' = w := by
  have := value_any c hc w
  rwa [show valI c = (val c : Int) from if_neg (by omega)] at this
theorem value_no (c : Nat) (hc : c < 256) (hv : val c = 64) (w : World) : Calls Try.prog 30 #[.int .u8 c] w fun e w' => e = .returned (.int .i64 (-1)) ∧ w' = w := by
  have := value_any c hc w
  rwa [show valI c = -1 from if_pos hv] at this

theorem blkR {w : World} {b : Nat} {x y z : Value} {t : TypeId} (h : w.heap[b]? = some (.cells #[x, y, z] t (0, 0))) :
    (w.cell? ⟨b, 0, none⟩ = some x ∧ w.frozen? ⟨b, 0, none⟩ = false) ∧ (w.cell? ⟨b, 1, none⟩ = some y ∧ w.frozen? ⟨b, 1, none⟩ = false) ∧ (w.cell? ⟨b, 2, none⟩ = some z ∧ w.frozen? ⟨b, 2, none⟩ = false) := blk3 h
/-- The document's decoder in state s lies at block a; o: the block of what waits. -/
def RD (w : World) (a : Nat) (s : St) (o : Option Nat) : Prop :=
  ∃ v, w.heap[a]? = some (.cells #[v, .bool s.last, .bool s.bad] 30 (0, 0)) ∧ Own .u8 5 w v (ints s.wait) ∧ v.ownBlock = o ∧ o ≠ some a ∧ Fit s
theorem RD.kept {w w' : World} {a : Nat} {s : St} {o : Option Nat} {S : Nat → Prop} (h : RD w a s o) (hk : Kept S w w') (hq : ¬ S a) (ho : ∀ b, o = some b → ¬ S b) : RD w' a s o := by
  obtain ⟨v, h1, h2, h3, h4, h5⟩ := h
  exact ⟨v, hk.blk h1 hq, h2.kept hk (fun b hb => ho b (by rw [← h3, hb])), h3, h4, h5⟩
theorem RD.up {w w' : World} {a : Nat} {s : St} {o : Option Nat} (h : RD w a s o) (hk : Kept (fun _ => False) w w') : RD w' a s o := h.kept hk id (fun _ _ => id)
theorem RD.lt {w : World} {a : Nat} {s : St} {o : Option Nat} (h : RD w a s o) : a < w.heap.size ∧ ∀ b, o = some b → b < w.heap.size := by
  obtain ⟨v, h1, h2, h3, h4, h5⟩ := h
  exact ⟨lt_of_blk h1, fun b hb => h2.lt b (by rw [h3, hb])⟩
theorem sgn_le (w : List Nat) : (sgn w).length ≤ w.length := by
  unfold sgn
  exact (List.takeWhile_prefix _).length_le
theorem sgn_go {w : List Nat} {k c : Nat} (hk : k ≤ (sgn w).length) (hc : w[k]? = some c) : (c ≠ 61 ∧ k + 1 ≤ (sgn w).length) ∨ (c = 61 ∧ k = (sgn w).length) := by
  induction w generalizing k with
  | nil => cases hc
  | cons a w ih =>
    by_cases ha : a = 61
    · subst ha
      rw [sgn_fill] at hk ⊢
      have : k = 0 := by simpa using hk
      subst this
      simp at hc
      exact .inr ⟨hc.symm, rfl⟩
    · rw [sgn_cons ha] at hk ⊢
      cases k with
      | zero =>
        simp at hc
        subst hc
        exact .inl ⟨ha, by simp⟩
      | succ k =>
        simp at hc hk ⊢
        exact ih hk hc
theorem fit_len {s : St} (h : Fit s) : s.wait.length ≤ 3 := by
  rcases h with e | ⟨x, e, -⟩ | ⟨x, y, e, -⟩ | ⟨x, y, z, e, -⟩ | ⟨x, y, e, -⟩ <;> rw [e] <;> simp
set_option maxRecDepth 100000 in
set_option maxHeartbeats 4000000 in
theorem signs_raw (a : Nat) (sa : Option Addr) (n cap : Nat) (wt : List Nat) (y z : Value) (w : World) (hb : w.heap[a]? = some (.cells #[.slice sa n cap, y, z] 30 (0, 0))) (hs : SlAt .u8 w sa n (ints wt)) (hl : n ≤ 4) :
    Calls Try.prog 23 #[.pointer (some ⟨a, 0, none⟩)] w fun e w' => e = .returned (.int .i64 ((sgn wt).length : Nat)) ∧ w' = w := by
  have hn : wt.length = n := by rw [← hs.1, ints_length]
  obtain ⟨⟨c0, -⟩, -, -⟩ := blk3 hb
  obtain ⟨m, hm⟩ : ∃ m, (sgn wt).length = m := ⟨_, rfl⟩
  have hmn : m ≤ n := by rw [← hm, ← hn]; exact sgn_le wt
  rw [hm]
  have HS := Lib.hid hs
  have HN := Lib.hid hn
  have HM := Lib.hid hm
  clear hb hs hn hm
  go_enter Try.func23, Try.ntmps23
  go_wp2
  go_loopg [3] n (fun gg kv wr => ∃ k : Nat, n ≤ gg + k ∧ k ≤ m ∧ kv = .int .i64 (k : Int) ∧ wr = w)
  case atStart => exact ⟨0, by omega, by omega, rfl, rfl⟩
  case round =>
    obtain ⟨k, hgg, hkm, rfl, rfl⟩ := hrel
    by_cases hk : k < n
    · have gkk : decide (k < n) = true := decide_eq_true hk
      obtain ⟨b, off, rfl, hc⟩ := HS.out.2.resolve_left (by omega)
      have hck := hc k hk
      obtain ⟨c, hcc⟩ : ∃ c, wt[k]? = some c := ⟨_, List.getElem?_eq_getElem (by rw [HN.out]; exact hk)⟩
      have hcv : (ints wt).getD k 0 = (c : Int) := by simp [ints, hcc]
      rw [hcv] at hck
      have lk : (k : Int) < (n : Int) := by omega
      have w1 : IntKind.i64.wrap ((k : Int) + 1) = (k : Int) + 1 := IntWalk.i64_in _ (by omega)
      have hgo := sgn_go (by rw [HM.out]; exact hkm) hcc
      rw [HM.out] at hgo
      clear hc hcv hcc
      rcases hgo with ⟨h1, h2⟩ | ⟨h1, h2⟩
      · have q : ((c : Int) != 61) = true := by simp; omega
        clear h1
        go_wp2
        go_roundg (gk - 1)
        case rel => exact ⟨k + 1, by omega, h2, by simp, rfl⟩
        case measure => omega
      · subst h1 h2
        go_wp2
        exact bodyPost_ret (v := .int .i64 k) (by simp [results, Try.results23, go_sem]) rfl ⟨rfl, rfl⟩
    · obtain rfl : k = n := by omega
      obtain rfl : k = m := by omega
      have gkk : decide (k < k) = false := decide_eq_false (by omega)
      clear hkm hk hmn
      go_wp2
      exact bodyPost_ret (v := .int .i64 k) (by simp [results, Try.results23, go_sem]) rfl ⟨rfl, rfl⟩
end Go.Proofs.Ytgmbjebighhgkaa
